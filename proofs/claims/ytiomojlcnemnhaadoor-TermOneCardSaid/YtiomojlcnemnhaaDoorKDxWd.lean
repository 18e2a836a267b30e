/- Contracts, on: an atom's blanks as variables of their own (mute). -/
import Derived.Test.YtiomojlcnemnhaaDoorKDxWc
import Derived.Test.YtiomojlcnemnhaaDoorKDxW2
import Derived.Test.YtiomojlcnemnhaaDoorKPedQ
namespace Go.Proofs.YtiomojlcnemnhaaDoor
open Go.Fx Go.RowKit Go.Ped
variable {G : World → Prop}

theorem tmV_len (l : List Tm) : (tmVars l).length ≤ l.length := by
  have h2 := varsOn_length (l.map Tm.v) []
  simp only [List.length_nil, List.length_map, Nat.zero_add] at h2
  exact h2
theorem nm_snoc (c : UInt8) (k : Nat) : nm c k ++ [95] = nm c (k + 1) := by
  simp [nm, List.replicate_succ']

theorem m53 (p px py : Name) (ts xs ys : List Tm) (sp sx sy : Sp) (c : UInt8) (ht : ts.length ≤ 1048576) (hx : xs.length ≤ 1048576) (hy : ys.length ≤ 1048576) :
    Meets Tryd.prog G 53 [.agg [cS (bs p), .sl (ts.map Tm.row) sp], .agg [cS (bs px), .sl (xs.map Tm.row) sx], .agg [cS (bs py), .sl (ys.map Tm.row) sy], .one (cS (bs [c]))] (.x (.agg [cS (bs p), .sl ((muteL (tmVars xs ++ tmVars ys) c 0 ts).map Tm.row) []])) := by
  have f1 := m47 (G := G) px xs sx hx
  have f2 := m47 (G := G) py ys sy hy
  have l1 : (tmVars xs).length ≤ 1048576 := Nat.le_trans (tmV_len xs) hx
  have l2 : (tmVars ys).length ≤ 1048576 := Nat.le_trans (tmV_len ys) hy
  have g1 := fun s => m30 (G := G) s (tmVars xs) [] (by unfold maxLen; omega)
  have g2 := fun s => m30 (G := G) s (tmVars ys) [] (by unfold maxLen; omega)
  have hV0 : (tmVars xs ++ tmVars ys).length ≤ 2097152 := by rw [List.length_append]; omega
  have hmem : ∀ s, s ∈ tmVars xs ++ tmVars ys ↔ s ∈ tmVars xs ∨ s ∈ tmVars ys := fun s => List.mem_append
  generalize tmVars xs ++ tmVars ys = V at *
  refine meets Tryd.func53 ie53 ig53 (Nat.le_of_ble_eq_true rfl) ?_
  generalize hF : (muteL V c 0 ts).map Tm.row = F
  simp [ic53, ir53]
  refine w_loopA [.o 300 9 1 41 4] [12, 51] [4, 5, 6, 8, 9, 10, 11] (by simp [ownKey])
    (fun a : Nat × List (List C) × Nat => st [(4, .k true (.x (.one (.ref 4 0 0)))), (5, .k true (.x (.one (.ref 5 0 0)))), (6, .k true (.x (.one (.ref 6 0 0)))), (8, .k true (.x (.one (.ref 8 0 0)))), (9, .k true (.x (.one (.ref 9 0 0)))), (10, tS (nm c a.2.2)), (11, tI .i64 a.1)] [(9, ⟨24, 2, [[.c (cS (bs p)), .own 300 a.2.1]], none⟩), (8, ⟨24, 2, [[.c (cS (bs [])), .nil]], none⟩), (6, ⟨24, 2, [[.c (cS (bs py)), .c (.sl (ys.map Tm.row) sy)]], none⟩), (5, ⟨24, 2, [[.c (cS (bs px)), .c (.sl (xs.map Tm.row) sx)]], none⟩), (4, ⟨24, 2, [[.c (cS (bs p)), .c (.sl (ts.map Tm.row) sp)]], none⟩)] [(300, ⟨41, 4, a.2.1.length⟩)] F0) (fun a => ts.length - a.1)
    (fun a => a.1 ≤ ts.length ∧ a.2.1 = (muteL V c 0 (ts.take a.1)).map Tm.row ∧ a.2.2 = muteK V c 0 (ts.take a.1)) (0, [], 0) (by simp [nm]; try rfl) (by simp [muteL, muteK]) ?_
  rintro ⟨i, E, k⟩ K hK ⟨hi, hE, hk⟩
  simp only at hi hE hk
  have hEl : E.length = i := by rw [hE]; simp [muteL_len]; omega
  obtain hlt | hge := Nat.lt_or_ge i ts.length
  · have hr : ts[i].row = [cS (bs ts[i].v), cI .i8 ts[i].x.k, cI .i64 ts[i].x.n, cS (bs ts[i].x.s)] := rfl
    have hsn := muteL_snoc V c (ts.take i) 0 ts[i]
    rw [← List.take_succ_eq_append_getElem hlt, ← hk] at hsn
    have hkb := (muteK_le V c (ts.take i) 0).1
    have hkv := shortV_le V (muteK V c 0 (ts.take i))
    rw [← hk] at hkb hkv
    have hkt : (ts.take i).length = i := by simp; omega
    by_cases h0 : ts[i].v = [95]
    · rw [if_pos (show ts[i].v = us from h0), if_pos (show ts[i].v = us from h0)] at hsn
      obtain ⟨j1, j2, j3⟩ := jOf_spec V c (k + 1)
      have j4 := jOf_short V c k
      have j5 := shortV_le V (jOf V c (k + 1))
      generalize jOf V c (k + 1) = J at *
      have hJ : J ≤ 4194304 := by omega
      simp [ic53l1, hlt, hr, h0]
      refine ⟨by rw [nm_len]; omega, ?_⟩
      refine w_loopA [] [] [4, 5, 6, 8, 9, 10, 11, 12] (by simp [ownKey])
        (fun j : Nat => st [(4, .k true (.x (.one (.ref 4 0 0)))), (5, .k true (.x (.one (.ref 5 0 0)))), (6, .k true (.x (.one (.ref 6 0 0)))), (8, .k true (.x (.one (.ref 8 0 0)))), (9, .k true (.x (.one (.ref 9 0 0)))), (10, tS (nm c j)), (11, tI .i64 i), (12, .k true (.x (.one (.ref 12 0 0))))] [(12, ⟨41, 4, [ts[i].row.map A.c], none⟩), (9, ⟨24, 2, [[.c (cS (bs p)), .own 300 E]], none⟩), (8, ⟨24, 2, [[.c (cS (bs [])), .nil]], none⟩), (6, ⟨24, 2, [[.c (cS (bs py)), .c (.sl (ys.map Tm.row) sy)]], none⟩), (5, ⟨24, 2, [[.c (cS (bs px)), .c (.sl (xs.map Tm.row) sx)]], none⟩), (4, ⟨24, 2, [[.c (cS (bs p)), .c (.sl (ts.map Tm.row) sp)]], none⟩)] [(300, ⟨41, 4, E.length⟩)] F0) (fun j => J - j)
        (fun j => j ≤ J ∧ ∀ k, j ≤ k → k < J → nm c k ∈ V) (k + 1) (by simp [nm_snoc, hr, h0]; try rfl) ⟨j1, j3⟩ ?_
      rintro j K2 hK2 ⟨hj, hV⟩
      simp [ic53l0]
      refine call_of f1 ?_
      simp
      refine call_of (g1 (nm c j)) ?_
      by_cases e1 : nm c j ∈ tmVars xs
      · have hlt : j < J := by
          rcases Nat.lt_or_ge j J with h | h
          · exact h
          · have : j = J := by omega
            subst this
            exact absurd ((hmem _).2 (.inl e1)) j2
        simp [e1]
        refine call_no (.x (.one (.sl [] []))) ?_
        simp
        refine call_no (.x (.one (cB true))) ?_
        simp
        refine ⟨by rw [nm_len]; omega, ?_⟩
        exact hK2 (j + 1) _ (by simp [nm_snoc, hr]) ⟨by omega, fun k h1 h2 => hV k (by omega) h2⟩ (by omega)
      · simp [e1]
        refine call_of f2 ?_
        simp
        refine call_of (g2 (nm c j)) ?_
        by_cases e2 : nm c j ∈ tmVars ys
        · have hlt : j < J := by
            rcases Nat.lt_or_ge j J with h | h
            · exact h
            · have : j = J := by omega
              subst this
              exact absurd ((hmem _).2 (.inr e2)) j2
          simp [e2]
          refine ⟨by rw [nm_len]; omega, ?_⟩
          exact hK2 (j + 1) _ (by simp [nm_snoc, hr]) ⟨by omega, fun k h1 h2 => hV k (by omega) h2⟩ (by omega)
        · have hjJ : j = J := by
            rcases Nat.lt_or_ge j J with h | h
            · have := (hmem _).1 (hV j (Nat.le_refl j) h)
              rcases this with h | h
              · exact absurd h e1
              · exact absurd h e2
            · omega
          subst hjJ
          simp [e2]
          refine call_of (m87 (nm c j)) ?_
          simp
          refine ⟨by rw [hEl]; unfold maxLen; omega, by rw [hEl]; unfold maxBytes; omega, ?_⟩
          simp (disch := omega) only [wrap64]
          exact hK (i + 1, E ++ [[cS (bs (nm c j)), cI .i8 0, cI .i64 0, cS (bs [])]], j) _ (by simp; try rfl) ⟨by simp only; omega, by simp only [hsn.1, List.map_append, ← hE]; rfl, hsn.2.symm⟩ (by simp only; omega)
    · rw [if_neg (show ¬ ts[i].v = us from h0), if_neg (show ¬ ts[i].v = us from h0)] at hsn
      simp [ic53l1, hlt, hr, h0]
      refine ⟨by rw [hEl]; unfold maxLen; omega, by rw [hEl]; unfold maxBytes; omega, ?_⟩
      simp (disch := omega) only [wrap64]
      exact hK (i + 1, E ++ [[cS (bs ts[i].v), cI .i8 ts[i].x.k, cI .i64 ts[i].x.n, cS (bs ts[i].x.s)]], k) _ (by simp; try rfl) ⟨by simp only; omega, by simp only [hsn.1, List.map_append, ← hE]; rfl, hsn.2.symm⟩ (by simp only; omega)
  · have he : i = ts.length := by omega
    subst he
    rw [List.take_length, hF] at hE
    subst hE
    simp [ic53l1]
end Go.Proofs.YtiomojlcnemnhaaDoor

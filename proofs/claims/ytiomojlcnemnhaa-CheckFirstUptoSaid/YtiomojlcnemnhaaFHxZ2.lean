/- Contracts, on: rounds over what waits. -/
import Derived.Test.YtiomojlcnemnhaaFHxZ1
namespace Go.Proofs.Ytiomojlcnemnhaa
open Go.Fx Go.RowKit Go.Ped
variable {G : World → Prop}

theorem hp_ofA {O O' : List (Nat × Box)} {U U' : List (Nat × Tok)} {hO : ∀ p ∈ O', farKey p.1 ∧ ∀ r ∈ p.2.rows, onlyL farKey (fun k => lookT U' k ≠ none) r} {hU : ∀ p ∈ U', farKey p.1} : hp O U (FHp.of O' U' hO hU) = hp (O ++ O') (U ++ U') F0 := by
  have e1 : ∀ (A : List (Nat × Box)) (k : Nat), lookO (A ++ O') k = (lookO A k).or (lookO O' k) := by
    intro A k
    induction A with
    | nil => rfl
    | cons p A ih => obtain ⟨d, b⟩ := p; simp only [List.cons_append, lookO_cons, ih]; split <;> simp
  have e2 : ∀ (A : List (Nat × Tok)) (k : Nat), lookT (A ++ U') k = (lookT A k).or (lookT U' k) := by
    intro A k
    induction A with
    | nil => rfl
    | cons p A ih => obtain ⟨d, b⟩ := p; simp only [List.cons_append, lookT_cons, ih]; split <;> simp
  unfold hp FHp.of
  simp only [Hp.mk.injEq]
  refine ⟨funext fun k => ?_, funext fun k => ?_, rfl⟩
  · rw [e1]; show _ = Option.or _ none; simp
  · rw [e2]; show _ = Option.or _ none; simp

def Eqn.row (q : Eqn) : List C := [cS (bs q.left), cS (bs q.right), .sl (q.lefts.map nmRow) [], .sl (q.rights.map nmRow) []]
@[simp] theorem eqn_len (q : Eqn) : (Eqn.row q).length = 4 := rfl
def foundBy (acc : List Name) (q : Eqn) : List Name := match take acc q with | some v => acc ++ [v] | none => acc
theorem addAll_one (acc : List Name) (v : Name) (h : v ∉ acc) : addAll acc [v] = acc ++ [v] := by simp [addAll, h]

theorem m177 (acc : List Name) (q : Eqn) (h1 : q.lefts.length ≤ 1048576) (h2 : q.rights.length ≤ 1048576) (hl : acc.length ≤ 50000000) :
    MeetsH Try.prog G 116 [.one (.ref 10009 0 0), .agg ((Eqn.row q).map A.c)] (hp (OF 10009 10007 10022 acc) (UF 10022 acc) F0) (rB (take acc q).isSome) (hp (OF 10009 10007 10022 (foundBy acc q)) (UF 10022 (foundBy acc q)) F0) := by
  refine meetsH [] Try.func116 ie177 ig177 (Nat.le_of_ble_eq_true rfl) (midF acc (by simp)) (by simp [midKey]) (by simp [ownKey, Eqn.row]) (by simp) (by simp) (sameKeys_refl F0) (midF2 _ (by simp)) (by simp) ?_
  have has := fun v => m200 (G := G) acc v
  have all1 := m155 (G := G) acc q.lefts [] (by unfold maxLen; omega)
  have all2 := m155 (G := G) acc q.rights [] (by unfold maxLen; omega)
  have add1 := fun v => m173 (G := G) acc [v] [] (by simp; omega)
  obtain ⟨l, r, ls, rs⟩ := q
  simp only [Eqn.row] at *
  simp [ic177, ir177]
  refine r_callQ (gd1 true (!List.isEmpty l)) _ _ (OF 10009 10007 10022 acc) (UF 10022 acc) _ (fun _ => MeetsV.of_fun (has l)) rfl rfl (by simp) (by simp) (by simp) (by simp) (by simp) (by simp) ?_
  simp
  refine r_callQ (gd1 true (!List.isEmpty l && !decide (l ∈ acc))) _ _ (OF 10009 10007 10022 acc) (UF 10022 acc) _ (fun _ => MeetsV.of_fun all2) rfl rfl (by simp) (by simp) (by simp) (by simp) (by simp) (by simp) ?_
  simp
  refine condI_of (fun h => ?_) (fun h => ?_)
  · simp at h
    obtain ⟨⟨g1, g2⟩, g3⟩ := h
    have e : take acc ⟨l, r, ls, rs⟩ = some l := by simp [take, g1, g2, g3]
    have e2 := addAll_one acc l g2
    simp
    refine r_callW _ _ (OF 10009 10007 10022 acc) (UF 10022 acc) _ (OF 10009 10007 10022 (addAll acc [l])) (UF 10022 (addAll acc [l])) (MeetsV.of_fun (add1 l)) rfl rfl rfl (by simp [X.fits, A.fits]) (by simp) ?_
    simp [foundBy, e, e2]
    exact ret_st (by simp) (by simp) (by simp) (by simp) (by simp) (by simp)
  · simp
    refine r_callQ (gd1 true (!List.isEmpty r)) _ _ (OF 10009 10007 10022 acc) (UF 10022 acc) _ (fun _ => MeetsV.of_fun (has r)) rfl rfl (by simp) (by simp) (by simp) (by simp) (by simp) (by simp) ?_
    simp
    refine r_callQ (gd1 true (!List.isEmpty r && !decide (r ∈ acc))) _ _ (OF 10009 10007 10022 acc) (UF 10022 acc) _ (fun _ => MeetsV.of_fun all1) rfl rfl (by simp) (by simp) (by simp) (by simp) (by simp) (by simp) ?_
    simp
    have hn : (l != [] && !acc.contains l && allIn rs acc) = false := by
      simpa using h
    refine condI_of (fun h2 => ?_) (fun h2 => ?_)
    · simp at h2
      obtain ⟨⟨g1, g2⟩, g3⟩ := h2
      have e : take acc ⟨l, r, ls, rs⟩ = some r := by
        unfold take
        rw [if_neg (by rw [hn]; simp)]
        simp [g1, g2, g3]
      have e2 := addAll_one acc r g2
      simp
      refine r_callW _ _ (OF 10009 10007 10022 acc) (UF 10022 acc) _ (OF 10009 10007 10022 (addAll acc [r])) (UF 10022 (addAll acc [r])) (MeetsV.of_fun (add1 r)) rfl rfl rfl (by simp [X.fits, A.fits]) (by simp) ?_
      simp [foundBy, e, e2]
      exact ret_st (by simp) (by simp) (by simp) (by simp) (by simp) (by simp)
    · have hn2 : (r != [] && !acc.contains r && allIn ls acc) = false := by simpa using h2
      have e : take acc ⟨l, r, ls, rs⟩ = none := by
        unfold take
        rw [if_neg (by rw [hn]; simp), if_neg (by rw [hn2]; simp)]
      simp [foundBy, e]
      exact ret_st (by simp) (by simp) (by simp) (by simp) (by simp) (by simp)

theorem hOF (acc : List Name) : ∀ p ∈ OF 15009 15007 15022 acc, farKey p.1 ∧ ∀ r ∈ p.2.rows, onlyL farKey (fun k => lookT (UF 15022 acc) k ≠ none) r := by
  intro p hp
  simp only [List.mem_cons, List.not_mem_nil, or_false] at hp
  rcases hp with rfl | rfl
  · exact ⟨by unfold farKey; omega, by simp [farKey]⟩
  · exact ⟨by unfold farKey; omega, fun r hr => thr_only _ _ r hr⟩
theorem hUF (acc : List Name) : ∀ p ∈ UF 15022 acc, farKey p.1 := by
  intro p hp
  simp only [List.mem_cons, List.not_mem_nil, or_false] at hp
  subst hp; unfold farKey; omega
/-- What is found, far. -/
def Hf (acc : List Name) : FHp := FHp.of (OF 15009 15007 15022 acc) (UF 15022 acc) (hOF acc) (hUF acc)
abbrev fv177 : A := .clo 116 [.ref 15009 0 0] []
theorem Hf_same (a b : List Name) : sameKeys (Hf a) (Hf b) := by
  refine ⟨fun k => ⟨?_, ?_⟩, rfl⟩
  · show lookO (OF 15009 15007 15022 a) k = none ↔ lookO (OF 15009 15007 15022 b) k = none
    simp only [lookO_cons]
    split <;> (try split) <;> simp
  · show lookT (UF 15022 a) k = none ↔ lookT (UF 15022 b) k = none
    simp only [lookT_cons]
    split <;> simp
theorem c177 (acc : List Name) (q : Eqn) (h1 : q.lefts.length ≤ 1048576) (h2 : q.rights.length ≤ 1048576) (hl : acc.length ≤ 50000000) :
    MeetsV Try.prog G fv177 [.agg ((Eqn.row q).map A.c)] (hp [] [] (Hf acc)) (rB (take acc q).isSome) (hp [] [] (Hf (foundBy acc q))) := by
  have h := (clo_of (f := 116) (fs := [.ref 10009 0 0]) (args := [.agg ((Eqn.row q).map A.c)]) (cs := []) rfl (m177 (G := G) acc q h1 h2 hl)).ren (π := midFar)
  simp [mfF, thr_ren] at h
  unfold Hf
  rw [hp_of, hp_of]
  simpa using h

theorem goRound_cons (f : List Name) (q : Eqn) (l : List Eqn) : goRound f (q :: l) = ((goRound (foundBy f q) l).1, if (take f q).isSome then (goRound (foundBy f q) l).2 else q :: (goRound (foundBy f q) l).2) := by
  simp only [goRound, foundBy]
  cases take f q <;> rfl
theorem foundBy_len (f : List Name) (q : Eqn) : (foundBy f q).length ≤ f.length + 1 := by
  unfold foundBy; split <;> simp

abbrev Oring (a : A) : List (Nat × Box) := [(10004, ⟨242, 1, [[a]], none⟩)]
theorem m176 (acc : List Name) (wait : List Eqn) (hw : ∀ q ∈ wait, q.lefts.length ≤ 1048576 ∧ q.rights.length ≤ 1048576) (hl : acc.length + wait.length ≤ 50000000) :
    MeetsH Try.prog G 115 [.one (.ref 10004 0 0), .one fv177] (hp (Oring (.c (.sl (wait.map Eqn.row) []))) [] (Hf acc)) (rB (decide ((goRound acc wait).2.length < wait.length)))
      (hp (Oring (.own 30 ((goRound acc wait).2.map Eqn.row))) [(30, ⟨247, 4, (goRound acc wait).2.length⟩)] (Hf (goRound acc wait).1)) := by
  refine meetsH [] Try.func115 ie176 ig176 (Nat.le_of_ble_eq_true rfl) (by simp [midKey]) (by simp) (by simp [ownKey]) (by simp) (by simp) (Hf_same _ _) (by simp) (by simp) ?_
  simp [ic176, ir176]
  generalize hN : wait.length = N
  refine w_loopA [.t 30 6 247 4] [8, 29] [0, 1, 5, 6, 17, 18, 19] (by simp [ownKey])
    (fun a : Nat × List Eqn × List Name => st [(0, .k true (.x (.one (.ref 10004 0 0)))), (1, .k true (.x (.one fv177))), (5, tI .i64 N), (6, .k true (.x (.one (.own 30 (a.2.1.map Eqn.row))))), (17, .k true (.x (.one (.c (.sl (wait.map Eqn.row) []))))), (18, tI .i64 N), (19, tI .i64 a.1)]
      (Oring (.c (.sl (wait.map Eqn.row) []))) [(30, ⟨247, 4, a.2.1.length⟩)] (Hf a.2.2)) (fun a => N - a.1)
    (fun a => a.1 ≤ N ∧ a.2.2.length ≤ acc.length + a.1 ∧ a.2.1.length ≤ a.1 ∧ goRound acc wait = ((goRound a.2.2 (wait.drop a.1)).1, a.2.1 ++ (goRound a.2.2 (wait.drop a.1)).2)) (0, [], acc) (by simp) (by simp) ?_
  rintro ⟨i, w, f⟩ K hK ⟨hi, hf, hwl, hd⟩
  simp only at hi hf hwl hd
  obtain hlt | hge := Nat.lt_or_ge i wait.length
  · rw [List.drop_eq_getElem_cons hlt, goRound_cons] at hd
    have hq := hw wait[i] (List.getElem_mem hlt)
    have hlt' : i < N := by omega
    simp [ic176l0, hlt, hlt']
    refine r_callC (c177 (G := G) f wait[i] hq.1 hq.2 (by omega)) (Hf_same _ _) rfl rfl rfl (by simp [take_all]) (by simp) (by simp) ?_
    simp
    refine condI_of (fun h => ?_) (fun h => ?_)
    · simp at h
      simp [take_all]
      refine ⟨by unfold maxLen; omega, by unfold maxBytes; omega, ?_⟩
      simp (disch := omega) only [wrap64]
      exact hK (i + 1, w ++ [wait[i]], foundBy f wait[i]) _ (by simp) ⟨by simp; omega, by have := foundBy_len f wait[i]; simp; omega, by simp; omega, by simpa [h] using hd⟩ (by simp; omega)
    · simp at h
      simp
      simp (disch := omega) only [wrap64]
      exact hK (i + 1, w, foundBy f wait[i]) _ (by simp) ⟨by simp; omega, by have := foundBy_len f wait[i]; simp; omega, by simp; omega, by simpa [h] using hd⟩ (by simp; omega)
  · rw [List.drop_eq_nil_of_le hge, goRound] at hd
    simp at hd
    rw [hd]
    have hge' : ¬ i < N := by omega
    simp [ic176l0, hge']
    refine ret_st (by simp) ?_ (by simp) (by simp) (by simp) (by simp)
    simp
end Go.Proofs.Ytiomojlcnemnhaa

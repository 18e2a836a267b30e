/- Contracts, on: the program's unification. -/
import Derived.Test.YtiomojlcnemnhaaDoorKDxU3
namespace Go.Proofs.YtiomojlcnemnhaaDoor
open Go.Fx Go.RowKit Go.Ped
variable {G : World → Prop}

theorem ok_bare {p : Name} {ts : List Tm} (h : atomOk p ts = true) : ∀ t ∈ ts, t.bare := by
  intro t ht hv
  simp only [atomOk, Bool.and_eq_true] at h
  have hk := List.all_eq_true.1 h.2 t ht
  obtain ⟨v, k, n, s⟩ := t
  simp only [Tm.ok, termOk, if_neg hv, Bool.and_eq_true, decide_eq_true_eq] at hk
  obtain ⟨⟨⟨_, h1⟩, h2⟩, h3⟩ := hk
  simp only [zeroV, h1, h2, h3]

theorem nx_put (v : Name) (y : Tm) (c : List Pr) (h : v ∉ keys c) : mapPut (c.map nxRow) (.string (bs v)) (y.row.map A.c) = (c ++ [(⟨v, y⟩ : Pr)]).map nxRow := by
  unfold mapPut
  rw [nx_any, next_out h]
  simp [nxRow]

abbrev fv6 : A := .clo 106 [] [.ref 6 0 0]
abbrev O6 (c : List Pr) : List (Nat × Box) := [(6, ⟨155, 1, [[.mapr 39]], none⟩), (39, ⟨0, 5, c.map nxRow, some (.string, false)⟩)]
theorem nx_ren (f : Nat → Nat) : renL f ∘ nxRow = nxRow := funext fun p => by simp [nxRow]
set_option maxRecDepth 20000 in
theorem c106 (c : List Pr) (hg : Ped.Good c) (t : Tm) : MeetsV Tryd.prog G fv6 [.agg (t.row.map A.c)] (hp (O6 c) [] F0) (.x (.agg ((endOf c t).row.map A.c))) (hp (O6 c) [] F0) := by
  have h1 := (clo_of (f := 106) (fs := []) (args := [.agg (t.row.map A.c)]) (cs := [.ref 10006 0 0]) rfl (m106 (G := G) c hg t)).ren (π := nearMid)
  simp [nmF, nx_ren] at h1
  exact h1

/-- What the program makes of two atoms. -/
def unifyGo (p : Name) (ts : List Tm) (q : Name) (ws : List Tm) : Option (List Pr) := if atomOk p ts && atomOk q ws && p == q && ts.length == ws.length then (goUnify [] ts ws).map solve else none
theorem unifyGo_eq (p : Name) (ts : List Tm) (q : Name) (ws : List Tm) : unifyGo p ts q ws = unifyOf p ts q ws := by
  unfold unifyGo unifyOf
  split
  · rename_i h
    simp only [Bool.and_eq_true] at h
    exact (unify_same ts ws [] .nil (ok_bare h.1.1.1) (ok_bare h.1.1.2)).1.symm
  · rfl

abbrev k34 (p : Name) (ts ws : List Tm) (sp sq : List (List C)) (c : List Pr) (t38 t44 t45 t9 t10 t11 t73 t76 t81 t8 t94 t93 t95 t92 t12 t14 : T) (U : List (Nat × Tok)) : S :=
  ks34 (.k true (.x (.agg [.c (cS (bs p)), .c (.sl (ts.map Tm.row) sp)]))) (.k true (.x (.agg [.c (cS (bs p)), .c (.sl (ws.map Tm.row) sq)]))) (.k true (.x (.one (.ref 2 0 0)))) (.k true (.x (.one (.ref 3 0 0))))
    t38 (.k true (.x (.one (.ref 6 0 0)))) t44 (tI .i64 ts.length) t45 (.k true (.x (.one fv6))) t9 t10 t11 t73 t76 t81 t8 t94 t93 t95 t92 t12 t14 (.k true (.x (.one .nil))) (tB false)
    ((6, ⟨155, 1, [[.mapr 39]], none⟩) :: (39, ⟨0, 5, c.map nxRow, some (.string, false)⟩) :: O42 p p ts ws sp sq) U F0

set_option maxHeartbeats 4000000 in
theorem m34_l1 (p : Name) (ts ws : List Tm) (sp sq : List (List C)) (c : List Pr) (hg : Ped.Good c) (hl : c.length ≤ 24) (t38 t44 t45 t9 t10 t11 t73 t76 t81 t95 t14 : T) (Q : Exit → S → Prop)
    (hQ : ∀ (t38 t44 t45 t9 t10 t11 t73 t76 t81 t8 t94 t93 t95 t92 t14 : T) (b : A) (U U2 : List (Nat × Tok)), AccN 106 65 5 ((solve c).map Pr.row) b U2 → Q (.exit 2) (k34 p ts ws sp sq c t38 t44 t45 t9 t10 t11 t73 t76 t81 t8 t94 t93 t95 t92 (.k true (.x (.one b))) t14 U)) :
    wpI Tryd.prog G (.loop ic34l1) Q (k34 p ts ws sp sq c t38 t44 t45 t9 t10 t11 t73 t76 t81 (.k true (.x (.one (.own 90 (c.map fun p => nmRow p.v))))) (tI .i64 0) (tI .i64 c.length) t95 (.k true (.x (.one (.own 90 (c.map fun p => nmRow p.v))))) (.k true (.x (.one .nil))) t14 [(90, ⟨9, 1, c.length⟩)]) := by
  have hsl : (solve c).length = c.length := by simp [solve]
  refine w_loopS [105] (by simp [ownKey]) (fun n σ => ∃ (j : Nat) (t38 t44 t45 t9 t10 t11 t73 t76 t81 t95 t14 : T) (b : A) (U : List (Nat × Tok)), j + n = c.length ∧ ((((solve c).take j).map Pr.row = [] ∧ b = .nil ∧ U = [(90, ⟨9, 1, c.length⟩)]) ∨ (b = .own 106 (((solve c).take j).map Pr.row) ∧ U = [(106, ⟨65, 5, j⟩), (90, ⟨9, 1, c.length⟩)]) ∨ (b = .own 106 (((solve c).take j).map Pr.row) ∧ U = [(90, ⟨9, 1, c.length⟩), (106, ⟨65, 5, j⟩)])) ∧
      σ = k34 p ts ws sp sq c t38 t44 t45 t9 t10 t11 t73 t76 t81 (.k true (.x (.one (.own 90 (c.map fun p => nmRow p.v))))) (tI .i64 j) (tI .i64 c.length) t95 (.k true (.x (.one (.own 90 (c.map fun p => nmRow p.v))))) (.k true (.x (.one b))) t14 U)
    c.length ⟨0, _, _, _, _, _, _, _, _, _, _, _, _, _, by simp, .inl ⟨by simp, rfl, rfl⟩, by simp [nx_strike']; rfl⟩ ?_
  rintro n σ1 K hK ⟨j, t38, t44, t45, t9, t10, t11, t73, t76, t81, t95, t14, b, U, hj, hacc, rfl⟩
  have hsA : A.strike [105] b = b := by rcases hacc with ⟨_, rfl, _⟩ | ⟨rfl, _⟩ | ⟨rfl, _⟩ <;> simp
  have hsU : strikeU [105] U = U := by rcases hacc with ⟨_, _, rfl⟩ | ⟨_, rfl⟩ | ⟨_, rfl⟩ <;> simp
  have hUl : ∀ p ∈ U, p.1 < 15000 := by rcases hacc with ⟨_, _, rfl⟩ | ⟨_, rfl⟩ | ⟨_, rfl⟩ <;> simp
  obtain hlt | hge := Nat.lt_or_ge j c.length
  · have hls : j < (solve c).length := by omega
    have hrow : ((solve c).take (j + 1)).map Pr.row = ((solve c).take j).map Pr.row ++ [Pr.row ⟨c[j].v, endOf c c[j].t⟩] := by
      rw [List.take_succ_eq_append_getElem hls, List.map_append]; simp [solve]
    have hk := hg.end_key c[j] (List.getElem_mem hlt)
    have hw := wrap_next hlt (by omega)
    have hlen : (((solve c).take j).map Pr.row).length = j := by simp; omega
    have hm := c106 (G := G) c hg ⟨c[j].v, zeroV⟩
    rw [hk] at hm
    generalize endOf c c[j].t = y at *
    generalize ((solve c).take j).map Pr.row = es at *
    simp [ic34l1, hlt, hsA, hsU, nx_strike']
    refine r_callV fv6 _ (O6 c) [] _ (O6 c) [] F0 hm rfl rfl rfl (by simp [Tm.row, zeroV]) (by simp) (by simp) (by simp) hUl (by simp) (by simp) (by simp) (by simp) (sameKeys_refl F0) rfl ?_
    simp [Tm.row]
    rcases hacc with ⟨h0, rfl, rfl⟩ | ⟨rfl, rfl⟩ | ⟨rfl, rfl⟩
    · obtain rfl : es = [] := h0
      obtain rfl : j = 0 := by simpa using hlen.symm
      refine k_row rfl rfl (by simp) (by simp) ?_
      refine k_app0 (by simp) rfl rfl (by simp) (by simp) (by simp [maxLen]) (by simp [maxBytes]) ?_
      simp
      exact hK _ (n - 1) (by omega) ⟨0 + 1, _, _, _, _, _, _, _, _, _, _, _, _, [(106, ⟨65, 5, 1⟩), (90, ⟨9, 1, c.length⟩)], by omega, by rw [hrow]; exact .inr (.inl ⟨rfl, rfl⟩), by simp [nx_strike']; rfl⟩
    · subst hlen
      refine k_row rfl rfl (by simp) (by simp) ?_
      refine k_app (k := 106) (es := es) (q := ⟨65, 5, es.length⟩) (by simp) rfl rfl (by simp) (by simp) rfl rfl rfl (by simp [maxLen]; omega) (by simp [maxBytes]; omega) trivial ?_
      simp [hw]
      exact hK _ (n - 1) (by omega) ⟨es.length + 1, _, _, _, _, _, _, _, _, _, _, _, _, [(106, ⟨65, 5, es.length + 1⟩), (90, ⟨9, 1, c.length⟩)], by omega, by rw [hrow]; exact .inr (.inl ⟨rfl, rfl⟩), by simp [nx_strike']; rfl⟩
    · subst hlen
      refine k_row rfl rfl (by simp) (by simp) ?_
      refine k_app (k := 106) (es := es) (q := ⟨65, 5, es.length⟩) (by simp) rfl rfl (by simp) (by simp) rfl rfl rfl (by simp [maxLen]; omega) (by simp [maxBytes]; omega) trivial ?_
      simp [hw]
      exact hK _ (n - 1) (by omega) ⟨es.length + 1, _, _, _, _, _, _, _, _, _, _, _, _, [(90, ⟨9, 1, c.length⟩), (106, ⟨65, 5, es.length + 1⟩)], by omega, by rw [hrow]; exact .inr (.inr ⟨rfl, rfl⟩), by simp [nx_strike']; rfl⟩
  · have htk : (solve c).take j = solve c := List.take_of_length_le (by omega)
    rw [htk] at hacc
    simp [ic34l1, Nat.not_lt.mpr hge]
    have hq : ∃ U2, AccN 106 65 5 ((solve c).map Pr.row) b U2 := by
      rcases hacc with ⟨h0, rfl, rfl⟩ | ⟨rfl, rfl⟩ | ⟨rfl, rfl⟩
      · rw [h0]; exact ⟨_, .nil⟩
      · exact ⟨_, .own rfl⟩
      · exact ⟨_, .own rfl⟩
    obtain ⟨U2, hq⟩ := hq
    exact hQ _ _ _ _ _ _ _ _ _ _ _ _ _ _ _ b U U2 hq
end Go.Proofs.YtiomojlcnemnhaaDoor

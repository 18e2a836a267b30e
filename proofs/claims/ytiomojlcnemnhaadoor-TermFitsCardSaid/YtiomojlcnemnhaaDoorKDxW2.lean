/- Contracts, on: what a variable is by a list; the fact that an atom becomes. -/
import Derived.Test.YtiomojlcnemnhaaDoorKDxW1
import Derived.Test.YtiomojlcnemnhaaDoorKDxIcL
import Derived.Test.YtiomojlcnemnhaaDoorKPedF
import Derived.Test.YtiomojlcnemnhaaDoorKDxX12
import Derived.Test.YtiomojlcnemnhaaDoorKFxWe
namespace Go.Proofs.YtiomojlcnemnhaaDoor
open Go.Fx Go.RowKit Go.Ped
variable {G : World → Prop}

theorem m89 (n : Int) : Meets Tryd.prog G 89 [.one (cI .i64 n)] (.x (.agg [cI .i8 1, cI .i64 n, cS (bs [])])) := by
  refine meets Tryd.func89 ie89 ig89 (Nat.le_of_ble_eq_true rfl) ?_
  simp [ic89, ir89]
theorem m87 (s : Name) : Meets Tryd.prog G 87 [.one (cS (bs s))] (.x (.agg [cS (bs s), cI .i8 0, cI .i64 0, cS (bs [])])) := by
  refine meets Tryd.func87 ie87 ig87 (Nat.le_of_ble_eq_true rfl) ?_
  simp [ic87, ir87]
theorem m88 (n : Int) : Meets Tryd.prog G 88 [.one (cI .i64 n)] (.x (.agg [cS (bs []), cI .i8 1, cI .i64 n, cS (bs [])])) := by
  refine meets Tryd.func88 ie88 ig88 (Nat.le_of_ble_eq_true rfl) ?_
  simp [ic88, ir88]
  refine call_of (m89 n) ?_
  simp

theorem isV_nil (v : Name) : isV Val.ok [] v = ⟨1, 0, []⟩ := rfl
theorem isV_cons (b : Tm) (l : List Tm) (v : Name) : isV Val.ok (b :: l) v = if b.v = v ∧ Val.ok b.x = true then b.x else isV Val.ok l v := by
  unfold isV
  rw [List.find?_cons]
  by_cases h : b.v = v ∧ Val.ok b.x = true
  · rw [if_pos h]; simp [h]
  · rw [if_neg h]
    have : (b.v == v && Val.ok b.x) = false := by
      cases h1 : (b.v == v && Val.ok b.x) with
      | false => rfl
      | true =>
        simp only [Bool.and_eq_true, beq_iff_eq] at h1
        exact absurd h1 h
    rw [this]
theorem isV_ok (l : List Tm) (v : Name) : Val.ok (isV Val.ok l v) = true := by
  induction l with
  | nil => rfl
  | cons b l ih =>
    rw [isV_cons]
    split
    · rename_i h; exact h.2
    · exact ih

theorem m35 (l : List Tm) (sp : Sp) (v : Name) (hl : l.length ≤ maxLen) : Meets Tryd.prog G 35 [.one (.sl (l.map Tm.row) sp), .one (cS (bs v))] (.x (.agg (isV Val.ok l v).row)) := by
  unfold maxLen at hl
  refine meets Tryd.func35 ie35 ig35 (Nat.le_of_ble_eq_true rfl) ?_
  generalize hR : isV Val.ok l v = R
  obtain ⟨rk, rn, rs⟩ := R
  simp [ic35, ir35, Val.row]
  refine w_loopA [] [] [0, 1, 4, 5] (by simp)
    (fun i : Nat => st [(0, .k true (.x (.one (.c (.sl (l.map Tm.row) sp))))), (1, .k true (.x (.one (.c (cS (bs v)))))), (4, .k true (.x (.one (.ref 4 0 0)))), (5, tI .i64 i)] [(4, ⟨39, 3, [[.c (cI .i8 0), .c (cI .i64 0), .c (cS (bs []))]], none⟩)] [] F0) (fun i => l.length - i)
    (fun i => i ≤ l.length ∧ isV Val.ok l v = isV Val.ok (l.drop i) v) 0 (by simp) (by simp) ?_
  rintro i K hK ⟨hi, hd⟩
  obtain hlt | hge := Nat.lt_or_ge i l.length
  · rw [List.drop_eq_getElem_cons hlt, isV_cons, hR] at hd
    have hr : l[i].row = [cS (bs l[i].v), cI .i8 l[i].x.k, cI .i64 l[i].x.n, cS (bs l[i].x.s)] := rfl
    have hm := m29 (G := G) l[i].x.k l[i].x.n l[i].x.s
    have hok : Val.ok l[i].x = valOk l[i].x.k l[i].x.n l[i].x.s := rfl
    generalize l[i].v = bv at *
    generalize hx : l[i].x = bx at *
    obtain ⟨bk, bn, bss⟩ := bx
    by_cases he : bv = v
    · simp [ic35l0, hlt, hr, he]
      refine call_of hm ?_
      by_cases ho : valOk bk bn bss = true
      · rw [if_pos ⟨he, by rw [hok]; exact ho⟩] at hd
        injection hd with h1 h2 h3
        subst h1 h2 h3
        simp [ho, hlt, hr]
      · rw [if_neg (fun h => ho (by rw [← hok]; exact h.2))] at hd
        simp [ho, hlt, hr]
        simp (disch := omega) only [wrap64]
        exact hK (i + 1) _ (by simp) ⟨by omega, by rw [hR]; exact hd⟩ (by omega)
    · rw [if_neg (fun h => he h.1)] at hd
      simp [ic35l0, hlt, hr, he]
      refine call_no (.x (.one (cI .i64 0))) ?_
      simp [hlt, hr]
      simp (disch := omega) only [wrap64]
      exact hK (i + 1) _ (by simp) ⟨by omega, by rw [hR]; exact hd⟩ (by omega)
  · rw [List.drop_eq_nil_of_le hge, isV_nil, hR] at hd
    injection hd with h1 h2 h3
    subst h1 h2 h3
    simp [ic35l0, Nat.not_lt.mpr hge]
    refine call_of (m89 0) ?_
    simp

/-- The fact's values. -/
abbrev grV (l : List Tm) (t : Tm) : Val := gr (isV Val.ok l) ⟨1, 9, []⟩ t
theorem m22 (p : Name) (ts : List Tm) (sp : Sp) (l : List Tm) (sq : Sp) (hl : l.length ≤ maxLen) (ht : ts.length ≤ 1048576) :
    Meets Tryd.prog G 22 [.agg [cS (bs p), .sl (ts.map Tm.row) sp], .one (.sl (l.map Tm.row) sq)] (.x (.agg [cS (bs p), .sl ((ts.map (grV l)).map Val.row) []])) := by
  refine meets Tryd.func22 ie22 ig22 (Nat.le_of_ble_eq_true rfl) ?_
  generalize hF : (ts.map (grV l)).map Val.row = F
  simp [ic22, ir22]
  refine w_loopA [.o 300 5 1 39 3] [33, 46, 54] [1, 2, 4, 5, 6] (by simp [ownKey])
    (fun a : Nat × List (List C) => st [(1, .k true (.x (.one (.c (.sl (l.map Tm.row) sq))))), (2, .k true (.x (.one (.ref 2 0 0)))), (4, .k true (.x (.one (.ref 4 0 0)))), (5, .k true (.x (.one (.ref 5 0 0)))), (6, tI .i64 a.1)] [(5, ⟨28, 2, [[.c (cS (bs p)), .own 300 a.2]], none⟩), (4, ⟨28, 2, [[.c (cS (bs [])), .nil]], none⟩), (2, ⟨24, 2, [[.c (cS (bs p)), .c (.sl (ts.map Tm.row) sp)]], none⟩)] [(300, ⟨39, 3, a.2.length⟩)] F0) (fun a => ts.length - a.1)
    (fun a => a.1 ≤ ts.length ∧ a.2 = ((ts.take a.1).map (grV l)).map Val.row) (0, []) (by simp; try rfl) (by simp) ?_
  rintro ⟨i, E⟩ K hK ⟨hi, hE⟩
  simp only at hi hE
  have hEl : E.length = i := by rw [hE]; simp; omega
  obtain hlt | hge := Nat.lt_or_ge i ts.length
  · have hr : ts[i].row = [cS (bs ts[i].v), cI .i8 ts[i].x.k, cI .i64 ts[i].x.n, cS (bs ts[i].x.s)] := rfl
    have hnext : ∀ w : Val, grV l ts[i] = w → ((ts.take (i + 1)).map (grV l)).map Val.row = E ++ [[cI .i8 w.k, cI .i64 w.n, cS (bs w.s)]] := fun w hw => by
      rw [List.take_succ_eq_append_getElem hlt, List.map_append, List.map_append, ← hE, List.map_cons, List.map_nil, hw]; rfl
    by_cases h0 : ts[i].v = []
    · have hv : grV l ts[i] = ts[i].x := by unfold grV gr; rw [if_pos h0]
      simp [ic22l0, hlt, hr, h0]
      refine ⟨by rw [hEl]; unfold maxLen; omega, by rw [hEl]; unfold maxBytes; omega, ?_⟩
      simp (disch := omega) only [wrap64]
      exact hK (i + 1, E ++ [[cI .i8 ts[i].x.k, cI .i64 ts[i].x.n, cS (bs ts[i].x.s)]]) _ (by simp; try rfl) ⟨by simp only; omega, (hnext _ hv).symm⟩ (by simp only; omega)
    · by_cases h1 : ts[i].v = [95]
      · have hv : grV l ts[i] = ⟨1, 9, []⟩ := by unfold grV gr; rw [if_neg h0, if_pos (show ts[i].v = us from h1)]
        simp [ic22l0, hlt, hr, h1]
        refine call_of (m89 9) ?_
        simp
        refine ⟨by rw [hEl]; unfold maxLen; omega, by rw [hEl]; unfold maxBytes; omega, ?_⟩
        simp (disch := omega) only [wrap64]
        exact hK (i + 1, E ++ [[cI .i8 1, cI .i64 9, cS (bs [])]]) _ (by simp; try rfl) ⟨by simp only; omega, (hnext _ hv).symm⟩ (by simp only; omega)
      · have hv : grV l ts[i] = isV Val.ok l ts[i].v := by unfold grV gr; rw [if_neg h0, if_neg (show ¬ ts[i].v = us from h1)]
        have hm := m35 (G := G) l sq ts[i].v hl
        rw [← hv] at hm
        have hne : ts[i].v.isEmpty = false := by simpa using h0
        clear hv
        generalize hw : grV l ts[i] = w at *
        obtain ⟨wk, wn, ws⟩ := w
        simp only [Val.row] at hm
        simp [ic22l0, hlt, hr, h0, h1, hne]
        refine call_of hm ?_
        simp
        refine ⟨by rw [hEl]; unfold maxLen; omega, by rw [hEl]; unfold maxBytes; omega, ?_⟩
        simp (disch := omega) only [wrap64]
        exact hK (i + 1, E ++ [[cI .i8 wk, cI .i64 wn, cS (bs ws)]]) _ (by simp; try rfl) ⟨by simp only; omega, (hnext _ rfl).symm⟩ (by simp only; omega)
  · have he : i = ts.length := by omega
    subst he
    rw [List.take_length, hF] at hE
    subst hE
    simp [ic22l0]
end Go.Proofs.YtiomojlcnemnhaaDoor

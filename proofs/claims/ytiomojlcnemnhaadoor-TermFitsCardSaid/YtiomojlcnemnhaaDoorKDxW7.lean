/- Contracts, on: what is found says what the list says; a fact that is otherwise in one column. -/
import Derived.Test.YtiomojlcnemnhaaDoorKDxW6
namespace Go.Proofs.YtiomojlcnemnhaaDoor
open Go.Fx Go.RowKit Go.Ped
variable {G : World → Prop}

theorem m23 (p : Name) (ts : List Tm) (sp : Sp) (l : List Tm) (sq : Sp) (hl : l.length ≤ maxLen) (ht : ts.length ≤ 24) :
    Meets Tryd.prog G 23 [.one (.sl ((tmVars ts).map fun v => Tm.row ⟨v, isV Val.ok l v⟩) []), .agg [cS (bs p), .sl (ts.map Tm.row) sp], .one (.sl (l.map Tm.row) sq)] (.x (.one (cB true))) := by
  have h47 := m47 (G := G) p ts sp (by omega)
  have hNl : (tmVars ts).length ≤ 24 := by have h := varsOn_length (ts.map Tm.v) []; rw [show varsOn [] (ts.map Tm.v) = tmVars ts from rfl] at h; simp at h; omega
  generalize tmVars ts = N at *
  refine meets Tryd.func23 ie23 ig23 (Nat.le_of_ble_eq_true rfl) ?_
  simp [ic23, ir23]
  refine call_of h47 ?_
  simp
  refine w_loopA [] [] [0, 2, 7, 8] (by simp)
    (fun i : Nat => st [(0, .k true (.x (.one (.c (.sl (N.map fun v => Tm.row ⟨v, isV Val.ok l v⟩) []))))), (2, .k true (.x (.one (.c (.sl (l.map Tm.row) sq))))), (7, .k true (.x (.one (.c (.sl (N.map nmRow) []))))), (8, tI .i64 i)] [(4, ⟨24, 2, [[.c (cS (bs p)), .c (.sl (ts.map Tm.row) sp)]], none⟩)] [] F0) (fun i => N.length - i)
    (fun i => i ≤ N.length) 0 (by simp) (by simp) ?_
  rintro i K hK hi
  obtain hlt | hge := Nat.lt_or_ge i N.length
  · have hm : Meets Tryd.prog G 35 [.one (.sl (l.map Tm.row) sq), .one (cS (bs N[i]))] (.x (.agg [cI .i8 (isV Val.ok l N[i]).k, cI .i64 (isV Val.ok l N[i]).n, cS (bs (isV Val.ok l N[i]).s)])) := m35 (G := G) l sq N[i] hl
    have hr : ∀ w, Tm.row ⟨N[i], w⟩ = [cS (bs N[i]), cI .i8 w.k, cI .i64 w.n, cS (bs w.s)] := fun w => rfl
    simp [ic23l0, hlt, hr]
    refine call_of hm ?_
    simp
    simp (disch := omega) only [wrap64]
    exact hK (i + 1) _ (by simp) (by omega) (by omega)
  · simp [ic23l0, Nat.not_lt.mpr hge]

theorem closeLL_set (ts : List Tm) (g : Tm → Val) (i : Nat) (k n : Int) (s : Name) : closeLL ((ts.map ((fun x => x.map A.c) ∘ Val.row ∘ g)).set i [.c (cI .i8 k), .c (cI .i64 n), .c (cS (bs s))]) = some (((ts.map g).set i ⟨k, n, s⟩).map Val.row) := by
  have e : (ts.map ((fun x => x.map A.c) ∘ Val.row ∘ g)).set i [.c (cI .i8 k), .c (cI .i64 n), .c (cS (bs s))] = (((ts.map g).set i ⟨k, n, s⟩).map Val.row).map fun r => r.map A.c := by
    rw [List.map_set, List.map_set, List.map_map, List.map_map]; rfl
  rw [e]
  exact closeLL_c _
theorem ok_vals {p : Name} {ts : List Tm} (h : atomOk p ts = true) : ∀ t ∈ ts, t.v = [] → Val.ok t.x = true := fun t ht h0 => by
  simp only [atomOk, Bool.and_eq_true, List.all_eq_true] at h
  have := h.2 t ht
  obtain ⟨v, k, n, s⟩ := t
  simp only at h0
  subst h0
  simpa [Tm.ok, termOk, Val.ok] using this
/-- How often a variable stands ahead. -/
theorem count_next {ts : List Tm} {v : Name} {j : Nat} (hj : j < ts.length) : ((ts.map Tm.v).take (j + 1)).count v = ((ts.map Tm.v).take j).count v + (if ts[j].v = v then 1 else 0) := by
  have hj' : j < (ts.map Tm.v).length := by rw [List.length_map]; exact hj
  rw [List.take_succ_eq_append_getElem hj', List.count_append]
  congr 1
  simp only [List.getElem_map, List.count_singleton, beq_iff_eq]

theorem m24 (p : Name) (ts : List Tm) (sp : Sp) (l : List Tm) (i : Nat) (hi : i < ts.length) (ha : atomOk p ts = true) (hb : ts[i].v ≠ us) :
    Meets Tryd.prog G 24 [.agg [cS (bs p), .sl (ts.map Tm.row) sp], .agg [cS (bs p), .sl ((ts.map (grV l)).map Val.row) []], .one (cI .i64 i)] (.x (.one (cB true))) := by
  have ht : ts.length ≤ 24 := by simp [atomOk] at ha; omega
  refine meets Tryd.func24 ie24 ig24 (Nat.le_of_ble_eq_true rfl) ?_
  simp [ic24, ir24]
  refine k_appb (news := ts.map (Val.row ∘ grV l)) rfl rfl rfl ?_ ?_ (by simp) (by simp [maxLen]; omega) (by simp [maxBytes]; omega) ?_
  · intro e he
    obtain ⟨x, _, rfl⟩ := List.mem_map.1 he
    rfl
  · intro e
    simp at e
    rw [e] at hi
    simp at hi
  simp
  have hri : ts[i].row = [cS (bs ts[i].v), cI .i8 ts[i].x.k, cI .i64 ts[i].x.n, cS (bs ts[i].x.s)] := rfl
  have hcl : ∀ j, ((ts.map Tm.v).take j).count ts[i].v ≤ 24 := fun j => by
    have h1 := List.count_le_length (a := ts[i].v) (l := (ts.map Tm.v).take j)
    rw [List.length_take, List.length_map] at h1
    omega
  refine w_loopA [] [] [2, 3, 4, 7, 8, 9] (by simp)
    (fun j : Nat => st [(2, tI .i64 i), (3, .k true (.x (.one (.ref 3 0 0)))), (4, .k true (.x (.one (.ref 4 0 0)))), (7, .k true (.x (.one (.ref 7 0 0)))), (8, tI .i64 (((ts.map Tm.v).take j).count ts[i].v : Nat)), (9, tI .i64 j)]
      [(7, ⟨28, 2, [[.c (cS (bs p)), .arr 16 0 ts.length ts.length]], none⟩), (16, ⟨39, 3, ts.map ((fun x => x.map A.c) ∘ Val.row ∘ grV l), none⟩), (4, ⟨28, 2, [[.c (cS (bs p)), .c (.sl (ts.map (Val.row ∘ grV l)) [])]], none⟩), (3, ⟨24, 2, [[.c (cS (bs p)), .c (.sl (ts.map Tm.row) sp)]], none⟩)] [] F0) (fun j => ts.length - j)
    (fun j => j ≤ ts.length) 0 (by simp) (by simp) ?_
  rintro j K hK hj
  obtain hlt | hge := Nat.lt_or_ge j ts.length
  · have hr : ts[j].row = [cS (bs ts[j].v), cI .i8 ts[j].x.k, cI .i64 ts[j].x.n, cS (bs ts[j].x.s)] := rfl
    have hcn := count_next (v := ts[i].v) hlt
    have hc1 := hcl j
    by_cases he : ts[j].v = ts[i].v
    · rw [if_pos he] at hcn
      simp [ic24l0, hlt, hi, hr, hri, he]
      simp (disch := omega) only [wrap64]
      exact hK (j + 1) _ (by simp [hcn]) (by omega) (by omega)
    · rw [if_neg he] at hcn
      simp [ic24l0, hlt, hi, hr, hri, he]
      simp (disch := omega) only [wrap64]
      exact hK (j + 1) _ (by simp [hcn]) (by omega) (by omega)
  · have hjt : j = ts.length := by omega
    subst hjt
    rw [show (ts.map Tm.v).take ts.length = ts.map Tm.v from List.take_of_length_le (by simp)]
    clear hK hcl
    generalize hcnt : (ts.map Tm.v).count ts[i].v = cnt at *
    simp [ic24l0]
    refine call_of (m89 41) ?_
    simp [hi, Val.row]
    have hml : ts.length ≤ 9223372036854775807 := by omega
    have hcc : ((cnt : Int) == 1) = (cnt == 1) := by rw [Bool.eq_iff_iff, beq_iff_eq, beq_iff_eq]; omega
    have h9 : Val.ok (⟨1, 9, []⟩ : Val) = true := rfl
    have key : ∀ w : Val, Val.ok w = true → w ≠ grV l ts[i] → ∃ r, matchOf p ts p ((ts.map (grV l)).set i w) = r ∧ r.isSome = (ts[i].v != [] && cnt == 1) := fun w hw hne => by
      refine ⟨_, rfl, ?_⟩
      have h1 := match_turned Val.ok (isV Val.ok l) ⟨1, 9, []⟩ ts h9 (isV_ok l) (ok_vals ha) i ts[i] w (List.getElem?_eq_getElem hi) hb hne hw
      rw [hcnt] at h1
      rw [← h1]
      unfold matchOf
      rw [if_pos (by simp [ha])]
    refine condI_of (fun h => ?_) (fun h => ?_)
    · simp at h
      have hne : (⟨1, 42, []⟩ : Val) ≠ grV l ts[i] := fun e => by rw [← e] at h; simp at h
      obtain ⟨r, hr1, hr2⟩ := key ⟨1, 42, []⟩ rfl hne
      have h21 := m21 (G := G) p p ts ((ts.map (grV l)).set i ⟨1, 42, []⟩) sp [] (by unfold maxLen; omega)
      rw [hr1, ← (show List.take ts.length ((List.map (Val.row ∘ grV l) ts).set i (⟨1, 42, []⟩ : Val).row) = ((ts.map (grV l)).set i ⟨1, 42, []⟩).map Val.row by rw [List.take_of_length_le (by simp), List.map_set, List.map_map])] at h21
      have hcs := closeLL_set ts (grV l) i 1 42 []
      simp
      refine call_of (m89 42) ?_
      simp [hi]
      simp [freeze_st, fzL, freezeO, maxLen, A.close, hcs, hml]
      refine call_of h21 ?_
      by_cases h0 : ts[i].v = []
      · simp [matchR, hr2, hri, hi, h0]
      · by_cases hc : cnt = 1
        · simp [matchR, hr2, hri, hi, h0, hc]
        · simp [matchR, hr2, hri, hi, hcc]
    · simp at h
      have hne : (⟨1, 41, []⟩ : Val) ≠ grV l ts[i] := fun e => by rw [← e] at h; simp at h
      obtain ⟨r, hr1, hr2⟩ := key ⟨1, 41, []⟩ rfl hne
      have h21 := m21 (G := G) p p ts ((ts.map (grV l)).set i ⟨1, 41, []⟩) sp [] (by unfold maxLen; omega)
      rw [hr1, ← (show List.take ts.length ((List.map (Val.row ∘ grV l) ts).set i (⟨1, 41, []⟩ : Val).row) = ((ts.map (grV l)).set i ⟨1, 41, []⟩).map Val.row by rw [List.take_of_length_le (by simp), List.map_set, List.map_map])] at h21
      have hcs := closeLL_set ts (grV l) i 1 41 []
      simp
      simp [freeze_st, fzL, freezeO, maxLen, A.close, hcs, hml]
      refine call_of h21 ?_
      by_cases h0 : ts[i].v = []
      · simp [matchR, hr2, hri, hi, h0]
      · by_cases hc : cnt = 1
        · simp [matchR, hr2, hri, hi, h0, hc]
        · simp [matchR, hr2, hri, hi, hcc]
end Go.Proofs.YtiomojlcnemnhaaDoor

/- Contracts, on: the document's predicates: where they stand, met one behind the other. (Labels of 2000 and more: seat ZD.) -/
import Derived.Test.YtiomojlcnemnhaaGreatDoorPGxQ6
namespace Go.Proofs.YtiomojlcnemnhaaGreatDoor
open Go.Fx Go.RowKit Go.Ped
variable {G : World → Prop}

def pdC (p : Pd) : List C := [cS (bs p.name), cI .i64 p.n]
@[simp] theorem pdC_len (p : Pd) : (pdC p).length = 2 := rfl
@[simp] theorem pdC_0 (p : Pd) : (pdC p)[0]? = some (cS (bs p.name)) := rfl
@[simp] theorem pdC_0' (p : Pd) (h : 0 < (pdC p).length) : (pdC p)[0]'h = cS (bs p.name) := rfl
@[simp] theorem pdC_1 (p : Pd) : (pdC p)[1]? = some (cI .i64 p.n) := rfl
@[simp] theorem pdC_1' (p : Pd) (h : 1 < (pdC p).length) : (pdC p)[1]'h = cI .i64 p.n := rfl
@[simp] theorem pdC_take (p : Pd) : ((pdC p).map A.c).take 2 = (pdC p).map A.c := rfl

theorem m2131 (r : Rule) (hs : r.small 1048576) : Meets Tryz.prog G 131 [.agg r.row] (.x (.one (.sl ((standOf r).map pdC) []))) := by
  refine meets Tryz.func131 ie2131 ig2131 (Nat.le_of_ble_eq_true rfl) ?_
  have hl := hs.2.1
  generalize hR : standOf r = R
  simp [ic2131, ir2131]
  refine w_loopA [] [52] [1, 3, 4] (by simp [ownKey])
    (fun a : Nat × List Pd => st [(1, .k true (.x (.one (.ref 1 0 0)))), (3, .k true (.x (.one (.own 11 (a.2.map pdC))))), (4, tI .i64 a.1)] [(1, ⟨29, 3, [r.row.map A.c], none⟩)] [(11, ⟨168, 2, a.2.length⟩)] F0) (fun a => r.body.length - a.1)
    (fun a => a.1 ≤ r.body.length ∧ R = a.2 ++ ((r.body.drop a.1).filter isAtom).map litPd ∧ a.2.length ≤ a.1 + 1) (0, [⟨r.p, r.head.length⟩]) (by simp [pdC]) (by simp [← hR, standOf]) ?_
  rintro ⟨i, E⟩ K hK ⟨hi, hd, hE⟩
  simp only at hi hd hE
  obtain hlt | hge := Nat.lt_or_ge i r.body.length
  · rw [List.drop_eq_getElem_cons hlt] at hd
    by_cases hk : isAtom r.body[i] = true
    · rw [List.filter_cons_of_pos hk, List.map_cons] at hd
      have hk' : (r.body[i].kind == 1 || r.body[i].kind == 2) = true := hk
      simp [ic2131l0, hlt, hk']
      refine ⟨by unfold maxLen; omega, by unfold maxBytes; omega, ?_⟩
      simp (disch := omega) only [wrap64]
      exact hK (i + 1, E ++ [litPd r.body[i]]) _ (by simp [pdC, litPd]) ⟨by simp; omega, by simpa using hd, by simp; omega⟩ (by simp; omega)
    · rw [List.filter_cons_of_neg hk] at hd
      have hk' : (r.body[i].kind == 1 || r.body[i].kind == 2) = false := by simpa [isAtom] using hk
      simp [ic2131l0, hlt, hk']
      simp (disch := omega) only [wrap64]
      exact hK (i + 1, E) _ (by simp) ⟨by simp; omega, hd, by simp only; omega⟩ (by simp; omega)
  · rw [List.drop_eq_nil_of_le hge] at hd
    have hd' : R = E := by simpa using hd
    subst hd'
    simp [ic2131l0, Nat.not_lt.mpr hge]

def amongR (l : List Pd) (v : Name) : List C := match l.find? (·.name == v) with | some p => pdC p | none => [cS (bs []), cI .i64 0]
theorem m2213 (v : Name) (l : List Pd) (sp : Sp) (hl : l.length ≤ 1048576000) : Meets Tryz.prog G 213 [.one (cS (bs v)), .one (.sl (l.map pdC) sp)] (.tup [.agg (amongR l v), .one (cB (lookP l v).isSome)]) := by
  refine meets Tryz.func213 ie2213 ig2213 (Nat.le_of_ble_eq_true rfl) ?_
  generalize hR : amongR l v = R
  generalize hB : (lookP l v).isSome = B
  simp [ic2213, ir2213]
  refine w_loopA [] [] [0, 1, 4, 6] (by simp)
    (fun i : Nat => st [(0, .k true (.x (.one (.c (cS (bs v)))))), (1, .k true (.x (.one (.c (.sl (l.map pdC) sp))))), (4, .k true (.x (.one (.ref 4 0 0)))), (6, tI .i64 i)] [(4, ⟨168, 2, [[.c (cS (bs [])), .c (cI .i64 0)]], none⟩)] [] F0) (fun i => l.length - i)
    (fun i => i ≤ l.length ∧ R = amongR (l.drop i) v ∧ B = (lookP (l.drop i) v).isSome) 0 (by simp) (by simp [hR, hB]) ?_
  rintro i K hK ⟨hi, hd, hd2⟩
  obtain hlt | hge := Nat.lt_or_ge i l.length
  · rw [List.drop_eq_getElem_cons hlt, lookP_cons] at hd2
    rw [List.drop_eq_getElem_cons hlt] at hd
    unfold amongR at hd
    rw [List.find?_cons] at hd
    simp [ic2213l0, hlt]
    by_cases h : l[i].name = v
    · have h' : (l[i].name == v) = true := by simpa using h
      rw [h'] at hd
      rw [if_pos h] at hd2
      simp at hd hd2
      simp [h, hlt]
      simp [hd, hd2, pdC]
    · have h' : (l[i].name == v) = false := by simpa using h
      rw [h'] at hd
      rw [if_neg h] at hd2
      simp only at hd
      simp [h]
      simp (disch := omega) only [wrap64]
      exact hK (i + 1) _ (by simp) ⟨by omega, hd, hd2⟩ (by omega)
  · rw [List.drop_eq_nil_of_le hge] at hd hd2
    simp [amongR] at hd
    simp [lookP] at hd2
    simp [ic2213l0, Nat.not_lt.mpr hge, hd, hd2]

def ltN (a b : Name) : Bool := Op.bytesLess a b
theorem bs_toList (l : Name) : (bs l).toList = l := by
  exact ByteArray.toList_mk l
def meetR : Option (List Pd) → CR
  | some l => .tup [.one (.sl (l.map pdC) []), .one (cB true)]
  | none => .tup [.one (.sl [] []), .one (cB false)]
theorem takeWhile_step (known : List Pd) (p : Pd) (k : Nat) (h : k < known.length) (ht : ∀ q ∈ known.take k, ltN q.name p.name = true) (hn : ltN known[k].name p.name = false) :
    insP ltN p known = known.take k ++ p :: known.drop k := by
  conv => lhs; rw [← List.take_append_drop k known, List.drop_eq_getElem_cons h]
  rw [List.drop_eq_getElem_cons h]
  generalize known.take k = t at *
  generalize known[k] = q at *
  induction t with
  | nil => simp [insP, hn]
  | cons x t ih =>
    rw [List.cons_append, insP, if_pos (ht x (List.mem_cons_self ..)), ih fun y hy => ht y (List.mem_cons_of_mem _ hy)]
    rfl
theorem takeWhile_end (known : List Pd) (p : Pd) (ht : ∀ q ∈ known, ltN q.name p.name = true) : insP ltN p known = known ++ [p] := by
  induction known with
  | nil => rfl
  | cons x t ih =>
    rw [insP, if_pos (ht x (List.mem_cons_self ..)), ih fun y hy => ht y (List.mem_cons_of_mem _ hy)]
    rfl
theorem insP_len (p : Pd) : ∀ l : List Pd, (insP ltN p l).length = l.length + 1
  | [] => rfl
  | q :: l => by
    rw [insP]
    split
    · simp [insP_len p l]
    · rfl

theorem refMeet_ok {known : List Pd} {p : Pd} {k : Int} (h : lookP known p.name = some k) (e : k = p.n) : refMeet ltN known p = some known := by
  unfold refMeet; rw [h]; simp [e]
theorem refMeet_no {known : List Pd} {p : Pd} {k : Int} (h : lookP known p.name = some k) (e : k ≠ p.n) : refMeet ltN known p = none := by
  unfold refMeet; rw [h]; simp [e]
theorem refMeet_new {known : List Pd} {p : Pd} (h : lookP known p.name = none) : refMeet ltN known p = some (insP ltN p known) := by
  unfold refMeet; rw [h]
theorem among_some {l : List Pd} {v : Name} {k : Int} (h : lookP l v = some k) : ∃ u, amongR l v = [cS (bs u), cI .i64 k] := by
  unfold lookP at h
  unfold amongR
  cases hf : l.find? (·.name == v) with
  | none => rw [hf] at h; cases h
  | some p => rw [hf] at h; simp at h; exact ⟨p.name, by rw [← h]; rfl⟩
theorem among_none {l : List Pd} {v : Name} (h : lookP l v = none) : amongR l v = [cS (bs []), cI .i64 0] := by
  unfold lookP at h
  unfold amongR
  cases hf : l.find? (·.name == v) with
  | none => rfl
  | some p => rw [hf] at h; cases h

theorem m2127 (known l : List Pd) (sq : Sp) (hk : known.length + l.length ≤ 10000000) : Meets Tryz.prog G 127 [.one (.sl (known.map pdC) []), .one (.sl (l.map pdC) sq)] (meetR (refMeets ltN known l)) := by
  refine meets Tryz.func127 ie2127 ig2127 (Nat.le_of_ble_eq_true rfl) ?_
  generalize hR : refMeets ltN known l = R
  simp [ic2127, ir2127]
  refine w_loopA [] [7, 61, 62, 70, 81] [0, 1, 6] (by simp [ownKey])
    (fun a : Nat × List Pd => st [(0, .k true (.x (.one (.c (.sl (a.2.map pdC) []))))), (1, .k true (.x (.one (.c (.sl (l.map pdC) sq))))), (6, tI .i64 a.1)] [] [] F0) (fun a => l.length - a.1)
    (fun a => a.1 ≤ l.length ∧ R = refMeets ltN a.2 (l.drop a.1) ∧ a.2.length ≤ known.length + a.1) (0, known) (by simp) (by simp [hR]) ?_
  rintro ⟨i, f⟩ K hK ⟨hi, hd, hf⟩
  simp only at hi hd hf
  obtain hlt | hge := Nat.lt_or_ge i l.length
  · rw [List.drop_eq_getElem_cons hlt, refMeets] at hd
    have ha := m2213 (G := G) l[i].name f [] (by omega)
    simp [ic2127l2, hlt]
    cases hl : lookP f l[i].name with
    | some k =>
      obtain ⟨u, hu⟩ := among_some hl
      rw [hl, hu] at ha
      refine call_of ha ?_
      simp [hlt]
      by_cases e : k = l[i].n
      · rw [refMeet_ok hl e] at hd
        simp [e]
        simp (disch := omega) only [wrap64]
        exact hK (i + 1, f) _ (by simp) ⟨by simp; omega, hd, by simp only; omega⟩ (by simp; omega)
      · rw [refMeet_no hl e] at hd
        simp [e]
        simp [hd, meetR]
    | none =>
      rw [hl, among_none hl] at ha
      rw [refMeet_new hl] at hd
      refine call_of ha ?_
      simp [hlt]
      generalize hp : l[i] = p at *
      refine w_loopA [.t 62 9 168 2] [7, 61] [0, 1, 6, 9, 10] (by simp [ownKey])
        (fun a : Nat × List Pd => st [(0, .k true (.x (.one (.c (.sl (f.map pdC) []))))), (1, .k true (.x (.one (.c (.sl (l.map pdC) sq))))), (6, tI .i64 i), (9, .k true (.x (.one (.own 62 (a.2.map pdC))))), (10, tI .i64 a.1)] [] [(62, ⟨168, 2, a.2.length⟩)] F0) (fun a => f.length - a.1)
        (fun a => a.1 ≤ f.length ∧ a.2 = f.take a.1 ∧ ∀ q ∈ f.take a.1, ltN q.name p.name = true) (0, []) (by simp [promoteT_st]) (by simp) ?_
      rintro ⟨k, E⟩ K2 hK2 ⟨hk2, hE, hall⟩
      simp only at hk2 hE hall
      have hEl : E.length = k := by rw [hE]; simp; omega
      obtain hkl | hkl := Nat.lt_or_ge k f.length
      · by_cases hb : ltN f[k].name p.name = true
        · have hb' : Op.bytesLess f[k].name p.name = true := hb
          simp [ic2127l0, hkl, hlt, hp, bs_toList, hb']
          refine ⟨by unfold maxLen; omega, by unfold maxBytes; omega, ?_⟩
          simp (disch := omega) only [wrap64]
          exact hK2 (k + 1, E ++ [f[k]]) _ (by simp) ⟨by simp; omega, by simp only; rw [hE, List.take_succ_eq_append_getElem hkl], fun q hq => by
            simp only at hq
            rw [List.take_succ_eq_append_getElem hkl, List.mem_append, List.mem_singleton] at hq
            rcases hq with hq | rfl
            · exact hall q hq
            · exact hb⟩ (by simp; omega)
        · have hb0 : ltN f[k].name p.name = false := by simpa using hb
          have hb' : Op.bytesLess f[k].name p.name = false := hb0
          have hins := takeWhile_step f p k hkl hall hb0
          simp [ic2127l0, hkl, hlt, hp, bs_toList, hb']
          refine ⟨by unfold maxLen; omega, by unfold maxBytes; omega, ?_⟩
          refine w_loopA [] [70, 81] [0, 1, 6, 9, 10] (by simp [ownKey])
              (fun a : Nat × List Pd => st [(0, .k true (.x (.one (.c (.sl (f.map pdC) []))))), (1, .k true (.x (.one (.c (.sl (l.map pdC) sq))))), (6, tI .i64 i), (9, .k true (.x (.one (.own 62 (a.2.map pdC))))), (10, tI .i64 a.1)] [] [(62, ⟨168, 2, a.2.length⟩)] F0) (fun a => f.length - a.1)
              (fun a => a.1 ≤ f.length ∧ insP ltN p f = a.2 ++ f.drop a.1 ∧ a.2.length = a.1 + 1) (k, E ++ [p]) (by simp [pdC]) ⟨hk2, by rw [hins, hE, List.append_assoc]; rfl, by simp; omega⟩ ?_
          rintro ⟨k3, E3⟩ K3 hK3 ⟨hk3, hE3, hl3⟩
          simp only at hk3 hE3 hl3
          obtain hkl3 | hkl3 := Nat.lt_or_ge k3 f.length
          · rw [List.drop_eq_getElem_cons hkl3] at hE3
            simp [ic2127l1, hkl3]
            refine ⟨by unfold maxLen; omega, by unfold maxBytes; omega, ?_⟩
            simp (disch := omega) only [wrap64]
            exact hK3 (k3 + 1, E3 ++ [f[k3]]) _ (by simp) ⟨by simp; omega, by simpa using hE3, by simp; omega⟩ (by simp; omega)
          · rw [List.drop_eq_nil_of_le hkl3, List.append_nil] at hE3
            simp [ic2127l1, Nat.not_lt.mpr hkl3]
            simp (disch := omega) only [wrap64]
            exact hK (i + 1, E3) _ (by simp) ⟨by simp; omega, by rw [hd, hE3], by simp only; omega⟩ (by simp; omega)
      · have hins : insP ltN p f = f.take k ++ p :: f.drop k := by
          rw [List.take_of_length_le hkl, List.drop_eq_nil_of_le hkl]
          rw [List.take_of_length_le hkl] at hall
          exact takeWhile_end f p hall
        simp [ic2127l0, Nat.not_lt.mpr hkl, hlt, hp]
        rw [show pickT true false (T.k false bad.val) (T.k true (rB false)) = T.k true (rB false) from rfl]
        simp [hlt, hp]
        refine ⟨by unfold maxLen; omega, by unfold maxBytes; omega, ?_⟩
        refine w_loopA [] [70, 81] [0, 1, 6, 9, 10] (by simp [ownKey])
            (fun a : Nat × List Pd => st [(0, .k true (.x (.one (.c (.sl (f.map pdC) []))))), (1, .k true (.x (.one (.c (.sl (l.map pdC) sq))))), (6, tI .i64 i), (9, .k true (.x (.one (.own 62 (a.2.map pdC))))), (10, tI .i64 a.1)] [] [(62, ⟨168, 2, a.2.length⟩)] F0) (fun a => f.length - a.1)
            (fun a => a.1 ≤ f.length ∧ insP ltN p f = a.2 ++ f.drop a.1 ∧ a.2.length = a.1 + 1) (k, E ++ [p]) (by simp [pdC]) ⟨hk2, by rw [hins, hE, List.append_assoc]; rfl, by simp; omega⟩ ?_
        rintro ⟨k3, E3⟩ K3 hK3 ⟨hk3, hE3, hl3⟩
        simp only at hk3 hE3 hl3
        obtain hkl3 | hkl3 := Nat.lt_or_ge k3 f.length
        · rw [List.drop_eq_getElem_cons hkl3] at hE3
          simp [ic2127l1, hkl3]
          refine ⟨by unfold maxLen; omega, by unfold maxBytes; omega, ?_⟩
          simp (disch := omega) only [wrap64]
          exact hK3 (k3 + 1, E3 ++ [f[k3]]) _ (by simp) ⟨by simp; omega, by simpa using hE3, by simp; omega⟩ (by simp; omega)
        · rw [List.drop_eq_nil_of_le hkl3, List.append_nil] at hE3
          simp [ic2127l1, Nat.not_lt.mpr hkl3]
          simp (disch := omega) only [wrap64]
          exact hK (i + 1, E3) _ (by simp) ⟨by simp; omega, by rw [hd, hE3], by simp only; omega⟩ (by simp; omega)
  · rw [List.drop_eq_nil_of_le hge, refMeets] at hd
    simp [ic2127l2, Nat.not_lt.mpr hge, hd, meetR]
end Go.Proofs.YtiomojlcnemnhaaGreatDoor

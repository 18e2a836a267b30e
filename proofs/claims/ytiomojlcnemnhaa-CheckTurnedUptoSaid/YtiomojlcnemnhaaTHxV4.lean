/- Contracts, on: the law CheckTurned. (Labels of 3000 and more: the plain seat.) -/
import Derived.Test.YtiomojlcnemnhaaTHxQ2
namespace Go.Proofs.Ytiomojlcnemnhaa
open Go.Fx Go.RowKit Go.Ped
variable {G : World → Prop}

theorem limits_bound (l : List Lit) (hl : l.length ≤ 10000000) (hb : (l.map fun x => x.l.length).sum ≤ 50000000) : (limitsOf l).length ≤ maxLen := by
  have h1 := goRounds_len (eqsOf l) (atomsOn [] l)
  have h2 := atomsOn_len l []
  have h3 := eqsOf_len l
  simp only [List.length_nil] at h2
  unfold maxLen limitsOf; omega
/-- Where the turned list has its i-th element from. -/
theorem turn_idx (n : Nat) (hn : 0 < n) (b : Int) (i : Nat) (hi : i < n) : ∃ k : Nat, k < n ∧ k = ((Int.tmod b n + n) % n).toNat ∧ Int.tmod (Int.tmod i n + Int.tmod b n + n) n = (if i + k < n then ((i + k : Nat) : Int) else ((i + k - n : Nat) : Int)) := by
  have h1 := Int.tmod_lt_of_pos b (show (0 : Int) < n by omega)
  have h2 : -(n : Int) < Int.tmod b n := by
    have := Int.lt_tmod_of_pos b (show (0 : Int) < n by omega)
    omega
  generalize Int.tmod b n = r at *
  have e1 : Int.tmod (i : Int) n = i := Int.tmod_eq_of_lt (by omega) (by omega)
  rw [e1]
  by_cases hr : r < 0
  · refine ⟨(r + n).toNat, by omega, ?_, ?_⟩
    · rw [Int.emod_eq_of_lt (by omega) (by omega)]
    · by_cases h : i + (r + n).toNat < n
      · rw [if_pos h, Int.tmod_eq_of_lt (by omega) (by omega)]; omega
      · rw [if_neg h, show (i : Int) + r + n = (i + r) + n by omega, Int.tmod_eq_emod_of_nonneg (by omega), Int.add_emod_right, Int.emod_eq_of_lt (by omega) (by omega)]; omega
  · refine ⟨r.toNat, by omega, ?_, ?_⟩
    · rw [Int.add_emod_right, Int.emod_eq_of_lt (by omega) (by omega)]
    · by_cases h : i + r.toNat < n
      · rw [if_pos h, Int.tmod_eq_emod_of_nonneg (by omega), Int.add_emod_right, Int.emod_eq_of_lt (by omega) (by omega)]; omega
      · rw [if_neg h, Int.tmod_eq_emod_of_nonneg (by omega), show (i : Int) + r + n = (i + r - n) + n + n by omega, Int.add_emod_right, Int.add_emod_right, Int.emod_eq_of_lt (by omega) (by omega)]; omega
def turned (b : Int) (l : List Lit) : List Lit := l.drop ((Int.tmod b l.length + l.length) % l.length).toNat ++ l.take ((Int.tmod b l.length + l.length) % l.length).toNat
theorem turned_mem {b : Int} {l : List Lit} {x : Lit} : x ∈ turned b l ↔ x ∈ l := by
  unfold turned
  generalize ((Int.tmod b l.length + l.length) % l.length).toNat = k
  rw [List.mem_append, Or.comm, ← List.mem_append, List.take_append_drop]
theorem turned_sum {b : Int} {l : List Lit} : ((turned b l).map fun x => x.l.length).sum = (l.map fun x => x.l.length).sum := by
  unfold turned
  generalize ((Int.tmod b l.length + l.length) % l.length).toNat = k
  conv => rhs; rw [← List.take_append_drop k l]
  rw [List.map_append, List.map_append, List.sum_append, List.sum_append, Nat.add_comm]
theorem turned_len {b : Int} {l : List Lit} : (turned b l).length = l.length := by
  unfold turned
  generalize ((Int.tmod b l.length + l.length) % l.length).toNat = k
  rw [List.length_append, List.length_drop, List.length_take]
  omega
theorem turned_at (b : Int) (l : List Lit) (i : Nat) (hi : i < l.length) : ∃ j : Nat, ∃ hj : j < l.length, Int.tmod (Int.tmod i l.length + Int.tmod b l.length + l.length) l.length = j ∧ (turned b l)[i]? = some l[j] := by
  obtain ⟨k, hk, hk2, he⟩ := turn_idx l.length (by omega) b i hi
  unfold turned
  rw [← hk2]
  by_cases h : i + k < l.length
  · rw [if_pos h] at he
    refine ⟨i + k, h, he, ?_⟩
    rw [List.getElem?_append_left (by rw [List.length_drop]; omega), List.getElem?_drop, Nat.add_comm k i, List.getElem?_eq_getElem h]
  · rw [if_neg h] at he
    refine ⟨i + k - l.length, by omega, he, ?_⟩
    rw [List.getElem?_append_right (by rw [List.length_drop]; omega), List.length_drop, show i - (l.length - k) = i + k - l.length by omega, List.getElem?_take, if_pos (by omega), List.getElem?_eq_getElem (by omega)]

theorem m3007 (body more : List Lit) (sp sq : Sp) (b : Int) (hb1 : -9223372036854775808 ≤ b) (hb2 : b ≤ 9223372036854775807) (hs : ∀ x ∈ body, x.fit) (hm : ∀ x ∈ more, x.fit) (hl : body.length + more.length ≤ 1048576)
    (hc : (body.map fun x => x.l.length).sum ≤ 1048576) (hd : (more.map fun x => x.l.length).sum ≤ 1048576) :
    Meets Try.prog G 7 [.one (.sl (body.map Lit.row) sp), .one (.sl (more.map Lit.row) sq), .one (cI .i64 b)] (.x (.one (cB true))) := by
  have h48 := m48 (G := G) body sp (fun x hx => (hs x hx).1) (by omega)
  have h48b := m48 (G := G) more sq (fun x hx => (hm x hx).1) (by omega)
  have h50 := m50 (G := G) body sp hs (by omega) (by omega)
  have ht : ∀ x ∈ turned b body, x.fit := fun x hx => hs x (turned_mem.1 hx)
  have h50t := m50 (G := G) (turned b body) [] ht (by rw [turned_len]; omega) (by rw [turned_sum]; omega)
  have hrs : (body.reverse.map fun x => x.l.length).sum = (body.map fun x => x.l.length).sum := by rw [List.map_reverse, List.sum_reverse]
  have h50r := m50 (G := G) body.reverse [] (fun x hx => hs x (List.mem_reverse.1 hx)) (by rw [List.length_reverse]; omega) (by rw [hrs]; omega)
  have h50c := m50 (G := G) (more ++ body) [] (fun x hx => (List.mem_append.1 hx).elim (hm x) (hs x)) (by rw [List.length_append]; omega) (by rw [List.map_append, List.sum_append]; omega)
  have e1 := limits_len (l := body) (m := turned b body) (fun x hx => turned_mem.2 hx) (fun x hx => turned_mem.1 hx)
  have e2 := limits_len (l := body) (m := body.reverse) (fun x hx => List.mem_reverse.2 hx) (fun x hx => List.mem_reverse.1 hx)
  have a1 := limits_allIn (l := body) (m := turned b body) (fun x hx => turned_mem.2 hx)
  have a2 := limits_allIn (l := body) (m := body.reverse) (fun x hx => List.mem_reverse.2 hx)
  have a3 := limits_allIn (l := body) (m := more ++ body) (fun x hx => List.mem_append_right _ hx)
  have b0 := limits_bound body (by omega) (by omega)
  have b1 := limits_bound (turned b body) (by rw [turned_len]; omega) (by rw [turned_sum]; omega)
  have b2 := limits_bound body.reverse (by rw [List.length_reverse]; omega) (by rw [hrs]; omega)
  have b3 := limits_bound (more ++ body) (by rw [List.length_append]; omega) (by rw [List.map_append, List.sum_append]; omega)
  have c1 := m179 (G := G) (limitsOf body) (limitsOf (turned b body)) [] [] b0 b1
  have c2 := m179 (G := G) (limitsOf body) (limitsOf body.reverse) [] [] b0 b2
  have c3 := m179 (G := G) (limitsOf body) (limitsOf (more ++ body)) [] [] b0 b3
  rw [a1] at c1
  rw [a2] at c2
  rw [a3] at c3
  have hT : ∀ i (hi : i < body.length), ∃ j : Nat, ∃ hj : j < body.length, Int.tmod (Int.tmod i body.length + Int.tmod b body.length + body.length) body.length = j ∧ (turned b body)[i]? = some body[j] := fun i hi => turned_at b body i hi
  have hTl : (turned b body).length = body.length := turned_len
  rw [List.map_append] at h50c
  generalize turned b body = T at *
  generalize limitsOf T = LT at *
  generalize limitsOf body.reverse = LR at *
  generalize limitsOf (more ++ body) = LC at *
  generalize limitsOf body = LB at *
  refine meets Try.func7 ie3007 ig3007 (Nat.le_of_ble_eq_true rfl) ?_
  simp [ic3007, ir3007]
  refine call_of h48 ?_
  by_cases hbb : ruleParts ⟨[], [], [], body, sp⟩ 1048576 > 1048576
  · have hbb' : decide (ruleParts ⟨[], [], [], body, sp⟩ 1048576 > 1048576) = true := by simpa using hbb
    rw [hbb']
    simp
    refine call_no (.x (.one (cB false))) ?_
    simp
  have hbb' : decide (ruleParts ⟨[], [], [], body, sp⟩ 1048576 > 1048576) = false := by simpa using hbb
  rw [hbb']
  simp
  refine call_of h48b ?_
  simp
  refine condI_of (fun h => ?_) (fun h => ?_)
  · simp
  simp
  refine call_of m2062 ?_
  simp
  refine call_of h50 ?_
  simp
  refine w_loopA [.t 300 8 129 16, .t 301 9 129 16] [51, 62] [0, 1, 2, 7, 8, 9, 10] (by simp [ownKey])
    (fun a : Nat × List (List C) × List (List C) => st [(0, .k true (.x (.one (.c (.sl (body.map Lit.row) sp))))), (1, .k true (.x (.one (.c (.sl (more.map Lit.row) sq))))), (2, .k true (.x (.one (.c (cI .i64 b))))), (7, .k true (.x (.one (.c (.sl (LB.map nmRow) []))))), (8, .k true (.x (.one (.own 300 a.2.1)))), (9, .k true (.x (.one (.own 301 a.2.2)))), (10, tI .i64 a.1)] [] [(301, ⟨129, 16, a.2.2.length⟩), (300, ⟨129, 16, a.2.1.length⟩)] F0) (fun a => body.length - a.1)
    (fun a => a.1 ≤ body.length ∧ a.2.1 = (T.take a.1).map Lit.row ∧ a.2.2 = (body.reverse.take a.1).map Lit.row) (0, [], []) (by simp) (by simp) ?_
  rintro ⟨i, E1, E2⟩ K hK ⟨hi, hE1, hE2⟩
  simp only at hi hE1 hE2
  obtain hlt | hge := Nat.lt_or_ge i body.length
  · obtain ⟨j, hj, hje, hjt⟩ := hT i hlt
    have l1 : E1.length = i := by rw [hE1]; simp; omega
    have l2 : E2.length = i := by rw [hE2]; simp; omega
    have hne : ¬ body = [] := fun e => by rw [e] at hlt; simp at hlt
    have r1 := Int.tmod_lt_of_pos b (show (0 : Int) < body.length by omega)
    have r2 := Int.lt_tmod_of_pos b (show (0 : Int) < body.length by omega)
    have r3 : Int.tmod (i : Int) body.length = i := Int.tmod_eq_of_lt (by omega) (by omega)
    have hw : Int.tmod (IntKind.i64.wrap (IntKind.i64.wrap (Int.tmod i body.length + Int.tmod b body.length) + body.length)) body.length = j := by
      rw [wrap64 (n := Int.tmod i body.length + Int.tmod b body.length) (by omega) (by omega), wrap64 (by omega) (by omega)]
      exact hje
    have hw2 : IntKind.i64.wrap (IntKind.i64.wrap ((body.length : Int) - 1) - i) = ((body.length - 1 - i : Nat) : Int) := by
      rw [wrap64 (n := (body.length : Int) - 1) (by omega) (by omega), wrap64 (by omega) (by omega)]
      omega
    have hk2 : body.length - 1 - i < body.length := by omega
    simp [ic3007l0, hlt, hne, hw, hj]
    refine ⟨by rw [l1]; unfold maxLen; omega, by rw [l1]; unfold maxBytes; omega, ?_⟩
    simp [hw2, hk2]
    refine ⟨by rw [l2]; unfold maxLen; omega, by rw [l2]; unfold maxBytes; omega, ?_⟩
    simp (disch := omega) only [wrap64]
    have q1 : (T.take (i + 1)).map Lit.row = E1 ++ [body[j].row] := by
      have hTi : i < T.length := by omega
      rw [List.take_succ_eq_append_getElem hTi, List.map_append, ← hE1]
      have : T[i] = body[j] := by
        rw [List.getElem?_eq_getElem hTi] at hjt
        injection hjt
      rw [this]; rfl
    have q2 : (body.reverse.take (i + 1)).map Lit.row = E2 ++ [body[body.length - 1 - i].row] := by
      have hri : i < body.reverse.length := by rw [List.length_reverse]; omega
      rw [List.take_succ_eq_append_getElem hri, List.map_append, ← hE2, List.getElem_reverse]; rfl
    exact hK (i + 1, E1 ++ [body[j].row], E2 ++ [body[body.length - 1 - i].row]) _ (by simp) ⟨by simp only; omega, q1.symm, q2.symm⟩ (by simp only; omega)
  · have f1 : E1 = T.map Lit.row := by rw [hE1, List.take_of_length_le (by omega)]
    have f2 : E2 = body.reverse.map Lit.row := by rw [hE2, List.take_of_length_le (by rw [List.length_reverse]; omega)]
    subst f1 f2
    simp [ic3007l0, Nat.not_lt.mpr hge]
    refine call_of h50t ?_
    simp
    simp only [List.map_reverse] at h50r
    refine call_of h50r ?_
    simp
    refine ⟨by unfold maxLen; omega, by unfold maxBytes; omega, by unfold maxLen; omega, by unfold maxBytes; omega, ?_⟩
    refine call_of h50c ?_
    simp [e1, e2]
    refine call_of c1 ?_
    simp
    refine call_of c2 ?_
    simp
    refine call_of c3 ?_
    simp
end Go.Proofs.Ytiomojlcnemnhaa

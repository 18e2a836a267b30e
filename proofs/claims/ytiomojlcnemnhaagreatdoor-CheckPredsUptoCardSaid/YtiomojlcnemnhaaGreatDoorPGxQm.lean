/- Contracts, on: a program's predicates, the document's. (Labels of 2000 and more: seat ZD.) -/
import Derived.Test.YtiomojlcnemnhaaGreatDoorPGxQl
import Derived.Test.YtiomojlcnemnhaaGreatDoorPGxQh
import Derived.Test.YtiomojlcnemnhaaGreatDoorPGxIcX
namespace Go.Proofs.YtiomojlcnemnhaaGreatDoor
open Go.Fx Go.RowKit Go.Ped
variable {G : World → Prop}

def predsR : Option (List Pd) → CR
  | some l => .tup [.one (.sl (l.map pdC) []), .one (cI .i64 0)]
  | none => .tup [.one (.sl [] []), .one (cI .i64 72)]
def onIf (b : Bool) (known l : List Pd) : Option (List Pd) := if b = true then refMeets ltN known l else none
theorem m2042 (rules : List Rule) (sp : Sp) (facts : List Fc) (sq : Sp) (hs : ∀ r ∈ rules, r.small 1048576) (hl : rules.length ≤ 1048576) (hfl : facts.length ≤ 1048576) (hn : (rules.flatMap standOf).length ≤ 5000000) :
    Meets Tryz.prog G 42 [.agg [.sl (rules.map Rule.row) sp], .one (.sl (facts.map Fc.row) sq)] (predsR (refMeets ltN [] (rules.flatMap standOf ++ facts.map Fc.pd))) := by
  refine meets Tryz.func42 ie2042 ig2042 (Nat.le_of_ble_eq_true rfl) ?_
  have hsplit := refMeets_append ltN (rules.flatMap standOf) (facts.map Fc.pd) []
  generalize hR : refMeets ltN [] (rules.flatMap standOf ++ facts.map Fc.pd) = R at *
  generalize hA : refMeets ltN [] (rules.flatMap standOf) = A' at *
  simp [ic2042, ir2042]
  refine w_loopA [.t 300 6 168 2] [300] [1, 2, 6, 7, 8] (by simp [ownKey])
    (fun a : Nat × Bool × List Pd => st [(1, .k true (.x (.one (.c (.sl (facts.map Fc.row) sq))))), (2, .k true (.x (.one (.ref 2 0 0)))), (6, .k true (.x (.one (.c (.sl (a.2.2.map pdC) []))))), (7, .k true (rB a.2.1)), (8, tI .i64 a.1)] [(2, ⟨47, 1, [[.c (.sl (rules.map Rule.row) sp)]], none⟩)] [] F0) (fun a => rules.length - a.1)
    (fun a => a.1 ≤ rules.length ∧ A' = onIf a.2.1 a.2.2 ((rules.drop a.1).flatMap standOf) ∧ a.2.2.length + ((rules.drop a.1).flatMap standOf).length ≤ 5000000 ∧ (a.2.1 = false → a.2.2 = [])) (0, true, []) (by simp [promoteT_st]) ⟨by simp, by simp [onIf, hA], by simpa only [List.length_nil, Nat.zero_add, List.drop_zero] using hn, by simp⟩ ?_
  rintro ⟨i, ok, m⟩ K hK ⟨hi, hd, hm, hok⟩
  simp only at hi hd hm hok
  by_cases hgo : i < rules.length ∧ ok = true
  · obtain ⟨hlt, rfl⟩ := hgo
    rw [List.drop_eq_getElem_cons hlt, List.flatMap_cons] at hd hm
    rw [List.length_append] at hm
    have hr := hs _ (List.getElem_mem hlt)
    have hme := m2127 (G := G) m (standOf rules[i]) [] (by omega)
    simp only [onIf, if_true, refMeets_append] at hd
    simp [ic2042l0, hlt]
    refine call_of (m2131 rules[i] hr) ?_
    simp
    refine call_of hme ?_
    cases hM : refMeets ltN m (standOf rules[i]) with
    | some m' =>
      rw [hM, Option.bind_some] at hd
      have hml := refMeets_len hM
      simp [meetR]
      simp (disch := omega) only [wrap64]
      exact hK (i + 1, true, m') _ (by simp) ⟨by simp; omega, by simpa [onIf] using hd, by simp only; omega, by simp⟩ (by simp; omega)
    | none =>
      rw [hM, Option.bind_none] at hd
      simp [meetR]
      simp (disch := omega) only [wrap64]
      exact hK (i + 1, false, []) _ (by simp) ⟨by simp; omega, by simpa [onIf] using hd, by simp only [List.length_nil]; omega, by simp⟩ (by simp; omega)
  · have hA2 : A' = if ok = true then some m else none := by
      rw [hd]
      unfold onIf
      cases ok with
      | true =>
        have hge : rules.length ≤ i := Nat.not_lt.1 fun h => hgo ⟨h, rfl⟩
        rw [List.drop_eq_nil_of_le hge]; rfl
      | false => rfl
    have hmn : m.length ≤ 5000000 := by omega
    clear hd hm hK
    have hx : (i < rules.length ∧ ok = false) ∨ rules.length ≤ i := by
      by_cases h : i < rules.length
      · left; refine ⟨h, ?_⟩; cases ok with
        | true => exact absurd ⟨h, rfl⟩ hgo
        | false => rfl
      · right; omega
    rcases hx with ⟨hlt, hokf⟩ | hge
    simp [ic2042l0, hlt, hokf]
    rotate_left
    simp [ic2042l0, Nat.not_lt.mpr hge]
    all_goals
      refine w_loopA [] [54] [1, 6, 7, 9] (by simp [ownKey])
        (fun a : Nat × Bool × List Pd => st [(1, .k true (.x (.one (.c (.sl (facts.map Fc.row) sq))))), (6, .k true (.x (.one (.c (.sl (a.2.2.map pdC) []))))), (7, .k true (rB a.2.1)), (9, tI .i64 a.1)] [(2, ⟨47, 1, [[.c (.sl (rules.map Rule.row) sp)]], none⟩)] [] F0) (fun a => facts.length - a.1)
        (fun a => a.1 ≤ facts.length ∧ R = onIf a.2.1 a.2.2 ((facts.drop a.1).map Fc.pd) ∧ a.2.2.length ≤ 5000000 + a.1 ∧ (a.2.1 = false → a.2.2 = [])) (0, ok, m) (by first | (simp; done) | simp [hokf]) ?_ ?_
      · refine ⟨by simp, ?_, by simp only; omega, hok⟩
        rw [hsplit, hA2]
        cases ok <;> rfl
      rintro ⟨j, ok2, m2⟩ K2 hK2 ⟨hj, hd2, hm2, hok2⟩
      simp only at hj hd2 hm2 hok2
      by_cases hgo2 : j < facts.length ∧ ok2 = true
      · obtain ⟨hlt2, rfl⟩ := hgo2
        rw [List.drop_eq_getElem_cons hlt2, List.map_cons] at hd2
        have hme := m2127 (G := G) m2 [facts[j].pd] [] (by simp; omega)
        simp only [List.map_cons, List.map_nil, pdC, Fc.pd] at hme
        simp only [onIf, if_true, refMeets] at hd2
        simp [ic2042l1, hlt2]
        refine call_of hme ?_
        have hone : refMeets ltN m2 [facts[j].pd] = refMeet ltN m2 facts[j].pd := by
          simp only [refMeets]
          cases refMeet ltN m2 facts[j].pd <;> rfl
        simp only [Fc.pd] at hone hd2
        rw [hone]
        cases hM : refMeet ltN m2 ⟨facts[j].p, facts[j].l.length⟩ with
        | some m' =>
          rw [hM] at hd2
          have hml := refMeet_len hM
          simp [meetR]
          simp (disch := omega) only [wrap64]
          exact hK2 (j + 1, true, m') _ (by simp) ⟨by simp; omega, by simpa [onIf] using hd2, by simp only; omega, by simp⟩ (by simp; omega)
        | none =>
          rw [hM] at hd2
          simp [meetR]
          simp (disch := omega) only [wrap64]
          exact hK2 (j + 1, false, []) _ (by simp) ⟨by simp; omega, by simpa [onIf] using hd2, by simp only [List.length_nil]; omega, by simp⟩ (by simp; omega)
      · have hR2 : R = if ok2 = true then some m2 else none := by
          rw [hd2]
          unfold onIf
          cases ok2 with
          | true =>
            have hge : facts.length ≤ j := Nat.not_lt.1 fun h => hgo2 ⟨h, rfl⟩
            rw [List.drop_eq_nil_of_le hge]; rfl
          | false => rfl
        cases ok2 with
        | true =>
          have hge2 : facts.length ≤ j := Nat.not_lt.1 fun h => hgo2 ⟨h, rfl⟩
          simp only [if_true] at hR2
          rw [hR2]
          simp [ic2042l1, Nat.not_lt.mpr hge2, predsR]
        | false =>
          simp only [Bool.false_eq_true, if_false] at hR2
          rw [hR2]
          obtain hlt2 | hge2 := Nat.lt_or_ge j facts.length
          · simp [ic2042l1, hlt2, predsR]
          · simp [ic2042l1, Nat.not_lt.mpr hge2, predsR]
end Go.Proofs.YtiomojlcnemnhaaGreatDoor

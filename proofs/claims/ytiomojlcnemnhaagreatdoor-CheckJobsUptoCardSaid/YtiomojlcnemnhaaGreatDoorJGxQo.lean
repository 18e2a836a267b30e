/- Contracts, on: may a job be run, the program's and the document's; the laws CheckJobs and CheckPreds. (Labels of 2000 and more: seat ZD.) -/
import Derived.Test.YtiomojlcnemnhaaGreatDoorJGxIcS
namespace Go.Proofs.YtiomojlcnemnhaaGreatDoor
open Go.Fx Go.RowKit Go.Ped
variable {G : World → Prop}

def rulesErr : List Rule → Int
  | [] => 0
  | r :: l => if ruleErr r = 0 then rulesErr l else ruleErr r
def factsErr : List Fc → Int
  | [] => 0
  | f :: l => if factOk f.p f.l = true then factsErr l else 10
def metCode : Option (List Pd) → Int
  | some _ => 0
  | none => 72
def jobErr (rules : List Rule) (facts : List Fc) (o : Option (List Pd)) : Int := if rulesErr rules ≠ 0 then rulesErr rules else if factsErr facts ≠ 0 then factsErr facts else metCode o
theorem predsR_code (o : Option (List Pd)) : ∃ l, predsR o = .tup [.one (.sl l []), .one (cI .i64 (metCode o))] := by
  cases o with
  | none => exact ⟨_, rfl⟩
  | some m => exact ⟨_, rfl⟩
/-- What the functions ask of what they are handed. -/
structure JobFit (rules : List Rule) (facts : List Fc) : Prop where
  rfit : ∀ r ∈ rules, r.fit
  rlen : rules.length ≤ 1048576
  ffit : ∀ f ∈ facts, f.l.length ≤ 1048576
  flen : facts.length ≤ 1048576
  stand : (rules.flatMap standOf).length ≤ 5000000
  names : ∀ p ∈ rules.flatMap standOf ++ facts.map Fc.pd, p.name.length ≤ maxLen
abbrev allPd (rules : List Rule) (facts : List Fc) : List Pd := rules.flatMap standOf ++ facts.map Fc.pd

theorem m2058 (rules : List Rule) (sp : Sp) (facts : List Fc) (sq : Sp) (h : JobFit rules facts) :
    Meets Tryz.prog G 58 [.one (.sl (rules.map Rule.row) sp), .one (.sl (facts.map Fc.row) sq)] (.x (.one (cI .i64 (jobErr rules facts (refMeets ltN [] (allPd rules facts)))))) := by
  have hp := m2043 (G := G) rules sp facts sq (fun r hr => (h.rfit r hr).1) h.rlen h.flen h.stand h.names
  rw [preds_eq] at hp
  obtain ⟨L, hL⟩ := predsR_code (refMeets ltN [] (allPd rules facts))
  rw [hL] at hp
  have hJ' : jobErr rules facts (refMeets ltN [] (allPd rules facts)) = (if rulesErr rules ≠ 0 then rulesErr rules else if factsErr facts ≠ 0 then factsErr facts else metCode (refMeets ltN [] (allPd rules facts))) := rfl
  rw [hJ']
  generalize metCode (refMeets ltN [] (allPd rules facts)) = M at *
  generalize hJ : (if rulesErr rules ≠ 0 then rulesErr rules else if factsErr facts ≠ 0 then factsErr facts else M) = J
  have hrl := h.rlen
  have hfl := h.flen
  refine meets Tryz.func58 ie2058 ig2058 (Nat.le_of_ble_eq_true rfl) ?_
  simp [ic2058, ir2058]
  refine w_loopA [] [6] [0, 1, 13, 14, 15] (by simp [ownKey])
    (fun i : Nat => st [(0, .k true (.x (.one (.c (.sl (rules.map Rule.row) sp))))), (1, .k true (.x (.one (.c (.sl (facts.map Fc.row) sq))))), (13, .k true (.x (.one (.c (.sl (rules.map Rule.row) sp))))), (14, tI .i64 rules.length), (15, tI .i64 i)] [] [] F0) (fun i => rules.length - i)
    (fun i => i ≤ rules.length ∧ rulesErr rules = rulesErr (rules.drop i)) 0 (by simp) (by simp) ?_
  rintro i K hK ⟨hi, hd⟩
  obtain hlt | hge := Nat.lt_or_ge i rules.length
  · rw [List.drop_eq_getElem_cons hlt, rulesErr] at hd
    simp [ic2058l0, hlt]
    refine call_of (m85 rules[i] (h.rfit _ (List.getElem_mem hlt))) ?_
    simp
    by_cases h0 : ruleErr rules[i] = 0
    · rw [if_pos h0] at hd
      simp [h0]
      simp (disch := omega) only [wrap64]
      exact hK (i + 1) _ (by simp) ⟨by omega, hd⟩ (by omega)
    · rw [if_neg h0] at hd
      rw [if_pos (by rw [hd]; exact h0), hd] at hJ
      subst hJ
      simp [h0]
  · rw [List.drop_eq_nil_of_le hge, rulesErr] at hd
    rw [if_neg (by simpa using hd)] at hJ
    clear hd hK
    simp [ic2058l0, Nat.not_lt.mpr hge]
    refine w_loopA [] [9] [0, 1, 25, 26, 27] (by simp [ownKey])
      (fun i : Nat => st [(0, .k true (.x (.one (.c (.sl (rules.map Rule.row) sp))))), (1, .k true (.x (.one (.c (.sl (facts.map Fc.row) sq))))), (25, .k true (.x (.one (.c (.sl (facts.map Fc.row) sq))))), (26, tI .i64 facts.length), (27, tI .i64 i)] [] [] F0) (fun i => facts.length - i)
      (fun i => i ≤ facts.length ∧ factsErr facts = factsErr (facts.drop i)) 0 (by simp) (by simp) ?_
    rintro j K2 hK2 ⟨hj, hd2⟩
    obtain hlt2 | hge2 := Nat.lt_or_ge j facts.length
    · rw [List.drop_eq_getElem_cons hlt2, factsErr] at hd2
      have hm := m2116 (G := G) facts[j].p facts[j].l facts[j].sp (h.ffit _ (List.getElem_mem hlt2))
      simp [ic2058l1, hlt2]
      refine call_of hm ?_
      simp
      by_cases h0 : factOk facts[j].p facts[j].l = true
      · rw [if_pos h0] at hd2
        simp [h0]
        simp (disch := omega) only [wrap64]
        exact hK2 (j + 1) _ (by simp) ⟨by omega, hd2⟩ (by omega)
      · rw [if_neg h0] at hd2
        rw [if_pos (by rw [hd2]; decide), hd2] at hJ
        subst hJ
        simp [h0]
    · rw [List.drop_eq_nil_of_le hge2, factsErr] at hd2
      rw [if_neg (by simpa using hd2)] at hJ
      subst hJ
      simp [ic2058l1, Nat.not_lt.mpr hge2]
      refine call_of hp ?_
      simp

theorem m2059 (rules : List Rule) (sp : Sp) (facts : List Fc) (sq : Sp) (h : JobFit rules facts) :
    Meets Tryz.prog G 59 [.one (.sl (rules.map Rule.row) sp), .one (.sl (facts.map Fc.row) sq)] (.x (.one (cI .i64 (jobErr rules facts (refMeets ltN [] (allPd rules facts)))))) := by
  have hp := m2042 (G := G) rules sp facts sq (fun r hr => (h.rfit r hr).1) h.rlen h.flen h.stand
  obtain ⟨L, hL⟩ := predsR_code (refMeets ltN [] (allPd rules facts))
  rw [hL] at hp
  have hJ' : jobErr rules facts (refMeets ltN [] (allPd rules facts)) = (if rulesErr rules ≠ 0 then rulesErr rules else if factsErr facts ≠ 0 then factsErr facts else metCode (refMeets ltN [] (allPd rules facts))) := rfl
  rw [hJ']
  generalize metCode (refMeets ltN [] (allPd rules facts)) = M at *
  generalize hJ : (if rulesErr rules ≠ 0 then rulesErr rules else if factsErr facts ≠ 0 then factsErr facts else M) = J
  have hrl := h.rlen
  have hfl := h.flen
  refine meets Tryz.func59 ie2059 ig2059 (Nat.le_of_ble_eq_true rfl) ?_
  simp [ic2059, ir2059]
  refine w_loopA [] [] [0, 1, 5] (by simp)
    (fun i : Nat => st [(0, .k true (.x (.one (.c (.sl (rules.map Rule.row) sp))))), (1, .k true (.x (.one (.c (.sl (facts.map Fc.row) sq))))), (5, tI .i64 i)] [] [] F0) (fun i => rules.length - i)
    (fun i => i ≤ rules.length ∧ rulesErr rules = rulesErr (rules.drop i)) 0 (by simp) (by simp) ?_
  rintro i K hK ⟨hi, hd⟩
  obtain hlt | hge := Nat.lt_or_ge i rules.length
  · rw [List.drop_eq_getElem_cons hlt, rulesErr] at hd
    simp [ic2059l0, hlt]
    refine call_of (m2027 rules[i] (h.rfit _ (List.getElem_mem hlt))) ?_
    simp
    by_cases h0 : ruleErr rules[i] = 0
    · rw [if_pos h0] at hd
      simp [h0]
      simp (disch := omega) only [wrap64]
      exact hK (i + 1) _ (by simp) ⟨by omega, hd⟩ (by omega)
    · rw [if_neg h0] at hd
      rw [if_pos (by rw [hd]; exact h0), hd] at hJ
      subst hJ
      simp [h0]
  · rw [List.drop_eq_nil_of_le hge, rulesErr] at hd
    rw [if_neg (by simpa using hd)] at hJ
    clear hd hK
    simp [ic2059l0, Nat.not_lt.mpr hge]
    refine w_loopA [] [] [0, 1, 7] (by simp)
      (fun i : Nat => st [(0, .k true (.x (.one (.c (.sl (rules.map Rule.row) sp))))), (1, .k true (.x (.one (.c (.sl (facts.map Fc.row) sq))))), (7, tI .i64 i)] [] [] F0) (fun i => facts.length - i)
      (fun i => i ≤ facts.length ∧ factsErr facts = factsErr (facts.drop i)) 0 (by simp) (by simp) ?_
    rintro j K2 hK2 ⟨hj, hd2⟩
    obtain hlt2 | hge2 := Nat.lt_or_ge j facts.length
    · rw [List.drop_eq_getElem_cons hlt2, factsErr] at hd2
      have hm := m2160 (G := G) facts[j] (h.ffit _ (List.getElem_mem hlt2))
      simp [ic2059l1, hlt2]
      refine call_of hm ?_
      simp
      by_cases h0 : factOk facts[j].p facts[j].l = true
      · rw [if_pos h0] at hd2
        simp [h0]
        simp (disch := omega) only [wrap64]
        exact hK2 (j + 1) _ (by simp) ⟨by omega, hd2⟩ (by omega)
      · rw [if_neg h0] at hd2
        rw [if_pos (by rw [hd2]; decide), hd2] at hJ
        subst hJ
        simp [h0]
    · rw [List.drop_eq_nil_of_le hge2, factsErr] at hd2
      rw [if_neg (by simpa using hd2)] at hJ
      subst hJ
      simp [ic2059l1, Nat.not_lt.mpr hge2]
      refine call_of hp ?_
      simp

theorem rulesErr_tw : ∀ l : List Rule, rulesErr (l.map Rule.tw) = rulesErr l
  | [] => rfl
  | r :: l => by rw [List.map_cons, rulesErr, rulesErr, ruleErr_tw, rulesErr_tw l]
theorem factsErr_tw : ∀ l : List Fc, factsErr (l.map Fc.tw) = factsErr l
  | [] => rfl
  | f :: l => by
    have h : factOk f.tw.p f.tw.l = factOk f.p f.l := rfl
    rw [List.map_cons, factsErr, factsErr, h, factsErr_tw l]
theorem allPd_tw (rules : List Rule) (facts : List Fc) : allPd (rules.map Rule.tw) (facts.map Fc.tw) = allPd rules facts := by
  unfold allPd
  congr 1
  · rw [List.flatMap_map]
    congr 1
    funext r
    exact stand_tw r
  · rw [List.map_map]; rfl
theorem fit_job {rules : List Rule} {facts : List Fc} (h : JobFit rules facts) : JobFit (rules.map Rule.tw) (facts.map Fc.tw) := by
  have e := allPd_tw rules facts
  refine ⟨fun r hr => ?_, by simpa using h.rlen, fun f hf => ?_, by simpa using h.flen, ?_, fun p hp => ?_⟩
  · obtain ⟨y, hy, rfl⟩ := List.mem_map.1 hr; exact fit_twr (h.rfit y hy)
  · obtain ⟨y, hy, rfl⟩ := List.mem_map.1 hf; exact h.ffit y hy
  · have : (rules.map Rule.tw).flatMap standOf = rules.flatMap standOf := by
      rw [List.flatMap_map]
      congr 1
      funext r
      exact stand_tw r
    rw [this]; exact h.stand
  · rw [show (rules.map Rule.tw).flatMap standOf ++ (facts.map Fc.tw).map Fc.pd = allPd rules facts from e] at hp
    exact h.names p hp

theorem m2010 (rules : List Rule) (sp : Sp) (facts : List Fc) (sq : Sp) (h : JobFit rules facts) : Meets Tryz.prog GT 10 [.one (.sl (rules.map Rule.row) sp), .one (.sl (facts.map Fc.row) sq)] (.x (.one (cB true))) := by
  have hs1 : ∀ r ∈ rules, r.small 1048576 := fun r hr => (h.rfit r hr).1
  have h35 := m2035 (G := GT) rules sp facts sq hs1 h.rlen h.ffit h.flen
  have h57 := m2057 rules sp h.rlen hs1
  have h37 := m2037 facts sq h.flen h.ffit
  have h58 := m2058 (G := GT) (rules.map Rule.tw) [ruleMark.row] (facts.map Fc.tw) [factMark.row] (fit_job h)
  have h59 := m2059 (G := GT) rules sp facts sq h
  have h60 := m2060 rules sp h.rlen hs1
  have h41 := m2041 facts sq h.flen h.ffit
  rw [allPd_tw] at h58
  unfold jobErr at h58 h59
  rw [rulesErr_tw, factsErr_tw] at h58
  generalize (if rulesErr rules ≠ 0 then rulesErr rules else if factsErr facts ≠ 0 then factsErr facts else metCode (refMeets ltN [] (allPd rules facts))) = J at *
  generalize (rules.map Rule.tw).map Rule.row = X at *
  generalize (facts.map Fc.tw).map Fc.row = Y at *
  refine meets Tryz.func10 ie2010 ig2010 (Nat.le_of_ble_eq_true rfl) ?_
  simp [ic2010, ir2010]
  refine call_of h35 ?_
  simp
  refine condI_of (fun h => ?_) (fun h => ?_)
  · simp
  simp
  refine call_of h57 ?_
  simp
  refine call_of h37 ?_
  simp
  refine call_of h58 ?_
  simp
  refine call_of h59 ?_
  simp
  refine call_of h60 ?_
  simp
  refine call_of h41 ?_
  simp

end Go.Proofs.YtiomojlcnemnhaaGreatDoor

import Derived.Test.YtiomojlcnemnhaaGreatDoorPFxWb
import Derived.Test.YtiomojlcnemnhaaGreatDoorProg
import Derived.KernelRfl
import Derived.Test.YtiomojlcnemnhaaGreatDoorPGxQn
/- Functions of the seat, as the small language has them. -/
namespace Go.Proofs.YtiomojlcnemnhaaGreatDoor
open Go.Fx
end Go.Proofs.YtiomojlcnemnhaaGreatDoor

/- Contracts, on: may a job be run, the program's and the document's; the laws CheckJobs and CheckPreds. (Labels of 2000 and more: seat ZD.) -/
namespace Go.Proofs.YtiomojlcnemnhaaGreatDoor
open Go.Fx Go.RowKit Go.Ped
variable {G : World → Prop}

/-- What the functions ask of what they are handed. -/
structure JobFit (rules : List Rule) (facts : List Fc) : Prop where
  rfit : ∀ r ∈ rules, r.fit
  rlen : rules.length ≤ 1048576
  ffit : ∀ f ∈ facts, f.l.length ≤ 1048576
  flen : facts.length ≤ 1048576
  stand : (rules.flatMap standOf).length ≤ 5000000
  names : ∀ p ∈ rules.flatMap standOf ++ facts.map Fc.pd, p.name.length ≤ maxLen
abbrev allPd (rules : List Rule) (facts : List Fc) : List Pd := rules.flatMap standOf ++ facts.map Fc.pd

theorem eq_pd (p : Pd) : eqRows [.s, .i .i64] ((pdC p).map A.c) ((pdC p).map A.c) = some true := by
  simp [eqRows, pdC]
theorem m2044 (l : List Pd) (sp sq : Sp) (hl : l.length ≤ 100000000) : Meets Tryz.prog G 44 [.one (.sl (l.map pdC) sp), .one (.sl (l.map pdC) sq)] (.x (.one (cB true))) := by
  refine meets Tryz.func44 ie2044 ig2044 (Nat.le_of_ble_eq_true rfl) ?_
  simp [ic2044, ir2044]
  refine w_loopA [] [] [0, 1, 5] (by simp)
    (fun i : Nat => st [(0, .k true (.x (.one (.c (.sl (l.map pdC) sp))))), (1, .k true (.x (.one (.c (.sl (l.map pdC) sq))))), (5, tI .i64 i)] [] [] F0) (fun i => l.length - i) (fun i => i ≤ l.length) 0 (by simp) (by simp) ?_
  rintro i K hK hi
  obtain hlt | hge := Nat.lt_or_ge i l.length
  · simp [ic2044l0, hlt, eq_pd]
    simp (disch := omega) only [wrap64]
    exact hK (i + 1) _ (by simp) (by omega) (by omega)
  · simp [ic2044l0, Nat.not_lt.mpr hge]

theorem allPd_tw (rules : List Rule) (facts : List Fc) : allPd (rules.map Rule.tw) (facts.map Fc.tw) = allPd rules facts := by
  unfold allPd
  congr 1
  · rw [List.flatMap_map]
    congr 1
    funext r
    exact stand_tw r
  · rw [List.map_map]; rfl
theorem fit_job {rules : List Rule} {facts : List Fc} (h : JobFit rules facts) : JobFit (rules.map Rule.tw) (facts.map Fc.tw) := by
  have e := allPd_tw rules facts
  refine ⟨fun r hr => ?_, by simpa using h.rlen, fun f hf => ?_, by simpa using h.flen, ?_, fun p hp => ?_⟩
  · obtain ⟨y, hy, rfl⟩ := List.mem_map.1 hr; exact fit_twr (h.rfit y hy)
  · obtain ⟨y, hy, rfl⟩ := List.mem_map.1 hf; exact h.ffit y hy
  · have : (rules.map Rule.tw).flatMap standOf = rules.flatMap standOf := by
      rw [List.flatMap_map]
      congr 1
      funext r
      exact stand_tw r
    rw [this]; exact h.stand
  · rw [show (rules.map Rule.tw).flatMap standOf ++ (facts.map Fc.tw).map Fc.pd = allPd rules facts from e] at hp
    exact h.names p hp

theorem m2007 (rules : List Rule) (sp : Sp) (facts : List Fc) (sq : Sp) (h : JobFit rules facts) : Meets Tryz.prog GT 7 [.agg [.sl (rules.map Rule.row) sp], .one (.sl (facts.map Fc.row) sq)] (.x (.one (cB true))) := by
  have hs1 : ∀ r ∈ rules, r.small 1048576 := fun r hr => (h.rfit r hr).1
  have ht := fit_job h
  have h35 := m2035 (G := GT) rules sp facts sq hs1 h.rlen h.ffit h.flen
  have h42 := m2042 (G := GT) rules sp facts sq hs1 h.rlen h.flen h.stand
  have h36 := m2036 rules sp h.rlen hs1
  have h37 := m2037 facts sq h.flen h.ffit
  have h43 := m2043 (G := GT) (rules.map Rule.tw) [ruleMark.row] (facts.map Fc.tw) [factMark.row] (fun r hr => (ht.rfit r hr).1) ht.rlen ht.flen ht.stand ht.names
  have h40 := m2040 rules sp h.rlen hs1
  have h41 := m2041 facts sq h.flen h.ffit
  rw [preds_eq, show (rules.map Rule.tw).flatMap standOf ++ (facts.map Fc.tw).map Fc.pd = allPd rules facts from allPd_tw rules facts] at h43
  have hlen : ∀ m, refMeets ltN [] (allPd rules facts) = some m → m.length ≤ 100000000 := fun m hm => by
    have h1 := refMeets_len hm
    have h2 := h.stand
    have h3 := h.flen
    simp only [allPd, List.length_append, List.length_map, List.length_nil] at h1
    omega
  have hL : ∃ l : List Pd, ∃ c : Int, predsR (refMeets ltN [] (allPd rules facts)) = .tup [.one (.sl (l.map pdC) []), .one (cI .i64 c)] ∧ l.length ≤ 100000000 := by
    cases hR : refMeets ltN [] (allPd rules facts) with
    | none => exact ⟨[], _, rfl, by simp⟩
    | some m => exact ⟨m, _, rfl, hlen m hR⟩
  obtain ⟨L, c, hLe, hLn⟩ := hL
  rw [hLe] at h42 h43
  have h44 := m2044 (G := GT) L [] [] hLn
  generalize (rules.map Rule.tw).map Rule.row = X at *
  generalize (facts.map Fc.tw).map Fc.row = Y at *
  refine meets Tryz.func7 ie2007 ig2007 (Nat.le_of_ble_eq_true rfl) ?_
  simp [ic2007, ir2007]
  refine call_of h35 ?_
  simp
  refine condI_of (fun h => ?_) (fun h => ?_)
  · simp
  simp
  refine call_of h42 ?_
  simp
  refine call_of h36 ?_
  simp
  refine call_of h37 ?_
  simp
  refine call_of h43 ?_
  simp
  refine call_of h44 ?_
  simp
  refine call_of h40 ?_
  simp
  refine call_of h41 ?_
  simp
end Go.Proofs.YtiomojlcnemnhaaGreatDoor

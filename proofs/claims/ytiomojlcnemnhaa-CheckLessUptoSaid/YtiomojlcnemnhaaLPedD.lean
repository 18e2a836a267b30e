import Derived.Test.YtiomojlcnemnhaaLFxWb
import Derived.Test.YtiomojlcnemnhaaProg
import Derived.KernelRfl
import Derived.Test.YtiomojlcnemnhaaLHxQn
import Derived.Test.YtiomojlcnemnhaaLHxQ5
/- Functions of the seat, as the small language has them. -/
namespace Go.Proofs.Ytiomojlcnemnhaa
open Go.Fx

/-- pedigree/pedigreelaw07.lives -/
def ic2062 : IC :=
 (.seq
 (.region [] [] [1, 2, 3, 4, 5, 0] [
 ⟨(some 0), (.move (.k (rB false))), none, none⟩])
 (.seq
 (.region [1] [] [1, 2, 3, 4, 5, 0] [
 ⟨(some 6), (.build [(.c (.v (.string (bs [])))), (.c (.v (.int .i8 0))), (.c (.v (.int .i64 0))), (.c (.v (.string (bs []))))] [(0, 1, (.k (rS (bs [88]))))]), none, none⟩,
 ⟨(some 1), (.zero 27 [(.c (.v (.string (bs [])))), (.c (.v (.int .i8 0))), (.c (.v (.int .i64 0))), (.c (.v (.string (bs []))))]), none, none⟩,
 ⟨none, (.store (some 4) (.t 1) (.t 6)), none, none⟩])
 (.seq
 (.region [8, 2] [] [1, 2, 3, 4, 5, 0] [
 ⟨(some 7), (.load (some 4) (.t 1)), none, none⟩,
 ⟨(some 8), (.row 27 4 [(.t 7)]), none, none⟩,
 ⟨(some 9), (.build [(.c (.v (.string (bs [])))), .nil] [(0, 1, (.k (rS (bs [113])))), (1, 1, (.t 8))]), none, none⟩,
 ⟨(some 10), (.build [(.c (.v (.int .i8 0))), (.c (.v (.string (bs [])))), .nil, (.c (.v (.int .i8 0))), (.c (.v (.int .i8 0))), (.c (.v (.string (bs [])))), (.c (.v (.int .i8 0))), (.c (.v (.int .i64 0))), (.c (.v (.string (bs [])))), .nil, (.c (.v (.int .i8 0))), (.c (.v (.string (bs [])))), (.c (.v (.int .i8 0))), (.c (.v (.int .i64 0))), (.c (.v (.string (bs [])))), .nil] [(0, 1, (.k (rI .i8 1))), (1, 2, (.t 9))]), none, none⟩,
 ⟨(some 2), (.zero 129 [(.c (.v (.int .i8 0))), (.c (.v (.string (bs [])))), .nil, (.c (.v (.int .i8 0))), (.c (.v (.int .i8 0))), (.c (.v (.string (bs [])))), (.c (.v (.int .i8 0))), (.c (.v (.int .i64 0))), (.c (.v (.string (bs [])))), .nil, (.c (.v (.int .i8 0))), (.c (.v (.string (bs [])))), (.c (.v (.int .i8 0))), (.c (.v (.int .i64 0))), (.c (.v (.string (bs [])))), .nil]), none, none⟩,
 ⟨none, (.store (some 16) (.t 2) (.t 10)), none, none⟩])
 (.seq
 (.region [13, 15, 3] [] [1, 2, 3, 4, 5, 0] [
 ⟨(some 11), (.load (some 4) (.t 1)), none, none⟩,
 ⟨(some 12), (.build [(.c (.v (.int .i8 0))), (.c (.v (.string (bs [])))), (.c (.v (.int .i8 0))), (.c (.v (.int .i64 0))), (.c (.v (.string (bs []))))] [(1, 4, (.t 11))]), none, none⟩,
 ⟨(some 13), (.row 189 5 [(.t 12)]), none, none⟩,
 ⟨(some 14), (.load (some 16) (.t 2)), none, none⟩,
 ⟨(some 15), (.row 129 16 [(.t 14)]), none, none⟩,
 ⟨(some 16), (.build [(.c (.v (.string (bs [])))), .nil, .nil] [(0, 1, (.k (rS (bs [112])))), (1, 1, (.t 13)), (2, 1, (.t 15))]), none, none⟩,
 ⟨(some 3), (.zero 186 [(.c (.v (.string (bs [])))), .nil, .nil]), none, none⟩,
 ⟨none, (.store (some 3) (.t 3) (.t 16)), none, none⟩])
 (.seq
 (.region [19, 4] [] [1, 2, 3, 4, 5, 0] [
 ⟨(some 17), (.load (some 4) (.t 1)), none, none⟩,
 ⟨(some 18), (.build [(.c (.v (.int .i8 0))), (.c (.v (.string (bs [])))), (.c (.v (.int .i8 0))), (.c (.v (.int .i64 0))), (.c (.v (.string (bs []))))] [(1, 4, (.t 17))]), none, none⟩,
 ⟨(some 19), (.row 189 5 [(.t 18)]), none, none⟩,
 ⟨(some 20), (.build [(.c (.v (.string (bs [])))), .nil, .nil] [(0, 1, (.k (rS (bs [112])))), (1, 1, (.t 19))]), none, none⟩,
 ⟨(some 4), (.zero 186 [(.c (.v (.string (bs [])))), .nil, .nil]), none, none⟩,
 ⟨none, (.store (some 3) (.t 4) (.t 20)), none, none⟩])
 (.seq
 (.region [] [] [1, 2, 3, 4, 5, 0] [
 ⟨(some 21), (.faddr 2 (.t 3)), none, none⟩,
 ⟨(some 22), (.load none (.t 21)), none, none⟩,
 ⟨(some 23), (.callp (.k (rF 31)) [(.t 22)]), none, none⟩,
 ⟨(some 5), (.move (.t 23)), none, none⟩])
 (.seq
 (.region [46] [] [1, 2, 3, 4, 5, 0] [
 ⟨(some 24), (.load (some 3) (.t 3)), none, none⟩,
 ⟨(some 25), (.callp (.k (rF 65)) [(.t 24)]), none, none⟩,
 ⟨(some 26), (.bin .eql (.t 25) (.k (rI .i64 0))), none, none⟩,
 ⟨(some 27), (.move (.t 26)), none, none⟩,
 ⟨(some 28), (.load (some 3) (.t 4)), some (27, true), none⟩,
 ⟨(some 29), (.callp (.k (rF 65)) [(.t 28)]), some (27, true), none⟩,
 ⟨(some 30), (.bin .eql (.t 29) (.k (rI .i64 73))), some (27, true), none⟩,
 ⟨(some 31), (.pick (.t 27) (.t 30) (.k (rB false))), none, none⟩,
 ⟨(some 32), (.move (.t 31)), none, none⟩,
 ⟨(some 33), (.move (.t 5)), some (32, true), none⟩,
 ⟨(some 34), (.len (.t 33)), some (32, true), none⟩,
 ⟨(some 35), (.bin .eql (.t 34) (.k (rI .i64 1))), some (32, true), none⟩,
 ⟨(some 36), (.pick (.t 32) (.t 35) (.k (rB false))), none, none⟩,
 ⟨(some 37), (.move (.t 36)), none, none⟩,
 ⟨(some 38), (.move (.t 5)), some (37, true), none⟩,
 ⟨(some 39), (.iaddr 1 (.t 38) (.k (rI .i64 0))), some (37, true), none⟩,
 ⟨(some 40), (.load none (.t 39)), some (37, true), none⟩,
 ⟨(some 41), (.bin .eql (.t 40) (.k (rS (bs [88])))), some (37, true), none⟩,
 ⟨(some 42), (.pick (.t 37) (.t 41) (.k (rB false))), none, none⟩,
 ⟨(some 43), (.move (.t 42)), none, none⟩,
 ⟨(some 44), (.load (some 3) (.t 3)), some (43, true), none⟩,
 ⟨(some 45), (.load (some 3) (.t 4)), some (43, true), none⟩,
 ⟨(some 46), (.row 186 3 [(.t 44), (.t 45)]), some (43, true), none⟩,
 ⟨(some 47), (.callp (.k (rF 34)) [(.t 46), (.k (.x (.one .nil)))]), some (43, true), none⟩,
 ⟨(some 48), (.bin .eql (.t 47) (.k (rI .i64 73))), some (43, true), none⟩,
 ⟨(some 49), (.pick (.t 43) (.t 48) (.k (rB false))), none, none⟩,
 ⟨(some 0), (.move (.t 49)), none, none⟩])
 .ret)))))))
def ir2062 : List IRes := [.tmp 0]
theorem ie2062 : cmpFunc Go.Proofs.Try.prog ⟨[], []⟩ Go.Proofs.Try.f30 [1, 2, 3, 4, 5, 0] = some ic2062 := by kernel_rfl
theorem ig2062 : cmpRes Go.Proofs.Try.prog Go.Proofs.Try.f30.results.toList = some ir2062 := by kernel_rfl

def ic2058l0 : IC :=
 (.seq
 (.region [] [] [0, 15, 14, 16, 13, 6, 7, 22, 1, 27, 26, 28, 25, 9, 10, 34, 12, 4] [
 ⟨(some 16), (.bin .lss (.t 15) (.t 14)), none, none⟩])
 (.seq
 (.cond (.t 16)
 .skip
 (.exit 0))
 (.seq
 (.block 1
 (.seq
 (.region [6] [] [0, 15, 14, 16, 13, 6, 7, 22, 1, 27, 26, 28, 25, 9, 10, 34, 12, 4] [
 ⟨(some 17), (.iaddr 3 (.t 13) (.t 15)), none, none⟩,
 ⟨(some 18), (.load (some 3) (.t 17)), none, none⟩,
 ⟨(some 6), (.zero 186 [(.c (.v (.string (bs [])))), .nil, .nil]), none, none⟩,
 ⟨none, (.store (some 3) (.t 6) (.t 18)), none, none⟩])
 (.seq
 (.region [] [] [0, 15, 14, 16, 13, 6, 7, 22, 1, 27, 26, 28, 25, 9, 10, 34, 12, 4] [
 ⟨(some 19), (.load (some 3) (.t 6)), none, none⟩,
 ⟨(some 20), (.callp (.k (rF 65)) [(.t 19)]), none, none⟩,
 ⟨(some 7), (.move (.t 20)), none, none⟩])
 (.seq
 (.region [] [] [0, 15, 14, 16, 13, 6, 7, 22, 1, 27, 26, 28, 25, 9, 10, 34, 12, 4] [
 ⟨(some 21), (.move (.t 7)), none, none⟩,
 ⟨(some 22), (.bin .neq (.t 21) (.k (rI .i64 0))), none, none⟩])
 (.cond (.t 22)
 (.seq
 (.region [] [] [0, 15, 14, 16, 13, 6, 7, 22, 1, 27, 26, 28, 25, 9, 10, 34, 12, 4] [
 ⟨(some 23), (.move (.t 7)), none, none⟩,
 ⟨(some 4), (.move (.t 23)), none, none⟩])
 .ret)
 .skip)))))
 (.region [] [] [0, 15, 14, 16, 13, 6, 7, 22, 1, 27, 26, 28, 25, 9, 10, 34, 12, 4] [
 ⟨(some 24), (.bin .add (.t 15) (.k (rI .i64 1))), none, none⟩,
 ⟨(some 15), (.move (.t 24)), none, none⟩]))))

def ic2058l1 : IC :=
 (.seq
 (.region [] [] [0, 15, 14, 16, 13, 6, 7, 22, 1, 27, 26, 28, 25, 9, 10, 34, 12, 4] [
 ⟨(some 28), (.bin .lss (.t 27) (.t 26)), none, none⟩])
 (.seq
 (.cond (.t 28)
 .skip
 (.exit 2))
 (.seq
 (.block 3
 (.seq
 (.region [9] [] [0, 15, 14, 16, 13, 6, 7, 22, 1, 27, 26, 28, 25, 9, 10, 34, 12, 4] [
 ⟨(some 29), (.iaddr 2 (.t 25) (.t 27)), none, none⟩,
 ⟨(some 30), (.load (some 2) (.t 29)), none, none⟩,
 ⟨(some 9), (.zero 201 [(.c (.v (.string (bs [])))), .nil]), none, none⟩,
 ⟨none, (.store (some 2) (.t 9) (.t 30)), none, none⟩])
 (.seq
 (.region [] [] [0, 15, 14, 16, 13, 6, 7, 22, 1, 27, 26, 28, 25, 9, 10, 34, 12, 4] [
 ⟨(some 31), (.load (some 2) (.t 9)), none, none⟩,
 ⟨(some 32), (.callp (.k (rF 70)) [(.t 31)]), none, none⟩,
 ⟨(some 10), (.move (.t 32)), none, none⟩])
 (.seq
 (.region [] [] [0, 15, 14, 16, 13, 6, 7, 22, 1, 27, 26, 28, 25, 9, 10, 34, 12, 4] [
 ⟨(some 33), (.move (.t 10)), none, none⟩,
 ⟨(some 34), (.bin .neq (.t 33) (.k (rI .i64 0))), none, none⟩])
 (.cond (.t 34)
 (.seq
 (.region [] [] [0, 15, 14, 16, 13, 6, 7, 22, 1, 27, 26, 28, 25, 9, 10, 34, 12, 4] [
 ⟨(some 35), (.move (.t 10)), none, none⟩,
 ⟨(some 4), (.move (.t 35)), none, none⟩])
 .ret)
 .skip)))))
 (.region [] [] [0, 15, 14, 16, 13, 6, 7, 22, 1, 27, 26, 28, 25, 9, 10, 34, 12, 4] [
 ⟨(some 36), (.bin .add (.t 27) (.k (rI .i64 1))), none, none⟩,
 ⟨(some 27), (.move (.t 36)), none, none⟩]))))

/-- pedigree/check.Job -/
def ic2058 : IC :=
 (.seq
 (.region [] [] [0, 15, 14, 16, 13, 6, 7, 22, 1, 27, 26, 28, 25, 9, 10, 34, 12, 4] [
 ⟨(some 4), (.move (.k (rI .i64 0))), none, none⟩])
 (.seq
 (.seq
 (.region [] [] [0, 15, 14, 16, 13, 6, 7, 22, 1, 27, 26, 28, 25, 9, 10, 34, 12, 4] [
 ⟨(some 13), (.move (.t 0)), none, none⟩,
 ⟨(some 14), (.len (.t 13)), none, none⟩,
 ⟨(some 15), (.move (.k (rI .i64 0))), none, none⟩])
 (.block 0
 (.loop ic2058l0)))
 (.seq
 (.seq
 (.region [] [] [0, 15, 14, 16, 13, 6, 7, 22, 1, 27, 26, 28, 25, 9, 10, 34, 12, 4] [
 ⟨(some 25), (.move (.t 1)), none, none⟩,
 ⟨(some 26), (.len (.t 25)), none, none⟩,
 ⟨(some 27), (.move (.k (rI .i64 0))), none, none⟩])
 (.block 2
 (.loop ic2058l1)))
 (.seq
 (.region [] [] [0, 15, 14, 16, 13, 6, 7, 22, 1, 27, 26, 28, 25, 9, 10, 34, 12, 4] [
 ⟨(some 38), (.move (.t 0)), none, none⟩,
 ⟨(some 39), (.build [.nil] [(0, 1, (.t 38))]), none, none⟩,
 ⟨(some 40), (.move (.t 1)), none, none⟩,
 ⟨(some 41), (.callp (.k (rF 39)) [(.t 39), (.t 40)]), none, none⟩,
 ⟨(some 37), (.move (.t 41)), none, none⟩,
 ⟨(some 42), (.ext (.t 37) 0), none, none⟩,
 ⟨(some 43), (.ext (.t 37) 1), none, none⟩,
 ⟨(some 11), (.move (.t 42)), none, none⟩,
 ⟨(some 12), (.move (.t 43)), none, none⟩])
 (.seq
 (.region [] [] [0, 15, 14, 16, 13, 6, 7, 22, 1, 27, 26, 28, 25, 9, 10, 34, 12, 4] [
 ⟨(some 44), (.move (.t 12)), none, none⟩,
 ⟨(some 4), (.move (.t 44)), none, none⟩])
 .ret)))))
def ir2058 : List IRes := [.tmp 4]
theorem ie2058 : cmpFunc Go.Proofs.Try.prog ⟨[], []⟩ Go.Proofs.Try.f34 [0, 15, 14, 16, 13, 6, 7, 22, 1, 27, 26, 28, 25, 9, 10, 34, 12, 4] = some ic2058 := by kernel_rfl
theorem ig2058 : cmpRes Go.Proofs.Try.prog Go.Proofs.Try.f34.results.toList = some ir2058 := by kernel_rfl

end Go.Proofs.Ytiomojlcnemnhaa

/- Contracts, on: may a job be run, the program's and the document's; the laws CheckJobs and CheckPreds. (Labels of 2000 and more: seat ZD.) -/
namespace Go.Proofs.Ytiomojlcnemnhaa
open Go.Fx Go.RowKit Go.Ped
variable {G : World → Prop}

def rulesErr : List Rule → Int
  | [] => 0
  | r :: l => if ruleErr r = 0 then rulesErr l else ruleErr r
def factsErr : List Fc → Int
  | [] => 0
  | f :: l => if factOk f.p f.l = true then factsErr l else 10
def metCode : Option (List Pd) → Int
  | some _ => 0
  | none => 72
def jobErr (rules : List Rule) (facts : List Fc) (o : Option (List Pd)) : Int := if rulesErr rules ≠ 0 then rulesErr rules else if factsErr facts ≠ 0 then factsErr facts else metCode o
theorem predsR_code (o : Option (List Pd)) : ∃ l, predsR o = .tup [.one (.sl l []), .one (cI .i64 (metCode o))] := by
  cases o with
  | none => exact ⟨_, rfl⟩
  | some m => exact ⟨_, rfl⟩
/-- What the functions ask of what they are handed. -/
structure JobFit (rules : List Rule) (facts : List Fc) : Prop where
  rfit : ∀ r ∈ rules, r.fit
  rlen : rules.length ≤ 1048576
  ffit : ∀ f ∈ facts, f.l.length ≤ 1048576
  flen : facts.length ≤ 1048576
  stand : (rules.flatMap standOf).length ≤ 5000000
  names : ∀ p ∈ rules.flatMap standOf ++ facts.map Fc.pd, p.name.length ≤ maxLen
abbrev allPd (rules : List Rule) (facts : List Fc) : List Pd := rules.flatMap standOf ++ facts.map Fc.pd

theorem m2058 (rules : List Rule) (sp : Sp) (facts : List Fc) (sq : Sp) (h : JobFit rules facts) :
    Meets Try.prog G 34 [.one (.sl (rules.map Rule.row) sp), .one (.sl (facts.map Fc.row) sq)] (.x (.one (cI .i64 (jobErr rules facts (refMeets ltN [] (allPd rules facts)))))) := by
  have hp := m2043 (G := G) rules sp facts sq (fun r hr => (h.rfit r hr).1) h.rlen h.flen h.stand h.names
  rw [preds_eq] at hp
  obtain ⟨L, hL⟩ := predsR_code (refMeets ltN [] (allPd rules facts))
  rw [hL] at hp
  have hJ' : jobErr rules facts (refMeets ltN [] (allPd rules facts)) = (if rulesErr rules ≠ 0 then rulesErr rules else if factsErr facts ≠ 0 then factsErr facts else metCode (refMeets ltN [] (allPd rules facts))) := rfl
  rw [hJ']
  generalize metCode (refMeets ltN [] (allPd rules facts)) = M at *
  generalize hJ : (if rulesErr rules ≠ 0 then rulesErr rules else if factsErr facts ≠ 0 then factsErr facts else M) = J
  have hrl := h.rlen
  have hfl := h.flen
  refine meets Try.func34 ie2058 ig2058 (Nat.le_of_ble_eq_true rfl) ?_
  simp [ic2058, ir2058]
  refine w_loopA [] [6] [0, 1, 13, 14, 15] (by simp [ownKey])
    (fun i : Nat => st [(0, .k true (.x (.one (.c (.sl (rules.map Rule.row) sp))))), (1, .k true (.x (.one (.c (.sl (facts.map Fc.row) sq))))), (13, .k true (.x (.one (.c (.sl (rules.map Rule.row) sp))))), (14, tI .i64 rules.length), (15, tI .i64 i)] [] [] F0) (fun i => rules.length - i)
    (fun i => i ≤ rules.length ∧ rulesErr rules = rulesErr (rules.drop i)) 0 (by simp) (by simp) ?_
  rintro i K hK ⟨hi, hd⟩
  obtain hlt | hge := Nat.lt_or_ge i rules.length
  · rw [List.drop_eq_getElem_cons hlt, rulesErr] at hd
    simp [ic2058l0, hlt]
    refine call_of (m85 rules[i] (h.rfit _ (List.getElem_mem hlt))) ?_
    simp
    by_cases h0 : ruleErr rules[i] = 0
    · rw [if_pos h0] at hd
      simp [h0]
      simp (disch := omega) only [wrap64]
      exact hK (i + 1) _ (by simp) ⟨by omega, hd⟩ (by omega)
    · rw [if_neg h0] at hd
      rw [if_pos (by rw [hd]; exact h0), hd] at hJ
      subst hJ
      simp [h0]
  · rw [List.drop_eq_nil_of_le hge, rulesErr] at hd
    rw [if_neg (by simpa using hd)] at hJ
    clear hd hK
    simp [ic2058l0, Nat.not_lt.mpr hge]
    refine w_loopA [] [9] [0, 1, 25, 26, 27] (by simp [ownKey])
      (fun i : Nat => st [(0, .k true (.x (.one (.c (.sl (rules.map Rule.row) sp))))), (1, .k true (.x (.one (.c (.sl (facts.map Fc.row) sq))))), (25, .k true (.x (.one (.c (.sl (facts.map Fc.row) sq))))), (26, tI .i64 facts.length), (27, tI .i64 i)] [] [] F0) (fun i => facts.length - i)
      (fun i => i ≤ facts.length ∧ factsErr facts = factsErr (facts.drop i)) 0 (by simp) (by simp) ?_
    rintro j K2 hK2 ⟨hj, hd2⟩
    obtain hlt2 | hge2 := Nat.lt_or_ge j facts.length
    · rw [List.drop_eq_getElem_cons hlt2, factsErr] at hd2
      have hm := m2116 (G := G) facts[j].p facts[j].l facts[j].sp (h.ffit _ (List.getElem_mem hlt2))
      simp [ic2058l1, hlt2]
      refine call_of hm ?_
      simp
      by_cases h0 : factOk facts[j].p facts[j].l = true
      · rw [if_pos h0] at hd2
        simp [h0]
        simp (disch := omega) only [wrap64]
        exact hK2 (j + 1) _ (by simp) ⟨by omega, hd2⟩ (by omega)
      · rw [if_neg h0] at hd2
        rw [if_pos (by rw [hd2]; decide), hd2] at hJ
        subst hJ
        simp [h0]
    · rw [List.drop_eq_nil_of_le hge2, factsErr] at hd2
      rw [if_neg (by simpa using hd2)] at hJ
      subst hJ
      simp [ic2058l1, Nat.not_lt.mpr hge2]
      refine call_of hp ?_
      simp

end Go.Proofs.Ytiomojlcnemnhaa

/- Plain words for predicates that meet, in whatever order. -/
namespace Go.Ped

/-- No name has two numbers. -/
def okPd (l : List Pd) : Prop := ∀ p ∈ l, ∀ q ∈ l, p.name = q.name → p.n = q.n
theorem lookP_some {l : List Pd} {v : Name} {k : Int} (h : lookP l v = some k) : ∃ q ∈ l, q.name = v ∧ q.n = k := by
  unfold lookP at h
  rw [Option.map_eq_some_iff] at h
  obtain ⟨q, hq, rfl⟩ := h
  exact ⟨q, List.mem_of_find?_eq_some hq, by simpa using List.find?_some hq, rfl⟩
theorem goMeets_ok : ∀ (l m : List Pd), okPd m → ((goMeets m l).isSome = true ↔ okPd (m ++ l))
  | [], m, hm => by simp [goMeets, hm]
  | p :: l, m, hm => by
    rw [goMeets]
    unfold goMeet
    cases hk : lookP m p.name with
    | some k =>
      obtain ⟨q, hq, h1, h2⟩ := lookP_some hk
      by_cases e : k = p.n
      · simp only [e, if_true]
        rw [goMeets_ok l m hm]
        constructor
        · intro h a ha b hb hab
          have key : ∀ c ∈ m ++ p :: l, ∃ c' ∈ m ++ l, c'.name = c.name ∧ c'.n = c.n := by
            intro c hc
            rcases List.mem_append.1 hc with hc | hc
            · exact ⟨c, List.mem_append_left _ hc, rfl, rfl⟩
            · rcases List.mem_cons.1 hc with rfl | hc
              · exact ⟨q, List.mem_append_left _ hq, h1, h2.trans e⟩
              · exact ⟨c, List.mem_append_right _ hc, rfl, rfl⟩
          obtain ⟨a', ha', e1, e2⟩ := key a ha
          obtain ⟨b', hb', e3, e4⟩ := key b hb
          rw [← e2, ← e4]
          exact h a' ha' b' hb' (by rw [e1, e3, hab])
        · intro h a ha b hb hab
          have key : ∀ c ∈ m ++ l, c ∈ m ++ p :: l := fun c hc => (List.mem_append.1 hc).elim (fun h => List.mem_append_left _ h) fun h => List.mem_append_right _ (List.mem_cons_of_mem _ h)
          exact h a (key a ha) b (key b hb) hab
      · simp only [e, if_false, Option.isSome_none, Bool.false_eq_true, false_iff]
        intro h
        exact e (h2.symm.trans (h q (List.mem_append_left _ hq) p (List.mem_append_right _ (List.mem_cons_self ..)) h1))
    | none =>
      have hn := lookP_none.1 hk
      have hm' : okPd (m ++ [p]) := by
        intro a ha b hb hab
        rcases List.mem_append.1 ha with ha | ha <;> rcases List.mem_append.1 hb with hb | hb
        · exact hm a ha b hb hab
        · rw [List.mem_singleton.1 hb] at hab; exact absurd (hab ▸ List.mem_map_of_mem ha) hn
        · rw [List.mem_singleton.1 ha] at hab; exact absurd (hab ▸ List.mem_map_of_mem hb) hn
        · rw [List.mem_singleton.1 ha, List.mem_singleton.1 hb]
      simp only
      rw [goMeets_ok l (m ++ [p]) hm', List.append_assoc]
      rfl
theorem okPd_sub {l l' : List Pd} (h : okPd l) (hs : ∀ p ∈ l', p ∈ l) : okPd l' := fun p hp q hq e => h p (hs p hp) q (hs q hq) e
theorem goMeets_iff (l : List Pd) : (goMeets [] l).isSome = true ↔ okPd l := by
  have h := goMeets_ok l [] (by intro p hp; cases hp)
  rwa [List.nil_append] at h
end Go.Ped

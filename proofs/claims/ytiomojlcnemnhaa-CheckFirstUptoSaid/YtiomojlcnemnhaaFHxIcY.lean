import Derived.Test.YtiomojlcnemnhaaFFxWb
import Derived.Test.YtiomojlcnemnhaaProg
import Derived.KernelRfl
import Derived.Test.YtiomojlcnemnhaaFHxQg
/- Functions of the seat, as the small language has them. -/
namespace Go.Proofs.Ytiomojlcnemnhaa
open Go.Fx

/-- pedigree/pedigreelaw01.BeyondJob -/
def ic2035 : IC :=
 (.seq
 (.region [] [] [0, 1, 4] [
 ⟨(some 4), (.move (.k (rB false))), none, none⟩])
 (.seq
 (.region [] [] [0, 1, 4] [
 ⟨(some 5), (.move (.t 0)), none, none⟩,
 ⟨(some 6), (.callp (.k (rF 68)) [(.t 5)]), none, none⟩,
 ⟨(some 7), (.move (.t 6)), none, none⟩,
 ⟨(some 8), (.move (.t 1)), some (7, false), none⟩,
 ⟨(some 9), (.callp (.k (rF 69)) [(.t 8)]), some (7, false), none⟩,
 ⟨(some 10), (.pick (.t 7) (.k (rB true)) (.t 9)), none, none⟩,
 ⟨(some 4), (.move (.t 10)), none, none⟩])
 .ret))
def ir2035 : List IRes := [.tmp 4]
theorem ie2035 : cmpFunc Go.Proofs.Try.prog ⟨[], []⟩ Go.Proofs.Try.f33 [0, 1, 4] = some ic2035 := by kernel_rfl
theorem ig2035 : cmpRes Go.Proofs.Try.prog Go.Proofs.Try.f33.results.toList = some ir2035 := by kernel_rfl

def ic2030l0 : IC :=
 (.seq
 (.seq
 (.region [] [] [4, 0, 8, 3, 19, 2] [
 ⟨(some 5), (.move (.t 4)), none, none⟩,
 ⟨(some 6), (.move (.t 0)), none, none⟩,
 ⟨(some 7), (.len (.t 6)), none, none⟩,
 ⟨(some 8), (.bin .lss (.t 5) (.t 7)), none, none⟩])
 (.cond (.t 8)
 .skip
 (.exit 0)))
 (.seq
 (.block 1
 (.seq
 (.region [] [] [4, 0, 8, 3, 19, 2] [
 ⟨(some 11), (.move (.t 3)), none, none⟩,
 ⟨(some 12), (.move (.t 0)), none, none⟩,
 ⟨(some 13), (.move (.t 4)), none, none⟩,
 ⟨(some 14), (.iaddr 3 (.t 12) (.t 13)), none, none⟩,
 ⟨(some 15), (.load (some 3) (.t 14)), none, none⟩,
 ⟨(some 16), (.callp (.k (rF 64)) [(.t 15), (.k (rI .i64 1048576))]), none, none⟩,
 ⟨(some 17), (.bin .add (.t 11) (.t 16)), none, none⟩,
 ⟨(some 3), (.move (.t 17)), none, none⟩])
 (.seq
 (.region [] [] [4, 0, 8, 3, 19, 2] [
 ⟨(some 18), (.move (.t 3)), none, none⟩,
 ⟨(some 19), (.bin .gtr (.t 18) (.k (rI .i64 1048576))), none, none⟩])
 (.cond (.t 19)
 (.seq
 (.region [] [] [4, 0, 8, 3, 19, 2] [
 ⟨(some 2), (.move (.k (rB true))), none, none⟩])
 .ret)
 .skip))))
 (.region [] [] [4, 0, 8, 3, 19, 2] [
 ⟨(some 9), (.move (.t 4)), none, none⟩,
 ⟨(some 10), (.bin .add (.t 9) (.k (rI .i64 1))), none, none⟩,
 ⟨(some 4), (.move (.t 10)), none, none⟩])))

/-- pedigree/pedigreelaw01.BeyondRules -/
def ic2030 : IC :=
 (.seq
 (.region [] [] [4, 0, 8, 3, 19, 2] [
 ⟨(some 2), (.move (.k (rB false))), none, none⟩])
 (.seq
 (.region [] [] [4, 0, 8, 3, 19, 2] [
 ⟨(some 3), (.move (.k (rI .i64 0))), none, none⟩])
 (.seq
 (.seq
 (.region [] [] [4, 0, 8, 3, 19, 2] [
 ⟨(some 4), (.move (.k (rI .i64 0))), none, none⟩])
 (.block 0
 (.loop ic2030l0)))
 (.seq
 (.region [] [] [4, 0, 8, 3, 19, 2] [
 ⟨(some 2), (.move (.k (rB false))), none, none⟩])
 .ret))))
def ir2030 : List IRes := [.tmp 2]
theorem ie2030 : cmpFunc Go.Proofs.Try.prog ⟨[], []⟩ Go.Proofs.Try.f68 [4, 0, 8, 3, 19, 2] = some ic2030 := by kernel_rfl
theorem ig2030 : cmpRes Go.Proofs.Try.prog Go.Proofs.Try.f68.results.toList = some ir2030 := by kernel_rfl

def ic2106l0 : IC :=
 (.seq
 (.seq
 (.region [] [] [4, 0, 8, 3, 21, 2] [
 ⟨(some 5), (.move (.t 4)), none, none⟩,
 ⟨(some 6), (.move (.t 0)), none, none⟩,
 ⟨(some 7), (.len (.t 6)), none, none⟩,
 ⟨(some 8), (.bin .lss (.t 5) (.t 7)), none, none⟩])
 (.cond (.t 8)
 .skip
 (.exit 0)))
 (.seq
 (.block 1
 (.seq
 (.region [] [] [4, 0, 8, 3, 21, 2] [
 ⟨(some 11), (.move (.t 3)), none, none⟩,
 ⟨(some 12), (.bin .add (.t 11) (.k (rI .i64 1))), none, none⟩,
 ⟨(some 13), (.move (.t 0)), none, none⟩,
 ⟨(some 14), (.move (.t 4)), none, none⟩,
 ⟨(some 15), (.iaddr 2 (.t 13) (.t 14)), none, none⟩,
 ⟨(some 16), (.faddr 1 (.t 15)), none, none⟩,
 ⟨(some 17), (.load none (.t 16)), none, none⟩,
 ⟨(some 18), (.len (.t 17)), none, none⟩,
 ⟨(some 19), (.bin .add (.t 12) (.t 18)), none, none⟩,
 ⟨(some 3), (.move (.t 19)), none, none⟩])
 (.seq
 (.region [] [] [4, 0, 8, 3, 21, 2] [
 ⟨(some 20), (.move (.t 3)), none, none⟩,
 ⟨(some 21), (.bin .gtr (.t 20) (.k (rI .i64 1048576))), none, none⟩])
 (.cond (.t 21)
 (.seq
 (.region [] [] [4, 0, 8, 3, 21, 2] [
 ⟨(some 2), (.move (.k (rB true))), none, none⟩])
 .ret)
 .skip))))
 (.region [] [] [4, 0, 8, 3, 21, 2] [
 ⟨(some 9), (.move (.t 4)), none, none⟩,
 ⟨(some 10), (.bin .add (.t 9) (.k (rI .i64 1))), none, none⟩,
 ⟨(some 4), (.move (.t 10)), none, none⟩])))

/-- pedigree/pedigreelaw01.BeyondFacts -/
def ic2106 : IC :=
 (.seq
 (.region [] [] [4, 0, 8, 3, 21, 2] [
 ⟨(some 2), (.move (.k (rB false))), none, none⟩])
 (.seq
 (.region [] [] [4, 0, 8, 3, 21, 2] [
 ⟨(some 3), (.move (.k (rI .i64 0))), none, none⟩])
 (.seq
 (.seq
 (.region [] [] [4, 0, 8, 3, 21, 2] [
 ⟨(some 4), (.move (.k (rI .i64 0))), none, none⟩])
 (.block 0
 (.loop ic2106l0)))
 (.seq
 (.region [] [] [4, 0, 8, 3, 21, 2] [
 ⟨(some 2), (.move (.k (rB false))), none, none⟩])
 .ret))))
def ir2106 : List IRes := [.tmp 2]
theorem ie2106 : cmpFunc Go.Proofs.Try.prog ⟨[], []⟩ Go.Proofs.Try.f69 [4, 0, 8, 3, 21, 2] = some ic2106 := by kernel_rfl
theorem ig2106 : cmpRes Go.Proofs.Try.prog Go.Proofs.Try.f69.results.toList = some ir2106 := by kernel_rfl

end Go.Proofs.Ytiomojlcnemnhaa

/- Contracts, on: copies of programs and facts, looked at again; the law CheckInputs. (Labels of 2000 and more: seat ZD.) -/
namespace Go.Proofs.Ytiomojlcnemnhaa
open Go.Fx Go.RowKit Go.Ped
variable {G : World → Prop}

def beyR : List Rule → Int → Bool
  | [], _ => false
  | r :: l, n => if n + ruleParts r 1048576 > 1048576 then true else beyR l (n + ruleParts r 1048576)
def beyF : List Fc → Int → Bool
  | [], _ => false
  | f :: l, n => if n + 1 + f.l.length > 1048576 then true else beyF l (n + 1 + f.l.length)
theorem ruleParts_bound (r : Rule) (h : r.small 1048576) : 0 ≤ ruleParts r 1048576 ∧ ruleParts r 1048576 ≤ 1048577 := by
  have h1 := bodyParts_bound (left := 1048576) r.body (1 + r.head.length) (by omega)
  have h2 := h.1
  unfold ruleParts
  omega

theorem m2030 (l : List Rule) (sp : Sp) (hs : ∀ r ∈ l, r.small 1048576) (hl : l.length ≤ 1048576) : Meets Try.prog G 68 [.one (.sl (l.map Rule.row) sp)] (.x (.one (cB (beyR l 0)))) := by
  refine meets Try.func68 ie2030 ig2030 (Nat.le_of_ble_eq_true rfl) ?_
  generalize hB : beyR l 0 = B
  simp [ic2030, ir2030]
  refine w_loopA [] [] [0, 3, 4] (by simp)
    (fun a : Nat × Int => st [(0, .k true (.x (.one (.c (.sl (l.map Rule.row) sp))))), (3, tI .i64 a.2), (4, tI .i64 a.1)] [] [] F0) (fun a => l.length - a.1)
    (fun a => a.1 ≤ l.length ∧ B = beyR (l.drop a.1) a.2 ∧ 0 ≤ a.2 ∧ a.2 ≤ 1048576) (0, 0) (by simp) (by simp [hB]) ?_
  rintro ⟨i, n⟩ K hK ⟨hi, hd, hn0, hn1⟩
  simp only at hi hd hn0 hn1
  obtain hlt | hge := Nat.lt_or_ge i l.length
  · rw [List.drop_eq_getElem_cons hlt, beyR] at hd
    have hr := hs _ (List.getElem_mem hlt)
    have hb := ruleParts_bound l[i] hr
    simp [ic2030l0, hlt]
    refine call_of (m119 l[i] 1048576 (by omega) (by omega) hr) ?_
    simp
    rw [wrap64 (by omega) (by omega)]
    by_cases hc : n + ruleParts l[i] 1048576 > 1048576
    · rw [if_pos hc] at hd
      simp [hc, hd]
    · rw [if_neg hc] at hd
      simp [hc]
      simp (disch := omega) only [wrap64]
      exact hK (i + 1, n + ruleParts l[i] 1048576) _ (by simp) ⟨by simp; omega, hd, by simp; omega, by simp; omega⟩ (by simp; omega)
  · rw [List.drop_eq_nil_of_le hge, beyR] at hd
    simp [ic2030l0, Nat.not_lt.mpr hge, hd]
theorem m2106 (l : List Fc) (sp : Sp) (hs : ∀ f ∈ l, f.l.length ≤ 1048576) (hl : l.length ≤ 1048576) : Meets Try.prog G 69 [.one (.sl (l.map Fc.row) sp)] (.x (.one (cB (beyF l 0)))) := by
  refine meets Try.func69 ie2106 ig2106 (Nat.le_of_ble_eq_true rfl) ?_
  generalize hB : beyF l 0 = B
  simp [ic2106, ir2106]
  refine w_loopA [] [] [0, 3, 4] (by simp)
    (fun a : Nat × Int => st [(0, .k true (.x (.one (.c (.sl (l.map Fc.row) sp))))), (3, tI .i64 a.2), (4, tI .i64 a.1)] [] [] F0) (fun a => l.length - a.1)
    (fun a => a.1 ≤ l.length ∧ B = beyF (l.drop a.1) a.2 ∧ 0 ≤ a.2 ∧ a.2 ≤ 1048576) (0, 0) (by simp) (by simp [hB]) ?_
  rintro ⟨i, n⟩ K hK ⟨hi, hd, hn0, hn1⟩
  simp only at hi hd hn0 hn1
  obtain hlt | hge := Nat.lt_or_ge i l.length
  · rw [List.drop_eq_getElem_cons hlt, beyF] at hd
    have hr := hs _ (List.getElem_mem hlt)
    simp [ic2106l0, hlt]
    rw [wrap64 (n := n + 1) (by omega) (by omega), wrap64 (n := n + 1 + (l[i].l.length : Int)) (by omega) (by omega)]
    by_cases hc : n + 1 + (l[i].l.length : Int) > 1048576
    · rw [if_pos hc] at hd
      simp [hc, hd]
    · rw [if_neg hc] at hd
      simp [hc]
      simp (disch := omega) only [wrap64]
      exact hK (i + 1, n + 1 + l[i].l.length) _ (by simp) ⟨by simp; omega, hd, by simp; omega, by simp; omega⟩ (by simp; omega)
  · rw [List.drop_eq_nil_of_le hge, beyF] at hd
    simp [ic2106l0, Nat.not_lt.mpr hge, hd]
theorem m2035 (rules : List Rule) (sp : Sp) (facts : List Fc) (sq : Sp) (hs : ∀ r ∈ rules, r.small 1048576) (hl : rules.length ≤ 1048576) (hf : ∀ f ∈ facts, f.l.length ≤ 1048576) (hfl : facts.length ≤ 1048576) :
    Meets Try.prog G 33 [.one (.sl (rules.map Rule.row) sp), .one (.sl (facts.map Fc.row) sq)] (.x (.one (cB (beyR rules 0 || beyF facts 0)))) := by
  refine meets Try.func33 ie2035 ig2035 (Nat.le_of_ble_eq_true rfl) ?_
  simp [ic2035, ir2035]
  refine call_of (m2030 rules sp hs hl) ?_
  cases beyR rules 0 with
  | true =>
    simp
    refine call_no (.x (.one (cB false))) ?_
    simp
  | false =>
    simp
    refine call_of (m2106 facts sq hf hfl) ?_
    simp

/- What is copied is as it was. -/
end Go.Proofs.Ytiomojlcnemnhaa

/- Functions of the seat, as the small language has them. -/
namespace Go.Proofs.Ytiomojlcnemnhaa
open Go.Fx

end Go.Proofs.Ytiomojlcnemnhaa

/- Functions of the seat, as the small language has them. -/
namespace Go.Proofs.Ytiomojlcnemnhaa
open Go.Fx

/-- maps.Keys[pedigree/check.arities,string,int] -/
def ic2135 : IC :=
 (.seq
 (.region [1] [] [0, 1, 2] [
 ⟨(some 1), (.box 203 (.t 0)), none, none⟩,
 ⟨(some 2), (.move (.k (.x (.one (.c (.v .nilFunc)))))), none, none⟩])
 (.seq
 (.region [] [] [0, 1, 2] [
 ⟨(some 3), (.clo 124 [] [(.t 1)]), none, none⟩,
 ⟨(some 2), (.move (.t 3)), none, none⟩])
 .ret))
def ir2135 : List IRes := [.tmp 2]
theorem ie2135 : cmpFunc Go.Proofs.Try.prog ⟨[], []⟩ Go.Proofs.Try.f91 [0, 1, 2] = some ic2135 := by kernel_rfl
theorem ig2135 : cmpRes Go.Proofs.Try.prog Go.Proofs.Try.f91.results.toList = some ir2135 := by kernel_rfl

end Go.Proofs.Ytiomojlcnemnhaa

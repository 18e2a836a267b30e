import Derived.Test.YtiomojlcnemnhaaTHxQn
import Derived.Test.YtiomojlcnemnhaaTHxIcS
import Derived.Test.YtiomojlcnemnhaaTPedC
import Derived.Test.YtiomojlcnemnhaaTFxWb
import Derived.Test.YtiomojlcnemnhaaProg
import Derived.KernelRfl
/- Contracts, on: may a job be run, the program's and the document's; the laws CheckJobs and CheckPreds. (Labels of 2000 and more: seat ZD.) -/
namespace Go.Proofs.Ytiomojlcnemnhaa
open Go.Fx Go.RowKit Go.Ped
variable {G : World → Prop}

end Go.Proofs.Ytiomojlcnemnhaa

/- Plain words for predicates that meet, in whatever order. -/
namespace Go.Ped

end Go.Ped

/- Plain: what jobs and inputs are taken, whatever the order. (Labels of 2000 and more: seat ZD.) -/
namespace Go.Proofs.Ytiomojlcnemnhaa
open Go.Fx Go.RowKit Go.Ped

/- What an input is answered, case by case. -/
section
variable {rules : List Rule} {facts : List Fc} {p : Name} {l : List Tm}
end

end Go.Proofs.Ytiomojlcnemnhaa

/- Plain: the first thing with an error, and what stands ahead of it. (Labels of 2000 and more: seat ZD.) -/
namespace Go.Proofs.Ytiomojlcnemnhaa
open Go.Fx Go.RowKit Go.Ped

end Go.Proofs.Ytiomojlcnemnhaa

/- Functions of the seat, as the small language has them. -/
namespace Go.Proofs.Ytiomojlcnemnhaa
open Go.Fx
def ic3007l0 : IC :=
 (.seq
 (.seq
 (.region [] [] [0, 1, 20, 22, 10, 28, 2, 8, 11, 9, 12, 7, 13, 14, 6] [
 ⟨(some 25), (.move (.t 10)), none, none⟩,
 ⟨(some 26), (.move (.t 0)), none, none⟩,
 ⟨(some 27), (.len (.t 26)), none, none⟩,
 ⟨(some 28), (.bin .lss (.t 25) (.t 27)), none, none⟩])
 (.cond (.t 28)
 .skip
 (.exit 0)))
 (.seq
 (.block 1
 (.seq
 (.region [] [] [0, 1, 20, 22, 10, 28, 2, 8, 11, 9, 12, 7, 13, 14, 6] [
 ⟨(some 31), (.move (.t 10)), none, none⟩,
 ⟨(some 32), (.move (.t 0)), none, none⟩,
 ⟨(some 33), (.len (.t 32)), none, none⟩,
 ⟨(some 34), (.bin .rem (.t 31) (.t 33)), none, none⟩,
 ⟨(some 35), (.move (.t 2)), none, none⟩,
 ⟨(some 36), (.move (.t 0)), none, none⟩,
 ⟨(some 37), (.len (.t 36)), none, none⟩,
 ⟨(some 38), (.bin .rem (.t 35) (.t 37)), none, none⟩,
 ⟨(some 39), (.bin .add (.t 34) (.t 38)), none, none⟩,
 ⟨(some 40), (.move (.t 0)), none, none⟩,
 ⟨(some 41), (.len (.t 40)), none, none⟩,
 ⟨(some 42), (.bin .add (.t 39) (.t 41)), none, none⟩,
 ⟨(some 43), (.move (.t 0)), none, none⟩,
 ⟨(some 44), (.len (.t 43)), none, none⟩,
 ⟨(some 45), (.bin .rem (.t 42) (.t 44)), none, none⟩,
 ⟨(some 11), (.move (.t 45)), none, none⟩])
 (.seq
 (.region [51] [] [0, 1, 20, 22, 10, 28, 2, 8, 11, 9, 12, 7, 13, 14, 6] [
 ⟨(some 46), (.move (.t 8)), none, none⟩,
 ⟨(some 47), (.move (.t 0)), none, none⟩,
 ⟨(some 48), (.move (.t 11)), none, none⟩,
 ⟨(some 49), (.iaddr 16 (.t 47) (.t 48)), none, none⟩,
 ⟨(some 50), (.load (some 16) (.t 49)), none, none⟩,
 ⟨(some 51), (.row 129 16 [(.t 50)]), none, none⟩,
 ⟨(some 52), (.app 129 16 216 (.t 46) (.t 51)), none, none⟩,
 ⟨(some 8), (.move (.t 52)), none, none⟩])
 (.region [62] [] [0, 1, 20, 22, 10, 28, 2, 8, 11, 9, 12, 7, 13, 14, 6] [
 ⟨(some 53), (.move (.t 9)), none, none⟩,
 ⟨(some 54), (.move (.t 0)), none, none⟩,
 ⟨(some 55), (.move (.t 0)), none, none⟩,
 ⟨(some 56), (.len (.t 55)), none, none⟩,
 ⟨(some 57), (.bin .sub (.t 56) (.k (rI .i64 1))), none, none⟩,
 ⟨(some 58), (.move (.t 10)), none, none⟩,
 ⟨(some 59), (.bin .sub (.t 57) (.t 58)), none, none⟩,
 ⟨(some 60), (.iaddr 16 (.t 54) (.t 59)), none, none⟩,
 ⟨(some 61), (.load (some 16) (.t 60)), none, none⟩,
 ⟨(some 62), (.row 129 16 [(.t 61)]), none, none⟩,
 ⟨(some 63), (.app 129 16 216 (.t 53) (.t 62)), none, none⟩,
 ⟨(some 9), (.move (.t 63)), none, none⟩]))))
 (.region [] [] [0, 1, 20, 22, 10, 28, 2, 8, 11, 9, 12, 7, 13, 14, 6] [
 ⟨(some 29), (.move (.t 10)), none, none⟩,
 ⟨(some 30), (.bin .add (.t 29) (.k (rI .i64 1))), none, none⟩,
 ⟨(some 10), (.move (.t 30)), none, none⟩])))

/-- pedigree/pedigreelaw07.CheckTurned -/
def ic3007 : IC :=
 (.seq
 (.region [] [] [0, 1, 20, 22, 10, 28, 2, 8, 11, 9, 12, 7, 13, 14, 6] [
 ⟨(some 6), (.move (.k (rB false))), none, none⟩])
 (.seq
 (.seq
 (.region [] [] [0, 1, 20, 22, 10, 28, 2, 8, 11, 9, 12, 7, 13, 14, 6] [
 ⟨(some 15), (.move (.t 0)), none, none⟩,
 ⟨(some 16), (.callp (.k (rF 29)) [(.t 15)]), none, none⟩,
 ⟨(some 17), (.move (.t 16)), none, none⟩,
 ⟨(some 18), (.move (.t 1)), some (17, false), none⟩,
 ⟨(some 19), (.callp (.k (rF 29)) [(.t 18)]), some (17, false), none⟩,
 ⟨(some 20), (.pick (.t 17) (.k (rB true)) (.t 19)), none, none⟩])
 (.cond (.t 20)
 (.seq
 (.region [] [] [0, 1, 20, 22, 10, 28, 2, 8, 11, 9, 12, 7, 13, 14, 6] [
 ⟨(some 6), (.move (.k (rB true))), none, none⟩])
 .ret)
 .skip))
 (.seq
 (.seq
 (.region [] [] [0, 1, 20, 22, 10, 28, 2, 8, 11, 9, 12, 7, 13, 14, 6] [
 ⟨(some 21), (.callp (.k (rF 30)) []), none, none⟩,
 ⟨(some 22), (.un .not (.t 21)), none, none⟩])
 (.cond (.t 22)
 (.seq
 (.region [] [] [0, 1, 20, 22, 10, 28, 2, 8, 11, 9, 12, 7, 13, 14, 6] [
 ⟨(some 6), (.move (.k (rB false))), none, none⟩])
 .ret)
 .skip))
 (.seq
 (.region [] [] [0, 1, 20, 22, 10, 28, 2, 8, 11, 9, 12, 7, 13, 14, 6] [
 ⟨(some 23), (.move (.t 0)), none, none⟩,
 ⟨(some 24), (.callp (.k (rF 31)) [(.t 23)]), none, none⟩,
 ⟨(some 7), (.move (.t 24)), none, none⟩])
 (.seq
 (.region [] [] [0, 1, 20, 22, 10, 28, 2, 8, 11, 9, 12, 7, 13, 14, 6] [
 ⟨(some 8), (.move (.k (.x (.one .nil)))), none, none⟩,
 ⟨(some 9), (.move (.k (.x (.one .nil)))), none, none⟩])
 (.seq
 (.seq
 (.region [] [] [0, 1, 20, 22, 10, 28, 2, 8, 11, 9, 12, 7, 13, 14, 6] [
 ⟨(some 10), (.move (.k (rI .i64 0))), none, none⟩])
 (.block 0
 (.loop ic3007l0)))
 (.seq
 (.region [] [] [0, 1, 20, 22, 10, 28, 2, 8, 11, 9, 12, 7, 13, 14, 6] [
 ⟨(some 64), (.move (.t 8)), none, none⟩,
 ⟨(some 65), (.callp (.k (rF 31)) [(.t 64)]), none, none⟩,
 ⟨(some 12), (.move (.t 65)), none, none⟩])
 (.seq
 (.region [] [] [0, 1, 20, 22, 10, 28, 2, 8, 11, 9, 12, 7, 13, 14, 6] [
 ⟨(some 66), (.move (.t 9)), none, none⟩,
 ⟨(some 67), (.callp (.k (rF 31)) [(.t 66)]), none, none⟩,
 ⟨(some 13), (.move (.t 67)), none, none⟩])
 (.seq
 (.region [] [] [0, 1, 20, 22, 10, 28, 2, 8, 11, 9, 12, 7, 13, 14, 6] [
 ⟨(some 68), (.move (.t 1)), none, none⟩,
 ⟨(some 69), (.app 129 16 216 (.k (.x (.one .nil))) (.t 68)), none, none⟩,
 ⟨(some 70), (.move (.t 0)), none, none⟩,
 ⟨(some 71), (.app 129 16 216 (.t 69) (.t 70)), none, none⟩,
 ⟨(some 72), (.callp (.k (rF 31)) [(.t 71)]), none, none⟩,
 ⟨(some 14), (.move (.t 72)), none, none⟩])
 (.seq
 (.region [] [] [0, 1, 20, 22, 10, 28, 2, 8, 11, 9, 12, 7, 13, 14, 6] [
 ⟨(some 73), (.move (.t 12)), none, none⟩,
 ⟨(some 74), (.len (.t 73)), none, none⟩,
 ⟨(some 75), (.move (.t 7)), none, none⟩,
 ⟨(some 76), (.len (.t 75)), none, none⟩,
 ⟨(some 77), (.bin .eql (.t 74) (.t 76)), none, none⟩,
 ⟨(some 78), (.move (.t 77)), none, none⟩,
 ⟨(some 79), (.move (.t 13)), some (78, true), none⟩,
 ⟨(some 80), (.len (.t 79)), some (78, true), none⟩,
 ⟨(some 81), (.move (.t 7)), some (78, true), none⟩,
 ⟨(some 82), (.len (.t 81)), some (78, true), none⟩,
 ⟨(some 83), (.bin .eql (.t 80) (.t 82)), some (78, true), none⟩,
 ⟨(some 84), (.pick (.t 78) (.t 83) (.k (rB false))), none, none⟩,
 ⟨(some 85), (.move (.t 84)), none, none⟩,
 ⟨(some 86), (.move (.t 7)), some (85, true), none⟩,
 ⟨(some 87), (.move (.t 12)), some (85, true), none⟩,
 ⟨(some 88), (.callp (.k (rF 32)) [(.t 86), (.t 87)]), some (85, true), none⟩,
 ⟨(some 89), (.pick (.t 85) (.t 88) (.k (rB false))), none, none⟩,
 ⟨(some 90), (.move (.t 89)), none, none⟩,
 ⟨(some 91), (.move (.t 7)), some (90, true), none⟩,
 ⟨(some 92), (.move (.t 13)), some (90, true), none⟩,
 ⟨(some 93), (.callp (.k (rF 32)) [(.t 91), (.t 92)]), some (90, true), none⟩,
 ⟨(some 94), (.pick (.t 90) (.t 93) (.k (rB false))), none, none⟩,
 ⟨(some 95), (.move (.t 94)), none, none⟩,
 ⟨(some 96), (.move (.t 7)), some (95, true), none⟩,
 ⟨(some 97), (.move (.t 14)), some (95, true), none⟩,
 ⟨(some 98), (.callp (.k (rF 32)) [(.t 96), (.t 97)]), some (95, true), none⟩,
 ⟨(some 99), (.pick (.t 95) (.t 98) (.k (rB false))), none, none⟩,
 ⟨(some 6), (.move (.t 99)), none, none⟩])
 .ret))))))))))
def ir3007 : List IRes := [.tmp 6]
theorem ie3007 : cmpFunc Go.Proofs.Try.prog ⟨[], []⟩ Go.Proofs.Try.f7 [0, 1, 20, 22, 10, 28, 2, 8, 11, 9, 12, 7, 13, 14, 6] = some ic3007 := by kernel_rfl
theorem ig3007 : cmpRes Go.Proofs.Try.prog Go.Proofs.Try.f7.results.toList = some ir3007 := by kernel_rfl


end Go.Proofs.Ytiomojlcnemnhaa

/- Functions of the seat, as the small language has them. -/
import Derived.Test.YtiomojlcnemnhaaTFxWb
import Derived.Test.YtiomojlcnemnhaaProg
import Derived.KernelRfl
namespace Go.Proofs.Ytiomojlcnemnhaa
open Go.Fx
def ic57c0f : IC :=
 (.seq
 (.seq
 (.region [] [] [0, 1, 4, 5, 22, 26, 54, 2] [
 ⟨(some 8), (.faddr 3 (.t 1)), none, none⟩,
 ⟨(some 9), (.load none (.t 8)), none, none⟩,
 ⟨(some 10), (.bin .neq (.t 9) (.k (rI .i8 0))), none, none⟩,
 ⟨(some 11), (.move (.t 10)), none, none⟩,
 ⟨(some 12), (.faddr 4 (.t 1)), some (11, false), none⟩,
 ⟨(some 13), (.load (some 6) (.t 12)), some (11, false), none⟩,
 ⟨(some 14), (.callp (.k (rF 157)) [(.t 13)]), some (11, false), none⟩,
 ⟨(some 15), (.un .not (.t 14)), some (11, false), none⟩,
 ⟨(some 16), (.pick (.t 11) (.k (rB true)) (.t 15)), none, none⟩,
 ⟨(some 17), (.move (.t 16)), none, none⟩,
 ⟨(some 18), (.faddr 10 (.t 1)), some (17, false), none⟩,
 ⟨(some 19), (.load (some 6) (.t 18)), some (17, false), none⟩,
 ⟨(some 20), (.callp (.k (rF 157)) [(.t 19)]), some (17, false), none⟩,
 ⟨(some 21), (.un .not (.t 20)), some (17, false), none⟩,
 ⟨(some 22), (.pick (.t 17) (.k (rB true)) (.t 21)), none, none⟩])
 (.cond (.t 22)
 (.seq
 (.region [] [] [0, 1, 4, 5, 22, 26, 54, 2] [
 ⟨(some 2), (.move (.k (rI .i64 40))), none, none⟩])
 .ret)
 .skip))
 (.seq
 (.region [] [] [0, 1, 4, 5, 22, 26, 54, 2] [
 ⟨(some 23), (.faddr 1 (.t 1)), none, none⟩,
 ⟨(some 24), (.load (some 2) (.t 23)), none, none⟩,
 ⟨(some 25), (.callp (.k (rF 37)) [(.t 24)]), none, none⟩,
 ⟨(some 2), (.move (.t 25)), none, none⟩])
 .ret))

def ic57c1f : IC :=
 (.seq
 (.seq
 (.region [] [] [0, 1, 4, 5, 22, 26, 54, 2] [
 ⟨(some 28), (.faddr 1 (.t 1)), none, none⟩,
 ⟨(some 29), (.faddr 0 (.t 28)), none, none⟩,
 ⟨(some 30), (.load none (.t 29)), none, none⟩,
 ⟨(some 31), (.bin .neq (.t 30) (.k (rS (bs [])))), none, none⟩,
 ⟨(some 32), (.move (.t 31)), none, none⟩,
 ⟨(some 33), (.faddr 1 (.t 1)), some (32, false), none⟩,
 ⟨(some 34), (.faddr 1 (.t 33)), some (32, false), none⟩,
 ⟨(some 35), (.load none (.t 34)), some (32, false), none⟩,
 ⟨(some 36), (.len (.t 35)), some (32, false), none⟩,
 ⟨(some 37), (.bin .gtr (.t 36) (.k (rI .i64 0))), some (32, false), none⟩,
 ⟨(some 38), (.pick (.t 32) (.k (rB true)) (.t 37)), none, none⟩,
 ⟨(some 39), (.move (.t 38)), none, none⟩,
 ⟨(some 40), (.faddr 3 (.t 1)), some (39, false), none⟩,
 ⟨(some 41), (.load none (.t 40)), some (39, false), none⟩,
 ⟨(some 42), (.bin .lss (.t 41) (.k (rI .i8 1))), some (39, false), none⟩,
 ⟨(some 43), (.pick (.t 39) (.k (rB true)) (.t 42)), none, none⟩,
 ⟨(some 44), (.move (.t 43)), none, none⟩,
 ⟨(some 45), (.faddr 3 (.t 1)), some (44, false), none⟩,
 ⟨(some 46), (.load none (.t 45)), some (44, false), none⟩,
 ⟨(some 47), (.bin .gtr (.t 46) (.k (rI .i8 6))), some (44, false), none⟩,
 ⟨(some 48), (.pick (.t 44) (.k (rB true)) (.t 47)), none, none⟩,
 ⟨(some 49), (.move (.t 48)), none, none⟩,
 ⟨(some 50), (.faddr 4 (.t 1)), some (49, false), none⟩,
 ⟨(some 51), (.load (some 6) (.t 50)), some (49, false), none⟩,
 ⟨(some 52), (.callp (.k (rF 158)) [(.t 51)]), some (49, false), none⟩,
 ⟨(some 53), (.bin .neq (.t 52) (.k (rI .i64 0))), some (49, false), none⟩,
 ⟨(some 54), (.pick (.t 49) (.k (rB true)) (.t 53)), none, none⟩])
 (.cond (.t 54)
 (.seq
 (.region [] [] [0, 1, 4, 5, 22, 26, 54, 2] [
 ⟨(some 2), (.move (.k (rI .i64 40))), none, none⟩])
 .ret)
 .skip))
 (.seq
 (.region [] [] [0, 1, 4, 5, 22, 26, 54, 2] [
 ⟨(some 55), (.faddr 10 (.t 1)), none, none⟩,
 ⟨(some 56), (.load (some 6) (.t 55)), none, none⟩,
 ⟨(some 57), (.callp (.k (rF 158)) [(.t 56)]), none, none⟩,
 ⟨(some 2), (.move (.t 57)), none, none⟩])
 .ret))

def ic57c2f : IC :=
 (.seq
 (.region [] [] [0, 1, 4, 5, 22, 26, 54, 2] [
 ⟨(some 27), (.bin .eql (.t 4) (.k (rI .i8 3))), none, none⟩,
 ⟨(some 26), (.move (.t 27)), none, none⟩])
 (.cond (.t 26)
 ic57c1f
 .skip))

/-- pedigree/term.CheckLiteral -/
def ic57f : IC :=
 (.seq
 (.region [1] [] [0, 1, 4, 5, 22, 26, 54, 2] [
 ⟨(some 1), (.box 129 (.t 0)), none, none⟩,
 ⟨(some 2), (.move (.k (rI .i64 0))), none, none⟩])
 (.seq
 (.seq
 (.region [] [] [0, 1, 4, 5, 22, 26, 54, 2] [
 ⟨(some 3), (.faddr 0 (.t 1)), none, none⟩,
 ⟨(some 4), (.load none (.t 3)), none, none⟩])
 (.block 0
 (.seq
 (.seq
 (.region [] [] [0, 1, 4, 5, 22, 26, 54, 2] [
 ⟨(some 6), (.bin .eql (.t 4) (.k (rI .i8 1))), none, none⟩,
 ⟨(some 5), (.move (.t 6)), none, none⟩])
 (.cond (.t 5)
 .skip
 (.region [] [] [0, 1, 4, 5, 22, 26, 54, 2] [
 ⟨(some 7), (.bin .eql (.t 4) (.k (rI .i8 2))), none, none⟩,
 ⟨(some 5), (.move (.t 7)), none, none⟩])))
 (.cond (.t 5)
 ic57c0f
 ic57c2f))))
 (.seq
 (.region [] [] [0, 1, 4, 5, 22, 26, 54, 2] [
 ⟨(some 2), (.move (.k (rI .i64 40))), none, none⟩])
 .ret)))
def ir57f : List IRes := [.tmp 2]
theorem ie57f : cmpFunc Go.Proofs.Try.prog ⟨[], []⟩ Go.Proofs.Try.f135 [0, 1, 4, 5, 22, 26, 54, 2] = some ic57f := by kernel_rfl
theorem ig57f : cmpRes Go.Proofs.Try.prog Go.Proofs.Try.f135.results.toList = some ir57f := by kernel_rfl

end Go.Proofs.Ytiomojlcnemnhaa

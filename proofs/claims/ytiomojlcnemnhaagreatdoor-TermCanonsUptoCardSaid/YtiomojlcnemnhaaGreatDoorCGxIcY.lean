import Derived.Test.YtiomojlcnemnhaaGreatDoorCFxZ
import Derived.Test.YtiomojlcnemnhaaGreatDoorProg
import Derived.KernelRfl
namespace Go.Proofs.YtiomojlcnemnhaaGreatDoor
open Go.Fx
def ic2030l0 : IC :=
 (.seq
 (.seq
 (.region [] [] [4, 0, 8, 3, 19, 2] [⟨some 5, (.move (.t 4)), none, none⟩,⟨some 6, (.move (.t 0)), none, none⟩,⟨some 7, (.len (.t 6)), none, none⟩,⟨some 8, (.bin .lss (.t 5) (.t 7)), none, none⟩])
 (.cond (.t 8)
 .skip
 (.exit 0)))
 (.seq
 (.block 1
 (.seq
 (.region [] [] [4, 0, 8, 3, 19, 2] [⟨some 11, (.move (.t 3)), none, none⟩,⟨some 12, (.move (.t 0)), none, none⟩,⟨some 13, (.move (.t 4)), none, none⟩,⟨some 14, (.iaddr 3 (.t 12) (.t 13)), none, none⟩,⟨some 15, (.load (some 3) (.t 14)), none, none⟩,⟨some 16, (.callp (.k (rF 73)) [(.t 15), (.k (rI .i64 1048576))]), none, none⟩,⟨some 17, (.bin .add (.t 11) (.t 16)), none, none⟩,⟨some 3, (.move (.t 17)), none, none⟩])
 (.seq
 (.region [] [] [4, 0, 8, 3, 19, 2] [⟨some 18, (.move (.t 3)), none, none⟩,⟨some 19, (.bin .gtr (.t 18) (.k (rI .i64 1048576))), none, none⟩])
 (.cond (.t 19)
 (.seq
 (.region [] [] [4, 0, 8, 3, 19, 2] [⟨some 2, (.move (.k (rB true))), none, none⟩])
 .ret)
 .skip))))
 (.region [] [] [4, 0, 8, 3, 19, 2] [⟨some 9, (.move (.t 4)), none, none⟩,⟨some 10, (.bin .add (.t 9) (.k (rI .i64 1))), none, none⟩,⟨some 4, (.move (.t 10)), none, none⟩])))
def ic2030 : IC :=
 (.seq
 (.region [] [] [4, 0, 8, 3, 19, 2] [⟨some 2, (.move (.k (rB false))), none, none⟩])
 (.seq
 (.region [] [] [4, 0, 8, 3, 19, 2] [⟨some 3, (.move (.k (rI .i64 0))), none, none⟩])
 (.seq
 (.seq
 (.region [] [] [4, 0, 8, 3, 19, 2] [⟨some 4, (.move (.k (rI .i64 0))), none, none⟩])
 (.block 0
 (.loop ic2030l0)))
 (.seq
 (.region [] [] [4, 0, 8, 3, 19, 2] [⟨some 2, (.move (.k (rB false))), none, none⟩])
 .ret))))
def ir2030 : List IRes := [.tmp 2]
theorem ie2030 : cmpFunc Go.Proofs.Tryz.prog ⟨[], []⟩ Go.Proofs.Tryz.f30 [4, 0, 8, 3, 19, 2] = some ic2030 := by kernel_rfl
theorem ig2030 : cmpRes Go.Proofs.Tryz.prog Go.Proofs.Tryz.f30.results.toList = some ir2030 := by kernel_rfl
end Go.Proofs.YtiomojlcnemnhaaGreatDoor

import Derived.Test.YtiomojlcnemnhaaDoorSFxZ
import Derived.Test.YtiomojlcnemnhaaDoorProg
import Derived.KernelRfl
namespace Go.Proofs.YtiomojlcnemnhaaDoor
open Go.Fx
def ic85 : IC :=
 (.seq
 (.region [1] [] [0, 1, 3, 7, 15, 2] [⟨some 1, (.box 96 (.t 0)), none, none⟩,⟨some 2, (.move (.k (rI .i64 0))), none, none⟩])
 (.seq
 (.seq
 (.region [] [] [0, 1, 3, 7, 15, 2] [⟨some 4, (.load (some 3) (.t 1)), none, none⟩,⟨some 5, (.callp (.k (rF 66)) [(.t 4)]), none, none⟩,⟨some 3, (.move (.t 5)), none, none⟩])
 (.seq
 (.region [] [] [0, 1, 3, 7, 15, 2] [⟨some 6, (.move (.t 3)), none, none⟩,⟨some 7, (.bin .neq (.t 6) (.k (rI .i64 0))), none, none⟩])
 (.cond (.t 7)
 (.seq
 (.region [] [] [0, 1, 3, 7, 15, 2] [⟨some 8, (.move (.t 3)), none, none⟩,⟨some 2, (.move (.t 8)), none, none⟩])
 .ret)
 .skip)))
 (.seq
 (.seq
 (.region [] [] [0, 1, 3, 7, 15, 2] [⟨some 9, (.faddr 2 (.t 1)), none, none⟩,⟨some 10, (.load none (.t 9)), none, none⟩,⟨some 11, (.call (.k (rF 121)) [(.t 10)]), none, (some [7, 9, 22])⟩,⟨some 12, (.load (some 3) (.t 1)), none, (some [1])⟩,⟨some 13, (.callp (.k (rF 68)) [(.t 12)]), none, none⟩,⟨some 14, (.call (.k (rF 155)) [(.t 11), (.t 13)]), none, (some [7, 9, 22])⟩,⟨some 15, (.un .not (.t 14)), none, none⟩])
 (.cond (.t 15)
 (.seq
 (.region [] [] [0, 1, 3, 7, 15, 2] [⟨some 2, (.move (.k (rI .i64 73))), none, none⟩])
 .ret)
 .skip))
 (.seq
 (.region [] [] [0, 1, 3, 7, 15, 2] [⟨some 2, (.move (.k (rI .i64 0))), none, none⟩])
 .ret))))
def ir85 : List IRes := [.tmp 2]
theorem ie85 : cmpFunc Go.Proofs.Tryd.prog ⟨[(11, (some [7, 9, 22])), (12, (some [1])), (14, (some [7, 9, 22])), (11, none), (14, none)], []⟩ Go.Proofs.Tryd.f85 [0, 1, 3, 7, 15, 2] = some ic85 := by kernel_rfl
theorem ig85 : cmpRes Go.Proofs.Tryd.prog Go.Proofs.Tryd.f85.results.toList = some ir85 := by kernel_rfl
end Go.Proofs.YtiomojlcnemnhaaDoor

import Derived.Test.YtiomojlcnemnhaaGreatDoorCFxZ
import Derived.Test.YtiomojlcnemnhaaGreatDoorProg
import Derived.KernelRfl
namespace Go.Proofs.YtiomojlcnemnhaaGreatDoor
open Go.Fx
def ic31l0 : IC :=
 (.seq
 (.seq
 (.region [] [] [1, 3, 0, 6, 18, 5, 4] [⟨some 14, (.move (.t 6)), none, none⟩,⟨some 15, (.faddr 5 (.t 3)), none, none⟩,⟨some 16, (.load none (.t 15)), none, none⟩,⟨some 17, (.len (.t 16)), none, none⟩,⟨some 18, (.bin .lss (.t 14) (.t 17)), none, none⟩])
 (.cond (.t 18)
 .skip
 (.exit 0)))
 (.seq
 (.block 1
 (.region [30] [] [1, 3, 0, 6, 18, 5, 4] [⟨some 21, (.faddr 5 (.t 5)), none, none⟩,⟨some 22, (.load none (.t 21)), none, none⟩,⟨some 23, (.move (.t 0)), none, none⟩,⟨some 24, (.faddr 5 (.t 3)), none, none⟩,⟨some 25, (.load none (.t 24)), none, none⟩,⟨some 26, (.move (.t 6)), none, none⟩,⟨some 27, (.iaddr 6 (.t 25) (.t 26)), none, none⟩,⟨some 28, (.load (some 6) (.t 27)), none, none⟩,⟨some 29, (.callp (.k (rF 254)) [(.t 23), (.t 28)]), none, none⟩,⟨some 30, (.row 105 6 [(.t 29)]), none, none⟩,⟨some 31, (.app 105 6 80 (.t 22) (.t 30)), none, none⟩,⟨some 32, (.faddr 5 (.t 5)), none, none⟩,⟨none, (.store (some 1) (.t 32) (.t 31)), none, none⟩]))
 (.region [] [] [1, 3, 0, 6, 18, 5, 4] [⟨some 19, (.move (.t 6)), none, none⟩,⟨some 20, (.bin .add (.t 19) (.k (rI .i64 1))), none, none⟩,⟨some 6, (.move (.t 20)), none, none⟩])))
def ic31 : IC :=
 (.seq
 (.region [3, 4] [] [1, 3, 0, 6, 18, 5, 4] [⟨some 3, (.box 105 (.t 1)), none, none⟩,⟨some 4, (.zero 105 [(.c (.v (.int .i8 0))), (.c (.v (.string (bs [])))), (.c (.v (.int .i8 0))), (.c (.v (.int .i64 0))), (.c (.v (.string (bs [])))), .nil]), none, none⟩])
 (.seq
 (.region [5] [] [1, 3, 0, 6, 18, 5, 4] [⟨some 7, (.faddr 0 (.t 3)), none, none⟩,⟨some 8, (.load none (.t 7)), none, (some [3])⟩,⟨some 9, (.move (.t 0)), none, none⟩,⟨some 10, (.faddr 1 (.t 3)), none, none⟩,⟨some 11, (.load (some 4) (.t 10)), none, (some [3])⟩,⟨some 12, (.callp (.k (rF 85)) [(.t 9), (.t 11)]), none, none⟩,⟨some 13, (.build [(.c (.v (.int .i8 0))), (.c (.v (.string (bs [])))), (.c (.v (.int .i8 0))), (.c (.v (.int .i64 0))), (.c (.v (.string (bs [])))), .nil] [(0, 1, (.t 8)), (1, 4, (.t 12))]), none, none⟩,⟨some 5, (.zero 105 [(.c (.v (.int .i8 0))), (.c (.v (.string (bs [])))), (.c (.v (.int .i8 0))), (.c (.v (.int .i64 0))), (.c (.v (.string (bs [])))), .nil]), none, none⟩,⟨none, (.store (some 6) (.t 5) (.t 13)), none, none⟩])
 (.seq
 (.seq
 (.region [] [] [1, 3, 0, 6, 18, 5, 4] [⟨some 6, (.move (.k (rI .i64 0))), none, none⟩])
 (.block 0
 (.loop ic31l0)))
 (.seq
 (.region [] [] [1, 3, 0, 6, 18, 5, 4] [⟨some 33, (.load (some 6) (.t 5)), none, none⟩,⟨none, (.store (some 6) (.t 4) (.t 33)), none, none⟩])
 .ret))))
def ir31 : List IRes := [.cell 4 (some 6)]
theorem ie31 : cmpFunc Go.Proofs.Tryz.prog ⟨[(8, (some [3])), (11, (some [3]))], []⟩ Go.Proofs.Tryz.f254 [1, 3, 0, 6, 18, 5, 4] = some ic31 := by kernel_rfl
theorem ig31 : cmpRes Go.Proofs.Tryz.prog Go.Proofs.Tryz.f254.results.toList = some ir31 := by kernel_rfl
end Go.Proofs.YtiomojlcnemnhaaGreatDoor

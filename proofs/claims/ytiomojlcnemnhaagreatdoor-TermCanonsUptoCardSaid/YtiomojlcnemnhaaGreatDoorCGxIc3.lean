import Derived.Test.YtiomojlcnemnhaaGreatDoorCFxZ
import Derived.Test.YtiomojlcnemnhaaGreatDoorProg
import Derived.KernelRfl
namespace Go.Proofs.YtiomojlcnemnhaaGreatDoor
open Go.Fx
def ic2021l0 : IC :=
 (.seq
 (.seq
 (.region [] [] [1, 3, 6, 14, 5, 0, 4] [⟨some 10, (.move (.t 6)), none, none⟩,⟨some 11, (.faddr 1 (.t 3)), none, none⟩,⟨some 12, (.load none (.t 11)), none, none⟩,⟨some 13, (.len (.t 12)), none, none⟩,⟨some 14, (.bin .lss (.t 10) (.t 13)), none, none⟩])
 (.cond (.t 14)
 .skip
 (.exit 0)))
 (.seq
 (.block 1
 (.region [26] [] [1, 3, 6, 14, 5, 0, 4] [⟨some 17, (.faddr 1 (.t 5)), none, none⟩,⟨some 18, (.load none (.t 17)), none, none⟩,⟨some 19, (.move (.t 0)), none, none⟩,⟨some 20, (.faddr 1 (.t 3)), none, none⟩,⟨some 21, (.load none (.t 20)), none, none⟩,⟨some 22, (.move (.t 6)), none, none⟩,⟨some 23, (.iaddr 4 (.t 21) (.t 22)), none, none⟩,⟨some 24, (.load (some 4) (.t 23)), none, none⟩,⟨some 25, (.callp (.k (rF 85)) [(.t 19), (.t 24)]), none, none⟩,⟨some 26, (.row 73 4 [(.t 25)]), none, none⟩,⟨some 27, (.app 73 4 48 (.t 18) (.t 26)), none, none⟩,⟨some 28, (.faddr 1 (.t 5)), none, none⟩,⟨none, (.store (some 1) (.t 28) (.t 27)), none, none⟩]))
 (.region [] [] [1, 3, 6, 14, 5, 0, 4] [⟨some 15, (.move (.t 6)), none, none⟩,⟨some 16, (.bin .add (.t 15) (.k (rI .i64 1))), none, none⟩,⟨some 6, (.move (.t 16)), none, none⟩])))
def ic2021 : IC :=
 (.seq
 (.region [3, 4] [] [1, 3, 6, 14, 5, 0, 4] [⟨some 3, (.box 25 (.t 1)), none, none⟩,⟨some 4, (.zero 25 [(.c (.v (.string (bs [])))), .nil]), none, none⟩])
 (.seq
 (.region [5] [] [1, 3, 6, 14, 5, 0, 4] [⟨some 7, (.faddr 0 (.t 3)), none, none⟩,⟨some 8, (.load none (.t 7)), none, none⟩,⟨some 9, (.build [(.c (.v (.string (bs [])))), .nil] [(0, 1, (.t 8))]), none, none⟩,⟨some 5, (.zero 25 [(.c (.v (.string (bs [])))), .nil]), none, none⟩,⟨none, (.store (some 2) (.t 5) (.t 9)), none, none⟩])
 (.seq
 (.seq
 (.region [] [] [1, 3, 6, 14, 5, 0, 4] [⟨some 6, (.move (.k (rI .i64 0))), none, none⟩])
 (.block 0
 (.loop ic2021l0)))
 (.seq
 (.region [] [] [1, 3, 6, 14, 5, 0, 4] [⟨some 29, (.load (some 2) (.t 5)), none, none⟩,⟨none, (.store (some 2) (.t 4) (.t 29)), none, none⟩])
 .ret))))
def ir2021 : List IRes := [.cell 4 (some 2)]
theorem ie2021 : cmpFunc Go.Proofs.Tryz.prog ⟨[], []⟩ Go.Proofs.Tryz.f21 [1, 3, 6, 14, 5, 0, 4] = some ic2021 := by kernel_rfl
theorem ig2021 : cmpRes Go.Proofs.Tryz.prog Go.Proofs.Tryz.f21.results.toList = some ir2021 := by kernel_rfl
def ic2078l0 : IC :=
 (.seq
 (.seq
 (.region [] [] [1, 3, 6, 15, 5, 0, 7, 42, 4] [⟨some 11, (.move (.t 6)), none, none⟩,⟨some 12, (.faddr 1 (.t 3)), none, none⟩,⟨some 13, (.load none (.t 12)), none, none⟩,⟨some 14, (.len (.t 13)), none, none⟩,⟨some 15, (.bin .lss (.t 11) (.t 14)), none, none⟩])
 (.cond (.t 15)
 .skip
 (.exit 0)))
 (.seq
 (.block 1
 (.region [35] [] [1, 3, 6, 15, 5, 0, 7, 42, 4] [⟨some 18, (.faddr 1 (.t 5)), none, none⟩,⟨some 19, (.load none (.t 18)), none, none⟩,⟨some 20, (.faddr 1 (.t 3)), none, none⟩,⟨some 21, (.load none (.t 20)), none, none⟩,⟨some 22, (.move (.t 6)), none, none⟩,⟨some 23, (.iaddr 5 (.t 21) (.t 22)), none, none⟩,⟨some 24, (.faddr 0 (.t 23)), none, none⟩,⟨some 25, (.load none (.t 24)), none, none⟩,⟨some 26, (.move (.t 0)), none, none⟩,⟨some 27, (.faddr 1 (.t 3)), none, none⟩,⟨some 28, (.load none (.t 27)), none, none⟩,⟨some 29, (.move (.t 6)), none, none⟩,⟨some 30, (.iaddr 5 (.t 28) (.t 29)), none, none⟩,⟨some 31, (.faddr 1 (.t 30)), none, none⟩,⟨some 32, (.load (some 4) (.t 31)), none, none⟩,⟨some 33, (.callp (.k (rF 85)) [(.t 26), (.t 32)]), none, none⟩,⟨some 34, (.build [(.c (.v (.int .i8 0))), (.c (.v (.string (bs [])))), (.c (.v (.int .i8 0))), (.c (.v (.int .i64 0))), (.c (.v (.string (bs []))))] [(0, 1, (.t 25)), (1, 4, (.t 33))]), none, none⟩,⟨some 35, (.row 137 5 [(.t 34)]), none, none⟩,⟨some 36, (.app 137 5 56 (.t 19) (.t 35)), none, none⟩,⟨some 37, (.faddr 1 (.t 5)), none, none⟩,⟨none, (.store (some 1) (.t 37) (.t 36)), none, none⟩]))
 (.region [] [] [1, 3, 6, 15, 5, 0, 7, 42, 4] [⟨some 16, (.move (.t 6)), none, none⟩,⟨some 17, (.bin .add (.t 16) (.k (rI .i64 1))), none, none⟩,⟨some 6, (.move (.t 17)), none, none⟩])))
def ic2078l1 : IC :=
 (.seq
 (.seq
 (.region [] [] [1, 3, 6, 15, 5, 0, 7, 42, 4] [⟨some 38, (.move (.t 7)), none, none⟩,⟨some 39, (.faddr 2 (.t 3)), none, none⟩,⟨some 40, (.load none (.t 39)), none, none⟩,⟨some 41, (.len (.t 40)), none, none⟩,⟨some 42, (.bin .lss (.t 38) (.t 41)), none, none⟩])
 (.cond (.t 42)
 .skip
 (.exit 2)))
 (.seq
 (.block 3
 (.region [54] [] [1, 3, 6, 15, 5, 0, 7, 42, 4] [⟨some 45, (.faddr 2 (.t 5)), none, none⟩,⟨some 46, (.load none (.t 45)), none, none⟩,⟨some 47, (.move (.t 0)), none, none⟩,⟨some 48, (.faddr 2 (.t 3)), none, none⟩,⟨some 49, (.load none (.t 48)), none, none⟩,⟨some 50, (.move (.t 7)), none, none⟩,⟨some 51, (.iaddr 16 (.t 49) (.t 50)), none, none⟩,⟨some 52, (.load (some 16) (.t 51)), none, none⟩,⟨some 53, (.callp (.k (rF 177)) [(.t 47), (.t 52)]), none, none⟩,⟨some 54, (.row 107 16 [(.t 53)]), none, none⟩,⟨some 55, (.app 107 16 216 (.t 46) (.t 54)), none, none⟩,⟨some 56, (.faddr 2 (.t 5)), none, none⟩,⟨none, (.store (some 1) (.t 56) (.t 55)), none, none⟩]))
 (.region [] [] [1, 3, 6, 15, 5, 0, 7, 42, 4] [⟨some 43, (.move (.t 7)), none, none⟩,⟨some 44, (.bin .add (.t 43) (.k (rI .i64 1))), none, none⟩,⟨some 7, (.move (.t 44)), none, none⟩])))
def ic2078 : IC :=
 (.seq
 (.region [3, 4] [] [1, 3, 6, 15, 5, 0, 7, 42, 4] [⟨some 3, (.box 29 (.t 1)), none, none⟩,⟨some 4, (.zero 29 [(.c (.v (.string (bs [])))), .nil, .nil]), none, none⟩])
 (.seq
 (.region [5] [] [1, 3, 6, 15, 5, 0, 7, 42, 4] [⟨some 8, (.faddr 0 (.t 3)), none, none⟩,⟨some 9, (.load none (.t 8)), none, none⟩,⟨some 10, (.build [(.c (.v (.string (bs [])))), .nil, .nil] [(0, 1, (.t 9))]), none, none⟩,⟨some 5, (.zero 29 [(.c (.v (.string (bs [])))), .nil, .nil]), none, none⟩,⟨none, (.store (some 3) (.t 5) (.t 10)), none, none⟩])
 (.seq
 (.seq
 (.region [] [] [1, 3, 6, 15, 5, 0, 7, 42, 4] [⟨some 6, (.move (.k (rI .i64 0))), none, none⟩])
 (.block 0
 (.loop ic2078l0)))
 (.seq
 (.seq
 (.region [] [] [1, 3, 6, 15, 5, 0, 7, 42, 4] [⟨some 7, (.move (.k (rI .i64 0))), none, none⟩])
 (.block 2
 (.loop ic2078l1)))
 (.seq
 (.region [] [] [1, 3, 6, 15, 5, 0, 7, 42, 4] [⟨some 57, (.load (some 3) (.t 5)), none, none⟩,⟨none, (.store (some 3) (.t 4) (.t 57)), none, none⟩])
 .ret)))))
def ir2078 : List IRes := [.cell 4 (some 3)]
theorem ie2078 : cmpFunc Go.Proofs.Tryz.prog ⟨[], []⟩ Go.Proofs.Tryz.f78 [1, 3, 6, 15, 5, 0, 7, 42, 4] = some ic2078 := by kernel_rfl
theorem ig2078 : cmpRes Go.Proofs.Tryz.prog Go.Proofs.Tryz.f78.results.toList = some ir2078 := by kernel_rfl
def ic2177 : IC :=
 (.seq
 (.region [3, 4] [] [1, 3, 0, 4] [⟨some 3, (.box 107 (.t 1)), none, none⟩,⟨some 4, (.zero 107 [(.c (.v (.int .i8 0))), (.c (.v (.string (bs [])))), .nil, (.c (.v (.int .i8 0))), (.c (.v (.int .i8 0))), (.c (.v (.string (bs [])))), (.c (.v (.int .i8 0))), (.c (.v (.int .i64 0))), (.c (.v (.string (bs [])))), .nil, (.c (.v (.int .i8 0))), (.c (.v (.string (bs [])))), (.c (.v (.int .i8 0))), (.c (.v (.int .i64 0))), (.c (.v (.string (bs [])))), .nil]), none, none⟩])
 (.seq
 (.region [] [] [1, 3, 0, 4] [⟨some 5, (.faddr 0 (.t 3)), none, none⟩,⟨some 6, (.load none (.t 5)), none, none⟩,⟨some 7, (.move (.t 0)), none, none⟩,⟨some 8, (.faddr 1 (.t 3)), none, none⟩,⟨some 9, (.load (some 2) (.t 8)), none, none⟩,⟨some 10, (.callp (.k (rF 21)) [(.t 7), (.t 9)]), none, none⟩,⟨some 11, (.faddr 3 (.t 3)), none, none⟩,⟨some 12, (.load none (.t 11)), none, none⟩,⟨some 13, (.move (.t 0)), none, none⟩,⟨some 14, (.faddr 4 (.t 3)), none, none⟩,⟨some 15, (.load (some 6) (.t 14)), none, none⟩,⟨some 16, (.callp (.k (rF 254)) [(.t 13), (.t 15)]), none, none⟩,⟨some 17, (.move (.t 0)), none, none⟩,⟨some 18, (.faddr 10 (.t 3)), none, none⟩,⟨some 19, (.load (some 6) (.t 18)), none, none⟩,⟨some 20, (.callp (.k (rF 254)) [(.t 17), (.t 19)]), none, none⟩,⟨some 21, (.build [(.c (.v (.int .i8 0))), (.c (.v (.string (bs [])))), .nil, (.c (.v (.int .i8 0))), (.c (.v (.int .i8 0))), (.c (.v (.string (bs [])))), (.c (.v (.int .i8 0))), (.c (.v (.int .i64 0))), (.c (.v (.string (bs [])))), .nil, (.c (.v (.int .i8 0))), (.c (.v (.string (bs [])))), (.c (.v (.int .i8 0))), (.c (.v (.int .i64 0))), (.c (.v (.string (bs [])))), .nil] [(0, 1, (.t 6)), (1, 2, (.t 10)), (3, 1, (.t 12)), (4, 6, (.t 16)), (10, 6, (.t 20))]), none, none⟩,⟨none, (.store (some 16) (.t 4) (.t 21)), none, none⟩])
 .ret))
def ir2177 : List IRes := [.cell 4 (some 16)]
theorem ie2177 : cmpFunc Go.Proofs.Tryz.prog ⟨[], []⟩ Go.Proofs.Tryz.f177 [1, 3, 0, 4] = some ic2177 := by kernel_rfl
theorem ig2177 : cmpRes Go.Proofs.Tryz.prog Go.Proofs.Tryz.f177.results.toList = some ir2177 := by kernel_rfl
end Go.Proofs.YtiomojlcnemnhaaGreatDoor

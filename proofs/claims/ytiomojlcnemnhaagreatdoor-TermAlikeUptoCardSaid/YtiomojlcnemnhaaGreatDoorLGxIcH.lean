import Derived.Test.YtiomojlcnemnhaaGreatDoorLFxZ
import Derived.Test.YtiomojlcnemnhaaGreatDoorProg
import Derived.KernelRfl
namespace Go.Proofs.YtiomojlcnemnhaaGreatDoor
open Go.Fx
def ic62 : IC :=
 (.seq
 (.region [1] [] [0, 1, 2] [⟨some 1, (.box 29 (.t 0)), none, none⟩,⟨some 2, (.move (.k (rB false))), none, none⟩])
 (.seq
 (.region [] [] [0, 1, 2] [⟨some 3, (.load (some 3) (.t 1)), none, none⟩,⟨some 4, (.callp (.k (rF 73)) [(.t 3), (.k (rI .i64 1048576))]), none, none⟩,⟨some 5, (.bin .gtr (.t 4) (.k (rI .i64 1048576))), none, none⟩,⟨some 2, (.move (.t 5)), none, none⟩])
 .ret))
def ir62 : List IRes := [.tmp 2]
theorem ie62 : cmpFunc Go.Proofs.Tryz.prog ⟨[], []⟩ Go.Proofs.Tryz.f13 [0, 1, 2] = some ic62 := by kernel_rfl
theorem ig62 : cmpRes Go.Proofs.Tryz.prog Go.Proofs.Tryz.f13.results.toList = some ir62 := by kernel_rfl
def ic55 : IC :=
 (.seq
 (.region [2, 3] [] [0, 1, 2, 3, 4] [⟨some 2, (.box 25 (.t 0)), none, none⟩,⟨some 3, (.box 25 (.t 1)), none, none⟩,⟨some 4, (.move (.k (rB false))), none, none⟩])
 (.seq
 (.region [] [] [0, 1, 2, 3, 4] [⟨some 5, (.faddr 0 (.t 2)), none, none⟩,⟨some 6, (.load none (.t 5)), none, none⟩,⟨some 7, (.faddr 0 (.t 3)), none, none⟩,⟨some 8, (.load none (.t 7)), none, none⟩,⟨some 9, (.bin .eql (.t 6) (.t 8)), none, none⟩,⟨some 10, (.move (.t 9)), none, none⟩,⟨some 11, (.faddr 1 (.t 2)), some (10, true), none⟩,⟨some 12, (.load none (.t 11)), some (10, true), none⟩,⟨some 13, (.faddr 1 (.t 3)), some (10, true), none⟩,⟨some 14, (.load none (.t 13)), some (10, true), none⟩,⟨some 15, (.callp (.k (rF 84)) [(.t 12), (.t 14)]), some (10, true), none⟩,⟨some 16, (.pick (.t 10) (.t 15) (.k (rB false))), none, none⟩,⟨some 4, (.move (.t 16)), none, none⟩])
 .ret))
def ir55 : List IRes := [.tmp 4]
theorem ie55 : cmpFunc Go.Proofs.Tryz.prog ⟨[], []⟩ Go.Proofs.Tryz.f20 [0, 1, 2, 3, 4] = some ic55 := by kernel_rfl
theorem ig55 : cmpRes Go.Proofs.Tryz.prog Go.Proofs.Tryz.f20.results.toList = some ir55 := by kernel_rfl
def ic67 : IC :=
 (.seq
 (.region [1] [] [0, 1, 2] [⟨some 1, (.box 29 (.t 0)), none, none⟩,⟨some 2, (.move (.k (rI .i64 0))), none, none⟩])
 (.seq
 (.region [] [] [0, 1, 2] [⟨some 3, (.load (some 3) (.t 1)), none, none⟩,⟨some 4, (.callp (.k (rF 77)) [(.t 3)]), none, none⟩,⟨some 5, (.callp (.k (rF 140)) [(.t 4)]), none, none⟩,⟨some 2, (.move (.t 5)), none, none⟩])
 .ret))
def ir67 : List IRes := [.tmp 2]
theorem ie67 : cmpFunc Go.Proofs.Tryz.prog ⟨[], []⟩ Go.Proofs.Tryz.f46 [0, 1, 2] = some ic67 := by kernel_rfl
theorem ig67 : cmpRes Go.Proofs.Tryz.prog Go.Proofs.Tryz.f46.results.toList = some ir67 := by kernel_rfl
def ic69 : IC :=
 (.seq
 (.region [1] [] [0, 1, 2] [⟨some 1, (.box 29 (.t 0)), none, none⟩,⟨some 2, (.move (.k (.x (.one .nil)))), none, none⟩])
 (.seq
 (.region [] [] [0, 1, 2] [⟨some 3, (.load (some 3) (.t 1)), none, none⟩,⟨some 4, (.callp (.k (rF 142)) [(.t 3)]), none, none⟩,⟨some 5, (.callp (.k (rF 141)) [(.t 4)]), none, none⟩,⟨some 2, (.move (.t 5)), none, none⟩])
 .ret))
def ir69 : List IRes := [.tmp 2]
theorem ie69 : cmpFunc Go.Proofs.Tryz.prog ⟨[], []⟩ Go.Proofs.Tryz.f48 [0, 1, 2] = some ic69 := by kernel_rfl
theorem ig69 : cmpRes Go.Proofs.Tryz.prog Go.Proofs.Tryz.f48.results.toList = some ir69 := by kernel_rfl
def ic135l0 : IC :=
 (.seq
 (.seq
 (.region [] [] [0, 1, 20, 3, 25, 34, 4, 39, 48, 2] [⟨some 21, (.move (.t 3)), none, none⟩,⟨some 22, (.faddr 1 (.t 1)), none, none⟩,⟨some 23, (.load none (.t 22)), none, none⟩,⟨some 24, (.len (.t 23)), none, none⟩,⟨some 25, (.bin .lss (.t 21) (.t 24)), none, none⟩])
 (.cond (.t 25)
 .skip
 (.exit 0)))
 (.seq
 (.block 1
 (.seq
 (.region [] [] [0, 1, 20, 3, 25, 34, 4, 39, 48, 2] [⟨some 28, (.faddr 1 (.t 1)), none, none⟩,⟨some 29, (.load none (.t 28)), none, none⟩,⟨some 30, (.move (.t 3)), none, none⟩,⟨some 31, (.iaddr 5 (.t 29) (.t 30)), none, none⟩,⟨some 32, (.load (some 5) (.t 31)), none, none⟩,⟨some 33, (.callp (.k (rF 175)) [(.t 32)]), none, none⟩,⟨some 34, (.un .not (.t 33)), none, none⟩])
 (.cond (.t 34)
 (.seq
 (.region [] [] [0, 1, 20, 3, 25, 34, 4, 39, 48, 2] [⟨some 2, (.move (.k (rB false))), none, none⟩])
 .ret)
 .skip)))
 (.region [] [] [0, 1, 20, 3, 25, 34, 4, 39, 48, 2] [⟨some 26, (.move (.t 3)), none, none⟩,⟨some 27, (.bin .add (.t 26) (.k (rI .i64 1))), none, none⟩,⟨some 3, (.move (.t 27)), none, none⟩])))
def ic135l1 : IC :=
 (.seq
 (.seq
 (.region [] [] [0, 1, 20, 3, 25, 34, 4, 39, 48, 2] [⟨some 35, (.move (.t 4)), none, none⟩,⟨some 36, (.faddr 2 (.t 1)), none, none⟩,⟨some 37, (.load none (.t 36)), none, none⟩,⟨some 38, (.len (.t 37)), none, none⟩,⟨some 39, (.bin .lss (.t 35) (.t 38)), none, none⟩])
 (.cond (.t 39)
 .skip
 (.exit 2)))
 (.seq
 (.block 3
 (.seq
 (.region [] [] [0, 1, 20, 3, 25, 34, 4, 39, 48, 2] [⟨some 42, (.faddr 2 (.t 1)), none, none⟩,⟨some 43, (.load none (.t 42)), none, none⟩,⟨some 44, (.move (.t 4)), none, none⟩,⟨some 45, (.iaddr 16 (.t 43) (.t 44)), none, none⟩,⟨some 46, (.load (some 16) (.t 45)), none, none⟩,⟨some 47, (.callp (.k (rF 176)) [(.t 46)]), none, none⟩,⟨some 48, (.un .not (.t 47)), none, none⟩])
 (.cond (.t 48)
 (.seq
 (.region [] [] [0, 1, 20, 3, 25, 34, 4, 39, 48, 2] [⟨some 2, (.move (.k (rB false))), none, none⟩])
 .ret)
 .skip)))
 (.region [] [] [0, 1, 20, 3, 25, 34, 4, 39, 48, 2] [⟨some 40, (.move (.t 4)), none, none⟩,⟨some 41, (.bin .add (.t 40) (.k (rI .i64 1))), none, none⟩,⟨some 4, (.move (.t 41)), none, none⟩])))
def ic135 : IC :=
 (.seq
 (.region [1] [] [0, 1, 20, 3, 25, 34, 4, 39, 48, 2] [⟨some 1, (.box 29 (.t 0)), none, none⟩,⟨some 2, (.move (.k (rB false))), none, none⟩])
 (.seq
 (.seq
 (.region [] [] [0, 1, 20, 3, 25, 34, 4, 39, 48, 2] [⟨some 5, (.faddr 0 (.t 1)), none, none⟩,⟨some 6, (.load none (.t 5)), none, none⟩,⟨some 7, (.callp (.k (rF 174)) [(.t 6)]), none, none⟩,⟨some 8, (.un .not (.t 7)), none, none⟩,⟨some 9, (.move (.t 8)), none, none⟩,⟨some 10, (.faddr 1 (.t 1)), some (9, false), none⟩,⟨some 11, (.load none (.t 10)), some (9, false), none⟩,⟨some 12, (.len (.t 11)), some (9, false), none⟩,⟨some 13, (.bin .gtr (.t 12) (.k (rI .i64 24))), some (9, false), none⟩,⟨some 14, (.pick (.t 9) (.k (rB true)) (.t 13)), none, none⟩,⟨some 15, (.move (.t 14)), none, none⟩,⟨some 16, (.faddr 2 (.t 1)), some (15, false), none⟩,⟨some 17, (.load none (.t 16)), some (15, false), none⟩,⟨some 18, (.len (.t 17)), some (15, false), none⟩,⟨some 19, (.bin .gtr (.t 18) (.k (rI .i64 16))), some (15, false), none⟩,⟨some 20, (.pick (.t 15) (.k (rB true)) (.t 19)), none, none⟩])
 (.cond (.t 20)
 (.seq
 (.region [] [] [0, 1, 20, 3, 25, 34, 4, 39, 48, 2] [⟨some 2, (.move (.k (rB false))), none, none⟩])
 .ret)
 .skip))
 (.seq
 (.seq
 (.region [] [] [0, 1, 20, 3, 25, 34, 4, 39, 48, 2] [⟨some 3, (.move (.k (rI .i64 0))), none, none⟩])
 (.block 0
 (.loop ic135l0)))
 (.seq
 (.seq
 (.region [] [] [0, 1, 20, 3, 25, 34, 4, 39, 48, 2] [⟨some 4, (.move (.k (rI .i64 0))), none, none⟩])
 (.block 2
 (.loop ic135l1)))
 (.seq
 (.region [] [] [0, 1, 20, 3, 25, 34, 4, 39, 48, 2] [⟨some 49, (.load (some 3) (.t 1)), none, none⟩,⟨some 50, (.callp (.k (rF 48)) [(.t 49)]), none, none⟩,⟨some 51, (.len (.t 50)), none, none⟩,⟨some 52, (.bin .leq (.t 51) (.k (rI .i64 24))), none, none⟩,⟨some 2, (.move (.t 52)), none, none⟩])
 .ret)))))
def ir135 : List IRes := [.tmp 2]
theorem ie135 : cmpFunc Go.Proofs.Tryz.prog ⟨[], []⟩ Go.Proofs.Tryz.f77 [0, 1, 20, 3, 25, 34, 4, 39, 48, 2] = some ic135 := by kernel_rfl
theorem ig135 : cmpRes Go.Proofs.Tryz.prog Go.Proofs.Tryz.f77.results.toList = some ir135 := by kernel_rfl
def ic139l0 : IC :=
 (.seq
 (.seq
 (.region [] [] [0, 1, 10, 5, 14, 25, 4] [⟨some 11, (.move (.t 5)), none, none⟩,⟨some 12, (.move (.t 0)), none, none⟩,⟨some 13, (.len (.t 12)), none, none⟩,⟨some 14, (.bin .lss (.t 11) (.t 13)), none, none⟩])
 (.cond (.t 14)
 .skip
 (.exit 0)))
 (.seq
 (.block 1
 (.seq
 (.region [] [] [0, 1, 10, 5, 14, 25, 4] [⟨some 17, (.move (.t 0)), none, none⟩,⟨some 18, (.move (.t 5)), none, none⟩,⟨some 19, (.iaddr 5 (.t 17) (.t 18)), none, none⟩,⟨some 20, (.load (some 5) (.t 19)), none, none⟩,⟨some 21, (.move (.t 1)), none, none⟩,⟨some 22, (.move (.t 5)), none, none⟩,⟨some 23, (.iaddr 5 (.t 21) (.t 22)), none, none⟩,⟨some 24, (.load (some 5) (.t 23)), none, none⟩,⟨some 25, (.eqs true [.i .i8, .s, .i .i8, .i .i64, .s] (.t 20) (.t 24)), none, none⟩])
 (.cond (.t 25)
 (.seq
 (.region [] [] [0, 1, 10, 5, 14, 25, 4] [⟨some 4, (.move (.k (rB false))), none, none⟩])
 .ret)
 .skip)))
 (.region [] [] [0, 1, 10, 5, 14, 25, 4] [⟨some 15, (.move (.t 5)), none, none⟩,⟨some 16, (.bin .add (.t 15) (.k (rI .i64 1))), none, none⟩,⟨some 5, (.move (.t 16)), none, none⟩])))
def ic139 : IC :=
 (.seq
 (.region [] [] [0, 1, 10, 5, 14, 25, 4] [⟨some 4, (.move (.k (rB false))), none, none⟩])
 (.seq
 (.seq
 (.region [] [] [0, 1, 10, 5, 14, 25, 4] [⟨some 6, (.move (.t 0)), none, none⟩,⟨some 7, (.len (.t 6)), none, none⟩,⟨some 8, (.move (.t 1)), none, none⟩,⟨some 9, (.len (.t 8)), none, none⟩,⟨some 10, (.bin .neq (.t 7) (.t 9)), none, none⟩])
 (.cond (.t 10)
 (.seq
 (.region [] [] [0, 1, 10, 5, 14, 25, 4] [⟨some 4, (.move (.k (rB false))), none, none⟩])
 .ret)
 .skip))
 (.seq
 (.seq
 (.region [] [] [0, 1, 10, 5, 14, 25, 4] [⟨some 5, (.move (.k (rI .i64 0))), none, none⟩])
 (.block 0
 (.loop ic139l0)))
 (.seq
 (.region [] [] [0, 1, 10, 5, 14, 25, 4] [⟨some 4, (.move (.k (rB true))), none, none⟩])
 .ret))))
def ir139 : List IRes := [.tmp 4]
theorem ie139 : cmpFunc Go.Proofs.Tryz.prog ⟨[], []⟩ Go.Proofs.Tryz.f86 [0, 1, 10, 5, 14, 25, 4] = some ic139 := by kernel_rfl
theorem ig139 : cmpRes Go.Proofs.Tryz.prog Go.Proofs.Tryz.f86.results.toList = some ir139 := by kernel_rfl
def ic66l0 : IC :=
 (.seq
 (.region [] [] [0, 1, 23, 27, 26, 28, 25, 4, 33, 38, 37, 39, 36, 6, 7, 45, 2] [⟨some 28, (.bin .lss (.t 27) (.t 26)), none, none⟩])
 (.seq
 (.cond (.t 28)
 .skip
 (.exit 0))
 (.seq
 (.block 1
 (.seq
 (.region [4] [] [0, 1, 23, 27, 26, 28, 25, 4, 33, 38, 37, 39, 36, 6, 7, 45, 2] [⟨some 29, (.iaddr 5 (.t 25) (.t 27)), none, none⟩,⟨some 30, (.load (some 5) (.t 29)), none, none⟩,⟨some 4, (.zero 137 [(.c (.v (.int .i8 0))), (.c (.v (.string (bs [])))), (.c (.v (.int .i8 0))), (.c (.v (.int .i64 0))), (.c (.v (.string (bs []))))]), none, none⟩,⟨none, (.store (some 5) (.t 4) (.t 30)), none, none⟩])
 (.seq
 (.region [] [] [0, 1, 23, 27, 26, 28, 25, 4, 33, 38, 37, 39, 36, 6, 7, 45, 2] [⟨some 31, (.load (some 5) (.t 4)), none, none⟩,⟨some 32, (.callp (.k (rF 185)) [(.t 31)]), none, none⟩,⟨some 33, (.un .not (.t 32)), none, none⟩])
 (.cond (.t 33)
 (.seq
 (.region [] [] [0, 1, 23, 27, 26, 28, 25, 4, 33, 38, 37, 39, 36, 6, 7, 45, 2] [⟨some 2, (.move (.k (rI .i64 40))), none, none⟩])
 .ret)
 .skip))))
 (.region [] [] [0, 1, 23, 27, 26, 28, 25, 4, 33, 38, 37, 39, 36, 6, 7, 45, 2] [⟨some 34, (.bin .add (.t 27) (.k (rI .i64 1))), none, none⟩,⟨some 27, (.move (.t 34)), none, none⟩]))))
def ic66l1 : IC :=
 (.seq
 (.region [] [] [0, 1, 23, 27, 26, 28, 25, 4, 33, 38, 37, 39, 36, 6, 7, 45, 2] [⟨some 39, (.bin .lss (.t 38) (.t 37)), none, none⟩])
 (.seq
 (.cond (.t 39)
 .skip
 (.exit 2))
 (.seq
 (.block 3
 (.seq
 (.region [6] [] [0, 1, 23, 27, 26, 28, 25, 4, 33, 38, 37, 39, 36, 6, 7, 45, 2] [⟨some 40, (.iaddr 16 (.t 36) (.t 38)), none, none⟩,⟨some 41, (.load (some 16) (.t 40)), none, none⟩,⟨some 6, (.zero 107 [(.c (.v (.int .i8 0))), (.c (.v (.string (bs [])))), .nil, (.c (.v (.int .i8 0))), (.c (.v (.int .i8 0))), (.c (.v (.string (bs [])))), (.c (.v (.int .i8 0))), (.c (.v (.int .i64 0))), (.c (.v (.string (bs [])))), .nil, (.c (.v (.int .i8 0))), (.c (.v (.string (bs [])))), (.c (.v (.int .i8 0))), (.c (.v (.int .i64 0))), (.c (.v (.string (bs [])))), .nil]), none, none⟩,⟨none, (.store (some 16) (.t 6) (.t 41)), none, none⟩])
 (.seq
 (.region [] [] [0, 1, 23, 27, 26, 28, 25, 4, 33, 38, 37, 39, 36, 6, 7, 45, 2] [⟨some 42, (.load (some 16) (.t 6)), none, none⟩,⟨some 43, (.callp (.k (rF 186)) [(.t 42)]), none, none⟩,⟨some 7, (.move (.t 43)), none, none⟩])
 (.seq
 (.region [] [] [0, 1, 23, 27, 26, 28, 25, 4, 33, 38, 37, 39, 36, 6, 7, 45, 2] [⟨some 44, (.move (.t 7)), none, none⟩,⟨some 45, (.bin .neq (.t 44) (.k (rI .i64 0))), none, none⟩])
 (.cond (.t 45)
 (.seq
 (.region [] [] [0, 1, 23, 27, 26, 28, 25, 4, 33, 38, 37, 39, 36, 6, 7, 45, 2] [⟨some 46, (.move (.t 7)), none, none⟩,⟨some 2, (.move (.t 46)), none, none⟩])
 .ret)
 .skip)))))
 (.region [] [] [0, 1, 23, 27, 26, 28, 25, 4, 33, 38, 37, 39, 36, 6, 7, 45, 2] [⟨some 47, (.bin .add (.t 38) (.k (rI .i64 1))), none, none⟩,⟨some 38, (.move (.t 47)), none, none⟩]))))
def ic66 : IC :=
 (.seq
 (.region [1] [] [0, 1, 23, 27, 26, 28, 25, 4, 33, 38, 37, 39, 36, 6, 7, 45, 2] [⟨some 1, (.box 29 (.t 0)), none, none⟩,⟨some 2, (.move (.k (rI .i64 0))), none, none⟩])
 (.seq
 (.seq
 (.region [] [] [0, 1, 23, 27, 26, 28, 25, 4, 33, 38, 37, 39, 36, 6, 7, 45, 2] [⟨some 8, (.faddr 0 (.t 1)), none, none⟩,⟨some 9, (.load none (.t 8)), none, none⟩,⟨some 10, (.callp (.k (rF 184)) [(.t 9)]), none, none⟩,⟨some 11, (.un .not (.t 10)), none, none⟩,⟨some 12, (.move (.t 11)), none, none⟩,⟨some 13, (.faddr 1 (.t 1)), some (12, false), none⟩,⟨some 14, (.load none (.t 13)), some (12, false), none⟩,⟨some 15, (.len (.t 14)), some (12, false), none⟩,⟨some 16, (.bin .gtr (.t 15) (.k (rI .i64 24))), some (12, false), none⟩,⟨some 17, (.pick (.t 12) (.k (rB true)) (.t 16)), none, none⟩,⟨some 18, (.move (.t 17)), none, none⟩,⟨some 19, (.faddr 2 (.t 1)), some (18, false), none⟩,⟨some 20, (.load none (.t 19)), some (18, false), none⟩,⟨some 21, (.len (.t 20)), some (18, false), none⟩,⟨some 22, (.bin .gtr (.t 21) (.k (rI .i64 16))), some (18, false), none⟩,⟨some 23, (.pick (.t 18) (.k (rB true)) (.t 22)), none, none⟩])
 (.cond (.t 23)
 (.seq
 (.region [] [] [0, 1, 23, 27, 26, 28, 25, 4, 33, 38, 37, 39, 36, 6, 7, 45, 2] [⟨some 2, (.move (.k (rI .i64 40))), none, none⟩])
 .ret)
 .skip))
 (.seq
 (.seq
 (.region [] [] [0, 1, 23, 27, 26, 28, 25, 4, 33, 38, 37, 39, 36, 6, 7, 45, 2] [⟨some 24, (.faddr 1 (.t 1)), none, none⟩,⟨some 25, (.load none (.t 24)), none, none⟩,⟨some 26, (.len (.t 25)), none, none⟩,⟨some 27, (.move (.k (rI .i64 0))), none, none⟩])
 (.block 0
 (.loop ic66l0)))
 (.seq
 (.seq
 (.region [] [] [0, 1, 23, 27, 26, 28, 25, 4, 33, 38, 37, 39, 36, 6, 7, 45, 2] [⟨some 35, (.faddr 2 (.t 1)), none, none⟩,⟨some 36, (.load none (.t 35)), none, none⟩,⟨some 37, (.len (.t 36)), none, none⟩,⟨some 38, (.move (.k (rI .i64 0))), none, none⟩])
 (.block 2
 (.loop ic66l1)))
 (.seq
 (.region [] [] [0, 1, 23, 27, 26, 28, 25, 4, 33, 38, 37, 39, 36, 6, 7, 45, 2] [⟨some 48, (.load (some 3) (.t 1)), none, none⟩,⟨some 49, (.callp (.k (rF 96)) [(.t 48)]), none, none⟩,⟨some 50, (.len (.t 49)), none, none⟩,⟨some 51, (.bin .leq (.t 50) (.k (rI .i64 24))), none, none⟩,⟨some 52, (.callp (.k (rF 187)) [(.t 51)]), none, none⟩,⟨some 2, (.move (.t 52)), none, none⟩])
 .ret)))))
def ir66 : List IRes := [.tmp 2]
theorem ie66 : cmpFunc Go.Proofs.Tryz.prog ⟨[], []⟩ Go.Proofs.Tryz.f93 [0, 1, 23, 27, 26, 28, 25, 4, 33, 38, 37, 39, 36, 6, 7, 45, 2] = some ic66 := by kernel_rfl
theorem ig66 : cmpRes Go.Proofs.Tryz.prog Go.Proofs.Tryz.f93.results.toList = some ir66 := by kernel_rfl
def ic68 : IC :=
 (.seq
 (.region [1] [] [0, 1, 2] [⟨some 1, (.box 29 (.t 0)), none, none⟩,⟨some 2, (.move (.k (.x (.one .nil)))), none, none⟩])
 (.seq
 (.region [] [.fz [1]] [0, 1, 2] [⟨some 3, (.mki 143 (.t 1)), none, none⟩,⟨some 4, (.call (.k (rF 194)) [(.t 3)]), none, none⟩,⟨some 2, (.move (.t 4)), none, none⟩])
 .ret))
def ir68 : List IRes := [.tmp 2]
theorem ie68 : cmpFunc Go.Proofs.Tryz.prog ⟨[(4, none)], [(3, .fz [1])]⟩ Go.Proofs.Tryz.f96 [0, 1, 2] = some ic68 := by kernel_rfl
theorem ig68 : cmpRes Go.Proofs.Tryz.prog Go.Proofs.Tryz.f96.results.toList = some ir68 := by kernel_rfl
def ic136l0 : IC :=
 (.seq
 (.seq
 (.region [] [] [0, 4, 1, 10, 3, 5, 26, 2] [⟨some 6, (.move (.t 4)), none, none⟩,⟨some 7, (.faddr 1 (.t 1)), none, none⟩,⟨some 8, (.load none (.t 7)), none, none⟩,⟨some 9, (.len (.t 8)), none, none⟩,⟨some 10, (.bin .lss (.t 6) (.t 9)), none, none⟩])
 (.cond (.t 10)
 .skip
 (.exit 0)))
 (.seq
 (.block 1
 (.region [20] [] [0, 4, 1, 10, 3, 5, 26, 2] [⟨some 13, (.move (.t 3)), none, none⟩,⟨some 14, (.faddr 1 (.t 1)), none, none⟩,⟨some 15, (.load none (.t 14)), none, none⟩,⟨some 16, (.move (.t 4)), none, none⟩,⟨some 17, (.iaddr 5 (.t 15) (.t 16)), none, none⟩,⟨some 18, (.faddr 1 (.t 17)), none, none⟩,⟨some 19, (.load (some 4) (.t 18)), none, none⟩,⟨some 20, (.row 73 4 [(.t 19)]), none, none⟩,⟨some 21, (.app 73 4 48 (.t 13) (.t 20)), none, none⟩,⟨some 3, (.move (.t 21)), none, none⟩]))
 (.region [] [] [0, 4, 1, 10, 3, 5, 26, 2] [⟨some 11, (.move (.t 4)), none, none⟩,⟨some 12, (.bin .add (.t 11) (.k (rI .i64 1))), none, none⟩,⟨some 4, (.move (.t 12)), none, none⟩])))
def ic136l1 : IC :=
 (.seq
 (.seq
 (.region [] [] [0, 4, 1, 10, 3, 5, 26, 2] [⟨some 22, (.move (.t 5)), none, none⟩,⟨some 23, (.faddr 2 (.t 1)), none, none⟩,⟨some 24, (.load none (.t 23)), none, none⟩,⟨some 25, (.len (.t 24)), none, none⟩,⟨some 26, (.bin .lss (.t 22) (.t 25)), none, none⟩])
 (.cond (.t 26)
 .skip
 (.exit 2)))
 (.seq
 (.block 3
 (.region [] [] [0, 4, 1, 10, 3, 5, 26, 2] [⟨some 29, (.move (.t 3)), none, none⟩,⟨some 30, (.faddr 2 (.t 1)), none, none⟩,⟨some 31, (.load none (.t 30)), none, none⟩,⟨some 32, (.move (.t 5)), none, none⟩,⟨some 33, (.iaddr 16 (.t 31) (.t 32)), none, none⟩,⟨some 34, (.load (some 16) (.t 33)), none, none⟩,⟨some 35, (.call (.k (rF 167)) [(.t 29), (.t 34)]), none, none⟩,⟨some 3, (.move (.t 35)), none, none⟩]))
 (.region [] [] [0, 4, 1, 10, 3, 5, 26, 2] [⟨some 27, (.move (.t 5)), none, none⟩,⟨some 28, (.bin .add (.t 27) (.k (rI .i64 1))), none, none⟩,⟨some 5, (.move (.t 28)), none, none⟩])))
def ic136 : IC :=
 (.seq
 (.region [1] [] [0, 4, 1, 10, 3, 5, 26, 2] [⟨some 1, (.box 29 (.t 0)), none, none⟩,⟨some 2, (.move (.k (.x (.one .nil)))), none, none⟩])
 (.seq
 (.region [] [] [0, 4, 1, 10, 3, 5, 26, 2] [⟨some 3, (.move (.k (.x (.one .nil)))), none, none⟩])
 (.seq
 (.seq
 (.region [] [] [0, 4, 1, 10, 3, 5, 26, 2] [⟨some 4, (.move (.k (rI .i64 0))), none, none⟩])
 (.block 0
 (.loop ic136l0)))
 (.seq
 (.seq
 (.region [] [] [0, 4, 1, 10, 3, 5, 26, 2] [⟨some 5, (.move (.k (rI .i64 0))), none, none⟩])
 (.block 2
 (.loop ic136l1)))
 (.seq
 (.region [] [] [0, 4, 1, 10, 3, 5, 26, 2] [⟨some 36, (.move (.t 3)), none, none⟩,⟨some 2, (.move (.t 36)), none, none⟩])
 .ret)))))
def ir136 : List IRes := [.tmp 2]
theorem ie136 : cmpFunc Go.Proofs.Tryz.prog ⟨[(35, none)], []⟩ Go.Proofs.Tryz.f142 [0, 4, 1, 10, 3, 5, 26, 2] = some ic136 := by kernel_rfl
theorem ig136 : cmpRes Go.Proofs.Tryz.prog Go.Proofs.Tryz.f142.results.toList = some ir136 := by kernel_rfl
def ic184 : IC :=
 (.seq
 (.region [1] [] [0, 1, 6, 7, 18, 3, 24, 2] [⟨some 1, (.box 137 (.t 0)), none, none⟩,⟨some 2, (.move (.k (rB false))), none, none⟩])
 (.seq
 (.region [3] [] [0, 1, 6, 7, 18, 3, 24, 2] [⟨some 4, (.build [(.c (.v (.string (bs [])))), (.c (.v (.int .i8 0))), (.c (.v (.int .i64 0))), (.c (.v (.string (bs []))))] []), none, none⟩,⟨some 3, (.zero 73 [(.c (.v (.string (bs [])))), (.c (.v (.int .i8 0))), (.c (.v (.int .i64 0))), (.c (.v (.string (bs []))))]), none, none⟩,⟨none, (.store (some 4) (.t 3) (.t 4)), none, none⟩])
 (.seq
 (.seq
 (.region [] [] [0, 1, 6, 7, 18, 3, 24, 2] [⟨some 5, (.faddr 0 (.t 1)), none, none⟩,⟨some 6, (.load none (.t 5)), none, none⟩])
 (.block 0
 (.seq
 (.region [] [] [0, 1, 6, 7, 18, 3, 24, 2] [⟨some 8, (.bin .eql (.t 6) (.k (rI .i8 0))), none, none⟩,⟨some 7, (.move (.t 8)), none, none⟩])
 (.cond (.t 7)
 (.seq
 (.region [] [] [0, 1, 6, 7, 18, 3, 24, 2] [⟨some 9, (.faddr 1 (.t 1)), none, none⟩,⟨some 10, (.faddr 0 (.t 9)), none, none⟩,⟨some 11, (.load none (.t 10)), none, none⟩,⟨some 12, (.bin .neq (.t 11) (.k (rS (bs [95])))), none, none⟩,⟨some 13, (.move (.t 12)), none, none⟩,⟨some 14, (.faddr 1 (.t 1)), some (13, true), none⟩,⟨some 15, (.load (some 4) (.t 14)), some (13, true), none⟩,⟨some 16, (.callp (.k (rF 250)) [(.t 15)]), some (13, true), none⟩,⟨some 17, (.pick (.t 13) (.t 16) (.k (rB false))), none, none⟩,⟨some 2, (.move (.t 17)), none, none⟩])
 .ret)
 (.seq
 (.region [] [] [0, 1, 6, 7, 18, 3, 24, 2] [⟨some 19, (.bin .eql (.t 6) (.k (rI .i8 1))), none, none⟩,⟨some 18, (.move (.t 19)), none, none⟩])
 (.cond (.t 18)
 (.seq
 (.region [] [] [0, 1, 6, 7, 18, 3, 24, 2] [⟨some 20, (.faddr 1 (.t 1)), none, none⟩,⟨some 21, (.load (some 4) (.t 20)), none, none⟩,⟨some 22, (.load (some 4) (.t 3)), none, none⟩,⟨some 23, (.eqs false [.s, .i .i8, .i .i64, .s] (.t 21) (.t 22)), none, none⟩,⟨some 2, (.move (.t 23)), none, none⟩])
 .ret)
 (.seq
 (.seq
 (.region [] [] [0, 1, 6, 7, 18, 3, 24, 2] [⟨some 25, (.bin .eql (.t 6) (.k (rI .i8 2))), none, none⟩,⟨some 24, (.move (.t 25)), none, none⟩])
 (.cond (.t 24)
 .skip
 (.seq
 (.region [] [] [0, 1, 6, 7, 18, 3, 24, 2] [⟨some 26, (.bin .eql (.t 6) (.k (rI .i8 3))), none, none⟩,⟨some 24, (.move (.t 26)), none, none⟩])
 (.cond (.t 24)
 .skip
 (.region [] [] [0, 1, 6, 7, 18, 3, 24, 2] [⟨some 27, (.bin .eql (.t 6) (.k (rI .i8 4))), none, none⟩,⟨some 24, (.move (.t 27)), none, none⟩])))))
 (.cond (.t 24)
 (.seq
 (.region [] [] [0, 1, 6, 7, 18, 3, 24, 2] [⟨some 28, (.faddr 1 (.t 1)), none, none⟩,⟨some 29, (.faddr 0 (.t 28)), none, none⟩,⟨some 30, (.load none (.t 29)), none, none⟩,⟨some 31, (.bin .neq (.t 30) (.k (rS (bs [])))), none, none⟩,⟨some 32, (.move (.t 31)), none, none⟩,⟨some 33, (.faddr 1 (.t 1)), some (32, true), none⟩,⟨some 34, (.faddr 0 (.t 33)), some (32, true), none⟩,⟨some 35, (.load none (.t 34)), some (32, true), none⟩,⟨some 36, (.bin .neq (.t 35) (.k (rS (bs [95])))), some (32, true), none⟩,⟨some 37, (.pick (.t 32) (.t 36) (.k (rB false))), none, none⟩,⟨some 38, (.move (.t 37)), none, none⟩,⟨some 39, (.faddr 1 (.t 1)), some (38, true), none⟩,⟨some 40, (.load (some 4) (.t 39)), some (38, true), none⟩,⟨some 41, (.callp (.k (rF 250)) [(.t 40)]), some (38, true), none⟩,⟨some 42, (.pick (.t 38) (.t 41) (.k (rB false))), none, none⟩,⟨some 2, (.move (.t 42)), none, none⟩])
 .ret)
 .skip))))))))
 (.seq
 (.region [] [] [0, 1, 6, 7, 18, 3, 24, 2] [⟨some 2, (.move (.k (rB false))), none, none⟩])
 .ret))))
def ir184 : List IRes := [.tmp 2]
theorem ie184 : cmpFunc Go.Proofs.Tryz.prog ⟨[], []⟩ Go.Proofs.Tryz.f175 [0, 1, 6, 7, 18, 3, 24, 2] = some ic184 := by kernel_rfl
theorem ig184 : cmpRes Go.Proofs.Tryz.prog Go.Proofs.Tryz.f175.results.toList = some ir184 := by kernel_rfl
def ic134 : IC :=
 (.seq
 (.region [1] [] [0, 1, 4, 5, 10, 15, 2] [⟨some 1, (.box 137 (.t 0)), none, none⟩,⟨some 2, (.move (.k (rB false))), none, none⟩])
 (.seq
 (.seq
 (.region [] [] [0, 1, 4, 5, 10, 15, 2] [⟨some 3, (.faddr 0 (.t 1)), none, none⟩,⟨some 4, (.load none (.t 3)), none, none⟩])
 (.block 0
 (.seq
 (.region [] [] [0, 1, 4, 5, 10, 15, 2] [⟨some 6, (.bin .eql (.t 4) (.k (rI .i8 0))), none, none⟩,⟨some 5, (.move (.t 6)), none, none⟩])
 (.cond (.t 5)
 (.seq
 (.region [] [] [0, 1, 4, 5, 10, 15, 2] [⟨some 7, (.faddr 1 (.t 1)), none, none⟩,⟨some 8, (.load (some 4) (.t 7)), none, none⟩,⟨some 9, (.callp (.k (rF 260)) [(.t 8)]), none, none⟩,⟨some 2, (.move (.t 9)), none, none⟩])
 .ret)
 (.seq
 (.region [] [] [0, 1, 4, 5, 10, 15, 2] [⟨some 11, (.bin .eql (.t 4) (.k (rI .i8 1))), none, none⟩,⟨some 10, (.move (.t 11)), none, none⟩])
 (.cond (.t 10)
 (.seq
 (.region [] [] [0, 1, 4, 5, 10, 15, 2] [⟨some 12, (.faddr 1 (.t 1)), none, none⟩,⟨some 13, (.load (some 4) (.t 12)), none, none⟩,⟨some 14, (.callp (.k (rF 261)) [(.t 13)]), none, none⟩,⟨some 2, (.move (.t 14)), none, none⟩])
 .ret)
 (.seq
 (.seq
 (.region [] [] [0, 1, 4, 5, 10, 15, 2] [⟨some 16, (.bin .eql (.t 4) (.k (rI .i8 2))), none, none⟩,⟨some 15, (.move (.t 16)), none, none⟩])
 (.cond (.t 15)
 .skip
 (.seq
 (.region [] [] [0, 1, 4, 5, 10, 15, 2] [⟨some 17, (.bin .eql (.t 4) (.k (rI .i8 3))), none, none⟩,⟨some 15, (.move (.t 17)), none, none⟩])
 (.cond (.t 15)
 .skip
 (.region [] [] [0, 1, 4, 5, 10, 15, 2] [⟨some 18, (.bin .eql (.t 4) (.k (rI .i8 4))), none, none⟩,⟨some 15, (.move (.t 18)), none, none⟩])))))
 (.cond (.t 15)
 (.seq
 (.region [] [] [0, 1, 4, 5, 10, 15, 2] [⟨some 19, (.faddr 1 (.t 1)), none, none⟩,⟨some 20, (.faddr 0 (.t 19)), none, none⟩,⟨some 21, (.load none (.t 20)), none, none⟩,⟨some 22, (.bin .neq (.t 21) (.k (rS (bs [])))), none, none⟩,⟨some 23, (.move (.t 22)), none, none⟩,⟨some 24, (.faddr 1 (.t 1)), some (23, true), none⟩,⟨some 25, (.load (some 4) (.t 24)), some (23, true), none⟩,⟨some 26, (.callp (.k (rF 260)) [(.t 25)]), some (23, true), none⟩,⟨some 27, (.pick (.t 23) (.t 26) (.k (rB false))), none, none⟩,⟨some 2, (.move (.t 27)), none, none⟩])
 .ret)
 .skip))))))))
 (.seq
 (.region [] [] [0, 1, 4, 5, 10, 15, 2] [⟨some 2, (.move (.k (rB false))), none, none⟩])
 .ret)))
def ir134 : List IRes := [.tmp 2]
theorem ie134 : cmpFunc Go.Proofs.Tryz.prog ⟨[], []⟩ Go.Proofs.Tryz.f185 [0, 1, 4, 5, 10, 15, 2] = some ic134 := by kernel_rfl
theorem ig134 : cmpRes Go.Proofs.Tryz.prog Go.Proofs.Tryz.f185.results.toList = some ir134 := by kernel_rfl
end Go.Proofs.YtiomojlcnemnhaaGreatDoor

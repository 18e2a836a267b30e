import Derived.Test.YtiomojlcnemnhaaDoorWFxZ
import Derived.Test.YtiomojlcnemnhaaDoorProg
import Derived.KernelRfl
namespace Go.Proofs.YtiomojlcnemnhaaDoor
open Go.Fx
def ic80l0 : IC :=
 (.seq
 (.seq
 (.region [] [] [5, 0, 9, 1, 17, 4] [⟨some 6, (.move (.t 5)), none, none⟩,⟨some 7, (.move (.t 0)), none, none⟩,⟨some 8, (.len (.t 7)), none, none⟩,⟨some 9, (.bin .lss (.t 6) (.t 8)), none, none⟩])
 (.cond (.t 9)
 .skip
 (.exit 0)))
 (.seq
 (.block 1
 (.seq
 (.region [] [] [5, 0, 9, 1, 17, 4] [⟨some 12, (.move (.t 0)), none, none⟩,⟨some 13, (.move (.t 5)), none, none⟩,⟨some 14, (.iaddr 1 (.t 12) (.t 13)), none, none⟩,⟨some 15, (.load none (.t 14)), none, none⟩,⟨some 16, (.move (.t 1)), none, none⟩,⟨some 17, (.bin .eql (.t 15) (.t 16)), none, none⟩])
 (.cond (.t 17)
 (.seq
 (.region [] [] [5, 0, 9, 1, 17, 4] [⟨some 4, (.move (.k (rB true))), none, none⟩])
 .ret)
 .skip)))
 (.region [] [] [5, 0, 9, 1, 17, 4] [⟨some 10, (.move (.t 5)), none, none⟩,⟨some 11, (.bin .add (.t 10) (.k (rI .i64 1))), none, none⟩,⟨some 5, (.move (.t 11)), none, none⟩])))
def ic80 : IC :=
 (.seq
 (.region [] [] [5, 0, 9, 1, 17, 4] [⟨some 4, (.move (.k (rB false))), none, none⟩])
 (.seq
 (.seq
 (.region [] [] [5, 0, 9, 1, 17, 4] [⟨some 5, (.move (.k (rI .i64 0))), none, none⟩])
 (.block 0
 (.loop ic80l0)))
 (.seq
 (.region [] [] [5, 0, 9, 1, 17, 4] [⟨some 4, (.move (.k (rB false))), none, none⟩])
 .ret)))
def ir80 : List IRes := [.tmp 4]
theorem ie80 : cmpFunc Go.Proofs.Tryd.prog ⟨[], []⟩ Go.Proofs.Tryd.f80 [5, 0, 9, 1, 17, 4] = some ic80 := by kernel_rfl
theorem ig80 : cmpRes Go.Proofs.Tryd.prog Go.Proofs.Tryd.f80.results.toList = some ir80 := by kernel_rfl
def ic147 : IC :=
 (.seq
 (.region [] [] [0, 5, 1, 4] [⟨some 4, (.move (.k (.x (.one (.c (.v (.pointer none))))))), none, none⟩])
 (.seq
 (.region [7, 9] [] [0, 5, 1, 4] [⟨some 6, (.move (.t 0)), none, none⟩,⟨some 7, (.mkmap .string 1 false), none, none⟩,⟨some 8, (.build [.nil, (.c (.v (.map none)))] [(0, 1, (.t 6)), (1, 1, (.t 7))]), none, none⟩,⟨some 9, (.box 239 (.t 8)), none, none⟩,⟨some 5, (.move (.t 9)), none, none⟩])
 (.seq
 (.region [] [] [0, 5, 1, 4] [⟨some 10, (.move (.t 5)), none, none⟩,⟨some 11, (.move (.t 1)), none, none⟩,⟨some 12, (.call (.k (rF 151)) [(.t 10), (.t 11)]), none, none⟩])
 (.seq
 (.region [] [] [0, 5, 1, 4] [⟨some 13, (.move (.t 5)), none, none⟩,⟨some 4, (.move (.t 13)), none, none⟩])
 .ret))))
def ir147 : List IRes := [.tmp 4]
theorem ie147 : cmpFunc Go.Proofs.Tryd.prog ⟨[(12, none)], []⟩ Go.Proofs.Tryd.f147 [0, 5, 1, 4] = some ic147 := by kernel_rfl
theorem ig147 : cmpRes Go.Proofs.Tryd.prog Go.Proofs.Tryd.f147.results.toList = some ir147 := by kernel_rfl
def ic148 : IC :=
 (.seq
 (.region [] [] [3, 0, 2] [⟨some 2, (.move (.k (rI .u32 0))), none, none⟩])
 (.seq
 (.region [] [] [3, 0, 2] [⟨some 3, (.move (.k (rI .u32 1))), none, none⟩])
 (.seq
 (.region [] [] [3, 0, 2] [⟨some 4, (.move (.t 3)), none, none⟩,⟨some 5, (.move (.t 0)), none, none⟩,⟨some 6, (.bin .shl (.t 4) (.t 5)), none, none⟩,⟨some 3, (.move (.t 6)), none, none⟩])
 (.seq
 (.region [] [] [3, 0, 2] [⟨some 7, (.move (.t 3)), none, none⟩,⟨some 8, (.bin .sub (.t 7) (.k (rI .u32 1))), none, none⟩,⟨some 2, (.move (.t 8)), none, none⟩])
 .ret))))
def ir148 : List IRes := [.tmp 2]
theorem ie148 : cmpFunc Go.Proofs.Tryd.prog ⟨[], []⟩ Go.Proofs.Tryd.f148 [3, 0, 2] = some ic148 := by kernel_rfl
theorem ig148 : cmpRes Go.Proofs.Tryd.prog Go.Proofs.Tryd.f148.results.toList = some ir148 := by kernel_rfl
def ic149 : IC :=
 (.seq
 (.region [4] [] [0, 1, 6, 25, 26, 8, 7, 9, 40, 47, 4, 53, 67, 10, 85, 5] [⟨some 4, (.zero 121 [(.c (.v (.int .i8 0))), (.c (.v (.int .i64 0))), (.c (.v (.int .u32 0))), .nil]), none, none⟩,⟨some 5, (.move (.k (rB false))), none, none⟩])
 (.seq
 (.region [6] [] [0, 1, 6, 25, 26, 8, 7, 9, 40, 47, 4, 53, 67, 10, 85, 5] [⟨some 11, (.move (.t 0)), none, none⟩,⟨some 12, (.nilchk (.t 11)), none, none⟩,⟨some 13, (.faddr 0 (.t 12)), none, none⟩,⟨some 14, (.load none (.t 13)), none, none⟩,⟨some 15, (.move (.t 1)), none, none⟩,⟨some 16, (.iaddr 16 (.t 14) (.t 15)), none, none⟩,⟨some 17, (.load (some 16) (.t 16)), none, none⟩,⟨some 6, (.zero 88 [(.c (.v (.int .i8 0))), (.c (.v (.string (bs [])))), .nil, (.c (.v (.int .i8 0))), (.c (.v (.int .i8 0))), (.c (.v (.string (bs [])))), (.c (.v (.int .i8 0))), (.c (.v (.int .i64 0))), (.c (.v (.string (bs [])))), .nil, (.c (.v (.int .i8 0))), (.c (.v (.string (bs [])))), (.c (.v (.int .i8 0))), (.c (.v (.int .i64 0))), (.c (.v (.string (bs [])))), .nil]), none, none⟩,⟨none, (.store (some 16) (.t 6) (.t 17)), none, none⟩])
 (.seq
 (.region [7] [] [0, 1, 6, 25, 26, 8, 7, 9, 40, 47, 4, 53, 67, 10, 85, 5] [⟨some 18, (.move (.t 1)), none, none⟩,⟨some 19, (.build [(.c (.v (.int .i8 0))), (.c (.v (.int .i64 0))), (.c (.v (.int .u32 0))), .nil] [(1, 1, (.t 18))]), none, none⟩,⟨some 7, (.zero 121 [(.c (.v (.int .i8 0))), (.c (.v (.int .i64 0))), (.c (.v (.int .u32 0))), .nil]), none, none⟩,⟨none, (.store (some 4) (.t 7) (.t 19)), none, none⟩])
 (.seq
 (.region [] [] [0, 1, 6, 25, 26, 8, 7, 9, 40, 47, 4, 53, 67, 10, 85, 5] [⟨some 20, (.move (.t 0)), none, none⟩,⟨some 21, (.load (some 16) (.t 6)), none, none⟩,⟨some 22, (.callp (.k (rF 59)) [(.t 21)]), none, none⟩,⟨some 23, (.call (.k (rF 194)) [(.t 20), (.t 22)]), none, none⟩,⟨some 8, (.move (.t 23)), none, none⟩])
 (.seq
 (.seq
 (.region [] [] [0, 1, 6, 25, 26, 8, 7, 9, 40, 47, 4, 53, 67, 10, 85, 5] [⟨some 24, (.faddr 0 (.t 6)), none, none⟩,⟨some 25, (.load none (.t 24)), none, none⟩])
 (.block 0
 (.seq
 (.region [] [] [0, 1, 6, 25, 26, 8, 7, 9, 40, 47, 4, 53, 67, 10, 85, 5] [⟨some 27, (.bin .eql (.t 25) (.k (rI .i8 1))), none, none⟩,⟨some 26, (.move (.t 27)), none, none⟩])
 (.cond (.t 26)
 (.seq
 (.region [] [] [0, 1, 6, 25, 26, 8, 7, 9, 40, 47, 4, 53, 67, 10, 85, 5] [⟨some 28, (.move (.t 0)), none, none⟩,⟨some 29, (.faddr 1 (.t 6)), none, none⟩,⟨some 30, (.load (some 2) (.t 29)), none, none⟩,⟨some 31, (.call (.k (rF 195)) [(.t 28), (.t 30)]), none, none⟩,⟨some 32, (.move (.t 8)), none, none⟩,⟨some 33, (.faddr 2 (.t 7)), none, none⟩,⟨none, (.store (some 1) (.t 33) (.t 31)), none, none⟩,⟨some 34, (.faddr 3 (.t 7)), none, none⟩,⟨none, (.store (some 1) (.t 34) (.t 32)), none, none⟩])
 (.seq
 (.seq
 (.region [] [] [0, 1, 6, 25, 26, 8, 7, 9, 40, 47, 4, 53, 67, 10, 85, 5] [⟨some 35, (.faddr 1 (.t 6)), none, none⟩,⟨some 36, (.faddr 1 (.t 35)), none, none⟩,⟨some 37, (.load none (.t 36)), none, none⟩,⟨some 38, (.len (.t 37)), none, none⟩,⟨some 9, (.move (.t 38)), none, none⟩])
 (.block 1
 (.seq
 (.region [] [] [0, 1, 6, 25, 26, 8, 7, 9, 40, 47, 4, 53, 67, 10, 85, 5] [⟨some 41, (.faddr 2 (.t 7)), none, none⟩,⟨some 42, (.load none (.t 41)), none, none⟩,⟨some 43, (.move (.t 9)), none, none⟩,⟨some 44, (.callp (.k (rF 148)) [(.t 43)]), none, none⟩,⟨some 45, (.bin .eql (.t 42) (.t 44)), none, none⟩,⟨some 40, (.move (.t 45)), none, none⟩])
 (.cond (.t 40)
 (.region [] [] [0, 1, 6, 25, 26, 8, 7, 9, 40, 47, 4, 53, 67, 10, 85, 5] [⟨some 46, (.faddr 0 (.t 7)), none, none⟩,⟨none, (.store (some 1) (.t 46) (.k (rI .i8 3))), none, none⟩])
 (.seq
 (.region [] [] [0, 1, 6, 25, 26, 8, 7, 9, 40, 47, 4, 53, 67, 10, 85, 5] [⟨some 48, (.faddr 2 (.t 7)), none, none⟩,⟨some 49, (.load none (.t 48)), none, none⟩,⟨some 50, (.bin .eql (.t 49) (.k (rI .u32 0))), none, none⟩,⟨some 47, (.move (.t 50)), none, none⟩])
 (.cond (.t 47)
 (.region [] [] [0, 1, 6, 25, 26, 8, 7, 9, 40, 47, 4, 53, 67, 10, 85, 5] [⟨some 51, (.faddr 0 (.t 7)), none, none⟩,⟨none, (.store (some 1) (.t 51) (.k (rI .i8 1))), none, none⟩])
 (.region [] [] [0, 1, 6, 25, 26, 8, 7, 9, 40, 47, 4, 53, 67, 10, 85, 5] [⟨some 39, (.faddr 0 (.t 7)), none, none⟩,⟨none, (.store (some 1) (.t 39) (.k (rI .i8 2))), none, none⟩])))))))
 (.seq
 (.region [] [] [0, 1, 6, 25, 26, 8, 7, 9, 40, 47, 4, 53, 67, 10, 85, 5] [⟨some 52, (.load (some 4) (.t 7)), none, none⟩,⟨none, (.store (some 4) (.t 4) (.t 52)), none, none⟩,⟨some 5, (.move (.k (rB true))), none, none⟩])
 .ret)))
 (.seq
 (.region [] [] [0, 1, 6, 25, 26, 8, 7, 9, 40, 47, 4, 53, 67, 10, 85, 5] [⟨some 54, (.bin .eql (.t 25) (.k (rI .i8 2))), none, none⟩,⟨some 53, (.move (.t 54)), none, none⟩])
 (.cond (.t 53)
 (.seq
 (.region [] [] [0, 1, 6, 25, 26, 8, 7, 9, 40, 47, 4, 53, 67, 10, 85, 5] [⟨some 55, (.move (.t 0)), none, none⟩,⟨some 56, (.faddr 1 (.t 6)), none, none⟩,⟨some 57, (.load (some 2) (.t 56)), none, none⟩,⟨some 58, (.call (.k (rF 195)) [(.t 55), (.t 57)]), none, none⟩,⟨some 59, (.faddr 0 (.t 7)), none, none⟩,⟨none, (.store (some 1) (.t 59) (.k (rI .i8 4))), none, none⟩,⟨some 60, (.faddr 2 (.t 7)), none, none⟩,⟨none, (.store (some 1) (.t 60) (.t 58)), none, none⟩])
 (.seq
 (.region [] [] [0, 1, 6, 25, 26, 8, 7, 9, 40, 47, 4, 53, 67, 10, 85, 5] [⟨some 61, (.load (some 4) (.t 7)), none, none⟩,⟨some 62, (.move (.t 8)), none, none⟩,⟨some 63, (.len (.t 62)), none, none⟩,⟨some 64, (.bin .eql (.t 63) (.k (rI .i64 0))), none, none⟩,⟨none, (.store (some 4) (.t 4) (.t 61)), none, none⟩,⟨some 5, (.move (.t 64)), none, none⟩])
 .ret))
 .skip))))))
 (.seq
 (.seq
 (.region [] [] [0, 1, 6, 25, 26, 8, 7, 9, 40, 47, 4, 53, 67, 10, 85, 5] [⟨some 65, (.move (.t 8)), none, none⟩,⟨some 66, (.len (.t 65)), none, none⟩,⟨some 67, (.bin .eql (.t 66) (.k (rI .i64 0))), none, none⟩])
 (.cond (.t 67)
 (.seq
 (.region [] [] [0, 1, 6, 25, 26, 8, 7, 9, 40, 47, 4, 53, 67, 10, 85, 5] [⟨some 68, (.faddr 0 (.t 7)), none, none⟩,⟨none, (.store (some 1) (.t 68) (.k (rI .i8 5))), none, none⟩])
 (.seq
 (.region [] [] [0, 1, 6, 25, 26, 8, 7, 9, 40, 47, 4, 53, 67, 10, 85, 5] [⟨some 69, (.load (some 4) (.t 7)), none, none⟩,⟨none, (.store (some 4) (.t 4) (.t 69)), none, none⟩,⟨some 5, (.move (.k (rB true))), none, none⟩])
 .ret))
 .skip))
 (.seq
 (.seq
 (.region [] [] [0, 1, 6, 25, 26, 8, 7, 9, 40, 47, 4, 53, 67, 10, 85, 5] [⟨some 70, (.move (.t 8)), none, none⟩,⟨some 71, (.iaddr 1 (.t 70) (.k (rI .i64 0))), none, none⟩,⟨some 72, (.load none (.t 71)), none, none⟩,⟨some 10, (.move (.t 72)), none, none⟩])
 (.seq
 (.region [] [] [0, 1, 6, 25, 26, 8, 7, 9, 40, 47, 4, 53, 67, 10, 85, 5] [⟨some 73, (.move (.t 8)), none, none⟩,⟨some 74, (.len (.t 73)), none, none⟩,⟨some 75, (.bin .eql (.t 74) (.k (rI .i64 1))), none, none⟩,⟨some 76, (.move (.t 75)), none, none⟩,⟨some 77, (.faddr 3 (.t 6)), some (76, true), none⟩,⟨some 78, (.load none (.t 77)), some (76, true), none⟩,⟨some 79, (.bin .eql (.t 78) (.k (rI .i8 1))), some (76, true), none⟩,⟨some 80, (.pick (.t 76) (.t 79) (.k (rB false))), none, none⟩,⟨some 81, (.move (.t 80)), none, none⟩,⟨some 82, (.load (some 16) (.t 6)), some (81, true), none⟩,⟨some 83, (.move (.t 10)), some (81, true), none⟩,⟨some 84, (.callp (.k (rF 196)) [(.t 82), (.t 83)]), some (81, true), none⟩,⟨some 85, (.pick (.t 81) (.t 84) (.k (rB false))), none, none⟩])
 (.cond (.t 85)
 (.seq
 (.region [87] [] [0, 1, 6, 25, 26, 8, 7, 9, 40, 47, 4, 53, 67, 10, 85, 5] [⟨some 86, (.move (.t 10)), none, none⟩,⟨some 87, (.row 9 1 [(.t 86)]), none, none⟩,⟨some 88, (.faddr 0 (.t 7)), none, none⟩,⟨none, (.store (some 1) (.t 88) (.k (rI .i8 6))), none, none⟩,⟨some 89, (.faddr 3 (.t 7)), none, none⟩,⟨none, (.store (some 1) (.t 89) (.t 87)), none, none⟩])
 (.seq
 (.region [] [] [0, 1, 6, 25, 26, 8, 7, 9, 40, 47, 4, 53, 67, 10, 85, 5] [⟨some 90, (.load (some 4) (.t 7)), none, none⟩,⟨none, (.store (some 4) (.t 4) (.t 90)), none, none⟩,⟨some 5, (.move (.k (rB true))), none, none⟩])
 .ret))
 .skip)))
 (.seq
 (.region [] [] [0, 1, 6, 25, 26, 8, 7, 9, 40, 47, 4, 53, 67, 10, 85, 5] [⟨some 91, (.load (some 4) (.t 7)), none, none⟩,⟨none, (.store (some 4) (.t 4) (.t 91)), none, none⟩,⟨some 5, (.move (.k (rB false))), none, none⟩])
 .ret))))))))
def ir149 : List IRes := [.cell 4 (some 4), .tmp 5]
theorem ie149 : cmpFunc Go.Proofs.Tryd.prog ⟨[(23, none), (31, none), (58, none)], []⟩ Go.Proofs.Tryd.f149 [0, 1, 6, 25, 26, 8, 7, 9, 40, 47, 4, 53, 67, 10, 85, 5] = some ic149 := by kernel_rfl
theorem ig149 : cmpRes Go.Proofs.Tryd.prog Go.Proofs.Tryd.f149.results.toList = some ir149 := by kernel_rfl
def ic150l0 : IC :=
 (.seq
 (.region [] [] [0, 1, 10, 13, 12, 14, 5, 24, 4] [⟨some 14, (.bin .lss (.t 13) (.t 12)), none, none⟩])
 (.seq
 (.cond (.t 14)
 .skip
 (.exit 0))
 (.seq
 (.block 1
 (.seq
 (.region [] [] [0, 1, 10, 13, 12, 14, 5, 24, 4] [⟨some 15, (.move (.t 13)), none, none⟩,⟨some 5, (.move (.t 15)), none, none⟩])
 (.seq
 (.region [] [] [0, 1, 10, 13, 12, 14, 5, 24, 4] [⟨some 16, (.move (.t 0)), none, none⟩,⟨some 17, (.move (.t 5)), none, none⟩,⟨some 18, (.iaddr 1 (.t 16) (.t 17)), none, none⟩,⟨some 19, (.load none (.t 18)), none, none⟩,⟨some 20, (.move (.t 1)), none, none⟩,⟨some 21, (.move (.t 5)), none, none⟩,⟨some 22, (.iaddr 1 (.t 20) (.t 21)), none, none⟩,⟨some 23, (.load none (.t 22)), none, none⟩,⟨some 24, (.bin .neq (.t 19) (.t 23)), none, none⟩])
 (.cond (.t 24)
 (.seq
 (.region [] [] [0, 1, 10, 13, 12, 14, 5, 24, 4] [⟨some 4, (.move (.k (rB false))), none, none⟩])
 .ret)
 .skip))))
 (.region [] [] [0, 1, 10, 13, 12, 14, 5, 24, 4] [⟨some 25, (.bin .add (.t 13) (.k (rI .i64 1))), none, none⟩,⟨some 13, (.move (.t 25)), none, none⟩]))))
def ic150 : IC :=
 (.seq
 (.region [] [] [0, 1, 10, 13, 12, 14, 5, 24, 4] [⟨some 4, (.move (.k (rB false))), none, none⟩])
 (.seq
 (.seq
 (.region [] [] [0, 1, 10, 13, 12, 14, 5, 24, 4] [⟨some 6, (.move (.t 0)), none, none⟩,⟨some 7, (.len (.t 6)), none, none⟩,⟨some 8, (.move (.t 1)), none, none⟩,⟨some 9, (.len (.t 8)), none, none⟩,⟨some 10, (.bin .neq (.t 7) (.t 9)), none, none⟩])
 (.cond (.t 10)
 (.seq
 (.region [] [] [0, 1, 10, 13, 12, 14, 5, 24, 4] [⟨some 4, (.move (.k (rB false))), none, none⟩])
 .ret)
 .skip))
 (.seq
 (.seq
 (.region [] [] [0, 1, 10, 13, 12, 14, 5, 24, 4] [⟨some 11, (.move (.t 0)), none, none⟩,⟨some 12, (.len (.t 11)), none, none⟩,⟨some 13, (.move (.k (rI .i64 0))), none, none⟩])
 (.block 0
 (.loop ic150l0)))
 (.seq
 (.region [] [] [0, 1, 10, 13, 12, 14, 5, 24, 4] [⟨some 4, (.move (.k (rB true))), none, none⟩])
 .ret))))
def ir150 : List IRes := [.tmp 4]
theorem ie150 : cmpFunc Go.Proofs.Tryd.prog ⟨[], []⟩ Go.Proofs.Tryd.f150 [0, 1, 10, 13, 12, 14, 5, 24, 4] = some ic150 := by kernel_rfl
theorem ig150 : cmpRes Go.Proofs.Tryd.prog Go.Proofs.Tryd.f150.results.toList = some ir150 := by kernel_rfl
def ic151l0 : IC :=
 (.seq
 (.region [] [] [1, 8, 7, 9, 6, 0, 5] [⟨some 9, (.bin .lss (.t 8) (.t 7)), none, none⟩])
 (.seq
 (.cond (.t 9)
 .skip
 (.exit 0))
 (.seq
 (.block 1
 (.seq
 (.region [] [] [1, 8, 7, 9, 6, 0, 5] [⟨some 10, (.iaddr 1 (.t 6) (.t 8)), none, none⟩,⟨some 11, (.load none (.t 10)), none, none⟩,⟨some 5, (.move (.t 11)), none, none⟩])
 (.region [] [] [1, 8, 7, 9, 6, 0, 5] [⟨some 12, (.move (.t 0)), none, none⟩,⟨some 13, (.nilchk (.t 12)), none, none⟩,⟨some 14, (.faddr 1 (.t 13)), none, none⟩,⟨some 15, (.load none (.t 14)), none, none⟩,⟨some 16, (.move (.t 5)), none, none⟩,⟨some 17, (.build [] []), none, none⟩,⟨none, (.mapup .string false (.t 15) (.t 16) (.t 17)), none, none⟩])))
 (.region [] [] [1, 8, 7, 9, 6, 0, 5] [⟨some 18, (.bin .add (.t 8) (.k (rI .i64 1))), none, none⟩,⟨some 8, (.move (.t 18)), none, none⟩]))))
def ic151 : IC :=
 (.seq
 (.region [] [] [1, 8, 7, 9, 6, 0, 5] [⟨some 6, (.move (.t 1)), none, none⟩,⟨some 7, (.len (.t 6)), none, none⟩,⟨some 8, (.move (.k (rI .i64 0))), none, none⟩])
 (.block 0
 (.loop ic151l0)))
def ir151 : List IRes := []
theorem ie151 : cmpFunc Go.Proofs.Tryd.prog ⟨[], []⟩ Go.Proofs.Tryd.f151 [1, 8, 7, 9, 6, 0, 5] = some ic151 := by kernel_rfl
theorem ig151 : cmpRes Go.Proofs.Tryd.prog Go.Proofs.Tryd.f151.results.toList = some ir151 := by kernel_rfl
def ic191 : IC :=
 (.seq
 (.region [] [] [0, 2] [⟨some 2, (.move (.k (rB false))), none, none⟩])
 (.seq
 (.region [] [] [0, 2] [⟨some 3, (.move (.t 0)), none, none⟩,⟨some 4, (.callp (.k (rF 213)) [(.t 3), (.k (rI .i32 65)), (.k (rI .i32 90))]), none, none⟩,⟨some 2, (.move (.t 4)), none, none⟩])
 .ret))
def ir191 : List IRes := [.tmp 2]
theorem ie191 : cmpFunc Go.Proofs.Tryd.prog ⟨[], []⟩ Go.Proofs.Tryd.f191 [0, 2] = some ic191 := by kernel_rfl
theorem ig191 : cmpRes Go.Proofs.Tryd.prog Go.Proofs.Tryd.f191.results.toList = some ir191 := by kernel_rfl
def ic192 : IC :=
 (.seq
 (.region [] [] [0, 1, 4] [⟨some 4, (.move (.k (rB false))), none, none⟩])
 (.seq
 (.region [] [] [0, 1, 4] [⟨some 5, (.move (.t 0)), none, none⟩,⟨some 6, (.move (.t 1)), none, none⟩,⟨some 7, (.callp (.k (rF 214)) [(.t 5), (.t 6)]), none, none⟩,⟨some 8, (.bin .geq (.t 7) (.k (rI .i64 0))), none, none⟩,⟨some 4, (.move (.t 8)), none, none⟩])
 .ret))
def ir192 : List IRes := [.tmp 4]
theorem ie192 : cmpFunc Go.Proofs.Tryd.prog ⟨[], []⟩ Go.Proofs.Tryd.f192 [0, 1, 4] = some ic192 := by kernel_rfl
theorem ig192 : cmpRes Go.Proofs.Tryd.prog Go.Proofs.Tryd.f192.results.toList = some ir192 := by kernel_rfl
def ic195l0 : IC :=
 (.seq
 (.region [] [] [1, 3, 11, 10, 12, 9, 7, 0, 24, 5, 6, 4] [⟨some 12, (.bin .lss (.t 11) (.t 10)), none, none⟩])
 (.seq
 (.cond (.t 12)
 .skip
 (.exit 0))
 (.seq
 (.block 1
 (.seq
 (.region [7] [] [1, 3, 11, 10, 12, 9, 7, 0, 24, 5, 6, 4] [⟨some 13, (.move (.t 11)), none, none⟩,⟨some 14, (.iaddr 4 (.t 9) (.t 11)), none, none⟩,⟨some 15, (.load (some 4) (.t 14)), none, none⟩,⟨some 7, (.zero 41 [(.c (.v (.string (bs [])))), (.c (.v (.int .i8 0))), (.c (.v (.int .i64 0))), (.c (.v (.string (bs []))))]), none, none⟩,⟨some 6, (.move (.t 13)), none, none⟩,⟨none, (.store (some 4) (.t 7) (.t 15)), none, none⟩])
 (.seq
 (.region [] [] [1, 3, 11, 10, 12, 9, 7, 0, 24, 5, 6, 4] [⟨some 16, (.faddr 0 (.t 7)), none, none⟩,⟨some 17, (.load none (.t 16)), none, none⟩,⟨some 18, (.bin .eql (.t 17) (.k (rS (bs [])))), none, none⟩,⟨some 19, (.move (.t 18)), none, none⟩,⟨some 20, (.move (.t 0)), some (19, false), none⟩,⟨some 21, (.faddr 0 (.t 7)), some (19, false), none⟩,⟨some 22, (.load none (.t 21)), some (19, false), none⟩,⟨some 23, (.call (.k (rF 217)) [(.t 20), (.t 22)]), some (19, false), none⟩,⟨some 24, (.pick (.t 19) (.k (rB true)) (.t 23)), none, none⟩])
 (.cond (.t 24)
 (.region [] [] [1, 3, 11, 10, 12, 9, 7, 0, 24, 5, 6, 4] [⟨some 25, (.move (.t 5)), none, none⟩,⟨some 26, (.move (.t 6)), none, none⟩,⟨some 27, (.bin .shl (.k (rI .u32 1)) (.t 26)), none, none⟩,⟨some 28, (.bin .or (.t 25) (.t 27)), none, none⟩,⟨some 5, (.move (.t 28)), none, none⟩])
 .skip))))
 (.region [] [] [1, 3, 11, 10, 12, 9, 7, 0, 24, 5, 6, 4] [⟨some 29, (.bin .add (.t 11) (.k (rI .i64 1))), none, none⟩,⟨some 11, (.move (.t 29)), none, none⟩]))))
def ic195 : IC :=
 (.seq
 (.region [3] [] [1, 3, 11, 10, 12, 9, 7, 0, 24, 5, 6, 4] [⟨some 3, (.box 24 (.t 1)), none, none⟩,⟨some 4, (.move (.k (rI .u32 0))), none, none⟩])
 (.seq
 (.region [] [] [1, 3, 11, 10, 12, 9, 7, 0, 24, 5, 6, 4] [⟨some 5, (.move (.k (rI .u32 0))), none, none⟩])
 (.seq
 (.seq
 (.region [] [] [1, 3, 11, 10, 12, 9, 7, 0, 24, 5, 6, 4] [⟨some 8, (.faddr 1 (.t 3)), none, none⟩,⟨some 9, (.load none (.t 8)), none, none⟩,⟨some 10, (.len (.t 9)), none, none⟩,⟨some 11, (.move (.k (rI .i64 0))), none, none⟩])
 (.block 0
 (.loop ic195l0)))
 (.seq
 (.region [] [] [1, 3, 11, 10, 12, 9, 7, 0, 24, 5, 6, 4] [⟨some 30, (.move (.t 5)), none, none⟩,⟨some 4, (.move (.t 30)), none, none⟩])
 .ret))))
def ir195 : List IRes := [.tmp 4]
theorem ie195 : cmpFunc Go.Proofs.Tryd.prog ⟨[(23, none)], []⟩ Go.Proofs.Tryd.f195 [1, 3, 11, 10, 12, 9, 7, 0, 24, 5, 6, 4] = some ic195 := by kernel_rfl
theorem ig195 : cmpRes Go.Proofs.Tryd.prog Go.Proofs.Tryd.f195.results.toList = some ir195 := by kernel_rfl
def ic196 : IC :=
 (.seq
 (.region [2, 3] [] [0, 1, 3, 5, 2, 4] [⟨some 2, (.box 88 (.t 0)), none, none⟩,⟨some 3, (.box 9 (.t 1)), none, none⟩,⟨some 4, (.move (.k (rB false))), none, none⟩])
 (.seq
 (.region [] [] [0, 1, 3, 5, 2, 4] [⟨some 6, (.clo 218 [] [(.t 3)]), none, none⟩,⟨some 5, (.move (.t 6)), none, none⟩])
 (.seq
 (.region [] [] [0, 1, 3, 5, 2, 4] [⟨some 7, (.move (.t 5)), none, none⟩,⟨some 8, (.faddr 4 (.t 2)), none, none⟩,⟨some 9, (.load (some 6) (.t 8)), none, none⟩,⟨some 10, (.faddr 10 (.t 2)), none, none⟩,⟨some 11, (.load (some 6) (.t 10)), none, none⟩,⟨some 12, (.call (.t 7) [(.t 9), (.t 11)]), none, none⟩,⟨some 13, (.move (.t 12)), none, none⟩,⟨some 14, (.move (.t 5)), some (13, false), none⟩,⟨some 15, (.faddr 10 (.t 2)), some (13, false), none⟩,⟨some 16, (.load (some 6) (.t 15)), some (13, false), none⟩,⟨some 17, (.faddr 4 (.t 2)), some (13, false), none⟩,⟨some 18, (.load (some 6) (.t 17)), some (13, false), none⟩,⟨some 19, (.call (.t 14) [(.t 16), (.t 18)]), some (13, false), none⟩,⟨some 20, (.pick (.t 13) (.k (rB true)) (.t 19)), none, none⟩,⟨some 4, (.move (.t 20)), none, none⟩])
 .ret)))
def ir196 : List IRes := [.tmp 4]
theorem ie196 : cmpFunc Go.Proofs.Tryd.prog ⟨[(12, none), (19, none)], []⟩ Go.Proofs.Tryd.f196 [0, 1, 3, 5, 2, 4] = some ic196 := by kernel_rfl
theorem ig196 : cmpRes Go.Proofs.Tryd.prog Go.Proofs.Tryd.f196.results.toList = some ir196 := by kernel_rfl
def ic214l0 : IC :=
 (.seq
 (.region [] [] [0, 8, 7, 9, 1, 5, 16, 4] [⟨some 9, (.bin .lss (.t 8) (.t 7)), none, none⟩])
 (.seq
 (.cond (.t 9)
 .skip
 (.exit 0))
 (.seq
 (.block 1
 (.seq
 (.region [] [] [0, 8, 7, 9, 1, 5, 16, 4] [⟨some 10, (.move (.t 8)), none, none⟩,⟨some 5, (.move (.t 10)), none, none⟩])
 (.seq
 (.region [] [] [0, 8, 7, 9, 1, 5, 16, 4] [⟨some 11, (.move (.t 1)), none, none⟩,⟨some 12, (.move (.t 0)), none, none⟩,⟨some 13, (.move (.t 5)), none, none⟩,⟨some 14, (.iaddr 1 (.t 12) (.t 13)), none, none⟩,⟨some 15, (.load none (.t 14)), none, none⟩,⟨some 16, (.bin .eql (.t 11) (.t 15)), none, none⟩])
 (.cond (.t 16)
 (.seq
 (.region [] [] [0, 8, 7, 9, 1, 5, 16, 4] [⟨some 17, (.move (.t 5)), none, none⟩,⟨some 4, (.move (.t 17)), none, none⟩])
 .ret)
 .skip))))
 (.region [] [] [0, 8, 7, 9, 1, 5, 16, 4] [⟨some 18, (.bin .add (.t 8) (.k (rI .i64 1))), none, none⟩,⟨some 8, (.move (.t 18)), none, none⟩]))))
def ic214 : IC :=
 (.seq
 (.region [] [] [0, 8, 7, 9, 1, 5, 16, 4] [⟨some 4, (.move (.k (rI .i64 0))), none, none⟩])
 (.seq
 (.seq
 (.region [] [] [0, 8, 7, 9, 1, 5, 16, 4] [⟨some 6, (.move (.t 0)), none, none⟩,⟨some 7, (.len (.t 6)), none, none⟩,⟨some 8, (.move (.k (rI .i64 0))), none, none⟩])
 (.block 0
 (.loop ic214l0)))
 (.seq
 (.region [] [] [0, 8, 7, 9, 1, 5, 16, 4] [⟨some 4, (.move (.k (rI .i64 (-1)))), none, none⟩])
 .ret)))
def ir214 : List IRes := [.tmp 4]
theorem ie214 : cmpFunc Go.Proofs.Tryd.prog ⟨[], []⟩ Go.Proofs.Tryd.f214 [0, 8, 7, 9, 1, 5, 16, 4] = some ic214 := by kernel_rfl
theorem ig214 : cmpRes Go.Proofs.Tryd.prog Go.Proofs.Tryd.f214.results.toList = some ir214 := by kernel_rfl
def ic217 : IC :=
 (.seq
 (.region [] [] [0, 1, 6, 4] [⟨some 4, (.move (.k (rB false))), none, none⟩])
 (.seq
 (.region [5] [] [0, 1, 6, 4] [⟨some 8, (.move (.t 0)), none, none⟩,⟨some 9, (.nilchk (.t 8)), none, none⟩,⟨some 10, (.faddr 1 (.t 9)), none, none⟩,⟨some 11, (.load none (.t 10)), none, none⟩,⟨some 12, (.move (.t 1)), none, none⟩,⟨some 13, (.mlook .string false true [] (.t 11) (.t 12)), none, none⟩,⟨some 7, (.move (.t 13)), none, none⟩,⟨some 14, (.ext (.t 7) 0), none, none⟩,⟨some 15, (.ext (.t 7) 1), none, none⟩,⟨some 5, (.zero 243 []), none, none⟩,⟨none, (.store (some 0) (.t 5) (.t 14)), none, none⟩,⟨some 6, (.move (.t 15)), none, none⟩])
 (.seq
 (.region [] [] [0, 1, 6, 4] [⟨some 16, (.move (.t 6)), none, none⟩,⟨some 4, (.move (.t 16)), none, none⟩])
 .ret)))
def ir217 : List IRes := [.tmp 4]
theorem ie217 : cmpFunc Go.Proofs.Tryd.prog ⟨[], []⟩ Go.Proofs.Tryd.f217 [0, 1, 6, 4] = some ic217 := by kernel_rfl
theorem ig217 : cmpRes Go.Proofs.Tryd.prog Go.Proofs.Tryd.f217.results.toList = some ir217 := by kernel_rfl
def ic218 : IC :=
 (.seq
 (.region [3, 4] [] [0, 1, 3, 2, 4, 5] [⟨some 3, (.box 47 (.t 0)), none, none⟩,⟨some 4, (.box 47 (.t 1)), none, none⟩,⟨some 5, (.move (.k (rB false))), none, none⟩])
 (.seq
 (.region [] [] [0, 1, 3, 2, 4, 5] [⟨some 6, (.faddr 0 (.t 3)), none, none⟩,⟨some 7, (.load none (.t 6)), none, none⟩,⟨some 8, (.bin .eql (.t 7) (.k (rI .i8 0))), none, none⟩,⟨some 9, (.move (.t 8)), none, none⟩,⟨some 10, (.faddr 1 (.t 3)), some (9, true), none⟩,⟨some 11, (.faddr 0 (.t 10)), some (9, true), none⟩,⟨some 12, (.load none (.t 11)), some (9, true), none⟩,⟨some 13, (.load none (.t 2)), some (9, true), none⟩,⟨some 14, (.bin .eql (.t 12) (.t 13)), some (9, true), none⟩,⟨some 15, (.pick (.t 9) (.t 14) (.k (rB false))), none, none⟩,⟨some 16, (.move (.t 15)), none, none⟩,⟨some 17, (.load (some 6) (.t 4)), some (16, true), none⟩,⟨some 18, (.callp (.k (rF 175)) [(.t 17)]), some (16, true), none⟩,⟨some 19, (.load none (.t 2)), some (16, true), none⟩,⟨some 20, (.callp (.k (rF 192)) [(.t 18), (.t 19)]), some (16, true), none⟩,⟨some 21, (.un .not (.t 20)), some (16, true), none⟩,⟨some 22, (.pick (.t 16) (.t 21) (.k (rB false))), none, none⟩,⟨some 5, (.move (.t 22)), none, none⟩])
 .ret))
def ir218 : List IRes := [.tmp 5]
theorem ie218 : cmpFunc Go.Proofs.Tryd.prog ⟨[], []⟩ Go.Proofs.Tryd.f218 [0, 1, 3, 2, 4, 5] = some ic218 := by kernel_rfl
theorem ig218 : cmpRes Go.Proofs.Tryd.prog Go.Proofs.Tryd.f218.results.toList = some ir218 := by kernel_rfl
end Go.Proofs.YtiomojlcnemnhaaDoor

import Derived.Test.YtiomojlcnemnhaaDoorWFxZ
import Derived.Test.YtiomojlcnemnhaaDoorProg
import Derived.KernelRfl
namespace Go.Proofs.YtiomojlcnemnhaaDoor
open Go.Fx
def ic17 : IC :=
 (.seq
 (.region [1] [] [0, 1, 2] [⟨some 1, (.box 129 (.t 0)), none, none⟩,⟨some 2, (.move (.k (rB false))), none, none⟩])
 (.seq
 (.region [] [] [0, 1, 2] [⟨some 3, (.faddr 0 (.t 1)), none, none⟩,⟨some 4, (.load (some 3) (.t 3)), none, none⟩,⟨some 5, (.faddr 3 (.t 1)), none, none⟩,⟨some 6, (.load none (.t 5)), none, none⟩,⟨some 7, (.faddr 4 (.t 1)), none, none⟩,⟨some 8, (.load none (.t 7)), none, none⟩,⟨some 9, (.faddr 5 (.t 1)), none, none⟩,⟨some 10, (.load none (.t 9)), none, none⟩,⟨some 11, (.callp (.k (rF 84)) [(.t 4), (.t 6), (.t 8), (.t 10)]), none, none⟩,⟨some 2, (.move (.t 11)), none, none⟩])
 .ret))
def ir17 : List IRes := [.tmp 2]
theorem ie17 : cmpFunc Go.Proofs.Tryd.prog ⟨[], []⟩ Go.Proofs.Tryd.f17 [0, 1, 2] = some ic17 := by kernel_rfl
theorem ig17 : cmpRes Go.Proofs.Tryd.prog Go.Proofs.Tryd.f17.results.toList = some ir17 := by kernel_rfl
def ic84l0 : IC :=
 (.seq
 (.seq
 (.region [] [] [0, 4, 20, 1, 3, 11, 2, 10, 13, 46, 9, 12, 62, 14, 67, 82, 15, 88, 16, 17, 108, 18, 113, 133, 8] [⟨some 63, (.move (.t 14)), none, none⟩,⟨some 64, (.faddr 3 (.t 9)), none, none⟩,⟨some 65, (.load none (.t 64)), none, none⟩,⟨some 66, (.len (.t 65)), none, none⟩,⟨some 67, (.bin .lss (.t 63) (.t 66)), none, none⟩])
 (.cond (.t 67)
 .skip
 (.exit 0)))
 (.seq
 (.block 1
 (.seq
 (.region [] [] [0, 4, 20, 1, 3, 11, 2, 10, 13, 46, 9, 12, 62, 14, 67, 82, 15, 88, 16, 17, 108, 18, 113, 133, 8] [⟨some 70, (.faddr 3 (.t 9)), none, none⟩,⟨some 71, (.load none (.t 70)), none, none⟩,⟨some 72, (.move (.t 14)), none, none⟩,⟨some 73, (.iaddr 4 (.t 71) (.t 72)), none, none⟩,⟨some 74, (.faddr 1 (.t 73)), none, none⟩,⟨some 75, (.load none (.t 74)), none, none⟩,⟨some 76, (.faddr 3 (.t 12)), none, none⟩,⟨some 77, (.load none (.t 76)), none, none⟩,⟨some 78, (.move (.t 14)), none, none⟩,⟨some 79, (.iaddr 4 (.t 77) (.t 78)), none, none⟩,⟨some 80, (.faddr 1 (.t 79)), none, none⟩,⟨some 81, (.load none (.t 80)), none, none⟩,⟨some 82, (.bin .neq (.t 75) (.t 81)), none, none⟩])
 (.cond (.t 82)
 (.seq
 (.region [] [] [0, 4, 20, 1, 3, 11, 2, 10, 13, 46, 9, 12, 62, 14, 67, 82, 15, 88, 16, 17, 108, 18, 113, 133, 8] [⟨some 83, (.callp (.k (rF 79)) []), none, none⟩,⟨some 8, (.move (.t 83)), none, none⟩])
 .ret)
 .skip)))
 (.region [] [] [0, 4, 20, 1, 3, 11, 2, 10, 13, 46, 9, 12, 62, 14, 67, 82, 15, 88, 16, 17, 108, 18, 113, 133, 8] [⟨some 68, (.move (.t 14)), none, none⟩,⟨some 69, (.bin .add (.t 68) (.k (rI .i64 1))), none, none⟩,⟨some 14, (.move (.t 69)), none, none⟩])))
def ic84l1 : IC :=
 (.seq
 (.seq
 (.region [] [] [0, 4, 20, 1, 3, 11, 2, 10, 13, 46, 9, 12, 62, 14, 67, 82, 15, 88, 16, 17, 108, 18, 113, 133, 8] [⟨some 109, (.move (.t 18)), none, none⟩,⟨some 110, (.faddr 3 (.t 17)), none, none⟩,⟨some 111, (.load none (.t 110)), none, none⟩,⟨some 112, (.len (.t 111)), none, none⟩,⟨some 113, (.bin .lss (.t 109) (.t 112)), none, none⟩])
 (.cond (.t 113)
 .skip
 (.exit 4)))
 (.seq
 (.block 5
 (.seq
 (.region [] [] [0, 4, 20, 1, 3, 11, 2, 10, 13, 46, 9, 12, 62, 14, 67, 82, 15, 88, 16, 17, 108, 18, 113, 133, 8] [⟨some 116, (.faddr 3 (.t 16)), none, none⟩,⟨some 117, (.load none (.t 116)), none, none⟩,⟨some 118, (.faddr 3 (.t 17)), none, none⟩,⟨some 119, (.load none (.t 118)), none, none⟩,⟨some 120, (.move (.t 18)), none, none⟩,⟨some 121, (.iaddr 1 (.t 119) (.t 120)), none, none⟩,⟨some 122, (.load none (.t 121)), none, none⟩,⟨some 123, (.callp (.k (rF 80)) [(.t 117), (.t 122)]), none, none⟩,⟨some 124, (.un .not (.t 123)), none, none⟩,⟨some 125, (.move (.t 124)), none, none⟩,⟨some 126, (.faddr 3 (.t 17)), some (125, false), none⟩,⟨some 127, (.load none (.t 126)), some (125, false), none⟩,⟨some 128, (.move (.t 18)), some (125, false), none⟩,⟨some 129, (.iaddr 1 (.t 127) (.t 128)), some (125, false), none⟩,⟨some 130, (.load none (.t 129)), some (125, false), none⟩,⟨some 131, (.move (.t 2)), some (125, false), none⟩,⟨some 132, (.bin .eql (.t 130) (.t 131)), some (125, false), none⟩,⟨some 133, (.pick (.t 125) (.k (rB true)) (.t 132)), none, none⟩])
 (.cond (.t 133)
 (.seq
 (.region [] [] [0, 4, 20, 1, 3, 11, 2, 10, 13, 46, 9, 12, 62, 14, 67, 82, 15, 88, 16, 17, 108, 18, 113, 133, 8] [⟨some 8, (.move (.k (rB false))), none, none⟩])
 .ret)
 .skip)))
 (.region [] [] [0, 4, 20, 1, 3, 11, 2, 10, 13, 46, 9, 12, 62, 14, 67, 82, 15, 88, 16, 17, 108, 18, 113, 133, 8] [⟨some 114, (.move (.t 18)), none, none⟩,⟨some 115, (.bin .add (.t 114) (.k (rI .i64 1))), none, none⟩,⟨some 18, (.move (.t 115)), none, none⟩])))
def ic84l2 : IC :=
 (.seq
 (.seq
 (.region [] [] [0, 4, 20, 1, 3, 11, 2, 10, 13, 46, 9, 12, 62, 14, 67, 82, 15, 88, 16, 17, 108, 18, 113, 133, 8] [⟨some 84, (.move (.t 15)), none, none⟩,⟨some 85, (.faddr 3 (.t 9)), none, none⟩,⟨some 86, (.load none (.t 85)), none, none⟩,⟨some 87, (.len (.t 86)), none, none⟩,⟨some 88, (.bin .lss (.t 84) (.t 87)), none, none⟩])
 (.cond (.t 88)
 .skip
 (.exit 2)))
 (.seq
 (.block 3
 (.seq
 (.region [16, 17] [] [0, 4, 20, 1, 3, 11, 2, 10, 13, 46, 9, 12, 62, 14, 67, 82, 15, 88, 16, 17, 108, 18, 113, 133, 8] [⟨some 91, (.faddr 3 (.t 9)), none, none⟩,⟨some 92, (.load none (.t 91)), none, (some [])⟩,⟨some 93, (.move (.t 15)), none, none⟩,⟨some 94, (.iaddr 4 (.t 92) (.t 93)), none, (some [])⟩,⟨some 95, (.load (some 4) (.t 94)), none, (some [])⟩,⟨some 96, (.faddr 3 (.t 12)), none, none⟩,⟨some 97, (.load none (.t 96)), none, (some [])⟩,⟨some 98, (.move (.t 15)), none, none⟩,⟨some 99, (.iaddr 4 (.t 97) (.t 98)), none, (some [])⟩,⟨some 100, (.load (some 4) (.t 99)), none, (some [])⟩,⟨some 16, (.zero 121 [(.c (.v (.int .i8 0))), (.c (.v (.int .i64 0))), (.c (.v (.int .u32 0))), .nil]), none, none⟩,⟨some 17, (.zero 121 [(.c (.v (.int .i8 0))), (.c (.v (.int .i64 0))), (.c (.v (.int .u32 0))), .nil]), none, none⟩,⟨none, (.store (some 4) (.t 16) (.t 95)), none, none⟩,⟨none, (.store (some 4) (.t 17) (.t 100)), none, none⟩])
 (.seq
 (.seq
 (.region [] [] [0, 4, 20, 1, 3, 11, 2, 10, 13, 46, 9, 12, 62, 14, 67, 82, 15, 88, 16, 17, 108, 18, 113, 133, 8] [⟨some 101, (.faddr 2 (.t 16)), none, none⟩,⟨some 102, (.load none (.t 101)), none, none⟩,⟨some 103, (.faddr 2 (.t 17)), none, none⟩,⟨some 104, (.load none (.t 103)), none, none⟩,⟨some 105, (.bin .or (.t 102) (.t 104)), none, none⟩,⟨some 106, (.faddr 2 (.t 17)), none, none⟩,⟨some 107, (.load none (.t 106)), none, none⟩,⟨some 108, (.bin .neq (.t 105) (.t 107)), none, none⟩])
 (.cond (.t 108)
 (.seq
 (.region [] [] [0, 4, 20, 1, 3, 11, 2, 10, 13, 46, 9, 12, 62, 14, 67, 82, 15, 88, 16, 17, 108, 18, 113, 133, 8] [⟨some 8, (.move (.k (rB false))), none, none⟩])
 .ret)
 .skip))
 (.seq
 (.region [] [] [0, 4, 20, 1, 3, 11, 2, 10, 13, 46, 9, 12, 62, 14, 67, 82, 15, 88, 16, 17, 108, 18, 113, 133, 8] [⟨some 18, (.move (.k (rI .i64 0))), none, none⟩])
 (.block 4
 (.loop ic84l1))))))
 (.region [] [] [0, 4, 20, 1, 3, 11, 2, 10, 13, 46, 9, 12, 62, 14, 67, 82, 15, 88, 16, 17, 108, 18, 113, 133, 8] [⟨some 89, (.move (.t 15)), none, none⟩,⟨some 90, (.bin .add (.t 89) (.k (rI .i64 1))), none, none⟩,⟨some 15, (.move (.t 90)), none, none⟩])))
def ic84 : IC :=
 (.seq
 (.region [4] [] [0, 4, 20, 1, 3, 11, 2, 10, 13, 46, 9, 12, 62, 14, 67, 82, 15, 88, 16, 17, 108, 18, 113, 133, 8] [⟨some 4, (.box 96 (.t 0)), none, none⟩,⟨some 8, (.move (.k (rB false))), none, none⟩])
 (.seq
 (.seq
 (.region [] [] [0, 4, 20, 1, 3, 11, 2, 10, 13, 46, 9, 12, 62, 14, 67, 82, 15, 88, 16, 17, 108, 18, 113, 133, 8] [⟨some 19, (.load (some 3) (.t 4)), none, none⟩,⟨some 20, (.callp (.k (rF 62)) [(.t 19)]), none, none⟩])
 (.cond (.t 20)
 (.seq
 (.region [] [] [0, 4, 20, 1, 3, 11, 2, 10, 13, 46, 9, 12, 62, 14, 67, 82, 15, 88, 16, 17, 108, 18, 113, 133, 8] [⟨some 8, (.move (.k (rB true))), none, none⟩])
 .ret)
 .skip))
 (.seq
 (.region [9] [] [0, 4, 20, 1, 3, 11, 2, 10, 13, 46, 9, 12, 62, 14, 67, 82, 15, 88, 16, 17, 108, 18, 113, 133, 8] [⟨some 22, (.load (some 3) (.t 4)), none, none⟩,⟨some 23, (.move (.t 1)), none, none⟩,⟨some 24, (.move (.t 3)), none, none⟩,⟨some 25, (.callp (.k (rF 82)) [(.t 22), (.t 23), (.t 24)]), none, none⟩,⟨some 21, (.move (.t 25)), none, none⟩,⟨some 26, (.ext (.t 21) 0), none, none⟩,⟨some 27, (.ext (.t 21) 1), none, none⟩,⟨some 9, (.zero 115 [(.c (.v (.string (bs [])))), .nil, .nil, .nil]), none, none⟩,⟨none, (.store (some 4) (.t 9) (.t 26)), none, none⟩,⟨some 10, (.move (.t 27)), none, none⟩])
 (.seq
 (.region [28] [] [0, 4, 20, 1, 3, 11, 2, 10, 13, 46, 9, 12, 62, 14, 67, 82, 15, 88, 16, 17, 108, 18, 113, 133, 8] [⟨some 28, (.row 9 1 []), none, none⟩,⟨some 29, (.move (.t 1)), none, none⟩,⟨some 30, (.app 9 1 16 (.t 28) (.t 29)), none, none⟩,⟨some 11, (.move (.t 30)), none, none⟩])
 (.seq
 (.region [35, 12] [] [0, 4, 20, 1, 3, 11, 2, 10, 13, 46, 9, 12, 62, 14, 67, 82, 15, 88, 16, 17, 108, 18, 113, 133, 8] [⟨some 32, (.load (some 3) (.t 4)), none, (some [4])⟩,⟨some 33, (.move (.t 11)), none, none⟩,⟨some 34, (.move (.t 2)), none, none⟩,⟨some 35, (.row 9 1 [(.t 34)]), none, none⟩,⟨some 36, (.app 9 1 16 (.t 33) (.t 35)), none, none⟩,⟨some 37, (.move (.t 3)), none, none⟩,⟨some 38, (.callp (.k (rF 82)) [(.t 32), (.t 36), (.t 37)]), none, none⟩,⟨some 31, (.move (.t 38)), none, none⟩,⟨some 39, (.ext (.t 31) 0), none, none⟩,⟨some 40, (.ext (.t 31) 1), none, none⟩,⟨some 12, (.zero 115 [(.c (.v (.string (bs [])))), .nil, .nil, .nil]), none, none⟩,⟨none, (.store (some 4) (.t 12) (.t 39)), none, none⟩,⟨some 13, (.move (.t 40)), none, none⟩])
 (.seq
 (.seq
 (.region [] [] [0, 4, 20, 1, 3, 11, 2, 10, 13, 46, 9, 12, 62, 14, 67, 82, 15, 88, 16, 17, 108, 18, 113, 133, 8] [⟨some 41, (.move (.t 10)), none, none⟩,⟨some 42, (.bin .neq (.t 41) (.k (rI .i64 0))), none, none⟩,⟨some 43, (.move (.t 42)), none, none⟩,⟨some 44, (.move (.t 13)), some (43, false), none⟩,⟨some 45, (.bin .neq (.t 44) (.k (rI .i64 0))), some (43, false), none⟩,⟨some 46, (.pick (.t 43) (.k (rB true)) (.t 45)), none, none⟩])
 (.cond (.t 46)
 (.seq
 (.region [] [] [0, 4, 20, 1, 3, 11, 2, 10, 13, 46, 9, 12, 62, 14, 67, 82, 15, 88, 16, 17, 108, 18, 113, 133, 8] [⟨some 47, (.move (.t 10)), none, none⟩,⟨some 48, (.bin .neq (.t 47) (.k (rI .i64 0))), none, none⟩,⟨some 49, (.move (.t 48)), none, none⟩,⟨some 50, (.move (.t 13)), some (49, false), none⟩,⟨some 51, (.bin .eql (.t 50) (.k (rI .i64 1))), some (49, false), none⟩,⟨some 52, (.pick (.t 49) (.k (rB true)) (.t 51)), none, none⟩,⟨some 53, (.move (.t 52)), none, none⟩,⟨some 54, (.callp (.k (rF 79)) []), some (53, true), none⟩,⟨some 55, (.pick (.t 53) (.t 54) (.k (rB false))), none, none⟩,⟨some 8, (.move (.t 55)), none, none⟩])
 .ret)
 .skip))
 (.seq
 (.seq
 (.region [] [.fz [9, 12]] [0, 4, 20, 1, 3, 11, 2, 10, 13, 46, 9, 12, 62, 14, 67, 82, 15, 88, 16, 17, 108, 18, 113, 133, 8] [⟨some 56, (.faddr 3 (.t 9)), none, none⟩,⟨some 57, (.load none (.t 56)), none, none⟩,⟨some 58, (.len (.t 57)), none, none⟩,⟨some 59, (.faddr 3 (.t 12)), none, none⟩,⟨some 60, (.load none (.t 59)), none, none⟩,⟨some 61, (.len (.t 60)), none, none⟩,⟨some 62, (.bin .neq (.t 58) (.t 61)), none, none⟩])
 (.cond (.t 62)
 (.seq
 (.region [] [] [0, 4, 20, 1, 3, 11, 2, 10, 13, 46, 9, 12, 62, 14, 67, 82, 15, 88, 16, 17, 108, 18, 113, 133, 8] [⟨some 8, (.move (.k (rB false))), none, none⟩])
 .ret)
 .skip))
 (.seq
 (.seq
 (.region [] [] [0, 4, 20, 1, 3, 11, 2, 10, 13, 46, 9, 12, 62, 14, 67, 82, 15, 88, 16, 17, 108, 18, 113, 133, 8] [⟨some 14, (.move (.k (rI .i64 0))), none, none⟩])
 (.block 0
 (.loop ic84l0)))
 (.seq
 (.seq
 (.region [] [] [0, 4, 20, 1, 3, 11, 2, 10, 13, 46, 9, 12, 62, 14, 67, 82, 15, 88, 16, 17, 108, 18, 113, 133, 8] [⟨some 15, (.move (.k (rI .i64 0))), none, none⟩])
 (.block 2
 (.loop ic84l2)))
 (.seq
 (.region [] [] [0, 4, 20, 1, 3, 11, 2, 10, 13, 46, 9, 12, 62, 14, 67, 82, 15, 88, 16, 17, 108, 18, 113, 133, 8] [⟨some 134, (.callp (.k (rF 79)) []), none, none⟩,⟨some 8, (.move (.t 134)), none, none⟩])
 .ret))))))))))
def ir84 : List IRes := [.tmp 8]
theorem ie84 : cmpFunc Go.Proofs.Tryd.prog ⟨[(32, (some [4])), (92, (some [])), (94, (some [])), (95, (some [])), (97, (some [])), (99, (some [])), (100, (some []))], [(56, .fz [9, 12])]⟩ Go.Proofs.Tryd.f84 [0, 4, 20, 1, 3, 11, 2, 10, 13, 46, 9, 12, 62, 14, 67, 82, 15, 88, 16, 17, 108, 18, 113, 133, 8] = some ic84 := by kernel_rfl
theorem ig84 : cmpRes Go.Proofs.Tryd.prog Go.Proofs.Tryd.f84.results.toList = some ir84 := by kernel_rfl
end Go.Proofs.YtiomojlcnemnhaaDoor

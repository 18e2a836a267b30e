import Derived.Test.YtiomojlcnemnhaaGreatDoorLFxZ
import Derived.Test.YtiomojlcnemnhaaGreatDoorProg
import Derived.KernelRfl
namespace Go.Proofs.YtiomojlcnemnhaaGreatDoor
open Go.Fx
def ic2008 : IC :=
 (.seq
 (.region [2] [] [0, 2, 13, 15, 23, 6, 5, 8, 7, 66, 1, 9, 88, 10, 93, 11, 4] [⟨some 2, (.box 29 (.t 0)), none, none⟩,⟨some 4, (.move (.k (rB false))), none, none⟩])
 (.seq
 (.seq
 (.region [] [] [0, 2, 13, 15, 23, 6, 5, 8, 7, 66, 1, 9, 88, 10, 93, 11, 4] [⟨some 12, (.load (some 3) (.t 2)), none, none⟩,⟨some 13, (.callp (.k (rF 13)) [(.t 12)]), none, none⟩])
 (.cond (.t 13)
 (.seq
 (.region [] [] [0, 2, 13, 15, 23, 6, 5, 8, 7, 66, 1, 9, 88, 10, 93, 11, 4] [⟨some 4, (.move (.k (rB true))), none, none⟩])
 .ret)
 .skip))
 (.seq
 (.seq
 (.region [] [] [0, 2, 13, 15, 23, 6, 5, 8, 7, 66, 1, 9, 88, 10, 93, 11, 4] [⟨some 14, (.callp (.k (rF 45)) []), none, none⟩,⟨some 15, (.un .not (.t 14)), none, none⟩])
 (.cond (.t 15)
 (.seq
 (.region [] [] [0, 2, 13, 15, 23, 6, 5, 8, 7, 66, 1, 9, 88, 10, 93, 11, 4] [⟨some 4, (.move (.k (rB false))), none, none⟩])
 .ret)
 .skip))
 (.seq
 (.region [5] [] [0, 2, 13, 15, 23, 6, 5, 8, 7, 66, 1, 9, 88, 10, 93, 11, 4] [⟨some 17, (.load (some 3) (.t 2)), none, none⟩,⟨some 18, (.callp (.k (rF 32)) [(.t 17)]), none, none⟩,⟨some 16, (.move (.t 18)), none, none⟩,⟨some 19, (.ext (.t 16) 0), none, none⟩,⟨some 20, (.ext (.t 16) 1), none, none⟩,⟨some 5, (.zero 29 [(.c (.v (.string (bs [])))), .nil, .nil]), none, none⟩,⟨none, (.store (some 3) (.t 5) (.t 19)), none, none⟩,⟨some 6, (.move (.t 20)), none, none⟩])
 (.seq
 (.seq
 (.region [] [] [0, 2, 13, 15, 23, 6, 5, 8, 7, 66, 1, 9, 88, 10, 93, 11, 4] [⟨some 21, (.load (some 3) (.t 2)), none, none⟩,⟨some 22, (.callp (.k (rF 46)) [(.t 21)]), none, none⟩,⟨some 23, (.bin .neq (.t 22) (.k (rI .i64 0))), none, none⟩])
 (.cond (.t 23)
 (.seq
 (.region [] [] [0, 2, 13, 15, 23, 6, 5, 8, 7, 66, 1, 9, 88, 10, 93, 11, 4] [⟨some 24, (.move (.t 6)), none, none⟩,⟨some 25, (.bin .eql (.t 24) (.k (rI .i64 40))), none, none⟩,⟨some 26, (.move (.t 25)), none, none⟩,⟨some 27, (.load (some 3) (.t 2)), some (26, true), none⟩,⟨some 28, (.load (some 3) (.t 2)), some (26, true), none⟩,⟨some 29, (.callp (.k (rF 33)) [(.t 27), (.t 28)]), some (26, true), none⟩,⟨some 30, (.un .not (.t 29)), some (26, true), none⟩,⟨some 31, (.pick (.t 26) (.t 30) (.k (rB false))), none, none⟩,⟨some 4, (.move (.t 31)), none, none⟩])
 .ret)
 .skip))
 (.seq
 (.region [7] [] [0, 2, 13, 15, 23, 6, 5, 8, 7, 66, 1, 9, 88, 10, 93, 11, 4] [⟨some 33, (.load (some 3) (.t 5)), none, none⟩,⟨some 34, (.callp (.k (rF 32)) [(.t 33)]), none, none⟩,⟨some 32, (.move (.t 34)), none, none⟩,⟨some 35, (.ext (.t 32) 0), none, none⟩,⟨some 36, (.ext (.t 32) 1), none, none⟩,⟨some 7, (.zero 29 [(.c (.v (.string (bs [])))), .nil, .nil]), none, none⟩,⟨none, (.store (some 3) (.t 7) (.t 35)), none, none⟩,⟨some 8, (.move (.t 36)), none, none⟩])
 (.seq
 (.seq
 (.region [] [] [0, 2, 13, 15, 23, 6, 5, 8, 7, 66, 1, 9, 88, 10, 93, 11, 4] [⟨some 37, (.move (.t 6)), none, none⟩,⟨some 38, (.bin .neq (.t 37) (.k (rI .i64 0))), none, none⟩,⟨some 39, (.move (.t 38)), none, none⟩,⟨some 40, (.move (.t 8)), some (39, false), none⟩,⟨some 41, (.bin .neq (.t 40) (.k (rI .i64 0))), some (39, false), none⟩,⟨some 42, (.pick (.t 39) (.k (rB true)) (.t 41)), none, none⟩,⟨some 43, (.move (.t 42)), none, none⟩,⟨some 44, (.load (some 3) (.t 5)), some (43, false), none⟩,⟨some 45, (.load (some 3) (.t 7)), some (43, false), none⟩,⟨some 46, (.callp (.k (rF 22)) [(.t 44), (.t 45)]), some (43, false), none⟩,⟨some 47, (.un .not (.t 46)), some (43, false), none⟩,⟨some 48, (.pick (.t 43) (.k (rB true)) (.t 47)), none, none⟩,⟨some 49, (.move (.t 48)), none, none⟩,⟨some 50, (.load (some 3) (.t 2)), some (49, false), none⟩,⟨some 51, (.load (some 3) (.t 2)), some (49, false), none⟩,⟨some 52, (.callp (.k (rF 33)) [(.t 50), (.t 51)]), some (49, false), none⟩,⟨some 53, (.un .not (.t 52)), some (49, false), none⟩,⟨some 54, (.pick (.t 49) (.k (rB true)) (.t 53)), none, none⟩,⟨some 55, (.move (.t 54)), none, none⟩,⟨some 56, (.load (some 3) (.t 2)), some (55, false), none⟩,⟨some 57, (.load (some 3) (.t 5)), some (55, false), none⟩,⟨some 58, (.callp (.k (rF 33)) [(.t 56), (.t 57)]), some (55, false), none⟩,⟨some 59, (.un .not (.t 58)), some (55, false), none⟩,⟨some 60, (.pick (.t 55) (.k (rB true)) (.t 59)), none, none⟩,⟨some 61, (.move (.t 60)), none, none⟩,⟨some 62, (.load (some 3) (.t 5)), some (61, false), none⟩,⟨some 63, (.load (some 3) (.t 2)), some (61, false), none⟩,⟨some 64, (.callp (.k (rF 33)) [(.t 62), (.t 63)]), some (61, false), none⟩,⟨some 65, (.un .not (.t 64)), some (61, false), none⟩,⟨some 66, (.pick (.t 61) (.k (rB true)) (.t 65)), none, none⟩])
 (.cond (.t 66)
 (.seq
 (.region [] [] [0, 2, 13, 15, 23, 6, 5, 8, 7, 66, 1, 9, 88, 10, 93, 11, 4] [⟨some 4, (.move (.k (rB false))), none, none⟩])
 .ret)
 .skip))
 (.seq
 (.region [9] [] [0, 2, 13, 15, 23, 6, 5, 8, 7, 66, 1, 9, 88, 10, 93, 11, 4] [⟨some 68, (.load (some 3) (.t 2)), none, (some [2])⟩,⟨some 69, (.move (.t 1)), none, none⟩,⟨some 70, (.callp (.k (rF 47)) [(.t 68), (.t 69)]), none, none⟩,⟨some 71, (.load (some 3) (.t 2)), none, (some [2])⟩,⟨some 72, (.callp (.k (rF 19)) [(.t 70), (.t 71)]), none, none⟩,⟨some 67, (.move (.t 72)), none, none⟩,⟨some 73, (.ext (.t 67) 0), none, none⟩,⟨some 74, (.ext (.t 67) 1), none, none⟩,⟨some 9, (.zero 29 [(.c (.v (.string (bs [])))), .nil, .nil]), none, none⟩,⟨none, (.store (some 3) (.t 9) (.t 73)), none, none⟩,⟨some 6, (.move (.t 74)), none, none⟩])
 (.seq
 (.seq
 (.region [] [] [0, 2, 13, 15, 23, 6, 5, 8, 7, 66, 1, 9, 88, 10, 93, 11, 4] [⟨some 75, (.move (.t 6)), none, none⟩,⟨some 76, (.bin .neq (.t 75) (.k (rI .i64 0))), none, none⟩,⟨some 77, (.move (.t 76)), none, none⟩,⟨some 78, (.load (some 3) (.t 9)), some (77, false), none⟩,⟨some 79, (.load (some 3) (.t 2)), some (77, false), none⟩,⟨some 80, (.callp (.k (rF 33)) [(.t 78), (.t 79)]), some (77, false), none⟩,⟨some 81, (.un .not (.t 80)), some (77, false), none⟩,⟨some 82, (.pick (.t 77) (.k (rB true)) (.t 81)), none, none⟩,⟨some 83, (.move (.t 82)), none, none⟩,⟨some 84, (.load (some 3) (.t 2)), some (83, false), none⟩,⟨some 85, (.load (some 3) (.t 9)), some (83, false), none⟩,⟨some 86, (.callp (.k (rF 33)) [(.t 84), (.t 85)]), some (83, false), none⟩,⟨some 87, (.un .not (.t 86)), some (83, false), none⟩,⟨some 88, (.pick (.t 83) (.k (rB true)) (.t 87)), none, none⟩])
 (.cond (.t 88)
 (.seq
 (.region [] [] [0, 2, 13, 15, 23, 6, 5, 8, 7, 66, 1, 9, 88, 10, 93, 11, 4] [⟨some 4, (.move (.k (rB false))), none, none⟩])
 .ret)
 .skip))
 (.seq
 (.region [] [] [0, 2, 13, 15, 23, 6, 5, 8, 7, 66, 1, 9, 88, 10, 93, 11, 4] [⟨some 89, (.load (some 3) (.t 2)), none, none⟩,⟨some 90, (.callp (.k (rF 48)) [(.t 89)]), none, none⟩,⟨some 10, (.move (.t 90)), none, none⟩])
 (.seq
 (.seq
 (.region [] [] [0, 2, 13, 15, 23, 6, 5, 8, 7, 66, 1, 9, 88, 10, 93, 11, 4] [⟨some 91, (.move (.t 10)), none, none⟩,⟨some 92, (.len (.t 91)), none, none⟩,⟨some 93, (.bin .lss (.t 92) (.k (rI .i64 2))), none, none⟩])
 (.cond (.t 93)
 (.seq
 (.region [] [] [0, 2, 13, 15, 23, 6, 5, 8, 7, 66, 1, 9, 88, 10, 93, 11, 4] [⟨some 4, (.move (.k (rB true))), none, none⟩])
 .ret)
 .skip))
 (.seq
 (.region [106, 11] [] [0, 2, 13, 15, 23, 6, 5, 8, 7, 66, 1, 9, 88, 10, 93, 11, 4] [⟨some 95, (.move (.t 10)), none, none⟩,⟨some 96, (.move (.t 10)), none, none⟩,⟨some 97, (.len (.t 96)), none, none⟩,⟨some 98, (.bin .sub (.t 97) (.k (rI .i64 1))), none, none⟩,⟨some 99, (.iaddr 1 (.t 95) (.t 98)), none, (some [])⟩,⟨some 100, (.load none (.t 99)), none, (some [])⟩,⟨some 101, (.move (.t 10)), none, none⟩,⟨some 102, (.iaddr 1 (.t 101) (.k (rI .i64 0))), none, (some [])⟩,⟨some 103, (.load none (.t 102)), none, (some [])⟩,⟨some 104, (.callp (.k (rF 49)) [(.t 103)]), none, none⟩,⟨some 105, (.build [(.c (.v (.string (bs [])))), (.c (.v (.string (bs [])))), (.c (.v (.int .i8 0))), (.c (.v (.int .i64 0))), (.c (.v (.string (bs []))))] [(0, 1, (.t 100)), (1, 4, (.t 104))]), none, none⟩,⟨some 106, (.row 76 5 [(.t 105)]), none, none⟩,⟨some 107, (.load (some 3) (.t 2)), none, (some [2])⟩,⟨some 108, (.callp (.k (rF 19)) [(.t 106), (.t 107)]), none, none⟩,⟨some 94, (.move (.t 108)), none, none⟩,⟨some 109, (.ext (.t 94) 0), none, none⟩,⟨some 110, (.ext (.t 94) 1), none, none⟩,⟨some 11, (.zero 29 [(.c (.v (.string (bs [])))), .nil, .nil]), none, none⟩,⟨none, (.store (some 3) (.t 11) (.t 109)), none, none⟩,⟨some 6, (.move (.t 110)), none, none⟩])
 (.seq
 (.region [] [] [0, 2, 13, 15, 23, 6, 5, 8, 7, 66, 1, 9, 88, 10, 93, 11, 4] [⟨some 111, (.move (.t 6)), none, none⟩,⟨some 112, (.bin .eql (.t 111) (.k (rI .i64 0))), none, none⟩,⟨some 113, (.move (.t 112)), none, none⟩,⟨some 114, (.load (some 3) (.t 11)), some (113, true), none⟩,⟨some 115, (.load (some 3) (.t 2)), some (113, true), none⟩,⟨some 116, (.callp (.k (rF 33)) [(.t 114), (.t 115)]), some (113, true), none⟩,⟨some 117, (.un .not (.t 116)), some (113, true), none⟩,⟨some 118, (.pick (.t 113) (.t 117) (.k (rB false))), none, none⟩,⟨some 119, (.move (.t 118)), none, none⟩,⟨some 120, (.load (some 3) (.t 2)), some (119, true), none⟩,⟨some 121, (.load (some 3) (.t 11)), some (119, true), none⟩,⟨some 122, (.callp (.k (rF 33)) [(.t 120), (.t 121)]), some (119, true), none⟩,⟨some 123, (.un .not (.t 122)), some (119, true), none⟩,⟨some 124, (.pick (.t 119) (.t 123) (.k (rB false))), none, none⟩,⟨some 4, (.move (.t 124)), none, none⟩])
 .ret)))))))))))))
def ir2008 : List IRes := [.tmp 4]
theorem ie2008 : cmpFunc Go.Proofs.Tryz.prog ⟨[(68, (some [2])), (71, (some [2])), (100, (some [])), (103, (some [])), (107, (some [2])), (99, (some [])), (102, (some []))], []⟩ Go.Proofs.Tryz.f8 [0, 2, 13, 15, 23, 6, 5, 8, 7, 66, 1, 9, 88, 10, 93, 11, 4] = some ic2008 := by kernel_rfl
theorem ig2008 : cmpRes Go.Proofs.Tryz.prog Go.Proofs.Tryz.f8.results.toList = some ir2008 := by kernel_rfl
def ic2047l0 : IC :=
 (.seq
 (.seq
 (.region [] [] [0, 2, 7, 5, 14, 1, 6, 8, 4] [⟨some 11, (.move (.t 7)), none, none⟩,⟨some 12, (.move (.t 5)), none, none⟩,⟨some 13, (.len (.t 12)), none, none⟩,⟨some 14, (.bin .lss (.t 11) (.t 13)), none, none⟩])
 (.cond (.t 14)
 .skip
 (.exit 0)))
 (.seq
 (.block 1
 (.seq
 (.region [] [] [0, 2, 7, 5, 14, 1, 6, 8, 4] [⟨some 17, (.move (.t 7)), none, none⟩,⟨some 18, (.move (.t 5)), none, none⟩,⟨some 19, (.len (.t 18)), none, none⟩,⟨some 20, (.bin .rem (.t 17) (.t 19)), none, none⟩,⟨some 21, (.move (.t 1)), none, none⟩,⟨some 22, (.move (.t 5)), none, none⟩,⟨some 23, (.len (.t 22)), none, none⟩,⟨some 24, (.bin .rem (.t 21) (.t 23)), none, none⟩,⟨some 25, (.bin .add (.t 20) (.t 24)), none, none⟩,⟨some 26, (.move (.t 5)), none, none⟩,⟨some 27, (.len (.t 26)), none, none⟩,⟨some 28, (.bin .add (.t 25) (.t 27)), none, none⟩,⟨some 29, (.move (.t 5)), none, none⟩,⟨some 30, (.len (.t 29)), none, none⟩,⟨some 31, (.bin .rem (.t 28) (.t 30)), none, none⟩,⟨some 8, (.move (.t 31)), none, none⟩])
 (.region [43] [] [0, 2, 7, 5, 14, 1, 6, 8, 4] [⟨some 32, (.move (.t 6)), none, none⟩,⟨some 33, (.move (.t 5)), none, none⟩,⟨some 34, (.move (.t 7)), none, none⟩,⟨some 35, (.iaddr 1 (.t 33) (.t 34)), none, none⟩,⟨some 36, (.load none (.t 35)), none, none⟩,⟨some 37, (.move (.t 5)), none, none⟩,⟨some 38, (.move (.t 8)), none, none⟩,⟨some 39, (.iaddr 1 (.t 37) (.t 38)), none, none⟩,⟨some 40, (.load none (.t 39)), none, none⟩,⟨some 41, (.callp (.k (rF 49)) [(.t 40)]), none, none⟩,⟨some 42, (.build [(.c (.v (.string (bs [])))), (.c (.v (.string (bs [])))), (.c (.v (.int .i8 0))), (.c (.v (.int .i64 0))), (.c (.v (.string (bs []))))] [(0, 1, (.t 36)), (1, 4, (.t 41))]), none, none⟩,⟨some 43, (.row 76 5 [(.t 42)]), none, none⟩,⟨some 44, (.app 76 5 64 (.t 32) (.t 43)), none, none⟩,⟨some 6, (.move (.t 44)), none, none⟩])))
 (.region [] [] [0, 2, 7, 5, 14, 1, 6, 8, 4] [⟨some 15, (.move (.t 7)), none, none⟩,⟨some 16, (.bin .add (.t 15) (.k (rI .i64 1))), none, none⟩,⟨some 7, (.move (.t 16)), none, none⟩])))
def ic2047 : IC :=
 (.seq
 (.region [2] [] [0, 2, 7, 5, 14, 1, 6, 8, 4] [⟨some 2, (.box 29 (.t 0)), none, none⟩,⟨some 4, (.move (.k (.x (.one .nil)))), none, none⟩])
 (.seq
 (.region [] [] [0, 2, 7, 5, 14, 1, 6, 8, 4] [⟨some 9, (.load (some 3) (.t 2)), none, none⟩,⟨some 10, (.callp (.k (rF 48)) [(.t 9)]), none, none⟩,⟨some 5, (.move (.t 10)), none, none⟩])
 (.seq
 (.region [] [] [0, 2, 7, 5, 14, 1, 6, 8, 4] [⟨some 6, (.move (.k (.x (.one .nil)))), none, none⟩])
 (.seq
 (.seq
 (.region [] [] [0, 2, 7, 5, 14, 1, 6, 8, 4] [⟨some 7, (.move (.k (rI .i64 0))), none, none⟩])
 (.block 0
 (.loop ic2047l0)))
 (.seq
 (.region [] [] [0, 2, 7, 5, 14, 1, 6, 8, 4] [⟨some 45, (.move (.t 6)), none, none⟩,⟨some 4, (.move (.t 45)), none, none⟩])
 .ret)))))
def ir2047 : List IRes := [.tmp 4]
theorem ie2047 : cmpFunc Go.Proofs.Tryz.prog ⟨[], []⟩ Go.Proofs.Tryz.f47 [0, 2, 7, 5, 14, 1, 6, 8, 4] = some ic2047 := by kernel_rfl
theorem ig2047 : cmpRes Go.Proofs.Tryz.prog Go.Proofs.Tryz.f47.results.toList = some ir2047 := by kernel_rfl
end Go.Proofs.YtiomojlcnemnhaaGreatDoor

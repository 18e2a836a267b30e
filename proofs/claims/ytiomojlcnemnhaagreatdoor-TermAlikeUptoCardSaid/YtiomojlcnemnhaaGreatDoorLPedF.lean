import Derived.Test.YtiomojlcnemnhaaGreatDoorLFxZ
import Derived.Test.YtiomojlcnemnhaaGreatDoorProg
import Derived.KernelRfl
import Derived.Test.YtiomojlcnemnhaaGreatDoorLGxM3
namespace Go.Proofs.YtiomojlcnemnhaaGreatDoor
open Go.Fx
def ic19 : IC :=
 (.seq
 (.region [] [] [1, 2, 3, 4, 6, 8, 7, 0] [⟨some 0, (.move (.k (rB false))), none, none⟩])
 (.seq
 (.region [12, 1] [] [1, 2, 3, 4, 6, 8, 7, 0] [⟨some 9, (.callp (.k (rF 49)) [(.k (rS (bs [88])))]), none, none⟩,⟨some 10, (.callp (.k (rF 49)) [(.k (rS (bs [95])))]), none, none⟩,⟨some 11, (.callp (.k (rF 136)) [(.k (rI .i64 5))]), none, none⟩,⟨some 12, (.row 73 4 [(.t 9), (.t 10), (.t 11)]), none, none⟩,⟨some 13, (.build [(.c (.v (.string (bs [])))), .nil] [(0, 1, (.k (rS (bs [112])))), (1, 1, (.t 12))]), none, none⟩,⟨some 1, (.zero 25 [(.c (.v (.string (bs [])))), .nil]), none, none⟩,⟨none, (.store (some 2) (.t 1) (.t 13)), none, none⟩])
 (.seq
 (.region [17, 2] [] [1, 2, 3, 4, 6, 8, 7, 0] [⟨some 14, (.callp (.k (rF 137)) [(.k (rI .i64 1))]), none, none⟩,⟨some 15, (.callp (.k (rF 137)) [(.k (rI .i64 2))]), none, none⟩,⟨some 16, (.callp (.k (rF 137)) [(.k (rI .i64 5))]), none, none⟩,⟨some 17, (.rowb 71 3 [(.t 14), (.t 15), (.t 16)]), none, (some [77777])⟩,⟨some 18, (.build [(.c (.v (.string (bs [])))), .nil] [(0, 1, (.k (rS (bs [112])))), (1, 1, (.t 17))]), none, none⟩,⟨some 2, (.zero 147 [(.c (.v (.string (bs [])))), .nil]), none, none⟩,⟨none, (.store (some 2) (.t 2) (.t 18)), none, none⟩])
 (.seq
 (.region [] [] [1, 2, 3, 4, 6, 8, 7, 0] [⟨some 20, (.load (some 2) (.t 1)), none, none⟩,⟨some 21, (.load (some 2) (.t 2)), none, none⟩,⟨some 22, (.call (.k (rF 138)) [(.t 20), (.t 21)]), none, (some [17])⟩,⟨some 19, (.move (.t 22)), none, none⟩,⟨some 23, (.ext (.t 19) 0), none, none⟩,⟨some 24, (.ext (.t 19) 1), none, none⟩,⟨some 3, (.move (.t 23)), none, none⟩,⟨some 4, (.move (.t 24)), none, none⟩])
 (.seq
 (.region [] [] [1, 2, 3, 4, 6, 8, 7, 0] [⟨some 25, (.faddr 1 (.t 2)), none, none⟩,⟨some 26, (.load none (.t 25)), none, none⟩,⟨some 27, (.callp (.k (rF 137)) [(.k (rI .i64 6))]), none, none⟩,⟨some 28, (.iaddr 3 (.t 26) (.k (rI .i64 2))), none, none⟩,⟨none, (.store (some 3) (.t 28) (.t 27)), none, none⟩])
 (.seq
 (.region [] [.fz [17]] [1, 2, 3, 4, 6, 8, 7, 0] [⟨some 30, (.load (some 2) (.t 1)), none, none⟩,⟨some 31, (.load (some 2) (.t 2)), none, none⟩,⟨some 32, (.callp (.k (rF 138)) [(.t 30), (.t 31)]), none, none⟩,⟨some 29, (.move (.t 32)), none, none⟩,⟨some 33, (.ext (.t 29) 0), none, none⟩,⟨some 34, (.ext (.t 29) 1), none, none⟩,⟨some 5, (.move (.t 33)), none, none⟩,⟨some 6, (.move (.t 34)), none, none⟩])
 (.seq
 (.region [40, 7] [] [1, 2, 3, 4, 6, 8, 7, 0] [⟨some 36, (.callp (.k (rF 49)) [(.k (rS (bs [88])))]), none, none⟩,⟨some 37, (.build [(.c (.v (.int .i8 0))), (.c (.v (.string (bs [])))), (.c (.v (.int .i8 0))), (.c (.v (.int .i64 0))), (.c (.v (.string (bs [])))), .nil] [(1, 4, (.t 36))]), none, none⟩,⟨some 38, (.callp (.k (rF 136)) [(.k (rI .i64 2))]), none, none⟩,⟨some 39, (.build [(.c (.v (.int .i8 0))), (.c (.v (.string (bs [])))), (.c (.v (.int .i8 0))), (.c (.v (.int .i64 0))), (.c (.v (.string (bs [])))), .nil] [(1, 4, (.t 38))]), none, none⟩,⟨some 40, (.row 105 6 [(.t 37), (.t 39)]), none, none⟩,⟨some 41, (.build [(.c (.v (.int .i8 0))), (.c (.v (.string (bs [])))), (.c (.v (.int .i8 0))), (.c (.v (.int .i64 0))), (.c (.v (.string (bs [])))), .nil] [(0, 1, (.k (rI .i8 2))), (5, 1, (.t 40))]), none, none⟩,⟨some 42, (.move (.t 3)), none, none⟩,⟨some 43, (.callp (.k (rF 139)) [(.t 41), (.t 42)]), none, none⟩,⟨some 35, (.move (.t 43)), none, none⟩,⟨some 44, (.ext (.t 35) 0), none, none⟩,⟨some 45, (.ext (.t 35) 1), none, none⟩,⟨some 7, (.zero 71 [(.c (.v (.int .i8 0))), (.c (.v (.int .i64 0))), (.c (.v (.string (bs []))))]), none, none⟩,⟨none, (.store (some 3) (.t 7) (.t 44)), none, none⟩,⟨some 8, (.move (.t 45)), none, none⟩])
 (.seq
 (.region [] [] [1, 2, 3, 4, 6, 8, 7, 0] [⟨some 46, (.move (.t 4)), none, none⟩,⟨some 47, (.move (.t 46)), none, none⟩,⟨some 48, (.move (.t 6)), some (47, true), none⟩,⟨some 49, (.un .not (.t 48)), some (47, true), none⟩,⟨some 50, (.pick (.t 47) (.t 49) (.k (rB false))), none, none⟩,⟨some 51, (.move (.t 50)), none, none⟩,⟨some 52, (.move (.t 3)), some (51, true), none⟩,⟨some 53, (.len (.t 52)), some (51, true), none⟩,⟨some 54, (.bin .eql (.t 53) (.k (rI .i64 1))), some (51, true), none⟩,⟨some 55, (.pick (.t 51) (.t 54) (.k (rB false))), none, none⟩,⟨some 56, (.move (.t 55)), none, none⟩,⟨some 57, (.move (.t 8)), some (56, true), none⟩,⟨some 58, (.pick (.t 56) (.t 57) (.k (rB false))), none, none⟩,⟨some 59, (.move (.t 58)), none, none⟩,⟨some 60, (.load (some 3) (.t 7)), some (59, true), none⟩,⟨some 61, (.callp (.k (rF 137)) [(.k (rI .i64 3))]), some (59, true), none⟩,⟨some 62, (.eqs false [.i .i8, .i .i64, .s] (.t 60) (.t 61)), some (59, true), none⟩,⟨some 63, (.pick (.t 59) (.t 62) (.k (rB false))), none, none⟩,⟨some 64, (.move (.t 63)), none, none⟩,⟨some 65, (.load (some 2) (.t 1)), some (64, true), none⟩,⟨some 66, (.callp (.k (rF 121)) [(.t 65)]), some (64, true), none⟩,⟨some 67, (.bin .eql (.t 66) (.k (rI .i64 0))), some (64, true), none⟩,⟨some 68, (.pick (.t 64) (.t 67) (.k (rB false))), none, none⟩,⟨some 0, (.move (.t 68)), none, none⟩])
 .ret))))))))
def ir19 : List IRes := [.tmp 0]
theorem ie19 : cmpFunc Go.Proofs.Tryz.prog ⟨[(17, (some [77777])), (22, (some [17]))], [(32, .fz [17])]⟩ Go.Proofs.Tryz.f45 [1, 2, 3, 4, 6, 8, 7, 0] = some ic19 := by kernel_rfl
theorem ig19 : cmpRes Go.Proofs.Tryz.prog Go.Proofs.Tryz.f45.results.toList = some ir19 := by kernel_rfl
def ic87 : IC :=
 (.seq
 (.region [2] [] [0, 2] [⟨some 2, (.zero 73 [(.c (.v (.string (bs [])))), (.c (.v (.int .i8 0))), (.c (.v (.int .i64 0))), (.c (.v (.string (bs []))))]), none, none⟩])
 (.seq
 (.region [] [] [0, 2] [⟨some 3, (.move (.t 0)), none, none⟩,⟨some 4, (.build [(.c (.v (.string (bs [])))), (.c (.v (.int .i8 0))), (.c (.v (.int .i64 0))), (.c (.v (.string (bs []))))] [(0, 1, (.t 3))]), none, none⟩,⟨none, (.store (some 4) (.t 2) (.t 4)), none, none⟩])
 .ret))
def ir87 : List IRes := [.cell 2 (some 4)]
theorem ie87 : cmpFunc Go.Proofs.Tryz.prog ⟨[], []⟩ Go.Proofs.Tryz.f49 [0, 2] = some ic87 := by kernel_rfl
theorem ig87 : cmpRes Go.Proofs.Tryz.prog Go.Proofs.Tryz.f49.results.toList = some ir87 := by kernel_rfl
def ic88 : IC :=
 (.seq
 (.region [2] [] [0, 2] [⟨some 2, (.zero 73 [(.c (.v (.string (bs [])))), (.c (.v (.int .i8 0))), (.c (.v (.int .i64 0))), (.c (.v (.string (bs []))))]), none, none⟩])
 (.seq
 (.region [] [] [0, 2] [⟨some 3, (.move (.t 0)), none, none⟩,⟨some 4, (.callp (.k (rF 137)) [(.t 3)]), none, none⟩,⟨some 5, (.build [(.c (.v (.string (bs [])))), (.c (.v (.int .i8 0))), (.c (.v (.int .i64 0))), (.c (.v (.string (bs []))))] [(1, 3, (.t 4))]), none, none⟩,⟨none, (.store (some 4) (.t 2) (.t 5)), none, none⟩])
 .ret))
def ir88 : List IRes := [.cell 2 (some 4)]
theorem ie88 : cmpFunc Go.Proofs.Tryz.prog ⟨[], []⟩ Go.Proofs.Tryz.f136 [0, 2] = some ic88 := by kernel_rfl
theorem ig88 : cmpRes Go.Proofs.Tryz.prog Go.Proofs.Tryz.f136.results.toList = some ir88 := by kernel_rfl
def ic89 : IC :=
 (.seq
 (.region [2] [] [0, 2] [⟨some 2, (.zero 71 [(.c (.v (.int .i8 0))), (.c (.v (.int .i64 0))), (.c (.v (.string (bs []))))]), none, none⟩])
 (.seq
 (.region [] [] [0, 2] [⟨some 3, (.move (.t 0)), none, none⟩,⟨some 4, (.build [(.c (.v (.int .i8 0))), (.c (.v (.int .i64 0))), (.c (.v (.string (bs []))))] [(0, 1, (.k (rI .i8 1))), (1, 1, (.t 3))]), none, none⟩,⟨none, (.store (some 3) (.t 2) (.t 4)), none, none⟩])
 .ret))
def ir89 : List IRes := [.cell 2 (some 3)]
theorem ie89 : cmpFunc Go.Proofs.Tryz.prog ⟨[], []⟩ Go.Proofs.Tryz.f137 [0, 2] = some ic89 := by kernel_rfl
theorem ig89 : cmpRes Go.Proofs.Tryz.prog Go.Proofs.Tryz.f137.results.toList = some ir89 := by kernel_rfl
def ic26a0 : IC :=
 (.region [8] [] [0, 2, 11, 4, 1, 15, 17, 6, 8, 5] [⟨some 8, (.zero 210 [(.c (.v (.string (bs [])))), (.c (.v (.int .i8 0))), (.c (.v (.int .i64 0))), (.c (.v (.string (bs []))))]), none, none⟩,⟨none, (.store (some 4) (.t 8) (.t 17)), none, none⟩])
def ic26l0 : IC :=
 (.block 1
 (.region [] [] [0, 2, 11, 4, 1, 15, 17, 6, 8, 5] [⟨some 18, (.load none (.t 6)), none, none⟩,⟨some 19, (.faddr 0 (.t 8)), none, none⟩,⟨some 20, (.load none (.t 19)), none, none⟩,⟨some 21, (.faddr 1 (.t 8)), none, none⟩,⟨some 22, (.load (some 3) (.t 21)), none, none⟩,⟨none, (.mapup .string false (.t 18) (.t 20) (.t 22)), none, none⟩]))
def ic26 : IC :=
 (.seq
 (.region [2, 4] [] [0, 2, 11, 4, 1, 15, 17, 6, 8, 5] [⟨some 2, (.box 105 (.t 0)), none, none⟩,⟨some 4, (.zero 71 [(.c (.v (.int .i8 0))), (.c (.v (.int .i64 0))), (.c (.v (.string (bs []))))]), none, none⟩,⟨some 5, (.move (.k (rB false))), none, none⟩])
 (.seq
 (.seq
 (.region [] [] [0, 2, 11, 4, 1, 15, 17, 6, 8, 5] [⟨some 9, (.load (some 6) (.t 2)), none, none⟩,⟨some 10, (.callp (.k (rF 220)) [(.t 9)]), none, none⟩,⟨some 11, (.bin .neq (.t 10) (.k (rI .i64 0))), none, none⟩])
 (.cond (.t 11)
 (.seq
 (.region [] [] [0, 2, 11, 4, 1, 15, 17, 6, 8, 5] [⟨some 12, (.build [(.c (.v (.int .i8 0))), (.c (.v (.int .i64 0))), (.c (.v (.string (bs []))))] []), none, none⟩,⟨none, (.store (some 3) (.t 4) (.t 12)), none, none⟩,⟨some 5, (.move (.k (rB false))), none, none⟩])
 .ret)
 .skip))
 (.seq
 (.region [13, 6] [] [0, 2, 11, 4, 1, 15, 17, 6, 8, 5] [⟨some 13, (.mkmap .string 4 false), none, none⟩,⟨some 6, (.zero 252 [(.c (.v (.map none)))]), none, none⟩,⟨none, (.store (some 1) (.t 6) (.t 13)), none, none⟩])
 (.seq
 (.seq
 (.region [] [] [0, 2, 11, 4, 1, 15, 17, 6, 8, 5] [⟨some 14, (.move (.t 1)), none, none⟩,⟨some 15, (.call (.k (rF 221)) [(.t 14)]), none, none⟩])
 (.block 0
 (.rangeF (.t 15) [16, 17] ic26a0 ic26l0)))
 (.seq
 (.region [] [] [0, 2, 11, 4, 1, 15, 17, 6, 8, 5] [⟨some 23, (.load (some 6) (.t 2)), none, none⟩,⟨some 24, (.load none (.t 6)), none, none⟩,⟨some 25, (.call (.k (rF 222)) [(.t 23), (.t 24)]), none, none⟩,⟨some 26, (.ext (.t 25) 0), none, none⟩,⟨some 27, (.ext (.t 25) 1), none, none⟩,⟨none, (.store (some 3) (.t 4) (.t 26)), none, none⟩,⟨some 5, (.move (.t 27)), none, none⟩])
 .ret)))))
def ir26 : List IRes := [.cell 4 (some 3), .tmp 5]
theorem ie26 : cmpFunc Go.Proofs.Tryz.prog ⟨[(15, none), (25, none)], []⟩ Go.Proofs.Tryz.f139 [0, 2, 11, 4, 1, 15, 17, 6, 8, 5] = some ic26 := by kernel_rfl
theorem ig26 : cmpRes Go.Proofs.Tryz.prog Go.Proofs.Tryz.f139.results.toList = some ir26 := by kernel_rfl
def ic95 : IC :=
 (.seq
 (.region [1] [] [0, 1, 2] [⟨some 1, (.box 108 (.t 0)), none, none⟩,⟨some 2, (.move (.k (.x (.one (.c (.v .nilFunc)))))), none, none⟩])
 (.seq
 (.region [] [] [0, 1, 2] [⟨some 3, (.clo 279 [] [(.t 1)]), none, none⟩,⟨some 2, (.move (.t 3)), none, none⟩])
 .ret))
def ir95 : List IRes := [.tmp 2]
theorem ie95 : cmpFunc Go.Proofs.Tryz.prog ⟨[], []⟩ Go.Proofs.Tryz.f221 [0, 1, 2] = some ic95 := by kernel_rfl
theorem ig95 : cmpRes Go.Proofs.Tryz.prog Go.Proofs.Tryz.f221.results.toList = some ir95 := by kernel_rfl
def ic96l0 : IC :=
 (.seq
 (.region [] [] [0, 2, 14, 18, 4, 1, 6, 29, 35, 34, 36, 33, 9, 11, 46, 7, 10, 5] [⟨some 36, (.bin .lss (.t 35) (.t 34)), none, none⟩])
 (.seq
 (.cond (.t 36)
 .skip
 (.exit 0))
 (.seq
 (.block 1
 (.seq
 (.region [9] [] [0, 2, 14, 18, 4, 1, 6, 29, 35, 34, 36, 33, 9, 11, 46, 7, 10, 5] [⟨some 37, (.iaddr 6 (.t 33) (.t 35)), none, none⟩,⟨some 38, (.load (some 6) (.t 37)), none, none⟩,⟨some 9, (.zero 105 [(.c (.v (.int .i8 0))), (.c (.v (.string (bs [])))), (.c (.v (.int .i8 0))), (.c (.v (.int .i64 0))), (.c (.v (.string (bs [])))), .nil]), none, none⟩,⟨none, (.store (some 6) (.t 9) (.t 38)), none, none⟩])
 (.seq
 (.region [10] [] [0, 2, 14, 18, 4, 1, 6, 29, 35, 34, 36, 33, 9, 11, 46, 7, 10, 5] [⟨some 40, (.load (some 6) (.t 9)), none, none⟩,⟨some 41, (.move (.t 1)), none, none⟩,⟨some 42, (.call (.k (rF 222)) [(.t 40), (.t 41)]), none, none⟩,⟨some 39, (.move (.t 42)), none, none⟩,⟨some 43, (.ext (.t 39) 0), none, none⟩,⟨some 44, (.ext (.t 39) 1), none, none⟩,⟨some 10, (.zero 71 [(.c (.v (.int .i8 0))), (.c (.v (.int .i64 0))), (.c (.v (.string (bs []))))]), none, none⟩,⟨none, (.store (some 3) (.t 10) (.t 43)), none, none⟩,⟨some 11, (.move (.t 44)), none, none⟩])
 (.seq
 (.seq
 (.region [] [] [0, 2, 14, 18, 4, 1, 6, 29, 35, 34, 36, 33, 9, 11, 46, 7, 10, 5] [⟨some 45, (.move (.t 11)), none, none⟩,⟨some 46, (.un .not (.t 45)), none, none⟩])
 (.cond (.t 46)
 (.seq
 (.region [] [] [0, 2, 14, 18, 4, 1, 6, 29, 35, 34, 36, 33, 9, 11, 46, 7, 10, 5] [⟨some 47, (.build [(.c (.v (.int .i8 0))), (.c (.v (.int .i64 0))), (.c (.v (.string (bs []))))] []), none, none⟩,⟨none, (.store (some 3) (.t 4) (.t 47)), none, none⟩,⟨some 5, (.move (.k (rB false))), none, none⟩])
 .ret)
 .skip))
 (.region [50] [] [0, 2, 14, 18, 4, 1, 6, 29, 35, 34, 36, 33, 9, 11, 46, 7, 10, 5] [⟨some 48, (.move (.t 7)), none, none⟩,⟨some 49, (.load (some 3) (.t 10)), none, none⟩,⟨some 50, (.row 71 3 [(.t 49)]), none, none⟩,⟨some 51, (.app 71 3 32 (.t 48) (.t 50)), none, none⟩,⟨some 7, (.move (.t 51)), none, none⟩])))))
 (.region [] [] [0, 2, 14, 18, 4, 1, 6, 29, 35, 34, 36, 33, 9, 11, 46, 7, 10, 5] [⟨some 52, (.bin .add (.t 35) (.k (rI .i64 1))), none, none⟩,⟨some 35, (.move (.t 52)), none, none⟩]))))
def ic96 : IC :=
 (.seq
 (.region [2, 4] [] [0, 2, 14, 18, 4, 1, 6, 29, 35, 34, 36, 33, 9, 11, 46, 7, 10, 5] [⟨some 2, (.box 105 (.t 0)), none, none⟩,⟨some 4, (.zero 71 [(.c (.v (.int .i8 0))), (.c (.v (.int .i64 0))), (.c (.v (.string (bs []))))]), none, none⟩,⟨some 5, (.move (.k (rB false))), none, none⟩])
 (.seq
 (.seq
 (.region [] [] [0, 2, 14, 18, 4, 1, 6, 29, 35, 34, 36, 33, 9, 11, 46, 7, 10, 5] [⟨some 12, (.faddr 0 (.t 2)), none, none⟩,⟨some 13, (.load none (.t 12)), none, none⟩,⟨some 14, (.bin .eql (.t 13) (.k (rI .i8 0))), none, none⟩])
 (.cond (.t 14)
 (.seq
 (.seq
 (.region [] [] [0, 2, 14, 18, 4, 1, 6, 29, 35, 34, 36, 33, 9, 11, 46, 7, 10, 5] [⟨some 15, (.faddr 1 (.t 2)), none, none⟩,⟨some 16, (.faddr 0 (.t 15)), none, none⟩,⟨some 17, (.load none (.t 16)), none, none⟩,⟨some 18, (.bin .eql (.t 17) (.k (rS (bs [])))), none, none⟩])
 (.cond (.t 18)
 (.seq
 (.region [] [] [0, 2, 14, 18, 4, 1, 6, 29, 35, 34, 36, 33, 9, 11, 46, 7, 10, 5] [⟨some 19, (.faddr 1 (.t 2)), none, none⟩,⟨some 20, (.faddr 1 (.t 19)), none, none⟩,⟨some 21, (.load (some 3) (.t 20)), none, none⟩,⟨none, (.store (some 3) (.t 4) (.t 21)), none, none⟩,⟨some 5, (.move (.k (rB true))), none, none⟩])
 .ret)
 .skip))
 (.seq
 (.region [6] [] [0, 2, 14, 18, 4, 1, 6, 29, 35, 34, 36, 33, 9, 11, 46, 7, 10, 5] [⟨some 22, (.move (.t 1)), none, none⟩,⟨some 23, (.faddr 1 (.t 2)), none, none⟩,⟨some 24, (.faddr 0 (.t 23)), none, none⟩,⟨some 25, (.load none (.t 24)), none, none⟩,⟨some 26, (.mlook .string false false [(.c (.v (.int .i8 0))), (.c (.v (.int .i64 0))), (.c (.v (.string (bs []))))] (.t 22) (.t 25)), none, none⟩,⟨some 6, (.zero 71 [(.c (.v (.int .i8 0))), (.c (.v (.int .i64 0))), (.c (.v (.string (bs []))))]), none, none⟩,⟨none, (.store (some 3) (.t 6) (.t 26)), none, none⟩])
 (.seq
 (.seq
 (.region [] [] [0, 2, 14, 18, 4, 1, 6, 29, 35, 34, 36, 33, 9, 11, 46, 7, 10, 5] [⟨some 27, (.load (some 3) (.t 6)), none, none⟩,⟨some 28, (.callp (.k (rF 204)) [(.t 27)]), none, none⟩,⟨some 29, (.bin .neq (.t 28) (.k (rI .i64 0))), none, none⟩])
 (.cond (.t 29)
 (.seq
 (.region [] [] [0, 2, 14, 18, 4, 1, 6, 29, 35, 34, 36, 33, 9, 11, 46, 7, 10, 5] [⟨some 30, (.build [(.c (.v (.int .i8 0))), (.c (.v (.int .i64 0))), (.c (.v (.string (bs []))))] []), none, none⟩,⟨none, (.store (some 3) (.t 4) (.t 30)), none, none⟩,⟨some 5, (.move (.k (rB false))), none, none⟩])
 .ret)
 .skip))
 (.seq
 (.region [] [] [0, 2, 14, 18, 4, 1, 6, 29, 35, 34, 36, 33, 9, 11, 46, 7, 10, 5] [⟨some 31, (.load (some 3) (.t 6)), none, none⟩,⟨none, (.store (some 3) (.t 4) (.t 31)), none, none⟩,⟨some 5, (.move (.k (rB true))), none, none⟩])
 .ret))))
 .skip))
 (.seq
 (.region [] [] [0, 2, 14, 18, 4, 1, 6, 29, 35, 34, 36, 33, 9, 11, 46, 7, 10, 5] [⟨some 7, (.move (.k (.x (.one .nil)))), none, none⟩])
 (.seq
 (.seq
 (.region [] [] [0, 2, 14, 18, 4, 1, 6, 29, 35, 34, 36, 33, 9, 11, 46, 7, 10, 5] [⟨some 32, (.faddr 5 (.t 2)), none, none⟩,⟨some 33, (.load none (.t 32)), none, none⟩,⟨some 34, (.len (.t 33)), none, none⟩,⟨some 35, (.move (.k (rI .i64 0))), none, none⟩])
 (.block 0
 (.loop ic96l0)))
 (.seq
 (.region [] [] [0, 2, 14, 18, 4, 1, 6, 29, 35, 34, 36, 33, 9, 11, 46, 7, 10, 5] [⟨some 53, (.faddr 0 (.t 2)), none, none⟩,⟨some 54, (.load none (.t 53)), none, none⟩,⟨some 55, (.move (.t 7)), none, none⟩,⟨some 56, (.callp (.k (rF 280)) [(.t 54), (.t 55)]), none, none⟩,⟨some 57, (.ext (.t 56) 0), none, none⟩,⟨some 58, (.ext (.t 56) 1), none, none⟩,⟨none, (.store (some 3) (.t 4) (.t 57)), none, none⟩,⟨some 5, (.move (.t 58)), none, none⟩])
 .ret)))))
def ir96 : List IRes := [.cell 4 (some 3), .tmp 5]
theorem ie96 : cmpFunc Go.Proofs.Tryz.prog ⟨[(42, none)], []⟩ Go.Proofs.Tryz.f222 [0, 2, 14, 18, 4, 1, 6, 29, 35, 34, 36, 33, 9, 11, 46, 7, 10, 5] = some ic96 := by kernel_rfl
theorem ig96 : cmpRes Go.Proofs.Tryz.prog Go.Proofs.Tryz.f222.results.toList = some ir96 := by kernel_rfl
def ic159l0 : IC :=
 (.seq
 (.seq
 (.region [] [] [1, 3, 8, 0, 18] [⟨some 7, (.move (.t 3)), none, none⟩,⟨some 8, (.bin .geq (.t 7) (.k (rI .i64 0))), none, none⟩])
 (.cond (.t 8)
 .skip
 (.exit 0)))
 (.seq
 (.block 1
 (.seq
 (.region [] [] [1, 3, 8, 0, 18] [⟨some 11, (.move (.t 0)), none, none⟩,⟨some 12, (.move (.t 3)), none, none⟩,⟨some 13, (.load none (.t 1)), none, none⟩,⟨some 14, (.move (.t 3)), none, none⟩,⟨some 15, (.iaddr 4 (.t 13) (.t 14)), none, none⟩,⟨some 16, (.load (some 4) (.t 15)), none, none⟩,⟨some 17, (.call (.t 11) [(.t 12), (.t 16)]), none, none⟩,⟨some 18, (.un .not (.t 17)), none, none⟩])
 (.cond (.t 18)
 .ret
 .skip)))
 (.region [] [] [1, 3, 8, 0, 18] [⟨some 9, (.move (.t 3)), none, none⟩,⟨some 10, (.bin .sub (.t 9) (.k (rI .i64 1))), none, none⟩,⟨some 3, (.move (.t 10)), none, none⟩])))
def ic159 : IC :=
 (.seq
 (.region [] [] [1, 3, 8, 0, 18] [⟨some 4, (.load none (.t 1)), none, none⟩,⟨some 5, (.len (.t 4)), none, none⟩,⟨some 6, (.bin .sub (.t 5) (.k (rI .i64 1))), none, none⟩,⟨some 3, (.move (.t 6)), none, none⟩])
 (.block 0
 (.loop ic159l0)))
def ir159 : List IRes := []
theorem ie159 : cmpFunc Go.Proofs.Tryz.prog ⟨[(17, none)], []⟩ Go.Proofs.Tryz.f279 [1, 3, 8, 0, 18] = some ic159 := by kernel_rfl
theorem ig159 : cmpRes Go.Proofs.Tryz.prog Go.Proofs.Tryz.f279.results.toList = some ir159 := by kernel_rfl
-- BAD 280 pedigree/value.Arith: [range at value.go:156, next at value.go:156]
def ic33l0 : IC :=
 (.seq
 .bad
 (.seq
 (.cond (.t 132)
 .skip
 (.exit 1))
 (.block 2
 (.region [] [] [0, 1, 23, 4, 25, 26, 36, 50, 64, 78, 7, 94, 6, 100, 114, 124, 132, 8, 5] [⟨some 133, (.move (.t 8)), none, none⟩,⟨some 134, (.bin .add (.t 133) (.k (rI .i64 1))), none, none⟩,⟨some 8, (.move (.t 134)), none, none⟩]))))
def ic33 : IC :=
 (.seq
 (.region [4] [] [0, 1, 23, 4, 25, 26, 36, 50, 64, 78, 7, 94, 6, 100, 114, 124, 132, 8, 5] [⟨some 4, (.zero 71 [(.c (.v (.int .i8 0))), (.c (.v (.int .i64 0))), (.c (.v (.string (bs []))))]), none, none⟩,⟨some 5, (.move (.k (rB false))), none, none⟩])
 (.seq
 (.seq
 (.region [] [] [0, 1, 23, 4, 25, 26, 36, 50, 64, 78, 7, 94, 6, 100, 114, 124, 132, 8, 5] [⟨some 9, (.move (.t 0)), none, none⟩,⟨some 10, (.bin .lss (.t 9) (.k (rI .i8 0))), none, none⟩,⟨some 11, (.move (.t 10)), none, none⟩,⟨some 12, (.move (.t 0)), some (11, false), none⟩,⟨some 13, (.conv .i64 (.t 12)), some (11, false), none⟩,⟨some 14, (.bin .geq (.t 13) (.k (rI .i64 11))), some (11, false), none⟩,⟨some 15, (.pick (.t 11) (.k (rB true)) (.t 14)), none, none⟩,⟨some 16, (.move (.t 15)), none, none⟩,⟨some 17, (.move (.t 0)), some (16, false), none⟩,⟨some 18, (.gidx 11 1 0 (.t 17)), some (16, false), none⟩,⟨some 19, (.gload (.t 18)), some (16, false), (some [88888])⟩,⟨some 20, (.move (.t 1)), some (16, false), none⟩,⟨some 21, (.callp (.k (rF 319)) [(.t 19), (.t 20)]), some (16, false), none⟩,⟨some 22, (.un .not (.t 21)), some (16, false), none⟩,⟨some 23, (.pick (.t 16) (.k (rB true)) (.t 22)), none, none⟩])
 (.cond (.t 23)
 (.seq
 (.region [] [] [0, 1, 23, 4, 25, 26, 36, 50, 64, 78, 7, 94, 6, 100, 114, 124, 132, 8, 5] [⟨some 24, (.build [(.c (.v (.int .i8 0))), (.c (.v (.int .i64 0))), (.c (.v (.string (bs []))))] []), none, none⟩,⟨none, (.store (some 3) (.t 4) (.t 24)), none, none⟩,⟨some 5, (.move (.k (rB false))), none, none⟩])
 .ret)
 .skip))
 (.seq
 (.seq
 (.region [] [] [0, 1, 23, 4, 25, 26, 36, 50, 64, 78, 7, 94, 6, 100, 114, 124, 132, 8, 5] [⟨some 25, (.move (.t 0)), none, none⟩])
 (.block 0
 (.seq
 (.region [] [] [0, 1, 23, 4, 25, 26, 36, 50, 64, 78, 7, 94, 6, 100, 114, 124, 132, 8, 5] [⟨some 27, (.bin .eql (.t 25) (.k (rI .i8 1))), none, none⟩,⟨some 26, (.move (.t 27)), none, none⟩])
 (.cond (.t 26)
 (.seq
 (.region [] [] [0, 1, 23, 4, 25, 26, 36, 50, 64, 78, 7, 94, 6, 100, 114, 124, 132, 8, 5] [⟨some 28, (.move (.t 1)), none, none⟩,⟨some 29, (.iaddr 3 (.t 28) (.k (rI .i64 0))), none, none⟩,⟨some 30, (.faddr 1 (.t 29)), none, none⟩,⟨some 31, (.load none (.t 30)), none, none⟩,⟨some 32, (.un .neg (.t 31)), none, none⟩,⟨some 33, (.callp (.k (rF 320)) [(.t 32)]), none, none⟩,⟨some 34, (.ext (.t 33) 0), none, none⟩,⟨some 35, (.ext (.t 33) 1), none, none⟩,⟨none, (.store (some 3) (.t 4) (.t 34)), none, none⟩,⟨some 5, (.move (.t 35)), none, none⟩])
 .ret)
 (.seq
 (.region [] [] [0, 1, 23, 4, 25, 26, 36, 50, 64, 78, 7, 94, 6, 100, 114, 124, 132, 8, 5] [⟨some 37, (.bin .eql (.t 25) (.k (rI .i8 2))), none, none⟩,⟨some 36, (.move (.t 37)), none, none⟩])
 (.cond (.t 36)
 (.seq
 (.region [] [] [0, 1, 23, 4, 25, 26, 36, 50, 64, 78, 7, 94, 6, 100, 114, 124, 132, 8, 5] [⟨some 38, (.move (.t 1)), none, none⟩,⟨some 39, (.iaddr 3 (.t 38) (.k (rI .i64 0))), none, none⟩,⟨some 40, (.faddr 1 (.t 39)), none, none⟩,⟨some 41, (.load none (.t 40)), none, none⟩,⟨some 42, (.move (.t 1)), none, none⟩,⟨some 43, (.iaddr 3 (.t 42) (.k (rI .i64 1))), none, none⟩,⟨some 44, (.faddr 1 (.t 43)), none, none⟩,⟨some 45, (.load none (.t 44)), none, none⟩,⟨some 46, (.bin .add (.t 41) (.t 45)), none, none⟩,⟨some 47, (.callp (.k (rF 320)) [(.t 46)]), none, none⟩,⟨some 48, (.ext (.t 47) 0), none, none⟩,⟨some 49, (.ext (.t 47) 1), none, none⟩,⟨none, (.store (some 3) (.t 4) (.t 48)), none, none⟩,⟨some 5, (.move (.t 49)), none, none⟩])
 .ret)
 (.seq
 (.region [] [] [0, 1, 23, 4, 25, 26, 36, 50, 64, 78, 7, 94, 6, 100, 114, 124, 132, 8, 5] [⟨some 51, (.bin .eql (.t 25) (.k (rI .i8 3))), none, none⟩,⟨some 50, (.move (.t 51)), none, none⟩])
 (.cond (.t 50)
 (.seq
 (.region [] [] [0, 1, 23, 4, 25, 26, 36, 50, 64, 78, 7, 94, 6, 100, 114, 124, 132, 8, 5] [⟨some 52, (.move (.t 1)), none, none⟩,⟨some 53, (.iaddr 3 (.t 52) (.k (rI .i64 0))), none, none⟩,⟨some 54, (.faddr 1 (.t 53)), none, none⟩,⟨some 55, (.load none (.t 54)), none, none⟩,⟨some 56, (.move (.t 1)), none, none⟩,⟨some 57, (.iaddr 3 (.t 56) (.k (rI .i64 1))), none, none⟩,⟨some 58, (.faddr 1 (.t 57)), none, none⟩,⟨some 59, (.load none (.t 58)), none, none⟩,⟨some 60, (.bin .sub (.t 55) (.t 59)), none, none⟩,⟨some 61, (.callp (.k (rF 320)) [(.t 60)]), none, none⟩,⟨some 62, (.ext (.t 61) 0), none, none⟩,⟨some 63, (.ext (.t 61) 1), none, none⟩,⟨none, (.store (some 3) (.t 4) (.t 62)), none, none⟩,⟨some 5, (.move (.t 63)), none, none⟩])
 .ret)
 (.seq
 (.region [] [] [0, 1, 23, 4, 25, 26, 36, 50, 64, 78, 7, 94, 6, 100, 114, 124, 132, 8, 5] [⟨some 65, (.bin .eql (.t 25) (.k (rI .i8 4))), none, none⟩,⟨some 64, (.move (.t 65)), none, none⟩])
 (.cond (.t 64)
 (.seq
 (.region [] [] [0, 1, 23, 4, 25, 26, 36, 50, 64, 78, 7, 94, 6, 100, 114, 124, 132, 8, 5] [⟨some 66, (.move (.t 1)), none, none⟩,⟨some 67, (.iaddr 3 (.t 66) (.k (rI .i64 0))), none, none⟩,⟨some 68, (.faddr 1 (.t 67)), none, none⟩,⟨some 69, (.load none (.t 68)), none, none⟩,⟨some 70, (.move (.t 1)), none, none⟩,⟨some 71, (.iaddr 3 (.t 70) (.k (rI .i64 1))), none, none⟩,⟨some 72, (.faddr 1 (.t 71)), none, none⟩,⟨some 73, (.load none (.t 72)), none, none⟩,⟨some 74, (.bin .mul (.t 69) (.t 73)), none, none⟩,⟨some 75, (.callp (.k (rF 320)) [(.t 74)]), none, none⟩,⟨some 76, (.ext (.t 75) 0), none, none⟩,⟨some 77, (.ext (.t 75) 1), none, none⟩,⟨none, (.store (some 3) (.t 4) (.t 76)), none, none⟩,⟨some 5, (.move (.t 77)), none, none⟩])
 .ret)
 (.seq
 (.seq
 (.region [] [] [0, 1, 23, 4, 25, 26, 36, 50, 64, 78, 7, 94, 6, 100, 114, 124, 132, 8, 5] [⟨some 79, (.bin .eql (.t 25) (.k (rI .i8 5))), none, none⟩,⟨some 78, (.move (.t 79)), none, none⟩])
 (.cond (.t 78)
 .skip
 (.region [] [] [0, 1, 23, 4, 25, 26, 36, 50, 64, 78, 7, 94, 6, 100, 114, 124, 132, 8, 5] [⟨some 80, (.bin .eql (.t 25) (.k (rI .i8 6))), none, none⟩,⟨some 78, (.move (.t 80)), none, none⟩])))
 (.cond (.t 78)
 (.seq
 (.seq
 (.region [] [] [0, 1, 23, 4, 25, 26, 36, 50, 64, 78, 7, 94, 6, 100, 114, 124, 132, 8, 5] [⟨some 82, (.move (.t 0)), none, none⟩,⟨some 83, (.move (.t 1)), none, none⟩,⟨some 84, (.iaddr 3 (.t 83) (.k (rI .i64 0))), none, none⟩,⟨some 85, (.faddr 1 (.t 84)), none, none⟩,⟨some 86, (.load none (.t 85)), none, none⟩,⟨some 87, (.move (.t 1)), none, none⟩,⟨some 88, (.iaddr 3 (.t 87) (.k (rI .i64 1))), none, none⟩,⟨some 89, (.faddr 1 (.t 88)), none, none⟩,⟨some 90, (.load none (.t 89)), none, none⟩,⟨some 91, (.callp (.k (rF 321)) [(.t 82), (.t 86), (.t 90)]), none, none⟩,⟨some 81, (.move (.t 91)), none, none⟩,⟨some 92, (.ext (.t 81) 0), none, none⟩,⟨some 93, (.ext (.t 81) 1), none, none⟩,⟨some 6, (.move (.t 92)), none, none⟩,⟨some 7, (.move (.t 93)), none, none⟩])
 (.seq
 (.region [] [] [0, 1, 23, 4, 25, 26, 36, 50, 64, 78, 7, 94, 6, 100, 114, 124, 132, 8, 5] [⟨some 94, (.move (.t 7)), none, none⟩])
 (.cond (.t 94)
 (.seq
 (.region [] [] [0, 1, 23, 4, 25, 26, 36, 50, 64, 78, 7, 94, 6, 100, 114, 124, 132, 8, 5] [⟨some 95, (.move (.t 6)), none, none⟩,⟨some 96, (.callp (.k (rF 320)) [(.t 95)]), none, none⟩,⟨some 97, (.ext (.t 96) 0), none, none⟩,⟨some 98, (.ext (.t 96) 1), none, none⟩,⟨none, (.store (some 3) (.t 4) (.t 97)), none, none⟩,⟨some 5, (.move (.t 98)), none, none⟩])
 .ret)
 .skip)))
 (.seq
 (.region [] [] [0, 1, 23, 4, 25, 26, 36, 50, 64, 78, 7, 94, 6, 100, 114, 124, 132, 8, 5] [⟨some 99, (.build [(.c (.v (.int .i8 0))), (.c (.v (.int .i64 0))), (.c (.v (.string (bs []))))] []), none, none⟩,⟨none, (.store (some 3) (.t 4) (.t 99)), none, none⟩,⟨some 5, (.move (.k (rB false))), none, none⟩])
 .ret))
 (.seq
 (.region [] [] [0, 1, 23, 4, 25, 26, 36, 50, 64, 78, 7, 94, 6, 100, 114, 124, 132, 8, 5] [⟨some 101, (.bin .eql (.t 25) (.k (rI .i8 7))), none, none⟩,⟨some 100, (.move (.t 101)), none, none⟩])
 (.cond (.t 100)
 (.seq
 (.region [] [] [0, 1, 23, 4, 25, 26, 36, 50, 64, 78, 7, 94, 6, 100, 114, 124, 132, 8, 5] [⟨some 102, (.move (.t 1)), none, none⟩,⟨some 103, (.iaddr 3 (.t 102) (.k (rI .i64 0))), none, none⟩,⟨some 104, (.faddr 2 (.t 103)), none, none⟩,⟨some 105, (.load none (.t 104)), none, none⟩,⟨some 106, (.move (.t 1)), none, none⟩,⟨some 107, (.iaddr 3 (.t 106) (.k (rI .i64 1))), none, none⟩,⟨some 108, (.faddr 2 (.t 107)), none, none⟩,⟨some 109, (.load none (.t 108)), none, none⟩,⟨some 110, (.bin .add (.t 105) (.t 109)), none, none⟩,⟨some 111, (.callp (.k (rF 322)) [(.t 110)]), none, none⟩,⟨some 112, (.ext (.t 111) 0), none, none⟩,⟨some 113, (.ext (.t 111) 1), none, none⟩,⟨none, (.store (some 3) (.t 4) (.t 112)), none, none⟩,⟨some 5, (.move (.t 113)), none, none⟩])
 .ret)
 (.seq
 (.region [] [] [0, 1, 23, 4, 25, 26, 36, 50, 64, 78, 7, 94, 6, 100, 114, 124, 132, 8, 5] [⟨some 115, (.bin .eql (.t 25) (.k (rI .i8 8))), none, none⟩,⟨some 114, (.move (.t 115)), none, none⟩])
 (.cond (.t 114)
 (.seq
 (.region [] [] [0, 1, 23, 4, 25, 26, 36, 50, 64, 78, 7, 94, 6, 100, 114, 124, 132, 8, 5] [⟨some 116, (.move (.t 1)), none, none⟩,⟨some 117, (.iaddr 3 (.t 116) (.k (rI .i64 0))), none, none⟩,⟨some 118, (.faddr 2 (.t 117)), none, none⟩,⟨some 119, (.load none (.t 118)), none, none⟩,⟨some 120, (.slen (.t 119)), none, none⟩,⟨some 121, (.callp (.k (rF 320)) [(.t 120)]), none, none⟩,⟨some 122, (.ext (.t 121) 0), none, none⟩,⟨some 123, (.ext (.t 121) 1), none, none⟩,⟨none, (.store (some 3) (.t 4) (.t 122)), none, none⟩,⟨some 5, (.move (.t 123)), none, none⟩])
 .ret)
 (.seq
 (.region [] [] [0, 1, 23, 4, 25, 26, 36, 50, 64, 78, 7, 94, 6, 100, 114, 124, 132, 8, 5] [⟨some 125, (.bin .eql (.t 25) (.k (rI .i8 9))), none, none⟩,⟨some 124, (.move (.t 125)), none, none⟩])
 (.cond (.t 124)
 (.seq
 (.region [] [] [0, 1, 23, 4, 25, 26, 36, 50, 64, 78, 7, 94, 6, 100, 114, 124, 132, 8, 5] [⟨some 8, (.move (.k (rI .i64 0))), none, none⟩])
 (.seq
 (.seq
 .bad
 (.block 1
 (.loop ic33l0)))
 (.seq
 (.region [] [] [0, 1, 23, 4, 25, 26, 36, 50, 64, 78, 7, 94, 6, 100, 114, 124, 132, 8, 5] [⟨some 135, (.move (.t 8)), none, none⟩,⟨some 136, (.callp (.k (rF 320)) [(.t 135)]), none, none⟩,⟨some 137, (.ext (.t 136) 0), none, none⟩,⟨some 138, (.ext (.t 136) 1), none, none⟩,⟨none, (.store (some 3) (.t 4) (.t 137)), none, none⟩,⟨some 5, (.move (.t 138)), none, none⟩])
 .ret)))
 .skip))))))))))))))))))
 (.seq
 (.region [] [] [0, 1, 23, 4, 25, 26, 36, 50, 64, 78, 7, 94, 6, 100, 114, 124, 132, 8, 5] [⟨some 139, (.move (.t 1)), none, none⟩,⟨some 140, (.iaddr 3 (.t 139) (.k (rI .i64 0))), none, none⟩,⟨some 141, (.faddr 2 (.t 140)), none, none⟩,⟨some 142, (.load none (.t 141)), none, none⟩,⟨some 143, (.callp (.k (rF 323)) [(.t 142)]), none, none⟩,⟨some 144, (.callp (.k (rF 322)) [(.t 143)]), none, none⟩,⟨some 145, (.ext (.t 144) 0), none, none⟩,⟨some 146, (.ext (.t 144) 1), none, none⟩,⟨none, (.store (some 3) (.t 4) (.t 145)), none, none⟩,⟨some 5, (.move (.t 146)), none, none⟩])
 .ret))))
def ir33 : List IRes := [.cell 4 (some 3), .tmp 5]
theorem ie33 : cmpFunc Go.Proofs.Tryz.prog ⟨[(19, (some [88888]))], []⟩ Go.Proofs.Tryz.f280 [0, 1, 23, 4, 25, 26, 36, 50, 64, 78, 7, 94, 6, 100, 114, 124, 132, 8, 5] = some ic33 := by kernel_rfl
theorem ig33 : cmpRes Go.Proofs.Tryz.prog Go.Proofs.Tryz.f280.results.toList = some ir33 := by kernel_rfl
def ic101l0 : IC :=
 (.seq
 (.region [] [] [0, 9, 10, 12, 14, 16, 1, 5, 21, 24, 23, 25, 22, 8, 6, 36, 4] [⟨some 25, (.bin .lss (.t 24) (.t 23)), none, none⟩])
 (.seq
 (.cond (.t 25)
 .skip
 (.exit 1))
 (.seq
 (.block 2
 (.seq
 (.region [8] [] [0, 9, 10, 12, 14, 16, 1, 5, 21, 24, 23, 25, 22, 8, 6, 36, 4] [⟨some 26, (.iaddr 3 (.t 22) (.t 24)), none, none⟩,⟨some 27, (.load (some 3) (.t 26)), none, none⟩,⟨some 8, (.zero 71 [(.c (.v (.int .i8 0))), (.c (.v (.int .i64 0))), (.c (.v (.string (bs []))))]), none, none⟩,⟨none, (.store (some 3) (.t 8) (.t 27)), none, none⟩])
 (.seq
 (.region [] [] [0, 9, 10, 12, 14, 16, 1, 5, 21, 24, 23, 25, 22, 8, 6, 36, 4] [⟨some 28, (.faddr 0 (.t 8)), none, none⟩,⟨some 29, (.load none (.t 28)), none, none⟩,⟨some 30, (.move (.t 6)), none, none⟩,⟨some 31, (.bin .neq (.t 29) (.t 30)), none, none⟩,⟨some 32, (.move (.t 31)), none, none⟩,⟨some 33, (.load (some 3) (.t 8)), some (32, false), none⟩,⟨some 34, (.callp (.k (rF 204)) [(.t 33)]), some (32, false), none⟩,⟨some 35, (.bin .neq (.t 34) (.k (rI .i64 0))), some (32, false), none⟩,⟨some 36, (.pick (.t 32) (.k (rB true)) (.t 35)), none, none⟩])
 (.cond (.t 36)
 (.seq
 (.region [] [] [0, 9, 10, 12, 14, 16, 1, 5, 21, 24, 23, 25, 22, 8, 6, 36, 4] [⟨some 4, (.move (.k (rB false))), none, none⟩])
 .ret)
 .skip))))
 (.region [] [] [0, 9, 10, 12, 14, 16, 1, 5, 21, 24, 23, 25, 22, 8, 6, 36, 4] [⟨some 37, (.bin .add (.t 24) (.k (rI .i64 1))), none, none⟩,⟨some 24, (.move (.t 37)), none, none⟩]))))
def ic101 : IC :=
 (.seq
 (.region [] [] [0, 9, 10, 12, 14, 16, 1, 5, 21, 24, 23, 25, 22, 8, 6, 36, 4] [⟨some 4, (.move (.k (rB false))), none, none⟩])
 (.seq
 (.region [] [] [0, 9, 10, 12, 14, 16, 1, 5, 21, 24, 23, 25, 22, 8, 6, 36, 4] [⟨some 5, (.move (.k (rI .i64 1))), none, none⟩,⟨some 6, (.move (.k (rI .i8 1))), none, none⟩])
 (.seq
 (.seq
 (.region [] [] [0, 9, 10, 12, 14, 16, 1, 5, 21, 24, 23, 25, 22, 8, 6, 36, 4] [⟨some 9, (.move (.t 0)), none, none⟩])
 (.block 0
 (.seq
 (.region [] [] [0, 9, 10, 12, 14, 16, 1, 5, 21, 24, 23, 25, 22, 8, 6, 36, 4] [⟨some 11, (.bin .eql (.t 9) (.k (rI .i8 0))), none, none⟩,⟨some 10, (.move (.t 11)), none, none⟩])
 (.cond (.t 10)
 (.seq
 (.region [] [] [0, 9, 10, 12, 14, 16, 1, 5, 21, 24, 23, 25, 22, 8, 6, 36, 4] [⟨some 4, (.move (.k (rB false))), none, none⟩])
 .ret)
 (.seq
 (.region [] [] [0, 9, 10, 12, 14, 16, 1, 5, 21, 24, 23, 25, 22, 8, 6, 36, 4] [⟨some 13, (.bin .eql (.t 9) (.k (rI .i8 2))), none, none⟩,⟨some 12, (.move (.t 13)), none, none⟩])
 (.cond (.t 12)
 (.region [] [] [0, 9, 10, 12, 14, 16, 1, 5, 21, 24, 23, 25, 22, 8, 6, 36, 4] [⟨some 5, (.move (.k (rI .i64 2))), none, none⟩])
 (.seq
 (.region [] [] [0, 9, 10, 12, 14, 16, 1, 5, 21, 24, 23, 25, 22, 8, 6, 36, 4] [⟨some 15, (.bin .eql (.t 9) (.k (rI .i8 4))), none, none⟩,⟨some 14, (.move (.t 15)), none, none⟩])
 (.cond (.t 14)
 (.region [] [] [0, 9, 10, 12, 14, 16, 1, 5, 21, 24, 23, 25, 22, 8, 6, 36, 4] [⟨some 5, (.move (.k (rI .i64 2))), none, none⟩,⟨some 6, (.move (.k (rI .i8 2))), none, none⟩])
 (.seq
 (.region [] [] [0, 9, 10, 12, 14, 16, 1, 5, 21, 24, 23, 25, 22, 8, 6, 36, 4] [⟨some 17, (.bin .eql (.t 9) (.k (rI .i8 3))), none, none⟩,⟨some 16, (.move (.t 17)), none, none⟩])
 (.cond (.t 16)
 (.region [] [] [0, 9, 10, 12, 14, 16, 1, 5, 21, 24, 23, 25, 22, 8, 6, 36, 4] [⟨some 6, (.move (.k (rI .i8 2))), none, none⟩])
 .skip))))))))))
 (.seq
 (.seq
 (.region [] [] [0, 9, 10, 12, 14, 16, 1, 5, 21, 24, 23, 25, 22, 8, 6, 36, 4] [⟨some 18, (.move (.t 1)), none, none⟩,⟨some 19, (.len (.t 18)), none, none⟩,⟨some 20, (.move (.t 5)), none, none⟩,⟨some 21, (.bin .neq (.t 19) (.t 20)), none, none⟩])
 (.cond (.t 21)
 (.seq
 (.region [] [] [0, 9, 10, 12, 14, 16, 1, 5, 21, 24, 23, 25, 22, 8, 6, 36, 4] [⟨some 4, (.move (.k (rB false))), none, none⟩])
 .ret)
 .skip))
 (.seq
 (.seq
 (.region [] [] [0, 9, 10, 12, 14, 16, 1, 5, 21, 24, 23, 25, 22, 8, 6, 36, 4] [⟨some 22, (.move (.t 1)), none, none⟩,⟨some 23, (.len (.t 22)), none, none⟩,⟨some 24, (.move (.k (rI .i64 0))), none, none⟩])
 (.block 1
 (.loop ic101l0)))
 (.seq
 (.region [] [] [0, 9, 10, 12, 14, 16, 1, 5, 21, 24, 23, 25, 22, 8, 6, 36, 4] [⟨some 4, (.move (.k (rB true))), none, none⟩])
 .ret))))))
def ir101 : List IRes := [.tmp 4]
theorem ie101 : cmpFunc Go.Proofs.Tryz.prog ⟨[], []⟩ Go.Proofs.Tryz.f319 [0, 9, 10, 12, 14, 16, 1, 5, 21, 24, 23, 25, 22, 8, 6, 36, 4] = some ic101 := by kernel_rfl
theorem ig101 : cmpRes Go.Proofs.Tryz.prog Go.Proofs.Tryz.f319.results.toList = some ir101 := by kernel_rfl
def ic102 : IC :=
 (.seq
 (.region [2] [] [0, 2, 3] [⟨some 2, (.zero 71 [(.c (.v (.int .i8 0))), (.c (.v (.int .i64 0))), (.c (.v (.string (bs []))))]), none, none⟩,⟨some 3, (.move (.k (rB false))), none, none⟩])
 (.seq
 (.region [] [] [0, 2, 3] [⟨some 4, (.move (.t 0)), none, none⟩,⟨some 5, (.build [(.c (.v (.int .i8 0))), (.c (.v (.int .i64 0))), (.c (.v (.string (bs []))))] [(0, 1, (.k (rI .i8 1))), (1, 1, (.t 4))]), none, none⟩,⟨none, (.store (some 3) (.t 2) (.t 5)), none, none⟩,⟨some 3, (.move (.k (rB true))), none, none⟩])
 .ret))
def ir102 : List IRes := [.cell 2 (some 3), .tmp 3]
theorem ie102 : cmpFunc Go.Proofs.Tryz.prog ⟨[], []⟩ Go.Proofs.Tryz.f320 [0, 2, 3] = some ic102 := by kernel_rfl
theorem ig102 : cmpRes Go.Proofs.Tryz.prog Go.Proofs.Tryz.f320.results.toList = some ir102 := by kernel_rfl
end Go.Proofs.YtiomojlcnemnhaaGreatDoor

namespace Go.Ped
section
variable (valOk : Val → Bool)
def gr (f : Name → Val) (nine : Val) (t : Tm) : Val := if t.v = [] then t.x else if t.v = us then nine else f t.v
end
end Go.Ped

import Derived.Test.YtiomojlcnemnhaaGreatDoorLFxZ
import Derived.Test.YtiomojlcnemnhaaGreatDoorProg
import Derived.KernelRfl
namespace Go.Proofs.YtiomojlcnemnhaaGreatDoor
open Go.Fx
abbrev ks30 (t5 t1 t9 t0 t17 t4 : T) (O : List (Nat × Box)) (U : List (Nat × Fx.Tok)) (H : FHp) : S := st [(5, t5), (1, t1), (9, t9), (0, t0), (17, t17), (4, t4)] O U H
def ic30l0 : IC :=
 (.seq
 (.seq
 (.region [] [] [5, 1, 9, 0, 17, 4] [⟨some 6, (.move (.t 5)), none, none⟩,⟨some 7, (.move (.t 1)), none, none⟩,⟨some 8, (.len (.t 7)), none, none⟩,⟨some 9, (.bin .lss (.t 6) (.t 8)), none, none⟩])
 (.cond (.t 9)
 .skip
 (.exit 0)))
 (.seq
 (.block 1
 (.seq
 (.region [] [] [5, 1, 9, 0, 17, 4] [⟨some 12, (.move (.t 1)), none, none⟩,⟨some 13, (.move (.t 5)), none, none⟩,⟨some 14, (.iaddr 1 (.t 12) (.t 13)), none, none⟩,⟨some 15, (.load none (.t 14)), none, none⟩,⟨some 16, (.move (.t 0)), none, none⟩,⟨some 17, (.bin .eql (.t 15) (.t 16)), none, none⟩])
 (.cond (.t 17)
 (.seq
 (.region [] [] [5, 1, 9, 0, 17, 4] [⟨some 4, (.move (.k (rB true))), none, none⟩])
 .ret)
 .skip)))
 (.region [] [] [5, 1, 9, 0, 17, 4] [⟨some 10, (.move (.t 5)), none, none⟩,⟨some 11, (.bin .add (.t 10) (.k (rI .i64 1))), none, none⟩,⟨some 5, (.move (.t 11)), none, none⟩])))
def ic30 : IC :=
 (.seq
 (.region [] [] [5, 1, 9, 0, 17, 4] [⟨some 4, (.move (.k (rB false))), none, none⟩])
 (.seq
 (.seq
 (.region [] [] [5, 1, 9, 0, 17, 4] [⟨some 5, (.move (.k (rI .i64 0))), none, none⟩])
 (.block 0
 (.loop ic30l0)))
 (.seq
 (.region [] [] [5, 1, 9, 0, 17, 4] [⟨some 4, (.move (.k (rB false))), none, none⟩])
 .ret)))
def ir30 : List IRes := [.tmp 4]
theorem ie30 : cmpFunc Go.Proofs.Tryz.prog ⟨[], []⟩ Go.Proofs.Tryz.f67 [5, 1, 9, 0, 17, 4] = some ic30 := by kernel_rfl
theorem ig30 : cmpRes Go.Proofs.Tryz.prog Go.Proofs.Tryz.f67.results.toList = some ir30 := by kernel_rfl
def ic129l0 : IC :=
 (.seq
 (.seq
 (.region [] [] [0, 1, 10, 5, 14, 25, 4] [⟨some 11, (.move (.t 5)), none, none⟩,⟨some 12, (.move (.t 0)), none, none⟩,⟨some 13, (.len (.t 12)), none, none⟩,⟨some 14, (.bin .lss (.t 11) (.t 13)), none, none⟩])
 (.cond (.t 14)
 .skip
 (.exit 0)))
 (.seq
 (.block 1
 (.seq
 (.region [] [] [0, 1, 10, 5, 14, 25, 4] [⟨some 17, (.move (.t 0)), none, none⟩,⟨some 18, (.move (.t 5)), none, none⟩,⟨some 19, (.iaddr 4 (.t 17) (.t 18)), none, none⟩,⟨some 20, (.load (some 4) (.t 19)), none, none⟩,⟨some 21, (.move (.t 1)), none, none⟩,⟨some 22, (.move (.t 5)), none, none⟩,⟨some 23, (.iaddr 4 (.t 21) (.t 22)), none, none⟩,⟨some 24, (.load (some 4) (.t 23)), none, none⟩,⟨some 25, (.eqs true [.s, .i .i8, .i .i64, .s] (.t 20) (.t 24)), none, none⟩])
 (.cond (.t 25)
 (.seq
 (.region [] [] [0, 1, 10, 5, 14, 25, 4] [⟨some 4, (.move (.k (rB false))), none, none⟩])
 .ret)
 .skip)))
 (.region [] [] [0, 1, 10, 5, 14, 25, 4] [⟨some 15, (.move (.t 5)), none, none⟩,⟨some 16, (.bin .add (.t 15) (.k (rI .i64 1))), none, none⟩,⟨some 5, (.move (.t 16)), none, none⟩])))
def ic129 : IC :=
 (.seq
 (.region [] [] [0, 1, 10, 5, 14, 25, 4] [⟨some 4, (.move (.k (rB false))), none, none⟩])
 (.seq
 (.seq
 (.region [] [] [0, 1, 10, 5, 14, 25, 4] [⟨some 6, (.move (.t 0)), none, none⟩,⟨some 7, (.len (.t 6)), none, none⟩,⟨some 8, (.move (.t 1)), none, none⟩,⟨some 9, (.len (.t 8)), none, none⟩,⟨some 10, (.bin .neq (.t 7) (.t 9)), none, none⟩])
 (.cond (.t 10)
 (.seq
 (.region [] [] [0, 1, 10, 5, 14, 25, 4] [⟨some 4, (.move (.k (rB false))), none, none⟩])
 .ret)
 .skip))
 (.seq
 (.seq
 (.region [] [] [0, 1, 10, 5, 14, 25, 4] [⟨some 5, (.move (.k (rI .i64 0))), none, none⟩])
 (.block 0
 (.loop ic129l0)))
 (.seq
 (.region [] [] [0, 1, 10, 5, 14, 25, 4] [⟨some 4, (.move (.k (rB true))), none, none⟩])
 .ret))))
def ir129 : List IRes := [.tmp 4]
theorem ie129 : cmpFunc Go.Proofs.Tryz.prog ⟨[], []⟩ Go.Proofs.Tryz.f84 [0, 1, 10, 5, 14, 25, 4] = some ic129 := by kernel_rfl
theorem ig129 : cmpRes Go.Proofs.Tryz.prog Go.Proofs.Tryz.f84.results.toList = some ir129 := by kernel_rfl
def ic44 : IC :=
 (.seq
 (.region [1] [] [0, 1, 2] [⟨some 1, (.box 25 (.t 0)), none, none⟩,⟨some 2, (.move (.k (rI .i64 0))), none, none⟩])
 (.seq
 (.region [] [] [0, 1, 2] [⟨some 3, (.faddr 0 (.t 1)), none, none⟩,⟨some 4, (.load none (.t 3)), none, none⟩,⟨some 5, (.callp (.k (rF 184)) [(.t 4)]), none, none⟩,⟨some 6, (.move (.t 5)), none, none⟩,⟨some 7, (.faddr 1 (.t 1)), some (6, true), none⟩,⟨some 8, (.load none (.t 7)), some (6, true), none⟩,⟨some 9, (.len (.t 8)), some (6, true), none⟩,⟨some 10, (.bin .leq (.t 9) (.k (rI .i64 24))), some (6, true), none⟩,⟨some 11, (.pick (.t 6) (.t 10) (.k (rB false))), none, none⟩,⟨some 12, (.move (.t 11)), none, none⟩,⟨some 13, (.faddr 1 (.t 1)), some (12, true), none⟩,⟨some 14, (.load none (.t 13)), some (12, true), none⟩,⟨some 15, (.call (.k (rF 206)) [(.t 14), (.k (rF 207))]), some (12, true), none⟩,⟨some 16, (.un .not (.t 15)), some (12, true), none⟩,⟨some 17, (.pick (.t 12) (.t 16) (.k (rB false))), none, none⟩,⟨some 18, (.callp (.k (rF 187)) [(.t 17)]), none, none⟩,⟨some 2, (.move (.t 18)), none, none⟩])
 .ret))
def ir44 : List IRes := [.tmp 2]
theorem ie44 : cmpFunc Go.Proofs.Tryz.prog ⟨[(15, none)], []⟩ Go.Proofs.Tryz.f121 [0, 1, 2] = some ic44 := by kernel_rfl
theorem ig44 : cmpRes Go.Proofs.Tryz.prog Go.Proofs.Tryz.f121.results.toList = some ir44 := by kernel_rfl
abbrev ks21 (t0 t1 t2 t3 t31 t36 t35 t37 t34 t8 t9 t10 t59 t67 t6 t12 t11 t80 t82 t7 t4 t5 : T) (O : List (Nat × Box)) (U : List (Nat × Fx.Tok)) (H : FHp) : S := st [(0, t0), (1, t1), (2, t2), (3, t3), (31, t31), (36, t36), (35, t35), (37, t37), (34, t34), (8, t8), (9, t9), (10, t10), (59, t59), (67, t67), (6, t6), (12, t12), (11, t11), (80, t80), (82, t82), (7, t7), (4, t4), (5, t5)] O U H
def ic21l0 : IC :=
 (.seq
 (.region [] [] [0, 1, 2, 3, 31, 36, 35, 37, 34, 8, 9, 10, 59, 67, 6, 12, 11, 80, 82, 7, 4, 5] [⟨some 37, (.bin .lss (.t 36) (.t 35)), none, none⟩])
 (.seq
 (.cond (.t 37)
 .skip
 (.exit 0))
 (.seq
 (.block 1
 (.seq
 (.region [9] [] [0, 1, 2, 3, 31, 36, 35, 37, 34, 8, 9, 10, 59, 67, 6, 12, 11, 80, 82, 7, 4, 5] [⟨some 38, (.move (.t 36)), none, none⟩,⟨some 39, (.iaddr 3 (.t 34) (.t 36)), none, none⟩,⟨some 40, (.load (some 3) (.t 39)), none, none⟩,⟨some 9, (.zero 71 [(.c (.v (.int .i8 0))), (.c (.v (.int .i64 0))), (.c (.v (.string (bs []))))]), none, none⟩,⟨some 8, (.move (.t 38)), none, none⟩,⟨none, (.store (some 3) (.t 9) (.t 40)), none, none⟩])
 (.seq
 (.region [10] [] [0, 1, 2, 3, 31, 36, 35, 37, 34, 8, 9, 10, 59, 67, 6, 12, 11, 80, 82, 7, 4, 5] [⟨some 41, (.faddr 1 (.t 2)), none, none⟩,⟨some 42, (.load none (.t 41)), none, none⟩,⟨some 43, (.move (.t 8)), none, none⟩,⟨some 44, (.iaddr 4 (.t 42) (.t 43)), none, none⟩,⟨some 45, (.load (some 4) (.t 44)), none, none⟩,⟨some 10, (.zero 73 [(.c (.v (.string (bs [])))), (.c (.v (.int .i8 0))), (.c (.v (.int .i64 0))), (.c (.v (.string (bs []))))]), none, none⟩,⟨none, (.store (some 4) (.t 10) (.t 45)), none, none⟩])
 (.seq
 (.seq
 (.region [] [] [0, 1, 2, 3, 31, 36, 35, 37, 34, 8, 9, 10, 59, 67, 6, 12, 11, 80, 82, 7, 4, 5] [⟨some 46, (.load (some 3) (.t 9)), none, none⟩,⟨some 47, (.callp (.k (rF 204)) [(.t 46)]), none, none⟩,⟨some 48, (.bin .neq (.t 47) (.k (rI .i64 0))), none, none⟩,⟨some 49, (.move (.t 48)), none, none⟩,⟨some 50, (.faddr 0 (.t 10)), some (49, false), none⟩,⟨some 51, (.load none (.t 50)), some (49, false), none⟩,⟨some 52, (.bin .eql (.t 51) (.k (rS (bs [])))), some (49, false), none⟩,⟨some 53, (.move (.t 52)), some (49, false), none⟩,⟨some 54, (.faddr 1 (.t 10)), some (53, true), none⟩,⟨some 55, (.load (some 3) (.t 54)), some (53, true), none⟩,⟨some 56, (.load (some 3) (.t 9)), some (53, true), none⟩,⟨some 57, (.eqs true [.i .i8, .i .i64, .s] (.t 55) (.t 56)), some (53, true), none⟩,⟨some 58, (.pick (.t 53) (.t 57) (.k (rB false))), some (49, false), none⟩,⟨some 59, (.pick (.t 49) (.k (rB true)) (.t 58)), none, none⟩])
 (.cond (.t 59)
 (.seq
 (.region [] [] [0, 1, 2, 3, 31, 36, 35, 37, 34, 8, 9, 10, 59, 67, 6, 12, 11, 80, 82, 7, 4, 5] [⟨some 4, (.move (.k (.x (.one .nil)))), none, none⟩,⟨some 5, (.move (.k (rB false))), none, none⟩])
 .ret)
 .skip))
 (.seq
 (.seq
 (.region [] [] [0, 1, 2, 3, 31, 36, 35, 37, 34, 8, 9, 10, 59, 67, 6, 12, 11, 80, 82, 7, 4, 5] [⟨some 60, (.faddr 0 (.t 10)), none, none⟩,⟨some 61, (.load none (.t 60)), none, none⟩,⟨some 62, (.bin .eql (.t 61) (.k (rS (bs [])))), none, none⟩,⟨some 63, (.move (.t 62)), none, none⟩,⟨some 64, (.faddr 0 (.t 10)), some (63, false), none⟩,⟨some 65, (.load none (.t 64)), some (63, false), none⟩,⟨some 66, (.bin .eql (.t 65) (.k (rS (bs [95])))), some (63, false), none⟩,⟨some 67, (.pick (.t 63) (.k (rB true)) (.t 66)), none, none⟩])
 (.cond (.t 67)
 (.exit 1)
 .skip))
 (.seq
 (.region [11] [] [0, 1, 2, 3, 31, 36, 35, 37, 34, 8, 9, 10, 59, 67, 6, 12, 11, 80, 82, 7, 4, 5] [⟨some 69, (.move (.t 6)), none, none⟩,⟨some 70, (.faddr 0 (.t 10)), none, none⟩,⟨some 71, (.load none (.t 70)), none, none⟩,⟨some 72, (.mlook .string false true [(.c (.v (.int .i8 0))), (.c (.v (.int .i64 0))), (.c (.v (.string (bs []))))] (.t 69) (.t 71)), none, none⟩,⟨some 68, (.move (.t 72)), none, none⟩,⟨some 73, (.ext (.t 68) 0), none, none⟩,⟨some 74, (.ext (.t 68) 1), none, none⟩,⟨some 11, (.zero 71 [(.c (.v (.int .i8 0))), (.c (.v (.int .i64 0))), (.c (.v (.string (bs []))))]), none, none⟩,⟨none, (.store (some 3) (.t 11) (.t 73)), none, none⟩,⟨some 12, (.move (.t 74)), none, none⟩])
 (.seq
 (.seq
 (.region [] [] [0, 1, 2, 3, 31, 36, 35, 37, 34, 8, 9, 10, 59, 67, 6, 12, 11, 80, 82, 7, 4, 5] [⟨some 75, (.move (.t 12)), none, none⟩,⟨some 76, (.move (.t 75)), none, none⟩,⟨some 77, (.load (some 3) (.t 11)), some (76, true), none⟩,⟨some 78, (.load (some 3) (.t 9)), some (76, true), none⟩,⟨some 79, (.eqs true [.i .i8, .i .i64, .s] (.t 77) (.t 78)), some (76, true), none⟩,⟨some 80, (.pick (.t 76) (.t 79) (.k (rB false))), none, none⟩])
 (.cond (.t 80)
 (.seq
 (.region [] [] [0, 1, 2, 3, 31, 36, 35, 37, 34, 8, 9, 10, 59, 67, 6, 12, 11, 80, 82, 7, 4, 5] [⟨some 4, (.move (.k (.x (.one .nil)))), none, none⟩,⟨some 5, (.move (.k (rB false))), none, none⟩])
 .ret)
 .skip))
 (.seq
 (.region [] [] [0, 1, 2, 3, 31, 36, 35, 37, 34, 8, 9, 10, 59, 67, 6, 12, 11, 80, 82, 7, 4, 5] [⟨some 81, (.move (.t 12)), none, none⟩,⟨some 82, (.un .not (.t 81)), none, none⟩])
 (.cond (.t 82)
 (.seq
 (.region [] [] [0, 1, 2, 3, 31, 36, 35, 37, 34, 8, 9, 10, 59, 67, 6, 12, 11, 80, 82, 7, 4, 5] [⟨some 83, (.move (.t 6)), none, none⟩,⟨some 84, (.faddr 0 (.t 10)), none, none⟩,⟨some 85, (.load none (.t 84)), none, none⟩,⟨some 86, (.load (some 3) (.t 9)), none, none⟩,⟨none, (.mapup .string false (.t 83) (.t 85) (.t 86)), none, none⟩])
 (.region [92] [] [0, 1, 2, 3, 31, 36, 35, 37, 34, 8, 9, 10, 59, 67, 6, 12, 11, 80, 82, 7, 4, 5] [⟨some 87, (.move (.t 7)), none, none⟩,⟨some 88, (.faddr 0 (.t 10)), none, none⟩,⟨some 89, (.load none (.t 88)), none, none⟩,⟨some 90, (.load (some 3) (.t 9)), none, none⟩,⟨some 91, (.build [(.c (.v (.string (bs [])))), (.c (.v (.int .i8 0))), (.c (.v (.int .i64 0))), (.c (.v (.string (bs []))))] [(0, 1, (.t 89)), (1, 3, (.t 90))]), none, none⟩,⟨some 92, (.row 210 4 [(.t 91)]), none, none⟩,⟨some 93, (.app 210 4 48 (.t 87) (.t 92)), none, none⟩,⟨some 7, (.move (.t 93)), none, none⟩]))
 .skip)))))))))
 (.region [] [] [0, 1, 2, 3, 31, 36, 35, 37, 34, 8, 9, 10, 59, 67, 6, 12, 11, 80, 82, 7, 4, 5] [⟨some 94, (.bin .add (.t 36) (.k (rI .i64 1))), none, none⟩,⟨some 36, (.move (.t 94)), none, none⟩]))))
def ic21 : IC :=
 (.seq
 (.region [2, 3] [] [0, 1, 2, 3, 31, 36, 35, 37, 34, 8, 9, 10, 59, 67, 6, 12, 11, 80, 82, 7, 4, 5] [⟨some 2, (.box 25 (.t 0)), none, none⟩,⟨some 3, (.box 147 (.t 1)), none, none⟩,⟨some 4, (.move (.k (.x (.one .nil)))), none, none⟩,⟨some 5, (.move (.k (rB false))), none, none⟩])
 (.seq
 (.seq
 (.region [] [] [0, 1, 2, 3, 31, 36, 35, 37, 34, 8, 9, 10, 59, 67, 6, 12, 11, 80, 82, 7, 4, 5] [⟨some 13, (.load (some 2) (.t 2)), none, none⟩,⟨some 14, (.callp (.k (rF 121)) [(.t 13)]), none, none⟩,⟨some 15, (.bin .neq (.t 14) (.k (rI .i64 0))), none, none⟩,⟨some 16, (.move (.t 15)), none, none⟩,⟨some 17, (.faddr 0 (.t 2)), some (16, false), none⟩,⟨some 18, (.load none (.t 17)), some (16, false), none⟩,⟨some 19, (.faddr 0 (.t 3)), some (16, false), none⟩,⟨some 20, (.load none (.t 19)), some (16, false), none⟩,⟨some 21, (.bin .neq (.t 18) (.t 20)), some (16, false), none⟩,⟨some 22, (.pick (.t 16) (.k (rB true)) (.t 21)), none, none⟩,⟨some 23, (.move (.t 22)), none, none⟩,⟨some 24, (.faddr 1 (.t 2)), some (23, false), none⟩,⟨some 25, (.load none (.t 24)), some (23, false), none⟩,⟨some 26, (.len (.t 25)), some (23, false), none⟩,⟨some 27, (.faddr 1 (.t 3)), some (23, false), none⟩,⟨some 28, (.load none (.t 27)), some (23, false), none⟩,⟨some 29, (.len (.t 28)), some (23, false), none⟩,⟨some 30, (.bin .neq (.t 26) (.t 29)), some (23, false), none⟩,⟨some 31, (.pick (.t 23) (.k (rB true)) (.t 30)), none, none⟩])
 (.cond (.t 31)
 (.seq
 (.region [] [] [0, 1, 2, 3, 31, 36, 35, 37, 34, 8, 9, 10, 59, 67, 6, 12, 11, 80, 82, 7, 4, 5] [⟨some 4, (.move (.k (.x (.one .nil)))), none, none⟩,⟨some 5, (.move (.k (rB false))), none, none⟩])
 .ret)
 .skip))
 (.seq
 (.region [32] [] [0, 1, 2, 3, 31, 36, 35, 37, 34, 8, 9, 10, 59, 67, 6, 12, 11, 80, 82, 7, 4, 5] [⟨some 32, (.mkmap .string 4 false), none, none⟩,⟨some 6, (.move (.t 32)), none, none⟩])
 (.seq
 (.region [] [] [0, 1, 2, 3, 31, 36, 35, 37, 34, 8, 9, 10, 59, 67, 6, 12, 11, 80, 82, 7, 4, 5] [⟨some 7, (.move (.k (.x (.one .nil)))), none, none⟩])
 (.seq
 (.seq
 (.region [] [] [0, 1, 2, 3, 31, 36, 35, 37, 34, 8, 9, 10, 59, 67, 6, 12, 11, 80, 82, 7, 4, 5] [⟨some 33, (.faddr 1 (.t 3)), none, none⟩,⟨some 34, (.load none (.t 33)), none, none⟩,⟨some 35, (.len (.t 34)), none, none⟩,⟨some 36, (.move (.k (rI .i64 0))), none, none⟩])
 (.block 0
 (.loop ic21l0)))
 (.seq
 (.region [] [] [0, 1, 2, 3, 31, 36, 35, 37, 34, 8, 9, 10, 59, 67, 6, 12, 11, 80, 82, 7, 4, 5] [⟨some 95, (.move (.t 7)), none, none⟩,⟨some 4, (.move (.t 95)), none, none⟩,⟨some 5, (.move (.k (rB true))), none, none⟩])
 .ret))))))
def ir21 : List IRes := [.tmp 4, .tmp 5]
theorem ie21 : cmpFunc Go.Proofs.Tryz.prog ⟨[], []⟩ Go.Proofs.Tryz.f138 [0, 1, 2, 3, 31, 36, 35, 37, 34, 8, 9, 10, 59, 67, 6, 12, 11, 80, 82, 7, 4, 5] = some ic21 := by kernel_rfl
theorem ig21 : cmpRes Go.Proofs.Tryz.prog Go.Proofs.Tryz.f138.results.toList = some ir21 := by kernel_rfl
abbrev ks98 (t4 t0 t9 t5 t3 t28 t2 : T) (O : List (Nat × Box)) (U : List (Nat × Fx.Tok)) (H : FHp) : S := st [(4, t4), (0, t0), (9, t9), (5, t5), (3, t3), (28, t28), (2, t2)] O U H
def ic98l0 : IC :=
 (.seq
 (.seq
 (.region [] [] [4, 0, 9, 5, 3, 28, 2] [⟨some 6, (.move (.t 4)), none, none⟩,⟨some 7, (.move (.t 0)), none, none⟩,⟨some 8, (.len (.t 7)), none, none⟩,⟨some 9, (.bin .lss (.t 6) (.t 8)), none, none⟩])
 (.cond (.t 9)
 .skip
 (.exit 0)))
 (.seq
 (.block 1
 (.seq
 (.region [] [] [4, 0, 9, 5, 3, 28, 2] [⟨some 12, (.move (.t 0)), none, none⟩,⟨some 13, (.move (.t 4)), none, none⟩,⟨some 14, (.iaddr 4 (.t 12) (.t 13)), none, none⟩,⟨some 15, (.faddr 0 (.t 14)), none, none⟩,⟨some 16, (.load none (.t 15)), none, none⟩,⟨some 5, (.move (.t 16)), none, none⟩])
 (.seq
 (.region [] [] [4, 0, 9, 5, 3, 28, 2] [⟨some 17, (.move (.t 5)), none, none⟩,⟨some 18, (.bin .neq (.t 17) (.k (rS (bs [])))), none, none⟩,⟨some 19, (.move (.t 18)), none, none⟩,⟨some 20, (.move (.t 5)), some (19, true), none⟩,⟨some 21, (.bin .neq (.t 20) (.k (rS (bs [95])))), some (19, true), none⟩,⟨some 22, (.pick (.t 19) (.t 21) (.k (rB false))), none, none⟩,⟨some 23, (.move (.t 22)), none, none⟩,⟨some 24, (.move (.t 5)), some (23, true), none⟩,⟨some 25, (.move (.t 3)), some (23, true), none⟩,⟨some 26, (.callp (.k (rF 67)) [(.t 24), (.t 25)]), some (23, true), none⟩,⟨some 27, (.un .not (.t 26)), some (23, true), none⟩,⟨some 28, (.pick (.t 23) (.t 27) (.k (rB false))), none, none⟩])
 (.cond (.t 28)
 (.region [31] [] [4, 0, 9, 5, 3, 28, 2] [⟨some 29, (.move (.t 3)), none, none⟩,⟨some 30, (.move (.t 5)), none, none⟩,⟨some 31, (.row 9 1 [(.t 30)]), none, none⟩,⟨some 32, (.app 9 1 16 (.t 29) (.t 31)), none, none⟩,⟨some 3, (.move (.t 32)), none, none⟩])
 .skip))))
 (.region [] [] [4, 0, 9, 5, 3, 28, 2] [⟨some 10, (.move (.t 4)), none, none⟩,⟨some 11, (.bin .add (.t 10) (.k (rI .i64 1))), none, none⟩,⟨some 4, (.move (.t 11)), none, none⟩])))
def ic98 : IC :=
 (.seq
 (.region [] [] [4, 0, 9, 5, 3, 28, 2] [⟨some 2, (.move (.k (.x (.one .nil)))), none, none⟩])
 (.seq
 (.region [] [] [4, 0, 9, 5, 3, 28, 2] [⟨some 3, (.move (.k (.x (.one .nil)))), none, none⟩])
 (.seq
 (.seq
 (.region [] [] [4, 0, 9, 5, 3, 28, 2] [⟨some 4, (.move (.k (rI .i64 0))), none, none⟩])
 (.block 0
 (.loop ic98l0)))
 (.seq
 (.region [] [] [4, 0, 9, 5, 3, 28, 2] [⟨some 33, (.move (.t 3)), none, none⟩,⟨some 2, (.move (.t 33)), none, none⟩])
 .ret))))
def ir98 : List IRes := [.tmp 2]
theorem ie98 : cmpFunc Go.Proofs.Tryz.prog ⟨[], []⟩ Go.Proofs.Tryz.f141 [4, 0, 9, 5, 3, 28, 2] = some ic98 := by kernel_rfl
theorem ig98 : cmpRes Go.Proofs.Tryz.prog Go.Proofs.Tryz.f141.results.toList = some ir98 := by kernel_rfl
def ic156 : IC :=
 (.seq
 (.region [] [] [0, 2] [⟨some 2, (.move (.k (rB false))), none, none⟩])
 (.seq
 (.region [] [] [0, 2] [⟨some 3, (.move (.t 0)), none, none⟩,⟨some 4, (.callp (.k (rF 248)) [(.t 3), (.k (rI .u8 97)), (.k (rI .u8 122))]), none, none⟩,⟨some 5, (.move (.t 4)), none, none⟩,⟨some 6, (.move (.t 0)), some (5, true), none⟩,⟨some 7, (.callp (.k (rF 249)) [(.t 6)]), some (5, true), none⟩,⟨some 8, (.un .not (.t 7)), some (5, true), none⟩,⟨some 9, (.pick (.t 5) (.t 8) (.k (rB false))), none, none⟩,⟨some 2, (.move (.t 9)), none, none⟩])
 .ret))
def ir156 : List IRes := [.tmp 2]
theorem ie156 : cmpFunc Go.Proofs.Tryz.prog ⟨[], []⟩ Go.Proofs.Tryz.f174 [0, 2] = some ic156 := by kernel_rfl
theorem ig156 : cmpRes Go.Proofs.Tryz.prog Go.Proofs.Tryz.f174.results.toList = some ir156 := by kernel_rfl
def ic114 : IC :=
 (.seq
 (.region [] [] [0, 3, 4, 2] [⟨some 2, (.move (.k (rB false))), none, none⟩])
 (.seq
 (.seq
 (.region [] [] [0, 3, 4, 2] [⟨some 3, (.move (.t 0)), none, none⟩])
 (.block 0
 (.seq
 (.seq
 (.region [] [] [0, 3, 4, 2] [⟨some 5, (.bin .eql (.t 3) (.k (rS (bs [110, 111, 116])))), none, none⟩,⟨some 4, (.move (.t 5)), none, none⟩])
 (.cond (.t 4)
 .skip
 (.seq
 (.region [] [] [0, 3, 4, 2] [⟨some 6, (.bin .eql (.t 3) (.k (rS (bs [99, 111, 117, 110, 116])))), none, none⟩,⟨some 4, (.move (.t 6)), none, none⟩])
 (.cond (.t 4)
 .skip
 (.seq
 (.region [] [] [0, 3, 4, 2] [⟨some 7, (.bin .eql (.t 3) (.k (rS (bs [115, 117, 109])))), none, none⟩,⟨some 4, (.move (.t 7)), none, none⟩])
 (.cond (.t 4)
 .skip
 (.seq
 (.region [] [] [0, 3, 4, 2] [⟨some 8, (.bin .eql (.t 3) (.k (rS (bs [109, 105, 110])))), none, none⟩,⟨some 4, (.move (.t 8)), none, none⟩])
 (.cond (.t 4)
 .skip
 (.seq
 (.region [] [] [0, 3, 4, 2] [⟨some 9, (.bin .eql (.t 3) (.k (rS (bs [109, 97, 120])))), none, none⟩,⟨some 4, (.move (.t 9)), none, none⟩])
 (.cond (.t 4)
 .skip
 (.seq
 (.region [] [] [0, 3, 4, 2] [⟨some 10, (.bin .eql (.t 3) (.k (rS (bs [108, 101, 110])))), none, none⟩,⟨some 4, (.move (.t 10)), none, none⟩])
 (.cond (.t 4)
 .skip
 (.seq
 (.region [] [] [0, 3, 4, 2] [⟨some 11, (.bin .eql (.t 3) (.k (rS (bs [99, 104, 97, 114, 115])))), none, none⟩,⟨some 4, (.move (.t 11)), none, none⟩])
 (.cond (.t 4)
 .skip
 (.region [] [] [0, 3, 4, 2] [⟨some 12, (.bin .eql (.t 3) (.k (rS (bs [98, 97, 99, 107])))), none, none⟩,⟨some 4, (.move (.t 12)), none, none⟩])))))))))))))))
 (.cond (.t 4)
 (.seq
 (.region [] [] [0, 3, 4, 2] [⟨some 2, (.move (.k (rB false))), none, none⟩])
 .ret)
 .skip))))
 (.seq
 (.region [] [] [0, 3, 4, 2] [⟨some 13, (.move (.t 0)), none, none⟩,⟨some 14, (.callp (.k (rF 259)) [(.t 13), (.k (rI .u8 97)), (.k (rI .u8 122))]), none, none⟩,⟨some 2, (.move (.t 14)), none, none⟩])
 .ret)))
def ir114 : List IRes := [.tmp 2]
theorem ie114 : cmpFunc Go.Proofs.Tryz.prog ⟨[], []⟩ Go.Proofs.Tryz.f184 [0, 3, 4, 2] = some ic114 := by kernel_rfl
theorem ig114 : cmpRes Go.Proofs.Tryz.prog Go.Proofs.Tryz.f184.results.toList = some ir114 := by kernel_rfl
def ic113 : IC :=
 (.seq
 (.region [] [] [0, 3, 2] [⟨some 2, (.move (.k (rI .i64 0))), none, none⟩])
 (.seq
 (.seq
 (.region [] [] [0, 3, 2] [⟨some 3, (.move (.t 0)), none, none⟩])
 (.cond (.t 3)
 (.seq
 (.region [] [] [0, 3, 2] [⟨some 2, (.move (.k (rI .i64 0))), none, none⟩])
 .ret)
 .skip))
 (.seq
 (.region [] [] [0, 3, 2] [⟨some 2, (.move (.k (rI .i64 40))), none, none⟩])
 .ret)))
def ir113 : List IRes := [.tmp 2]
theorem ie113 : cmpFunc Go.Proofs.Tryz.prog ⟨[], []⟩ Go.Proofs.Tryz.f187 [0, 3, 2] = some ic113 := by kernel_rfl
theorem ig113 : cmpRes Go.Proofs.Tryz.prog Go.Proofs.Tryz.f187.results.toList = some ir113 := by kernel_rfl
def ic92 : IC :=
 (.seq
 (.region [1] [] [0, 1, 4, 5, 9, 10, 20, 2] [⟨some 1, (.box 71 (.t 0)), none, none⟩,⟨some 2, (.move (.k (rI .i64 0))), none, none⟩])
 (.seq
 (.seq
 (.region [] [] [0, 1, 4, 5, 9, 10, 20, 2] [⟨some 3, (.faddr 0 (.t 1)), none, none⟩,⟨some 4, (.load none (.t 3)), none, none⟩])
 (.block 0
 (.seq
 (.region [] [] [0, 1, 4, 5, 9, 10, 20, 2] [⟨some 6, (.bin .eql (.t 4) (.k (rI .i8 1))), none, none⟩,⟨some 5, (.move (.t 6)), none, none⟩])
 (.cond (.t 5)
 (.seq
 (.region [] [] [0, 1, 4, 5, 9, 10, 20, 2] [⟨some 7, (.faddr 2 (.t 1)), none, none⟩,⟨some 8, (.load none (.t 7)), none, none⟩,⟨some 9, (.bin .eql (.t 8) (.k (rS (bs [])))), none, none⟩])
 (.cond (.t 9)
 (.seq
 (.region [] [] [0, 1, 4, 5, 9, 10, 20, 2] [⟨some 2, (.move (.k (rI .i64 0))), none, none⟩])
 .ret)
 .skip))
 (.seq
 (.region [] [] [0, 1, 4, 5, 9, 10, 20, 2] [⟨some 11, (.bin .eql (.t 4) (.k (rI .i8 2))), none, none⟩,⟨some 10, (.move (.t 11)), none, none⟩])
 (.cond (.t 10)
 (.seq
 (.region [] [] [0, 1, 4, 5, 9, 10, 20, 2] [⟨some 12, (.faddr 1 (.t 1)), none, none⟩,⟨some 13, (.load none (.t 12)), none, none⟩,⟨some 14, (.bin .eql (.t 13) (.k (rI .i64 0))), none, none⟩,⟨some 15, (.move (.t 14)), none, none⟩,⟨some 16, (.faddr 2 (.t 1)), some (15, true), none⟩,⟨some 17, (.load none (.t 16)), some (15, true), none⟩,⟨some 18, (.slen (.t 17)), some (15, true), none⟩,⟨some 19, (.bin .leq (.t 18) (.k (rI .i64 200))), some (15, true), none⟩,⟨some 20, (.pick (.t 15) (.t 19) (.k (rB false))), none, none⟩])
 (.cond (.t 20)
 (.seq
 (.region [] [] [0, 1, 4, 5, 9, 10, 20, 2] [⟨some 2, (.move (.k (rI .i64 0))), none, none⟩])
 .ret)
 .skip))
 .skip))))))
 (.seq
 (.region [] [] [0, 1, 4, 5, 9, 10, 20, 2] [⟨some 2, (.move (.k (rI .i64 10))), none, none⟩])
 .ret)))
def ir92 : List IRes := [.tmp 2]
theorem ie92 : cmpFunc Go.Proofs.Tryz.prog ⟨[], []⟩ Go.Proofs.Tryz.f204 [0, 1, 4, 5, 9, 10, 20, 2] = some ic92 := by kernel_rfl
theorem ig92 : cmpRes Go.Proofs.Tryz.prog Go.Proofs.Tryz.f204.results.toList = some ir92 := by kernel_rfl
def ic115 : IC :=
 (.seq
 (.region [] [] [0, 1, 4] [⟨some 4, (.move (.k (rB false))), none, none⟩])
 (.seq
 (.region [] [] [0, 1, 4] [⟨some 5, (.move (.t 0)), none, none⟩,⟨some 6, (.move (.t 1)), none, none⟩,⟨some 7, (.call (.k (rF 271)) [(.t 5), (.t 6)]), none, none⟩,⟨some 8, (.bin .geq (.t 7) (.k (rI .i64 0))), none, none⟩,⟨some 4, (.move (.t 8)), none, none⟩])
 .ret))
def ir115 : List IRes := [.tmp 4]
theorem ie115 : cmpFunc Go.Proofs.Tryz.prog ⟨[(7, none)], []⟩ Go.Proofs.Tryz.f206 [0, 1, 4] = some ic115 := by kernel_rfl
theorem ig115 : cmpRes Go.Proofs.Tryz.prog Go.Proofs.Tryz.f206.results.toList = some ir115 := by kernel_rfl
def ic116 : IC :=
 (.seq
 (.region [1] [] [0, 1, 2] [⟨some 1, (.box 73 (.t 0)), none, none⟩,⟨some 2, (.move (.k (rB false))), none, none⟩])
 (.seq
 (.region [] [] [0, 1, 2] [⟨some 3, (.load (some 4) (.t 1)), none, none⟩,⟨some 4, (.callp (.k (rF 208)) [(.t 3)]), none, none⟩,⟨some 5, (.bin .neq (.t 4) (.k (rI .i64 0))), none, none⟩,⟨some 2, (.move (.t 5)), none, none⟩])
 .ret))
def ir116 : List IRes := [.tmp 2]
theorem ie116 : cmpFunc Go.Proofs.Tryz.prog ⟨[], []⟩ Go.Proofs.Tryz.f207 [0, 1, 2] = some ic116 := by kernel_rfl
theorem ig116 : cmpRes Go.Proofs.Tryz.prog Go.Proofs.Tryz.f207.results.toList = some ir116 := by kernel_rfl
def ic117 : IC :=
 (.seq
 (.region [1] [] [0, 1, 5, 2] [⟨some 1, (.box 73 (.t 0)), none, none⟩,⟨some 2, (.move (.k (rI .i64 0))), none, none⟩])
 (.seq
 (.seq
 (.region [] [] [0, 1, 5, 2] [⟨some 3, (.faddr 0 (.t 1)), none, none⟩,⟨some 4, (.load none (.t 3)), none, none⟩,⟨some 5, (.bin .eql (.t 4) (.k (rS (bs [])))), none, none⟩])
 (.cond (.t 5)
 (.seq
 (.region [] [] [0, 1, 5, 2] [⟨some 6, (.faddr 1 (.t 1)), none, none⟩,⟨some 7, (.load (some 3) (.t 6)), none, none⟩,⟨some 8, (.callp (.k (rF 204)) [(.t 7)]), none, none⟩,⟨some 9, (.bin .eql (.t 8) (.k (rI .i64 0))), none, none⟩,⟨some 10, (.callp (.k (rF 187)) [(.t 9)]), none, none⟩,⟨some 2, (.move (.t 10)), none, none⟩])
 .ret)
 .skip))
 (.seq
 (.region [] [] [0, 1, 5, 2] [⟨some 11, (.faddr 1 (.t 1)), none, none⟩,⟨some 12, (.load (some 3) (.t 11)), none, none⟩,⟨some 13, (.build [(.c (.v (.int .i8 0))), (.c (.v (.int .i64 0))), (.c (.v (.string (bs []))))] []), none, none⟩,⟨some 14, (.eqs false [.i .i8, .i .i64, .s] (.t 12) (.t 13)), none, none⟩,⟨some 15, (.move (.t 14)), none, none⟩,⟨some 16, (.faddr 0 (.t 1)), some (15, true), none⟩,⟨some 17, (.load none (.t 16)), some (15, true), none⟩,⟨some 18, (.bin .eql (.t 17) (.k (rS (bs [95])))), some (15, true), none⟩,⟨some 19, (.move (.t 18)), some (15, true), none⟩,⟨some 20, (.faddr 0 (.t 1)), some (19, false), none⟩,⟨some 21, (.load none (.t 20)), some (19, false), none⟩,⟨some 22, (.callp (.k (rF 259)) [(.t 21), (.k (rI .u8 65)), (.k (rI .u8 90))]), some (19, false), none⟩,⟨some 23, (.pick (.t 19) (.k (rB true)) (.t 22)), some (15, true), none⟩,⟨some 24, (.pick (.t 15) (.t 23) (.k (rB false))), none, none⟩,⟨some 25, (.callp (.k (rF 187)) [(.t 24)]), none, none⟩,⟨some 2, (.move (.t 25)), none, none⟩])
 .ret)))
def ir117 : List IRes := [.tmp 2]
theorem ie117 : cmpFunc Go.Proofs.Tryz.prog ⟨[], []⟩ Go.Proofs.Tryz.f208 [0, 1, 5, 2] = some ic117 := by kernel_rfl
theorem ig117 : cmpRes Go.Proofs.Tryz.prog Go.Proofs.Tryz.f208.results.toList = some ir117 := by kernel_rfl
def ic29 : IC :=
 (.seq
 (.region [1] [] [0, 1, 26, 2] [⟨some 1, (.box 71 (.t 0)), none, none⟩,⟨some 2, (.move (.k (rI .i64 0))), none, none⟩])
 (.seq
 (.seq
 (.region [] [] [0, 1, 26, 2] [⟨some 3, (.faddr 0 (.t 1)), none, none⟩,⟨some 4, (.load none (.t 3)), none, none⟩,⟨some 5, (.bin .eql (.t 4) (.k (rI .i8 1))), none, none⟩,⟨some 6, (.move (.t 5)), none, none⟩,⟨some 7, (.faddr 2 (.t 1)), some (6, true), none⟩,⟨some 8, (.load none (.t 7)), some (6, true), none⟩,⟨some 9, (.bin .eql (.t 8) (.k (rS (bs [])))), some (6, true), none⟩,⟨some 10, (.pick (.t 6) (.t 9) (.k (rB false))), none, none⟩,⟨some 11, (.move (.t 10)), none, none⟩,⟨some 12, (.faddr 0 (.t 1)), some (11, false), none⟩,⟨some 13, (.load none (.t 12)), some (11, false), none⟩,⟨some 14, (.bin .eql (.t 13) (.k (rI .i8 2))), some (11, false), none⟩,⟨some 15, (.move (.t 14)), some (11, false), none⟩,⟨some 16, (.faddr 1 (.t 1)), some (15, true), none⟩,⟨some 17, (.load none (.t 16)), some (15, true), none⟩,⟨some 18, (.bin .eql (.t 17) (.k (rI .i64 0))), some (15, true), none⟩,⟨some 19, (.pick (.t 15) (.t 18) (.k (rB false))), some (11, false), none⟩,⟨some 20, (.move (.t 19)), some (11, false), none⟩,⟨some 21, (.faddr 2 (.t 1)), some (20, true), none⟩,⟨some 22, (.load none (.t 21)), some (20, true), none⟩,⟨some 23, (.slen (.t 22)), some (20, true), none⟩,⟨some 24, (.bin .leq (.t 23) (.k (rI .i64 200))), some (20, true), none⟩,⟨some 25, (.pick (.t 20) (.t 24) (.k (rB false))), some (11, false), none⟩,⟨some 26, (.pick (.t 11) (.k (rB true)) (.t 25)), none, none⟩])
 (.cond (.t 26)
 (.seq
 (.region [] [] [0, 1, 26, 2] [⟨some 2, (.move (.k (rI .i64 0))), none, none⟩])
 .ret)
 .skip))
 (.seq
 (.region [] [] [0, 1, 26, 2] [⟨some 2, (.move (.k (rI .i64 10))), none, none⟩])
 .ret)))
def ir29 : List IRes := [.tmp 2]
theorem ie29 : cmpFunc Go.Proofs.Tryz.prog ⟨[], []⟩ Go.Proofs.Tryz.f243 [0, 1, 26, 2] = some ic29 := by kernel_rfl
theorem ig29 : cmpRes Go.Proofs.Tryz.prog Go.Proofs.Tryz.f243.results.toList = some ir29 := by kernel_rfl
abbrev ks201 (t0 t1 t2 t27 t7 t31 t38 t6 : T) (O : List (Nat × Box)) (U : List (Nat × Fx.Tok)) (H : FHp) : S := st [(0, t0), (1, t1), (2, t2), (27, t27), (7, t7), (31, t31), (38, t38), (6, t6)] O U H
def ic201l0 : IC :=
 (.seq
 (.seq
 (.region [] [] [0, 1, 2, 27, 7, 31, 38, 6] [⟨some 28, (.move (.t 7)), none, none⟩,⟨some 29, (.move (.t 0)), none, none⟩,⟨some 30, (.slen (.t 29)), none, none⟩,⟨some 31, (.bin .lss (.t 28) (.t 30)), none, none⟩])
 (.cond (.t 31)
 .skip
 (.exit 0)))
 (.seq
 (.block 1
 (.seq
 (.region [] [] [0, 1, 2, 27, 7, 31, 38, 6] [⟨some 34, (.move (.t 0)), none, none⟩,⟨some 35, (.move (.t 7)), none, none⟩,⟨some 36, (.sindex (.t 34) (.t 35)), none, none⟩,⟨some 37, (.callp (.k (rF 296)) [(.t 36)]), none, none⟩,⟨some 38, (.un .not (.t 37)), none, none⟩])
 (.cond (.t 38)
 (.seq
 (.region [] [] [0, 1, 2, 27, 7, 31, 38, 6] [⟨some 6, (.move (.k (rB false))), none, none⟩])
 .ret)
 .skip)))
 (.region [] [] [0, 1, 2, 27, 7, 31, 38, 6] [⟨some 32, (.move (.t 7)), none, none⟩,⟨some 33, (.bin .add (.t 32) (.k (rI .i64 1))), none, none⟩,⟨some 7, (.move (.t 33)), none, none⟩])))
def ic201 : IC :=
 (.seq
 (.region [] [] [0, 1, 2, 27, 7, 31, 38, 6] [⟨some 6, (.move (.k (rB false))), none, none⟩])
 (.seq
 (.seq
 (.region [] [] [0, 1, 2, 27, 7, 31, 38, 6] [⟨some 8, (.move (.t 0)), none, none⟩,⟨some 9, (.slen (.t 8)), none, none⟩,⟨some 10, (.bin .lss (.t 9) (.k (rI .i64 1))), none, none⟩,⟨some 11, (.move (.t 10)), none, none⟩,⟨some 12, (.move (.t 0)), some (11, false), none⟩,⟨some 13, (.slen (.t 12)), some (11, false), none⟩,⟨some 14, (.bin .gtr (.t 13) (.k (rI .i64 120))), some (11, false), none⟩,⟨some 15, (.pick (.t 11) (.k (rB true)) (.t 14)), none, none⟩,⟨some 16, (.move (.t 15)), none, none⟩,⟨some 17, (.move (.t 0)), some (16, false), none⟩,⟨some 18, (.sindex (.t 17) (.k (rI .i64 0))), some (16, false), none⟩,⟨some 19, (.move (.t 1)), some (16, false), none⟩,⟨some 20, (.bin .lss (.t 18) (.t 19)), some (16, false), none⟩,⟨some 21, (.pick (.t 16) (.k (rB true)) (.t 20)), none, none⟩,⟨some 22, (.move (.t 21)), none, none⟩,⟨some 23, (.move (.t 0)), some (22, false), none⟩,⟨some 24, (.sindex (.t 23) (.k (rI .i64 0))), some (22, false), none⟩,⟨some 25, (.move (.t 2)), some (22, false), none⟩,⟨some 26, (.bin .gtr (.t 24) (.t 25)), some (22, false), none⟩,⟨some 27, (.pick (.t 22) (.k (rB true)) (.t 26)), none, none⟩])
 (.cond (.t 27)
 (.seq
 (.region [] [] [0, 1, 2, 27, 7, 31, 38, 6] [⟨some 6, (.move (.k (rB false))), none, none⟩])
 .ret)
 .skip))
 (.seq
 (.seq
 (.region [] [] [0, 1, 2, 27, 7, 31, 38, 6] [⟨some 7, (.move (.k (rI .i64 1))), none, none⟩])
 (.block 0
 (.loop ic201l0)))
 (.seq
 (.region [] [] [0, 1, 2, 27, 7, 31, 38, 6] [⟨some 6, (.move (.k (rB true))), none, none⟩])
 .ret))))
def ir201 : List IRes := [.tmp 6]
theorem ie201 : cmpFunc Go.Proofs.Tryz.prog ⟨[], []⟩ Go.Proofs.Tryz.f248 [0, 1, 2, 27, 7, 31, 38, 6] = some ic201 := by kernel_rfl
theorem ig201 : cmpRes Go.Proofs.Tryz.prog Go.Proofs.Tryz.f248.results.toList = some ir201 := by kernel_rfl
def ic202 : IC :=
 (.seq
 (.region [] [] [0, 2] [⟨some 2, (.move (.k (rB false))), none, none⟩])
 (.seq
 (.region [] [] [0, 2] [⟨some 3, (.move (.t 0)), none, none⟩,⟨some 4, (.bin .eql (.t 3) (.k (rS (bs [110, 111, 116])))), none, none⟩,⟨some 5, (.move (.t 4)), none, none⟩,⟨some 6, (.move (.t 0)), some (5, false), none⟩,⟨some 7, (.bin .eql (.t 6) (.k (rS (bs [99, 111, 117, 110, 116])))), some (5, false), none⟩,⟨some 8, (.pick (.t 5) (.k (rB true)) (.t 7)), none, none⟩,⟨some 9, (.move (.t 8)), none, none⟩,⟨some 10, (.move (.t 0)), some (9, false), none⟩,⟨some 11, (.bin .eql (.t 10) (.k (rS (bs [115, 117, 109])))), some (9, false), none⟩,⟨some 12, (.pick (.t 9) (.k (rB true)) (.t 11)), none, none⟩,⟨some 13, (.move (.t 12)), none, none⟩,⟨some 14, (.move (.t 0)), some (13, false), none⟩,⟨some 15, (.bin .eql (.t 14) (.k (rS (bs [109, 105, 110])))), some (13, false), none⟩,⟨some 16, (.pick (.t 13) (.k (rB true)) (.t 15)), none, none⟩,⟨some 17, (.move (.t 16)), none, none⟩,⟨some 18, (.move (.t 0)), some (17, false), none⟩,⟨some 19, (.bin .eql (.t 18) (.k (rS (bs [109, 97, 120])))), some (17, false), none⟩,⟨some 20, (.pick (.t 17) (.k (rB true)) (.t 19)), none, none⟩,⟨some 21, (.move (.t 20)), none, none⟩,⟨some 22, (.move (.t 0)), some (21, false), none⟩,⟨some 23, (.bin .eql (.t 22) (.k (rS (bs [108, 101, 110])))), some (21, false), none⟩,⟨some 24, (.pick (.t 21) (.k (rB true)) (.t 23)), none, none⟩,⟨some 25, (.move (.t 24)), none, none⟩,⟨some 26, (.move (.t 0)), some (25, false), none⟩,⟨some 27, (.bin .eql (.t 26) (.k (rS (bs [99, 104, 97, 114, 115])))), some (25, false), none⟩,⟨some 28, (.pick (.t 25) (.k (rB true)) (.t 27)), none, none⟩,⟨some 29, (.move (.t 28)), none, none⟩,⟨some 30, (.move (.t 0)), some (29, false), none⟩,⟨some 31, (.bin .eql (.t 30) (.k (rS (bs [98, 97, 99, 107])))), some (29, false), none⟩,⟨some 32, (.pick (.t 29) (.k (rB true)) (.t 31)), none, none⟩,⟨some 2, (.move (.t 32)), none, none⟩])
 .ret))
def ir202 : List IRes := [.tmp 2]
theorem ie202 : cmpFunc Go.Proofs.Tryz.prog ⟨[], []⟩ Go.Proofs.Tryz.f249 [0, 2] = some ic202 := by kernel_rfl
theorem ig202 : cmpRes Go.Proofs.Tryz.prog Go.Proofs.Tryz.f249.results.toList = some ir202 := by kernel_rfl
def ic157 : IC :=
 (.seq
 (.region [1] [] [0, 1, 6, 7, 13, 3, 2] [⟨some 1, (.box 73 (.t 0)), none, none⟩,⟨some 2, (.move (.k (rB false))), none, none⟩])
 (.seq
 (.region [3] [] [0, 1, 6, 7, 13, 3, 2] [⟨some 4, (.build [(.c (.v (.int .i8 0))), (.c (.v (.int .i64 0))), (.c (.v (.string (bs []))))] []), none, none⟩,⟨some 3, (.zero 71 [(.c (.v (.int .i8 0))), (.c (.v (.int .i64 0))), (.c (.v (.string (bs []))))]), none, none⟩,⟨none, (.store (some 3) (.t 3) (.t 4)), none, none⟩])
 (.seq
 (.seq
 (.region [] [] [0, 1, 6, 7, 13, 3, 2] [⟨some 5, (.faddr 0 (.t 1)), none, none⟩,⟨some 6, (.load none (.t 5)), none, none⟩])
 (.block 0
 (.seq
 (.region [] [] [0, 1, 6, 7, 13, 3, 2] [⟨some 8, (.bin .eql (.t 6) (.k (rS (bs [])))), none, none⟩,⟨some 7, (.move (.t 8)), none, none⟩])
 (.cond (.t 7)
 (.seq
 (.region [] [] [0, 1, 6, 7, 13, 3, 2] [⟨some 9, (.faddr 1 (.t 1)), none, none⟩,⟨some 10, (.load (some 3) (.t 9)), none, none⟩,⟨some 11, (.callp (.k (rF 243)) [(.t 10)]), none, none⟩,⟨some 12, (.bin .eql (.t 11) (.k (rI .i64 0))), none, none⟩,⟨some 2, (.move (.t 12)), none, none⟩])
 .ret)
 (.seq
 (.region [] [] [0, 1, 6, 7, 13, 3, 2] [⟨some 14, (.bin .eql (.t 6) (.k (rS (bs [95])))), none, none⟩,⟨some 13, (.move (.t 14)), none, none⟩])
 (.cond (.t 13)
 (.seq
 (.region [] [] [0, 1, 6, 7, 13, 3, 2] [⟨some 15, (.faddr 1 (.t 1)), none, none⟩,⟨some 16, (.load (some 3) (.t 15)), none, none⟩,⟨some 17, (.load (some 3) (.t 3)), none, none⟩,⟨some 18, (.eqs false [.i .i8, .i .i64, .s] (.t 16) (.t 17)), none, none⟩,⟨some 2, (.move (.t 18)), none, none⟩])
 .ret)
 .skip))))))
 (.seq
 (.region [] [] [0, 1, 6, 7, 13, 3, 2] [⟨some 19, (.faddr 0 (.t 1)), none, none⟩,⟨some 20, (.load none (.t 19)), none, none⟩,⟨some 21, (.callp (.k (rF 297)) [(.t 20)]), none, none⟩,⟨some 22, (.move (.t 21)), none, none⟩,⟨some 23, (.faddr 1 (.t 1)), some (22, true), none⟩,⟨some 24, (.load (some 3) (.t 23)), some (22, true), none⟩,⟨some 25, (.load (some 3) (.t 3)), some (22, true), none⟩,⟨some 26, (.eqs false [.i .i8, .i .i64, .s] (.t 24) (.t 25)), some (22, true), none⟩,⟨some 27, (.pick (.t 22) (.t 26) (.k (rB false))), none, none⟩,⟨some 2, (.move (.t 27)), none, none⟩])
 .ret))))
def ir157 : List IRes := [.tmp 2]
theorem ie157 : cmpFunc Go.Proofs.Tryz.prog ⟨[], []⟩ Go.Proofs.Tryz.f250 [0, 1, 6, 7, 13, 3, 2] = some ic157 := by kernel_rfl
theorem ig157 : cmpRes Go.Proofs.Tryz.prog Go.Proofs.Tryz.f250.results.toList = some ir157 := by kernel_rfl
abbrev ks91 (t0 t1 t13 t3 t18 t27 t2 : T) (O : List (Nat × Box)) (U : List (Nat × Fx.Tok)) (H : FHp) : S := st [(0, t0), (1, t1), (13, t13), (3, t3), (18, t18), (27, t27), (2, t2)] O U H
def ic91l0 : IC :=
 (.seq
 (.seq
 (.region [] [] [0, 1, 13, 3, 18, 27, 2] [⟨some 14, (.move (.t 3)), none, none⟩,⟨some 15, (.faddr 1 (.t 1)), none, none⟩,⟨some 16, (.load none (.t 15)), none, none⟩,⟨some 17, (.len (.t 16)), none, none⟩,⟨some 18, (.bin .lss (.t 14) (.t 17)), none, none⟩])
 (.cond (.t 18)
 .skip
 (.exit 0)))
 (.seq
 (.block 1
 (.seq
 (.region [] [] [0, 1, 13, 3, 18, 27, 2] [⟨some 21, (.faddr 1 (.t 1)), none, none⟩,⟨some 22, (.load none (.t 21)), none, none⟩,⟨some 23, (.move (.t 3)), none, none⟩,⟨some 24, (.iaddr 4 (.t 22) (.t 23)), none, none⟩,⟨some 25, (.load (some 4) (.t 24)), none, none⟩,⟨some 26, (.callp (.k (rF 250)) [(.t 25)]), none, none⟩,⟨some 27, (.un .not (.t 26)), none, none⟩])
 (.cond (.t 27)
 (.seq
 (.region [] [] [0, 1, 13, 3, 18, 27, 2] [⟨some 2, (.move (.k (rB false))), none, none⟩])
 .ret)
 .skip)))
 (.region [] [] [0, 1, 13, 3, 18, 27, 2] [⟨some 19, (.move (.t 3)), none, none⟩,⟨some 20, (.bin .add (.t 19) (.k (rI .i64 1))), none, none⟩,⟨some 3, (.move (.t 20)), none, none⟩])))
def ic91 : IC :=
 (.seq
 (.region [1] [] [0, 1, 13, 3, 18, 27, 2] [⟨some 1, (.box 25 (.t 0)), none, none⟩,⟨some 2, (.move (.k (rB false))), none, none⟩])
 (.seq
 (.seq
 (.region [] [] [0, 1, 13, 3, 18, 27, 2] [⟨some 4, (.faddr 0 (.t 1)), none, none⟩,⟨some 5, (.load none (.t 4)), none, none⟩,⟨some 6, (.callp (.k (rF 174)) [(.t 5)]), none, none⟩,⟨some 7, (.un .not (.t 6)), none, none⟩,⟨some 8, (.move (.t 7)), none, none⟩,⟨some 9, (.faddr 1 (.t 1)), some (8, false), none⟩,⟨some 10, (.load none (.t 9)), some (8, false), none⟩,⟨some 11, (.len (.t 10)), some (8, false), none⟩,⟨some 12, (.bin .gtr (.t 11) (.k (rI .i64 24))), some (8, false), none⟩,⟨some 13, (.pick (.t 8) (.k (rB true)) (.t 12)), none, none⟩])
 (.cond (.t 13)
 (.seq
 (.region [] [] [0, 1, 13, 3, 18, 27, 2] [⟨some 2, (.move (.k (rB false))), none, none⟩])
 .ret)
 .skip))
 (.seq
 (.seq
 (.region [] [] [0, 1, 13, 3, 18, 27, 2] [⟨some 3, (.move (.k (rI .i64 0))), none, none⟩])
 (.block 0
 (.loop ic91l0)))
 (.seq
 (.region [] [] [0, 1, 13, 3, 18, 27, 2] [⟨some 2, (.move (.k (rB true))), none, none⟩])
 .ret))))
def ir91 : List IRes := [.tmp 2]
theorem ie91 : cmpFunc Go.Proofs.Tryz.prog ⟨[], []⟩ Go.Proofs.Tryz.f251 [0, 1, 13, 3, 18, 27, 2] = some ic91 := by kernel_rfl
theorem ig91 : cmpRes Go.Proofs.Tryz.prog Go.Proofs.Tryz.f251.results.toList = some ir91 := by kernel_rfl
abbrev ks168 (t0 t1 t2 t28 t32 t31 t33 t30 t8 t61 t6 : T) (O : List (Nat × Box)) (U : List (Nat × Fx.Tok)) (H : FHp) : S := st [(0, t0), (1, t1), (2, t2), (28, t28), (32, t32), (31, t31), (33, t33), (30, t30), (8, t8), (61, t61), (6, t6)] O U H
def ic168l0 : IC :=
 (.seq
 (.region [] [] [0, 1, 2, 28, 32, 31, 33, 30, 8, 61, 6] [⟨some 33, (.bin .lss (.t 32) (.t 31)), none, none⟩])
 (.seq
 (.cond (.t 33)
 .skip
 (.exit 0))
 (.seq
 (.block 1
 (.seq
 (.region [] [] [0, 1, 2, 28, 32, 31, 33, 30, 8, 61, 6] [⟨some 34, (.iaddr 1 (.t 30) (.t 32)), none, none⟩,⟨some 35, (.load none (.t 34)), none, none⟩,⟨some 8, (.move (.t 35)), none, none⟩])
 (.seq
 (.region [] [] [0, 1, 2, 28, 32, 31, 33, 30, 8, 61, 6] [⟨some 36, (.move (.t 8)), none, none⟩,⟨some 37, (.bin .lss (.t 36) (.k (rI .u8 97))), none, none⟩,⟨some 38, (.move (.t 37)), none, none⟩,⟨some 39, (.move (.t 8)), some (38, false), none⟩,⟨some 40, (.bin .gtr (.t 39) (.k (rI .u8 122))), some (38, false), none⟩,⟨some 41, (.pick (.t 38) (.k (rB true)) (.t 40)), none, none⟩,⟨some 42, (.move (.t 41)), none, none⟩,⟨some 43, (.move (.t 8)), some (42, true), none⟩,⟨some 44, (.bin .lss (.t 43) (.k (rI .u8 65))), some (42, true), none⟩,⟨some 45, (.move (.t 44)), some (42, true), none⟩,⟨some 46, (.move (.t 8)), some (45, false), none⟩,⟨some 47, (.bin .gtr (.t 46) (.k (rI .u8 90))), some (45, false), none⟩,⟨some 48, (.pick (.t 45) (.k (rB true)) (.t 47)), some (42, true), none⟩,⟨some 49, (.pick (.t 42) (.t 48) (.k (rB false))), none, none⟩,⟨some 50, (.move (.t 49)), none, none⟩,⟨some 51, (.move (.t 8)), some (50, true), none⟩,⟨some 52, (.bin .lss (.t 51) (.k (rI .u8 48))), some (50, true), none⟩,⟨some 53, (.move (.t 52)), some (50, true), none⟩,⟨some 54, (.move (.t 8)), some (53, false), none⟩,⟨some 55, (.bin .gtr (.t 54) (.k (rI .u8 57))), some (53, false), none⟩,⟨some 56, (.pick (.t 53) (.k (rB true)) (.t 55)), some (50, true), none⟩,⟨some 57, (.pick (.t 50) (.t 56) (.k (rB false))), none, none⟩,⟨some 58, (.move (.t 57)), none, none⟩,⟨some 59, (.move (.t 8)), some (58, true), none⟩,⟨some 60, (.bin .neq (.t 59) (.k (rI .u8 95))), some (58, true), none⟩,⟨some 61, (.pick (.t 58) (.t 60) (.k (rB false))), none, none⟩])
 (.cond (.t 61)
 (.seq
 (.region [] [] [0, 1, 2, 28, 32, 31, 33, 30, 8, 61, 6] [⟨some 6, (.move (.k (rB false))), none, none⟩])
 .ret)
 .skip))))
 (.region [] [] [0, 1, 2, 28, 32, 31, 33, 30, 8, 61, 6] [⟨some 62, (.bin .add (.t 32) (.k (rI .i64 1))), none, none⟩,⟨some 32, (.move (.t 62)), none, none⟩]))))
def ic168 : IC :=
 (.seq
 (.region [] [] [0, 1, 2, 28, 32, 31, 33, 30, 8, 61, 6] [⟨some 6, (.move (.k (rB false))), none, none⟩])
 (.seq
 (.seq
 (.region [] [] [0, 1, 2, 28, 32, 31, 33, 30, 8, 61, 6] [⟨some 9, (.move (.t 0)), none, none⟩,⟨some 10, (.slen (.t 9)), none, none⟩,⟨some 11, (.bin .eql (.t 10) (.k (rI .i64 0))), none, none⟩,⟨some 12, (.move (.t 11)), none, none⟩,⟨some 13, (.move (.t 0)), some (12, false), none⟩,⟨some 14, (.slen (.t 13)), some (12, false), none⟩,⟨some 15, (.bin .gtr (.t 14) (.k (rI .i64 120))), some (12, false), none⟩,⟨some 16, (.pick (.t 12) (.k (rB true)) (.t 15)), none, none⟩,⟨some 17, (.move (.t 16)), none, none⟩,⟨some 18, (.move (.t 0)), some (17, false), none⟩,⟨some 19, (.sindex (.t 18) (.k (rI .i64 0))), some (17, false), none⟩,⟨some 20, (.move (.t 1)), some (17, false), none⟩,⟨some 21, (.bin .lss (.t 19) (.t 20)), some (17, false), none⟩,⟨some 22, (.pick (.t 17) (.k (rB true)) (.t 21)), none, none⟩,⟨some 23, (.move (.t 22)), none, none⟩,⟨some 24, (.move (.t 0)), some (23, false), none⟩,⟨some 25, (.sindex (.t 24) (.k (rI .i64 0))), some (23, false), none⟩,⟨some 26, (.move (.t 2)), some (23, false), none⟩,⟨some 27, (.bin .gtr (.t 25) (.t 26)), some (23, false), none⟩,⟨some 28, (.pick (.t 23) (.k (rB true)) (.t 27)), none, none⟩])
 (.cond (.t 28)
 (.seq
 (.region [] [] [0, 1, 2, 28, 32, 31, 33, 30, 8, 61, 6] [⟨some 6, (.move (.k (rB false))), none, none⟩])
 .ret)
 .skip))
 (.seq
 (.seq
 (.region [] [] [0, 1, 2, 28, 32, 31, 33, 30, 8, 61, 6] [⟨some 29, (.move (.t 0)), none, none⟩,⟨some 30, (.bytes (.t 29)), none, none⟩,⟨some 31, (.len (.t 30)), none, none⟩,⟨some 32, (.move (.k (rI .i64 0))), none, none⟩])
 (.block 0
 (.loop ic168l0)))
 (.seq
 (.region [] [] [0, 1, 2, 28, 32, 31, 33, 30, 8, 61, 6] [⟨some 6, (.move (.k (rB true))), none, none⟩])
 .ret))))
def ir168 : List IRes := [.tmp 6]
theorem ie168 : cmpFunc Go.Proofs.Tryz.prog ⟨[], []⟩ Go.Proofs.Tryz.f259 [0, 1, 2, 28, 32, 31, 33, 30, 8, 61, 6] = some ic168 := by kernel_rfl
theorem ig168 : cmpRes Go.Proofs.Tryz.prog Go.Proofs.Tryz.f259.results.toList = some ir168 := by kernel_rfl
abbrev ks169 (t0 t8 t7 t9 t1 t5 t16 t4 : T) (O : List (Nat × Box)) (U : List (Nat × Fx.Tok)) (H : FHp) : S := st [(0, t0), (8, t8), (7, t7), (9, t9), (1, t1), (5, t5), (16, t16), (4, t4)] O U H
def ic169l0 : IC :=
 (.seq
 (.region [] [] [0, 8, 7, 9, 1, 5, 16, 4] [⟨some 9, (.bin .lss (.t 8) (.t 7)), none, none⟩])
 (.seq
 (.cond (.t 9)
 .skip
 (.exit 0))
 (.seq
 (.block 1
 (.seq
 (.region [] [] [0, 8, 7, 9, 1, 5, 16, 4] [⟨some 10, (.move (.t 8)), none, none⟩,⟨some 5, (.move (.t 10)), none, none⟩])
 (.seq
 (.region [] [] [0, 8, 7, 9, 1, 5, 16, 4] [⟨some 11, (.move (.t 1)), none, none⟩,⟨some 12, (.move (.t 0)), none, none⟩,⟨some 13, (.move (.t 5)), none, none⟩,⟨some 14, (.iaddr 4 (.t 12) (.t 13)), none, none⟩,⟨some 15, (.load (some 4) (.t 14)), none, none⟩,⟨some 16, (.call (.t 11) [(.t 15)]), none, none⟩])
 (.cond (.t 16)
 (.seq
 (.region [] [] [0, 8, 7, 9, 1, 5, 16, 4] [⟨some 17, (.move (.t 5)), none, none⟩,⟨some 4, (.move (.t 17)), none, none⟩])
 .ret)
 .skip))))
 (.region [] [] [0, 8, 7, 9, 1, 5, 16, 4] [⟨some 18, (.bin .add (.t 8) (.k (rI .i64 1))), none, none⟩,⟨some 8, (.move (.t 18)), none, none⟩]))))
def ic169 : IC :=
 (.seq
 (.region [] [] [0, 8, 7, 9, 1, 5, 16, 4] [⟨some 4, (.move (.k (rI .i64 0))), none, none⟩])
 (.seq
 (.seq
 (.region [] [] [0, 8, 7, 9, 1, 5, 16, 4] [⟨some 6, (.move (.t 0)), none, none⟩,⟨some 7, (.len (.t 6)), none, none⟩,⟨some 8, (.move (.k (rI .i64 0))), none, none⟩])
 (.block 0
 (.loop ic169l0)))
 (.seq
 (.region [] [] [0, 8, 7, 9, 1, 5, 16, 4] [⟨some 4, (.move (.k (rI .i64 (-1)))), none, none⟩])
 .ret)))
def ir169 : List IRes := [.tmp 4]
theorem ie169 : cmpFunc Go.Proofs.Tryz.prog ⟨[(16, none)], []⟩ Go.Proofs.Tryz.f271 [0, 8, 7, 9, 1, 5, 16, 4] = some ic169 := by kernel_rfl
theorem ig169 : cmpRes Go.Proofs.Tryz.prog Go.Proofs.Tryz.f271.results.toList = some ir169 := by kernel_rfl
def ic222 : IC :=
 (.seq
 (.region [] [] [0, 2] [⟨some 2, (.move (.k (rB false))), none, none⟩])
 (.seq
 (.region [] [] [0, 2] [⟨some 3, (.move (.t 0)), none, none⟩,⟨some 4, (.bin .geq (.t 3) (.k (rI .u8 97))), none, none⟩,⟨some 5, (.move (.t 4)), none, none⟩,⟨some 6, (.move (.t 0)), some (5, true), none⟩,⟨some 7, (.bin .leq (.t 6) (.k (rI .u8 122))), some (5, true), none⟩,⟨some 8, (.pick (.t 5) (.t 7) (.k (rB false))), none, none⟩,⟨some 9, (.move (.t 8)), none, none⟩,⟨some 10, (.move (.t 0)), some (9, false), none⟩,⟨some 11, (.bin .geq (.t 10) (.k (rI .u8 65))), some (9, false), none⟩,⟨some 12, (.move (.t 11)), some (9, false), none⟩,⟨some 13, (.move (.t 0)), some (12, true), none⟩,⟨some 14, (.bin .leq (.t 13) (.k (rI .u8 90))), some (12, true), none⟩,⟨some 15, (.pick (.t 12) (.t 14) (.k (rB false))), some (9, false), none⟩,⟨some 16, (.pick (.t 9) (.k (rB true)) (.t 15)), none, none⟩,⟨some 17, (.move (.t 16)), none, none⟩,⟨some 18, (.move (.t 0)), some (17, false), none⟩,⟨some 19, (.bin .geq (.t 18) (.k (rI .u8 48))), some (17, false), none⟩,⟨some 20, (.move (.t 19)), some (17, false), none⟩,⟨some 21, (.move (.t 0)), some (20, true), none⟩,⟨some 22, (.bin .leq (.t 21) (.k (rI .u8 57))), some (20, true), none⟩,⟨some 23, (.pick (.t 20) (.t 22) (.k (rB false))), some (17, false), none⟩,⟨some 24, (.pick (.t 17) (.k (rB true)) (.t 23)), none, none⟩,⟨some 25, (.move (.t 24)), none, none⟩,⟨some 26, (.move (.t 0)), some (25, false), none⟩,⟨some 27, (.bin .eql (.t 26) (.k (rI .u8 95))), some (25, false), none⟩,⟨some 28, (.pick (.t 25) (.k (rB true)) (.t 27)), none, none⟩,⟨some 2, (.move (.t 28)), none, none⟩])
 .ret))
def ir222 : List IRes := [.tmp 2]
theorem ie222 : cmpFunc Go.Proofs.Tryz.prog ⟨[], []⟩ Go.Proofs.Tryz.f296 [0, 2] = some ic222 := by kernel_rfl
theorem ig222 : cmpRes Go.Proofs.Tryz.prog Go.Proofs.Tryz.f296.results.toList = some ir222 := by kernel_rfl
def ic203 : IC :=
 (.seq
 (.region [] [] [0, 2] [⟨some 2, (.move (.k (rB false))), none, none⟩])
 (.seq
 (.region [] [] [0, 2] [⟨some 3, (.move (.t 0)), none, none⟩,⟨some 4, (.callp (.k (rF 248)) [(.t 3), (.k (rI .u8 65)), (.k (rI .u8 90))]), none, none⟩,⟨some 2, (.move (.t 4)), none, none⟩])
 .ret))
def ir203 : List IRes := [.tmp 2]
theorem ie203 : cmpFunc Go.Proofs.Tryz.prog ⟨[], []⟩ Go.Proofs.Tryz.f297 [0, 2] = some ic203 := by kernel_rfl
theorem ig203 : cmpRes Go.Proofs.Tryz.prog Go.Proofs.Tryz.f297.results.toList = some ir203 := by kernel_rfl
end Go.Proofs.YtiomojlcnemnhaaGreatDoor

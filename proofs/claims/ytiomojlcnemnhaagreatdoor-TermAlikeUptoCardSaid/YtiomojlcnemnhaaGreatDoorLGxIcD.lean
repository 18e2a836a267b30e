import Derived.Test.YtiomojlcnemnhaaGreatDoorLFxZ
import Derived.Test.YtiomojlcnemnhaaGreatDoorProg
import Derived.KernelRfl
namespace Go.Proofs.YtiomojlcnemnhaaGreatDoor
open Go.Fx
def ic119l0 : IC :=
 (.seq
 (.seq
 (.region [] [] [0, 2, 6, 5, 1, 20, 4] [⟨some 11, (.move (.t 6)), none, none⟩,⟨some 12, (.faddr 2 (.t 2)), none, none⟩,⟨some 13, (.load none (.t 12)), none, none⟩,⟨some 14, (.len (.t 13)), none, none⟩,⟨some 15, (.bin .lss (.t 11) (.t 14)), none, none⟩,⟨some 16, (.move (.t 15)), none, none⟩,⟨some 17, (.move (.t 5)), some (16, true), none⟩,⟨some 18, (.move (.t 1)), some (16, true), none⟩,⟨some 19, (.bin .leq (.t 17) (.t 18)), some (16, true), none⟩,⟨some 20, (.pick (.t 16) (.t 19) (.k (rB false))), none, none⟩])
 (.cond (.t 20)
 .skip
 (.exit 0)))
 (.seq
 (.block 1
 (.region [] [] [0, 2, 6, 5, 1, 20, 4] [⟨some 23, (.move (.t 5)), none, none⟩,⟨some 24, (.faddr 2 (.t 2)), none, none⟩,⟨some 25, (.load none (.t 24)), none, none⟩,⟨some 26, (.move (.t 6)), none, none⟩,⟨some 27, (.iaddr 16 (.t 25) (.t 26)), none, none⟩,⟨some 28, (.load (some 16) (.t 27)), none, none⟩,⟨some 29, (.move (.t 1)), none, none⟩,⟨some 30, (.move (.t 5)), none, none⟩,⟨some 31, (.bin .sub (.t 29) (.t 30)), none, none⟩,⟨some 32, (.callp (.k (rF 170)) [(.t 28), (.t 31)]), none, none⟩,⟨some 33, (.bin .add (.t 23) (.t 32)), none, none⟩,⟨some 5, (.move (.t 33)), none, none⟩]))
 (.region [] [] [0, 2, 6, 5, 1, 20, 4] [⟨some 21, (.move (.t 6)), none, none⟩,⟨some 22, (.bin .add (.t 21) (.k (rI .i64 1))), none, none⟩,⟨some 6, (.move (.t 22)), none, none⟩])))
def ic119 : IC :=
 (.seq
 (.region [2] [] [0, 2, 6, 5, 1, 20, 4] [⟨some 2, (.box 29 (.t 0)), none, none⟩,⟨some 4, (.move (.k (rI .i64 0))), none, none⟩])
 (.seq
 (.region [] [] [0, 2, 6, 5, 1, 20, 4] [⟨some 7, (.faddr 1 (.t 2)), none, none⟩,⟨some 8, (.load none (.t 7)), none, none⟩,⟨some 9, (.len (.t 8)), none, none⟩,⟨some 10, (.bin .add (.k (rI .i64 1)) (.t 9)), none, none⟩,⟨some 5, (.move (.t 10)), none, none⟩])
 (.seq
 (.seq
 (.region [] [] [0, 2, 6, 5, 1, 20, 4] [⟨some 6, (.move (.k (rI .i64 0))), none, none⟩])
 (.block 0
 (.loop ic119l0)))
 (.seq
 (.region [] [] [0, 2, 6, 5, 1, 20, 4] [⟨some 34, (.move (.t 5)), none, none⟩,⟨some 4, (.move (.t 34)), none, none⟩])
 .ret))))
def ir119 : List IRes := [.tmp 4]
theorem ie119 : cmpFunc Go.Proofs.Tryz.prog ⟨[], []⟩ Go.Proofs.Tryz.f73 [0, 2, 6, 5, 1, 20, 4] = some ic119 := by kernel_rfl
theorem ig119 : cmpRes Go.Proofs.Tryz.prog Go.Proofs.Tryz.f73.results.toList = some ir119 := by kernel_rfl
def ic171 : IC :=
 (.seq
 (.region [2] [] [0, 2, 1, 5, 18, 4] [⟨some 2, (.box 107 (.t 0)), none, none⟩,⟨some 4, (.move (.k (rI .i64 0))), none, none⟩])
 (.seq
 (.region [] [] [0, 2, 1, 5, 18, 4] [⟨some 6, (.faddr 1 (.t 2)), none, none⟩,⟨some 7, (.faddr 1 (.t 6)), none, none⟩,⟨some 8, (.load none (.t 7)), none, none⟩,⟨some 9, (.len (.t 8)), none, none⟩,⟨some 10, (.bin .add (.k (rI .i64 1)) (.t 9)), none, none⟩,⟨some 11, (.faddr 4 (.t 2)), none, none⟩,⟨some 12, (.load (some 6) (.t 11)), none, none⟩,⟨some 13, (.move (.t 1)), none, none⟩,⟨some 14, (.callp (.k (rF 247)) [(.t 12), (.t 13)]), none, none⟩,⟨some 15, (.bin .add (.t 10) (.t 14)), none, none⟩,⟨some 5, (.move (.t 15)), none, none⟩])
 (.seq
 (.seq
 (.region [] [] [0, 2, 1, 5, 18, 4] [⟨some 16, (.move (.t 5)), none, none⟩,⟨some 17, (.move (.t 1)), none, none⟩,⟨some 18, (.bin .gtr (.t 16) (.t 17)), none, none⟩])
 (.cond (.t 18)
 (.seq
 (.region [] [] [0, 2, 1, 5, 18, 4] [⟨some 19, (.move (.t 1)), none, none⟩,⟨some 20, (.bin .add (.t 19) (.k (rI .i64 1))), none, none⟩,⟨some 4, (.move (.t 20)), none, none⟩])
 .ret)
 .skip))
 (.seq
 (.region [] [] [0, 2, 1, 5, 18, 4] [⟨some 21, (.move (.t 5)), none, none⟩,⟨some 22, (.faddr 10 (.t 2)), none, none⟩,⟨some 23, (.load (some 6) (.t 22)), none, none⟩,⟨some 24, (.move (.t 1)), none, none⟩,⟨some 25, (.move (.t 5)), none, none⟩,⟨some 26, (.bin .sub (.t 24) (.t 25)), none, none⟩,⟨some 27, (.callp (.k (rF 247)) [(.t 23), (.t 26)]), none, none⟩,⟨some 28, (.bin .add (.t 21) (.t 27)), none, none⟩,⟨some 4, (.move (.t 28)), none, none⟩])
 .ret))))
def ir171 : List IRes := [.tmp 4]
theorem ie171 : cmpFunc Go.Proofs.Tryz.prog ⟨[], []⟩ Go.Proofs.Tryz.f170 [0, 2, 1, 5, 18, 4] = some ic171 := by kernel_rfl
theorem ig171 : cmpRes Go.Proofs.Tryz.prog Go.Proofs.Tryz.f170.results.toList = some ir171 := by kernel_rfl
def ic94 : IC :=
 (.seq
 (.region [1] [] [0, 1, 2] [⟨some 1, (.box 105 (.t 0)), none, none⟩,⟨some 2, (.move (.k (rI .i64 0))), none, none⟩])
 (.seq
 (.region [] [] [0, 1, 2] [⟨some 3, (.load (some 6) (.t 1)), none, none⟩,⟨some 4, (.callp (.k (rF 278)) [(.t 3), (.k (rI .i64 8))]), none, none⟩,⟨some 5, (.callp (.k (rF 187)) [(.t 4)]), none, none⟩,⟨some 2, (.move (.t 5)), none, none⟩])
 .ret))
def ir94 : List IRes := [.tmp 2]
theorem ie94 : cmpFunc Go.Proofs.Tryz.prog ⟨[], []⟩ Go.Proofs.Tryz.f220 [0, 1, 2] = some ic94 := by kernel_rfl
theorem ig94 : cmpRes Go.Proofs.Tryz.prog Go.Proofs.Tryz.f220.results.toList = some ir94 := by kernel_rfl
def ic93l0 : IC :=
 (.seq
 (.seq
 (.region [] [] [0, 2, 6, 15, 5, 1, 7, 28, 9, 34, 8, 49, 10, 59, 4] [⟨some 52, (.move (.t 10)), none, none⟩,⟨some 53, (.move (.t 6)), none, none⟩,⟨some 54, (.move (.t 9)), none, none⟩,⟨some 55, (.iaddr 6 (.t 53) (.t 54)), none, none⟩,⟨some 56, (.faddr 5 (.t 55)), none, none⟩,⟨some 57, (.load none (.t 56)), none, none⟩,⟨some 58, (.len (.t 57)), none, none⟩,⟨some 59, (.bin .lss (.t 52) (.t 58)), none, none⟩])
 (.cond (.t 59)
 .skip
 (.exit 4)))
 (.seq
 (.block 5
 (.region [71] [] [0, 2, 6, 15, 5, 1, 7, 28, 9, 34, 8, 49, 10, 59, 4] [⟨some 62, (.move (.t 8)), none, none⟩,⟨some 63, (.move (.t 6)), none, none⟩,⟨some 64, (.move (.t 9)), none, none⟩,⟨some 65, (.iaddr 6 (.t 63) (.t 64)), none, none⟩,⟨some 66, (.faddr 5 (.t 65)), none, none⟩,⟨some 67, (.load none (.t 66)), none, none⟩,⟨some 68, (.move (.t 10)), none, none⟩,⟨some 69, (.iaddr 6 (.t 67) (.t 68)), none, none⟩,⟨some 70, (.load (some 6) (.t 69)), none, none⟩,⟨some 71, (.row 105 6 [(.t 70)]), none, none⟩,⟨some 72, (.app 105 6 80 (.t 62) (.t 71)), none, none⟩,⟨some 8, (.move (.t 72)), none, none⟩]))
 (.region [] [] [0, 2, 6, 15, 5, 1, 7, 28, 9, 34, 8, 49, 10, 59, 4] [⟨some 60, (.move (.t 10)), none, none⟩,⟨some 61, (.bin .add (.t 60) (.k (rI .i64 1))), none, none⟩,⟨some 10, (.move (.t 61)), none, none⟩])))
def ic93l1 : IC :=
 (.seq
 (.seq
 (.region [] [] [0, 2, 6, 15, 5, 1, 7, 28, 9, 34, 8, 49, 10, 59, 4] [⟨some 31, (.move (.t 9)), none, none⟩,⟨some 32, (.move (.t 6)), none, none⟩,⟨some 33, (.len (.t 32)), none, none⟩,⟨some 34, (.bin .lss (.t 31) (.t 33)), none, none⟩])
 (.cond (.t 34)
 .skip
 (.exit 2)))
 (.seq
 (.block 3
 (.seq
 (.seq
 (.region [] [] [0, 2, 6, 15, 5, 1, 7, 28, 9, 34, 8, 49, 10, 59, 4] [⟨some 37, (.move (.t 5)), none, none⟩,⟨some 38, (.move (.t 8)), none, none⟩,⟨some 39, (.len (.t 38)), none, none⟩,⟨some 40, (.bin .add (.t 37) (.t 39)), none, none⟩,⟨some 41, (.move (.t 6)), none, none⟩,⟨some 42, (.move (.t 9)), none, none⟩,⟨some 43, (.iaddr 6 (.t 41) (.t 42)), none, none⟩,⟨some 44, (.faddr 5 (.t 43)), none, none⟩,⟨some 45, (.load none (.t 44)), none, none⟩,⟨some 46, (.len (.t 45)), none, none⟩,⟨some 47, (.bin .add (.t 40) (.t 46)), none, none⟩,⟨some 48, (.move (.t 1)), none, none⟩,⟨some 49, (.bin .gtr (.t 47) (.t 48)), none, none⟩])
 (.cond (.t 49)
 (.seq
 (.region [] [] [0, 2, 6, 15, 5, 1, 7, 28, 9, 34, 8, 49, 10, 59, 4] [⟨some 50, (.move (.t 1)), none, none⟩,⟨some 51, (.bin .add (.t 50) (.k (rI .i64 1))), none, none⟩,⟨some 4, (.move (.t 51)), none, none⟩])
 .ret)
 .skip))
 (.seq
 (.region [] [] [0, 2, 6, 15, 5, 1, 7, 28, 9, 34, 8, 49, 10, 59, 4] [⟨some 10, (.move (.k (rI .i64 0))), none, none⟩])
 (.block 4
 (.loop ic93l0)))))
 (.region [] [] [0, 2, 6, 15, 5, 1, 7, 28, 9, 34, 8, 49, 10, 59, 4] [⟨some 35, (.move (.t 9)), none, none⟩,⟨some 36, (.bin .add (.t 35) (.k (rI .i64 1))), none, none⟩,⟨some 9, (.move (.t 36)), none, none⟩])))
def ic93l2 : IC :=
 (.seq
 (.seq
 (.region [] [] [0, 2, 6, 15, 5, 1, 7, 28, 9, 34, 8, 49, 10, 59, 4] [⟨some 13, (.move (.t 6)), none, none⟩,⟨some 14, (.len (.t 13)), none, none⟩,⟨some 15, (.bin .gtr (.t 14) (.k (rI .i64 0))), none, none⟩])
 (.cond (.t 15)
 .skip
 (.exit 0)))
 (.seq
 (.block 1
 (.seq
 (.region [] [] [0, 2, 6, 15, 5, 1, 7, 28, 9, 34, 8, 49, 10, 59, 4] [⟨some 18, (.move (.t 5)), none, none⟩,⟨some 19, (.move (.t 6)), none, none⟩,⟨some 20, (.len (.t 19)), none, none⟩,⟨some 21, (.bin .add (.t 18) (.t 20)), none, none⟩,⟨some 5, (.move (.t 21)), none, none⟩])
 (.seq
 (.seq
 (.region [] [] [0, 2, 6, 15, 5, 1, 7, 28, 9, 34, 8, 49, 10, 59, 4] [⟨some 22, (.move (.t 5)), none, none⟩,⟨some 23, (.move (.t 1)), none, none⟩,⟨some 24, (.bin .gtr (.t 22) (.t 23)), none, none⟩,⟨some 25, (.move (.t 24)), none, none⟩,⟨some 26, (.move (.t 7)), some (25, false), none⟩,⟨some 27, (.bin .gtr (.t 26) (.k (rI .i64 65536))), some (25, false), none⟩,⟨some 28, (.pick (.t 25) (.k (rB true)) (.t 27)), none, none⟩])
 (.cond (.t 28)
 (.seq
 (.region [] [] [0, 2, 6, 15, 5, 1, 7, 28, 9, 34, 8, 49, 10, 59, 4] [⟨some 29, (.move (.t 1)), none, none⟩,⟨some 30, (.bin .add (.t 29) (.k (rI .i64 1))), none, none⟩,⟨some 4, (.move (.t 30)), none, none⟩])
 .ret)
 .skip))
 (.seq
 (.region [] [] [0, 2, 6, 15, 5, 1, 7, 28, 9, 34, 8, 49, 10, 59, 4] [⟨some 8, (.move (.k (.x (.one .nil)))), none, none⟩])
 (.seq
 (.seq
 (.region [] [] [0, 2, 6, 15, 5, 1, 7, 28, 9, 34, 8, 49, 10, 59, 4] [⟨some 9, (.move (.k (rI .i64 0))), none, none⟩])
 (.block 2
 (.loop ic93l1)))
 (.region [] [] [0, 2, 6, 15, 5, 1, 7, 28, 9, 34, 8, 49, 10, 59, 4] [⟨some 73, (.move (.t 8)), none, none⟩,⟨some 6, (.move (.t 73)), none, none⟩]))))))
 (.region [] [] [0, 2, 6, 15, 5, 1, 7, 28, 9, 34, 8, 49, 10, 59, 4] [⟨some 16, (.move (.t 7)), none, none⟩,⟨some 17, (.bin .add (.t 16) (.k (rI .i64 1))), none, none⟩,⟨some 7, (.move (.t 17)), none, none⟩])))
def ic93 : IC :=
 (.seq
 (.region [2] [] [0, 2, 6, 15, 5, 1, 7, 28, 9, 34, 8, 49, 10, 59, 4] [⟨some 2, (.box 105 (.t 0)), none, none⟩,⟨some 4, (.move (.k (rI .i64 0))), none, none⟩])
 (.seq
 (.region [] [] [0, 2, 6, 15, 5, 1, 7, 28, 9, 34, 8, 49, 10, 59, 4] [⟨some 5, (.move (.k (rI .i64 0))), none, none⟩])
 (.seq
 (.region [12] [] [0, 2, 6, 15, 5, 1, 7, 28, 9, 34, 8, 49, 10, 59, 4] [⟨some 11, (.load (some 6) (.t 2)), none, none⟩,⟨some 12, (.row 105 6 [(.t 11)]), none, none⟩,⟨some 6, (.move (.t 12)), none, none⟩])
 (.seq
 (.seq
 (.region [] [] [0, 2, 6, 15, 5, 1, 7, 28, 9, 34, 8, 49, 10, 59, 4] [⟨some 7, (.move (.k (rI .i64 0))), none, none⟩])
 (.block 0
 (.loop ic93l2)))
 (.seq
 (.region [] [] [0, 2, 6, 15, 5, 1, 7, 28, 9, 34, 8, 49, 10, 59, 4] [⟨some 74, (.move (.t 5)), none, none⟩,⟨some 4, (.move (.t 74)), none, none⟩])
 .ret)))))
def ir93 : List IRes := [.tmp 4]
theorem ie93 : cmpFunc Go.Proofs.Tryz.prog ⟨[], []⟩ Go.Proofs.Tryz.f247 [0, 2, 6, 15, 5, 1, 7, 28, 9, 34, 8, 49, 10, 59, 4] = some ic93 := by kernel_rfl
theorem ig93 : cmpRes Go.Proofs.Tryz.prog Go.Proofs.Tryz.f247.results.toList = some ir93 := by kernel_rfl
def ic181 : IC :=
 (.seq
 (.region [1] [] [0, 1, 3, 2] [⟨some 1, (.box 105 (.t 0)), none, none⟩,⟨some 2, (.move (.k (rB false))), none, none⟩])
 (.seq
 (.region [3] [] [0, 1, 3, 2] [⟨some 4, (.build [(.c (.v (.string (bs [])))), (.c (.v (.int .i8 0))), (.c (.v (.int .i64 0))), (.c (.v (.string (bs []))))] []), none, none⟩,⟨some 3, (.zero 73 [(.c (.v (.string (bs [])))), (.c (.v (.int .i8 0))), (.c (.v (.int .i64 0))), (.c (.v (.string (bs []))))]), none, none⟩,⟨none, (.store (some 4) (.t 3) (.t 4)), none, none⟩])
 (.seq
 (.region [] [] [0, 1, 3, 2] [⟨some 5, (.faddr 0 (.t 1)), none, none⟩,⟨some 6, (.load none (.t 5)), none, none⟩,⟨some 7, (.bin .eql (.t 6) (.k (rI .i8 0))), none, none⟩,⟨some 8, (.move (.t 7)), none, none⟩,⟨some 9, (.faddr 1 (.t 1)), some (8, true), none⟩,⟨some 10, (.load (some 4) (.t 9)), some (8, true), none⟩,⟨some 11, (.load (some 4) (.t 3)), some (8, true), none⟩,⟨some 12, (.eqs false [.s, .i .i8, .i .i64, .s] (.t 10) (.t 11)), some (8, true), none⟩,⟨some 13, (.pick (.t 8) (.t 12) (.k (rB false))), none, none⟩,⟨some 14, (.move (.t 13)), none, none⟩,⟨some 15, (.faddr 5 (.t 1)), some (14, true), none⟩,⟨some 16, (.load none (.t 15)), some (14, true), none⟩,⟨some 17, (.len (.t 16)), some (14, true), none⟩,⟨some 18, (.bin .eql (.t 17) (.k (rI .i64 0))), some (14, true), none⟩,⟨some 19, (.pick (.t 14) (.t 18) (.k (rB false))), none, none⟩,⟨some 2, (.move (.t 19)), none, none⟩])
 .ret)))
def ir181 : List IRes := [.tmp 2]
theorem ie181 : cmpFunc Go.Proofs.Tryz.prog ⟨[], []⟩ Go.Proofs.Tryz.f252 [0, 1, 3, 2] = some ic181 := by kernel_rfl
theorem ig181 : cmpRes Go.Proofs.Tryz.prog Go.Proofs.Tryz.f252.results.toList = some ir181 := by kernel_rfl
abbrev ks97 (t0 t1 t8 t2 t11 t5 t40 t6 t45 t56 t4 : T) (O : List (Nat × Box)) (U : List (Nat × Fx.Tok)) (H : FHp) : S := st [(0, t0), (1, t1), (8, t8), (2, t2), (11, t11), (5, t5), (40, t40), (6, t6), (45, t45), (56, t56), (4, t4)] O U H
def ic97l0 : IC :=
 (.seq
 (.seq
 (.region [] [] [0, 1, 8, 2, 11, 5, 40, 6, 45, 56, 4] [⟨some 41, (.move (.t 6)), none, none⟩,⟨some 42, (.faddr 5 (.t 2)), none, none⟩,⟨some 43, (.load none (.t 42)), none, none⟩,⟨some 44, (.len (.t 43)), none, none⟩,⟨some 45, (.bin .lss (.t 41) (.t 44)), none, none⟩])
 (.cond (.t 45)
 .skip
 (.exit 0)))
 (.seq
 (.block 1
 (.seq
 (.region [] [] [0, 1, 8, 2, 11, 5, 40, 6, 45, 56, 4] [⟨some 48, (.faddr 5 (.t 2)), none, none⟩,⟨some 49, (.load none (.t 48)), none, none⟩,⟨some 50, (.move (.t 6)), none, none⟩,⟨some 51, (.iaddr 6 (.t 49) (.t 50)), none, none⟩,⟨some 52, (.load (some 6) (.t 51)), none, none⟩,⟨some 53, (.move (.t 1)), none, none⟩,⟨some 54, (.bin .sub (.t 53) (.k (rI .i64 1))), none, none⟩,⟨some 55, (.callp (.k (rF 253)) [(.t 52), (.t 54)]), none, none⟩,⟨some 56, (.un .not (.t 55)), none, none⟩])
 (.cond (.t 56)
 (.seq
 (.region [] [] [0, 1, 8, 2, 11, 5, 40, 6, 45, 56, 4] [⟨some 4, (.move (.k (rB false))), none, none⟩])
 .ret)
 .skip)))
 (.region [] [] [0, 1, 8, 2, 11, 5, 40, 6, 45, 56, 4] [⟨some 46, (.move (.t 6)), none, none⟩,⟨some 47, (.bin .add (.t 46) (.k (rI .i64 1))), none, none⟩,⟨some 6, (.move (.t 47)), none, none⟩])))
def ic97 : IC :=
 (.seq
 (.region [2] [] [0, 1, 8, 2, 11, 5, 40, 6, 45, 56, 4] [⟨some 2, (.box 105 (.t 0)), none, none⟩,⟨some 4, (.move (.k (rB false))), none, none⟩])
 (.seq
 (.seq
 (.region [] [] [0, 1, 8, 2, 11, 5, 40, 6, 45, 56, 4] [⟨some 7, (.move (.t 1)), none, none⟩,⟨some 8, (.bin .eql (.t 7) (.k (rI .i64 0))), none, none⟩])
 (.cond (.t 8)
 (.seq
 (.region [] [] [0, 1, 8, 2, 11, 5, 40, 6, 45, 56, 4] [⟨some 4, (.move (.k (rB false))), none, none⟩])
 .ret)
 .skip))
 (.seq
 (.seq
 (.region [] [] [0, 1, 8, 2, 11, 5, 40, 6, 45, 56, 4] [⟨some 9, (.faddr 0 (.t 2)), none, none⟩,⟨some 10, (.load none (.t 9)), none, none⟩,⟨some 11, (.bin .eql (.t 10) (.k (rI .i8 0))), none, none⟩])
 (.cond (.t 11)
 (.seq
 (.region [] [] [0, 1, 8, 2, 11, 5, 40, 6, 45, 56, 4] [⟨some 12, (.faddr 5 (.t 2)), none, none⟩,⟨some 13, (.load none (.t 12)), none, none⟩,⟨some 14, (.len (.t 13)), none, none⟩,⟨some 15, (.bin .eql (.t 14) (.k (rI .i64 0))), none, none⟩,⟨some 16, (.move (.t 15)), none, none⟩,⟨some 17, (.faddr 1 (.t 2)), some (16, true), none⟩,⟨some 18, (.faddr 0 (.t 17)), some (16, true), none⟩,⟨some 19, (.load none (.t 18)), some (16, true), none⟩,⟨some 20, (.bin .neq (.t 19) (.k (rS (bs [95])))), some (16, true), none⟩,⟨some 21, (.pick (.t 16) (.t 20) (.k (rB false))), none, none⟩,⟨some 22, (.move (.t 21)), none, none⟩,⟨some 23, (.faddr 1 (.t 2)), some (22, true), none⟩,⟨some 24, (.load (some 4) (.t 23)), some (22, true), none⟩,⟨some 25, (.callp (.k (rF 250)) [(.t 24)]), some (22, true), none⟩,⟨some 26, (.pick (.t 22) (.t 25) (.k (rB false))), none, none⟩,⟨some 4, (.move (.t 26)), none, none⟩])
 .ret)
 .skip))
 (.seq
 (.region [5] [] [0, 1, 8, 2, 11, 5, 40, 6, 45, 56, 4] [⟨some 27, (.build [(.c (.v (.string (bs [])))), (.c (.v (.int .i8 0))), (.c (.v (.int .i64 0))), (.c (.v (.string (bs []))))] []), none, none⟩,⟨some 5, (.zero 73 [(.c (.v (.string (bs [])))), (.c (.v (.int .i8 0))), (.c (.v (.int .i64 0))), (.c (.v (.string (bs []))))]), none, none⟩,⟨none, (.store (some 4) (.t 5) (.t 27)), none, none⟩])
 (.seq
 (.seq
 (.region [] [] [0, 1, 8, 2, 11, 5, 40, 6, 45, 56, 4] [⟨some 28, (.faddr 1 (.t 2)), none, none⟩,⟨some 29, (.load (some 4) (.t 28)), none, none⟩,⟨some 30, (.load (some 4) (.t 5)), none, none⟩,⟨some 31, (.eqs true [.s, .i .i8, .i .i64, .s] (.t 29) (.t 30)), none, none⟩,⟨some 32, (.move (.t 31)), none, none⟩,⟨some 33, (.faddr 5 (.t 2)), some (32, false), none⟩,⟨some 34, (.load none (.t 33)), some (32, false), none⟩,⟨some 35, (.len (.t 34)), some (32, false), none⟩,⟨some 36, (.faddr 0 (.t 2)), some (32, false), none⟩,⟨some 37, (.load none (.t 36)), some (32, false), none⟩,⟨some 38, (.callp (.k (rF 298)) [(.t 37)]), some (32, false), none⟩,⟨some 39, (.bin .neq (.t 35) (.t 38)), some (32, false), none⟩,⟨some 40, (.pick (.t 32) (.k (rB true)) (.t 39)), none, none⟩])
 (.cond (.t 40)
 (.seq
 (.region [] [] [0, 1, 8, 2, 11, 5, 40, 6, 45, 56, 4] [⟨some 4, (.move (.k (rB false))), none, none⟩])
 .ret)
 .skip))
 (.seq
 (.seq
 (.region [] [] [0, 1, 8, 2, 11, 5, 40, 6, 45, 56, 4] [⟨some 6, (.move (.k (rI .i64 0))), none, none⟩])
 (.block 0
 (.loop ic97l0)))
 (.seq
 (.region [] [] [0, 1, 8, 2, 11, 5, 40, 6, 45, 56, 4] [⟨some 4, (.move (.k (rB true))), none, none⟩])
 .ret)))))))
def ir97 : List IRes := [.tmp 4]
theorem ie97 : cmpFunc Go.Proofs.Tryz.prog ⟨[], []⟩ Go.Proofs.Tryz.f253 [0, 1, 8, 2, 11, 5, 40, 6, 45, 56, 4] = some ic97 := by kernel_rfl
theorem ig97 : cmpRes Go.Proofs.Tryz.prog Go.Proofs.Tryz.f253.results.toList = some ir97 := by kernel_rfl
def ic183 : IC :=
 (.seq
 (.region [1] [] [0, 1, 2] [⟨some 1, (.box 73 (.t 0)), none, none⟩,⟨some 2, (.move (.k (rB false))), none, none⟩])
 (.seq
 (.region [] [] [0, 1, 2] [⟨some 3, (.faddr 0 (.t 1)), none, none⟩,⟨some 4, (.load none (.t 3)), none, none⟩,⟨some 5, (.bin .neq (.t 4) (.k (rS (bs [95])))), none, none⟩,⟨some 6, (.move (.t 5)), none, none⟩,⟨some 7, (.load (some 4) (.t 1)), some (6, true), none⟩,⟨some 8, (.callp (.k (rF 208)) [(.t 7)]), some (6, true), none⟩,⟨some 9, (.bin .eql (.t 8) (.k (rI .i64 0))), some (6, true), none⟩,⟨some 10, (.pick (.t 6) (.t 9) (.k (rB false))), none, none⟩,⟨some 2, (.move (.t 10)), none, none⟩])
 .ret))
def ir183 : List IRes := [.tmp 2]
theorem ie183 : cmpFunc Go.Proofs.Tryz.prog ⟨[], []⟩ Go.Proofs.Tryz.f260 [0, 1, 2] = some ic183 := by kernel_rfl
theorem ig183 : cmpRes Go.Proofs.Tryz.prog Go.Proofs.Tryz.f260.results.toList = some ir183 := by kernel_rfl
def ic180 : IC :=
 (.seq
 (.region [1] [] [0, 1, 2] [⟨some 1, (.box 73 (.t 0)), none, none⟩,⟨some 2, (.move (.k (rB false))), none, none⟩])
 (.seq
 (.region [] [] [0, 1, 2] [⟨some 3, (.load (some 4) (.t 1)), none, none⟩,⟨some 4, (.build [(.c (.v (.string (bs [])))), (.c (.v (.int .i8 0))), (.c (.v (.int .i64 0))), (.c (.v (.string (bs []))))] []), none, none⟩,⟨some 5, (.eqs false [.s, .i .i8, .i .i64, .s] (.t 3) (.t 4)), none, none⟩,⟨some 2, (.move (.t 5)), none, none⟩])
 .ret))
def ir180 : List IRes := [.tmp 2]
theorem ie180 : cmpFunc Go.Proofs.Tryz.prog ⟨[], []⟩ Go.Proofs.Tryz.f261 [0, 1, 2] = some ic180 := by kernel_rfl
theorem ig180 : cmpRes Go.Proofs.Tryz.prog Go.Proofs.Tryz.f261.results.toList = some ir180 := by kernel_rfl
def ic130 : IC :=
 (.seq
 (.region [1] [] [0, 1, 2] [⟨some 1, (.box 105 (.t 0)), none, none⟩,⟨some 2, (.move (.k (rB false))), none, none⟩])
 (.seq
 (.region [] [] [0, 1, 2] [⟨some 3, (.faddr 0 (.t 1)), none, none⟩,⟨some 4, (.load none (.t 3)), none, none⟩,⟨some 5, (.bin .eql (.t 4) (.k (rI .i8 0))), none, none⟩,⟨some 6, (.move (.t 5)), none, none⟩,⟨some 7, (.faddr 1 (.t 1)), some (6, true), none⟩,⟨some 8, (.load (some 4) (.t 7)), some (6, true), none⟩,⟨some 9, (.callp (.k (rF 261)) [(.t 8)]), some (6, true), none⟩,⟨some 10, (.pick (.t 6) (.t 9) (.k (rB false))), none, none⟩,⟨some 11, (.move (.t 10)), none, none⟩,⟨some 12, (.faddr 5 (.t 1)), some (11, true), none⟩,⟨some 13, (.load none (.t 12)), some (11, true), none⟩,⟨some 14, (.len (.t 13)), some (11, true), none⟩,⟨some 15, (.bin .eql (.t 14) (.k (rI .i64 0))), some (11, true), none⟩,⟨some 16, (.pick (.t 11) (.t 15) (.k (rB false))), none, none⟩,⟨some 2, (.move (.t 16)), none, none⟩])
 .ret))
def ir130 : List IRes := [.tmp 2]
theorem ie130 : cmpFunc Go.Proofs.Tryz.prog ⟨[], []⟩ Go.Proofs.Tryz.f262 [0, 1, 2] = some ic130 := by kernel_rfl
theorem ig130 : cmpRes Go.Proofs.Tryz.prog Go.Proofs.Tryz.f262.results.toList = some ir130 := by kernel_rfl
def ic158 : IC :=
 (.seq
 (.region [2, 3] [] [0, 1, 3, 6, 2, 9, 31, 4] [⟨some 2, (.box 105 (.t 0)), none, none⟩,⟨some 3, (.box 3 (.t 1)), none, none⟩,⟨some 4, (.move (.k (rB false))), none, none⟩])
 (.seq
 (.seq
 (.region [] [] [0, 1, 3, 6, 2, 9, 31, 4] [⟨some 5, (.load none (.t 3)), none, none⟩,⟨some 6, (.bin .eql (.t 5) (.k (rI .i64 0))), none, none⟩])
 (.cond (.t 6)
 (.seq
 (.region [] [] [0, 1, 3, 6, 2, 9, 31, 4] [⟨some 4, (.move (.k (rB false))), none, none⟩])
 .ret)
 .skip))
 (.seq
 (.seq
 (.region [] [] [0, 1, 3, 6, 2, 9, 31, 4] [⟨some 7, (.faddr 0 (.t 2)), none, none⟩,⟨some 8, (.load none (.t 7)), none, none⟩,⟨some 9, (.bin .eql (.t 8) (.k (rI .i8 0))), none, none⟩])
 (.cond (.t 9)
 (.seq
 (.region [] [] [0, 1, 3, 6, 2, 9, 31, 4] [⟨some 10, (.faddr 5 (.t 2)), none, none⟩,⟨some 11, (.load none (.t 10)), none, none⟩,⟨some 12, (.len (.t 11)), none, none⟩,⟨some 13, (.bin .eql (.t 12) (.k (rI .i64 0))), none, none⟩,⟨some 14, (.move (.t 13)), none, none⟩,⟨some 15, (.faddr 1 (.t 2)), some (14, true), none⟩,⟨some 16, (.load (some 4) (.t 15)), some (14, true), none⟩,⟨some 17, (.callp (.k (rF 260)) [(.t 16)]), some (14, true), none⟩,⟨some 18, (.pick (.t 14) (.t 17) (.k (rB false))), none, none⟩,⟨some 4, (.move (.t 18)), none, none⟩])
 .ret)
 .skip))
 (.seq
 (.seq
 (.region [] [] [0, 1, 3, 6, 2, 9, 31, 4] [⟨some 19, (.faddr 1 (.t 2)), none, none⟩,⟨some 20, (.load (some 4) (.t 19)), none, none⟩,⟨some 21, (.callp (.k (rF 261)) [(.t 20)]), none, none⟩,⟨some 22, (.un .not (.t 21)), none, none⟩,⟨some 23, (.move (.t 22)), none, none⟩,⟨some 24, (.faddr 5 (.t 2)), some (23, false), none⟩,⟨some 25, (.load none (.t 24)), some (23, false), none⟩,⟨some 26, (.len (.t 25)), some (23, false), none⟩,⟨some 27, (.faddr 0 (.t 2)), some (23, false), none⟩,⟨some 28, (.load none (.t 27)), some (23, false), none⟩,⟨some 29, (.callp (.k (rF 316)) [(.t 28)]), some (23, false), none⟩,⟨some 30, (.bin .neq (.t 26) (.t 29)), some (23, false), none⟩,⟨some 31, (.pick (.t 23) (.k (rB true)) (.t 30)), none, none⟩])
 (.cond (.t 31)
 (.seq
 (.region [] [] [0, 1, 3, 6, 2, 9, 31, 4] [⟨some 4, (.move (.k (rB false))), none, none⟩])
 .ret)
 .skip))
 (.seq
 (.region [] [] [0, 1, 3, 6, 2, 9, 31, 4] [⟨some 32, (.faddr 5 (.t 2)), none, none⟩,⟨some 33, (.load none (.t 32)), none, none⟩,⟨some 34, (.clo 318 [] [(.t 3)]), none, none⟩,⟨some 35, (.call (.k (rF 317)) [(.t 33), (.t 34)]), none, none⟩,⟨some 36, (.un .not (.t 35)), none, none⟩,⟨some 4, (.move (.t 36)), none, none⟩])
 .ret)))))
def ir158 : List IRes := [.tmp 4]
theorem ie158 : cmpFunc Go.Proofs.Tryz.prog ⟨[(35, none)], []⟩ Go.Proofs.Tryz.f278 [0, 1, 3, 6, 2, 9, 31, 4] = some ic158 := by kernel_rfl
theorem ig158 : cmpRes Go.Proofs.Tryz.prog Go.Proofs.Tryz.f278.results.toList = some ir158 := by kernel_rfl
def ic160 : IC :=
 (.seq
 (.region [] [] [0, 3, 14, 2] [⟨some 2, (.move (.k (rI .i64 0))), none, none⟩])
 (.seq
 (.block 0
 (.seq
 (.region [] [] [0, 3, 14, 2] [⟨some 4, (.move (.t 0)), none, none⟩,⟨some 5, (.bin .eql (.t 4) (.k (rI .i8 1))), none, none⟩,⟨some 6, (.move (.t 5)), none, none⟩,⟨some 7, (.move (.t 0)), some (6, false), none⟩,⟨some 8, (.bin .geq (.t 7) (.k (rI .i8 8))), some (6, false), none⟩,⟨some 9, (.move (.t 8)), some (6, false), none⟩,⟨some 10, (.move (.t 0)), some (9, true), none⟩,⟨some 11, (.bin .leq (.t 10) (.k (rI .i8 10))), some (9, true), none⟩,⟨some 12, (.pick (.t 9) (.t 11) (.k (rB false))), some (6, false), none⟩,⟨some 13, (.pick (.t 6) (.k (rB true)) (.t 12)), none, none⟩,⟨some 3, (.move (.t 13)), none, none⟩])
 (.cond (.t 3)
 (.seq
 (.region [] [] [0, 3, 14, 2] [⟨some 2, (.move (.k (rI .i64 1))), none, none⟩])
 .ret)
 (.seq
 (.region [] [] [0, 3, 14, 2] [⟨some 15, (.move (.t 0)), none, none⟩,⟨some 16, (.bin .geq (.t 15) (.k (rI .i8 2))), none, none⟩,⟨some 17, (.move (.t 16)), none, none⟩,⟨some 18, (.move (.t 0)), some (17, true), none⟩,⟨some 19, (.bin .leq (.t 18) (.k (rI .i8 7))), some (17, true), none⟩,⟨some 20, (.pick (.t 17) (.t 19) (.k (rB false))), none, none⟩,⟨some 14, (.move (.t 20)), none, none⟩])
 (.cond (.t 14)
 (.seq
 (.region [] [] [0, 3, 14, 2] [⟨some 2, (.move (.k (rI .i64 2))), none, none⟩])
 .ret)
 .skip)))))
 (.seq
 (.region [] [] [0, 3, 14, 2] [⟨some 2, (.move (.k (rI .i64 (-1)))), none, none⟩])
 .ret)))
def ir160 : List IRes := [.tmp 2]
theorem ie160 : cmpFunc Go.Proofs.Tryz.prog ⟨[], []⟩ Go.Proofs.Tryz.f298 [0, 3, 14, 2] = some ic160 := by kernel_rfl
theorem ig160 : cmpRes Go.Proofs.Tryz.prog Go.Proofs.Tryz.f298.results.toList = some ir160 := by kernel_rfl
def ic204 : IC :=
 (.seq
 (.region [] [] [0, 3, 4, 9, 2] [⟨some 2, (.move (.k (rI .i64 0))), none, none⟩])
 (.seq
 (.seq
 (.region [] [] [0, 3, 4, 9, 2] [⟨some 3, (.move (.t 0)), none, none⟩])
 (.block 0
 (.seq
 (.seq
 (.region [] [] [0, 3, 4, 9, 2] [⟨some 5, (.bin .eql (.t 3) (.k (rI .i8 1))), none, none⟩,⟨some 4, (.move (.t 5)), none, none⟩])
 (.cond (.t 4)
 .skip
 (.seq
 (.region [] [] [0, 3, 4, 9, 2] [⟨some 6, (.bin .eql (.t 3) (.k (rI .i8 8))), none, none⟩,⟨some 4, (.move (.t 6)), none, none⟩])
 (.cond (.t 4)
 .skip
 (.seq
 (.region [] [] [0, 3, 4, 9, 2] [⟨some 7, (.bin .eql (.t 3) (.k (rI .i8 9))), none, none⟩,⟨some 4, (.move (.t 7)), none, none⟩])
 (.cond (.t 4)
 .skip
 (.region [] [] [0, 3, 4, 9, 2] [⟨some 8, (.bin .eql (.t 3) (.k (rI .i8 10))), none, none⟩,⟨some 4, (.move (.t 8)), none, none⟩])))))))
 (.cond (.t 4)
 (.seq
 (.region [] [] [0, 3, 4, 9, 2] [⟨some 2, (.move (.k (rI .i64 1))), none, none⟩])
 .ret)
 (.seq
 (.seq
 (.region [] [] [0, 3, 4, 9, 2] [⟨some 10, (.bin .eql (.t 3) (.k (rI .i8 2))), none, none⟩,⟨some 9, (.move (.t 10)), none, none⟩])
 (.cond (.t 9)
 .skip
 (.seq
 (.region [] [] [0, 3, 4, 9, 2] [⟨some 11, (.bin .eql (.t 3) (.k (rI .i8 3))), none, none⟩,⟨some 9, (.move (.t 11)), none, none⟩])
 (.cond (.t 9)
 .skip
 (.seq
 (.region [] [] [0, 3, 4, 9, 2] [⟨some 12, (.bin .eql (.t 3) (.k (rI .i8 4))), none, none⟩,⟨some 9, (.move (.t 12)), none, none⟩])
 (.cond (.t 9)
 .skip
 (.seq
 (.region [] [] [0, 3, 4, 9, 2] [⟨some 13, (.bin .eql (.t 3) (.k (rI .i8 5))), none, none⟩,⟨some 9, (.move (.t 13)), none, none⟩])
 (.cond (.t 9)
 .skip
 (.seq
 (.region [] [] [0, 3, 4, 9, 2] [⟨some 14, (.bin .eql (.t 3) (.k (rI .i8 6))), none, none⟩,⟨some 9, (.move (.t 14)), none, none⟩])
 (.cond (.t 9)
 .skip
 (.region [] [] [0, 3, 4, 9, 2] [⟨some 15, (.bin .eql (.t 3) (.k (rI .i8 7))), none, none⟩,⟨some 9, (.move (.t 15)), none, none⟩])))))))))))
 (.cond (.t 9)
 (.seq
 (.region [] [] [0, 3, 4, 9, 2] [⟨some 2, (.move (.k (rI .i64 2))), none, none⟩])
 .ret)
 .skip))))))
 (.seq
 (.region [] [] [0, 3, 4, 9, 2] [⟨some 2, (.move (.k (rI .i64 (-1)))), none, none⟩])
 .ret)))
def ir204 : List IRes := [.tmp 2]
theorem ie204 : cmpFunc Go.Proofs.Tryz.prog ⟨[], []⟩ Go.Proofs.Tryz.f316 [0, 3, 4, 9, 2] = some ic204 := by kernel_rfl
theorem ig204 : cmpRes Go.Proofs.Tryz.prog Go.Proofs.Tryz.f316.results.toList = some ir204 := by kernel_rfl
def ic205 : IC :=
 (.seq
 (.region [] [] [0, 1, 4] [⟨some 4, (.move (.k (rB false))), none, none⟩])
 (.seq
 (.region [] [] [0, 1, 4] [⟨some 5, (.move (.t 0)), none, none⟩,⟨some 6, (.move (.t 1)), none, none⟩,⟨some 7, (.call (.k (rF 345)) [(.t 5), (.t 6)]), none, none⟩,⟨some 8, (.bin .geq (.t 7) (.k (rI .i64 0))), none, none⟩,⟨some 4, (.move (.t 8)), none, none⟩])
 .ret))
def ir205 : List IRes := [.tmp 4]
theorem ie205 : cmpFunc Go.Proofs.Tryz.prog ⟨[(7, none)], []⟩ Go.Proofs.Tryz.f317 [0, 1, 4] = some ic205 := by kernel_rfl
theorem ig205 : cmpRes Go.Proofs.Tryz.prog Go.Proofs.Tryz.f317.results.toList = some ir205 := by kernel_rfl
def ic206 : IC :=
 (.seq
 (.region [2] [] [0, 2, 1, 3] [⟨some 2, (.box 105 (.t 0)), none, none⟩,⟨some 3, (.move (.k (rB false))), none, none⟩])
 (.seq
 (.region [] [] [0, 2, 1, 3] [⟨some 4, (.load (some 6) (.t 2)), none, none⟩,⟨some 5, (.load none (.t 1)), none, none⟩,⟨some 6, (.bin .sub (.t 5) (.k (rI .i64 1))), none, none⟩,⟨some 7, (.callp (.k (rF 278)) [(.t 4), (.t 6)]), none, none⟩,⟨some 8, (.un .not (.t 7)), none, none⟩,⟨some 3, (.move (.t 8)), none, none⟩])
 .ret))
def ir206 : List IRes := [.tmp 3]
theorem ie206 : cmpFunc Go.Proofs.Tryz.prog ⟨[], []⟩ Go.Proofs.Tryz.f318 [0, 2, 1, 3] = some ic206 := by kernel_rfl
theorem ig206 : cmpRes Go.Proofs.Tryz.prog Go.Proofs.Tryz.f318.results.toList = some ir206 := by kernel_rfl
abbrev ks223 (t0 t8 t7 t9 t1 t5 t16 t4 : T) (O : List (Nat × Box)) (U : List (Nat × Fx.Tok)) (H : FHp) : S := st [(0, t0), (8, t8), (7, t7), (9, t9), (1, t1), (5, t5), (16, t16), (4, t4)] O U H
def ic223l0 : IC :=
 (.seq
 (.region [] [] [0, 8, 7, 9, 1, 5, 16, 4] [⟨some 9, (.bin .lss (.t 8) (.t 7)), none, none⟩])
 (.seq
 (.cond (.t 9)
 .skip
 (.exit 0))
 (.seq
 (.block 1
 (.seq
 (.region [] [] [0, 8, 7, 9, 1, 5, 16, 4] [⟨some 10, (.move (.t 8)), none, none⟩,⟨some 5, (.move (.t 10)), none, none⟩])
 (.seq
 (.region [] [] [0, 8, 7, 9, 1, 5, 16, 4] [⟨some 11, (.move (.t 1)), none, none⟩,⟨some 12, (.move (.t 0)), none, none⟩,⟨some 13, (.move (.t 5)), none, none⟩,⟨some 14, (.iaddr 6 (.t 12) (.t 13)), none, none⟩,⟨some 15, (.load (some 6) (.t 14)), none, none⟩,⟨some 16, (.call (.t 11) [(.t 15)]), none, none⟩])
 (.cond (.t 16)
 (.seq
 (.region [] [] [0, 8, 7, 9, 1, 5, 16, 4] [⟨some 17, (.move (.t 5)), none, none⟩,⟨some 4, (.move (.t 17)), none, none⟩])
 .ret)
 .skip))))
 (.region [] [] [0, 8, 7, 9, 1, 5, 16, 4] [⟨some 18, (.bin .add (.t 8) (.k (rI .i64 1))), none, none⟩,⟨some 8, (.move (.t 18)), none, none⟩]))))
def ic223 : IC :=
 (.seq
 (.region [] [] [0, 8, 7, 9, 1, 5, 16, 4] [⟨some 4, (.move (.k (rI .i64 0))), none, none⟩])
 (.seq
 (.seq
 (.region [] [] [0, 8, 7, 9, 1, 5, 16, 4] [⟨some 6, (.move (.t 0)), none, none⟩,⟨some 7, (.len (.t 6)), none, none⟩,⟨some 8, (.move (.k (rI .i64 0))), none, none⟩])
 (.block 0
 (.loop ic223l0)))
 (.seq
 (.region [] [] [0, 8, 7, 9, 1, 5, 16, 4] [⟨some 4, (.move (.k (rI .i64 (-1)))), none, none⟩])
 .ret)))
def ir223 : List IRes := [.tmp 4]
theorem ie223 : cmpFunc Go.Proofs.Tryz.prog ⟨[(16, none)], []⟩ Go.Proofs.Tryz.f345 [0, 8, 7, 9, 1, 5, 16, 4] = some ic223 := by kernel_rfl
theorem ig223 : cmpRes Go.Proofs.Tryz.prog Go.Proofs.Tryz.f345.results.toList = some ir223 := by kernel_rfl
end Go.Proofs.YtiomojlcnemnhaaGreatDoor

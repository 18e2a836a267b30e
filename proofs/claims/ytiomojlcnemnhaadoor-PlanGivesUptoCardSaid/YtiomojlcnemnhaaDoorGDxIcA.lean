import Derived.Test.YtiomojlcnemnhaaDoorGFxWb
import Derived.Test.YtiomojlcnemnhaaDoorProg
import Derived.KernelRfl
namespace Go.Proofs.YtiomojlcnemnhaaDoor
open Go.Fx
def ic44 : IC :=
 (.seq
 (.region [1] [] [0, 1, 2] [⟨some 1, (.box 24 (.t 0)), none, none⟩,⟨some 2, (.move (.k (rI .i64 0))), none, none⟩])
 (.seq
 (.region [] [] [0, 1, 2] [⟨some 3, (.faddr 0 (.t 1)), none, none⟩,⟨some 4, (.load none (.t 3)), none, none⟩,⟨some 5, (.callp (.k (rF 114)) [(.t 4)]), none, none⟩,⟨some 6, (.move (.t 5)), none, none⟩,⟨some 7, (.faddr 1 (.t 1)), some (6, true), none⟩,⟨some 8, (.load none (.t 7)), some (6, true), none⟩,⟨some 9, (.len (.t 8)), some (6, true), none⟩,⟨some 10, (.bin .leq (.t 9) (.k (rI .i64 24))), some (6, true), none⟩,⟨some 11, (.pick (.t 6) (.t 10) (.k (rB false))), none, none⟩,⟨some 12, (.move (.t 11)), none, none⟩,⟨some 13, (.faddr 1 (.t 1)), some (12, true), none⟩,⟨some 14, (.load none (.t 13)), some (12, true), none⟩,⟨some 15, (.call (.k (rF 115)) [(.t 14), (.k (rF 116))]), some (12, true), none⟩,⟨some 16, (.un .not (.t 15)), some (12, true), none⟩,⟨some 17, (.pick (.t 12) (.t 16) (.k (rB false))), none, none⟩,⟨some 18, (.callp (.k (rF 113)) [(.t 17)]), none, none⟩,⟨some 2, (.move (.t 18)), none, none⟩])
 .ret))
def ir44 : List IRes := [.tmp 2]
theorem ie44 : cmpFunc Go.Proofs.Tryd.prog ⟨[(15, none)], []⟩ Go.Proofs.Tryd.f44 [0, 1, 2] = some ic44 := by kernel_rfl
theorem ig44 : cmpRes Go.Proofs.Tryd.prog Go.Proofs.Tryd.f44.results.toList = some ir44 := by kernel_rfl
def ic92 : IC :=
 (.seq
 (.region [1] [] [0, 1, 4, 5, 9, 10, 20, 2] [⟨some 1, (.box 39 (.t 0)), none, none⟩,⟨some 2, (.move (.k (rI .i64 0))), none, none⟩])
 (.seq
 (.seq
 (.region [] [] [0, 1, 4, 5, 9, 10, 20, 2] [⟨some 3, (.faddr 0 (.t 1)), none, none⟩,⟨some 4, (.load none (.t 3)), none, none⟩])
 (.block 0
 (.seq
 (.region [] [] [0, 1, 4, 5, 9, 10, 20, 2] [⟨some 6, (.bin .eql (.t 4) (.k (rI .i8 1))), none, none⟩,⟨some 5, (.move (.t 6)), none, none⟩])
 (.cond (.t 5)
 (.seq
 (.region [] [] [0, 1, 4, 5, 9, 10, 20, 2] [⟨some 7, (.faddr 2 (.t 1)), none, none⟩,⟨some 8, (.load none (.t 7)), none, none⟩,⟨some 9, (.bin .eql (.t 8) (.k (rS (bs [])))), none, none⟩])
 (.cond (.t 9)
 (.seq
 (.region [] [] [0, 1, 4, 5, 9, 10, 20, 2] [⟨some 2, (.move (.k (rI .i64 0))), none, none⟩])
 .ret)
 .skip))
 (.seq
 (.region [] [] [0, 1, 4, 5, 9, 10, 20, 2] [⟨some 11, (.bin .eql (.t 4) (.k (rI .i8 2))), none, none⟩,⟨some 10, (.move (.t 11)), none, none⟩])
 (.cond (.t 10)
 (.seq
 (.region [] [] [0, 1, 4, 5, 9, 10, 20, 2] [⟨some 12, (.faddr 1 (.t 1)), none, none⟩,⟨some 13, (.load none (.t 12)), none, none⟩,⟨some 14, (.bin .eql (.t 13) (.k (rI .i64 0))), none, none⟩,⟨some 15, (.move (.t 14)), none, none⟩,⟨some 16, (.faddr 2 (.t 1)), some (15, true), none⟩,⟨some 17, (.load none (.t 16)), some (15, true), none⟩,⟨some 18, (.slen (.t 17)), some (15, true), none⟩,⟨some 19, (.bin .leq (.t 18) (.k (rI .i64 200))), some (15, true), none⟩,⟨some 20, (.pick (.t 15) (.t 19) (.k (rB false))), none, none⟩])
 (.cond (.t 20)
 (.seq
 (.region [] [] [0, 1, 4, 5, 9, 10, 20, 2] [⟨some 2, (.move (.k (rI .i64 0))), none, none⟩])
 .ret)
 .skip))
 .skip))))))
 (.seq
 (.region [] [] [0, 1, 4, 5, 9, 10, 20, 2] [⟨some 2, (.move (.k (rI .i64 10))), none, none⟩])
 .ret)))
def ir92 : List IRes := [.tmp 2]
theorem ie92 : cmpFunc Go.Proofs.Tryd.prog ⟨[], []⟩ Go.Proofs.Tryd.f92 [0, 1, 4, 5, 9, 10, 20, 2] = some ic92 := by kernel_rfl
theorem ig92 : cmpRes Go.Proofs.Tryd.prog Go.Proofs.Tryd.f92.results.toList = some ir92 := by kernel_rfl
def ic113 : IC :=
 (.seq
 (.region [] [] [0, 3, 2] [⟨some 2, (.move (.k (rI .i64 0))), none, none⟩])
 (.seq
 (.seq
 (.region [] [] [0, 3, 2] [⟨some 3, (.move (.t 0)), none, none⟩])
 (.cond (.t 3)
 (.seq
 (.region [] [] [0, 3, 2] [⟨some 2, (.move (.k (rI .i64 0))), none, none⟩])
 .ret)
 .skip))
 (.seq
 (.region [] [] [0, 3, 2] [⟨some 2, (.move (.k (rI .i64 40))), none, none⟩])
 .ret)))
def ir113 : List IRes := [.tmp 2]
theorem ie113 : cmpFunc Go.Proofs.Tryd.prog ⟨[], []⟩ Go.Proofs.Tryd.f113 [0, 3, 2] = some ic113 := by kernel_rfl
theorem ig113 : cmpRes Go.Proofs.Tryd.prog Go.Proofs.Tryd.f113.results.toList = some ir113 := by kernel_rfl
def ic114 : IC :=
 (.seq
 (.region [] [] [0, 3, 4, 2] [⟨some 2, (.move (.k (rB false))), none, none⟩])
 (.seq
 (.seq
 (.region [] [] [0, 3, 4, 2] [⟨some 3, (.move (.t 0)), none, none⟩])
 (.block 0
 (.seq
 (.seq
 (.region [] [] [0, 3, 4, 2] [⟨some 5, (.bin .eql (.t 3) (.k (rS (bs [110, 111, 116])))), none, none⟩,⟨some 4, (.move (.t 5)), none, none⟩])
 (.cond (.t 4)
 .skip
 (.seq
 (.region [] [] [0, 3, 4, 2] [⟨some 6, (.bin .eql (.t 3) (.k (rS (bs [99, 111, 117, 110, 116])))), none, none⟩,⟨some 4, (.move (.t 6)), none, none⟩])
 (.cond (.t 4)
 .skip
 (.seq
 (.region [] [] [0, 3, 4, 2] [⟨some 7, (.bin .eql (.t 3) (.k (rS (bs [115, 117, 109])))), none, none⟩,⟨some 4, (.move (.t 7)), none, none⟩])
 (.cond (.t 4)
 .skip
 (.seq
 (.region [] [] [0, 3, 4, 2] [⟨some 8, (.bin .eql (.t 3) (.k (rS (bs [109, 105, 110])))), none, none⟩,⟨some 4, (.move (.t 8)), none, none⟩])
 (.cond (.t 4)
 .skip
 (.seq
 (.region [] [] [0, 3, 4, 2] [⟨some 9, (.bin .eql (.t 3) (.k (rS (bs [109, 97, 120])))), none, none⟩,⟨some 4, (.move (.t 9)), none, none⟩])
 (.cond (.t 4)
 .skip
 (.seq
 (.region [] [] [0, 3, 4, 2] [⟨some 10, (.bin .eql (.t 3) (.k (rS (bs [108, 101, 110])))), none, none⟩,⟨some 4, (.move (.t 10)), none, none⟩])
 (.cond (.t 4)
 .skip
 (.seq
 (.region [] [] [0, 3, 4, 2] [⟨some 11, (.bin .eql (.t 3) (.k (rS (bs [99, 104, 97, 114, 115])))), none, none⟩,⟨some 4, (.move (.t 11)), none, none⟩])
 (.cond (.t 4)
 .skip
 (.region [] [] [0, 3, 4, 2] [⟨some 12, (.bin .eql (.t 3) (.k (rS (bs [98, 97, 99, 107])))), none, none⟩,⟨some 4, (.move (.t 12)), none, none⟩])))))))))))))))
 (.cond (.t 4)
 (.seq
 (.region [] [] [0, 3, 4, 2] [⟨some 2, (.move (.k (rB false))), none, none⟩])
 .ret)
 .skip))))
 (.seq
 (.region [] [] [0, 3, 4, 2] [⟨some 13, (.move (.t 0)), none, none⟩,⟨some 14, (.callp (.k (rF 168)) [(.t 13), (.k (rI .u8 97)), (.k (rI .u8 122))]), none, none⟩,⟨some 2, (.move (.t 14)), none, none⟩])
 .ret)))
def ir114 : List IRes := [.tmp 2]
theorem ie114 : cmpFunc Go.Proofs.Tryd.prog ⟨[], []⟩ Go.Proofs.Tryd.f114 [0, 3, 4, 2] = some ic114 := by kernel_rfl
theorem ig114 : cmpRes Go.Proofs.Tryd.prog Go.Proofs.Tryd.f114.results.toList = some ir114 := by kernel_rfl
def ic115 : IC :=
 (.seq
 (.region [] [] [0, 1, 4] [⟨some 4, (.move (.k (rB false))), none, none⟩])
 (.seq
 (.region [] [] [0, 1, 4] [⟨some 5, (.move (.t 0)), none, none⟩,⟨some 6, (.move (.t 1)), none, none⟩,⟨some 7, (.call (.k (rF 169)) [(.t 5), (.t 6)]), none, none⟩,⟨some 8, (.bin .geq (.t 7) (.k (rI .i64 0))), none, none⟩,⟨some 4, (.move (.t 8)), none, none⟩])
 .ret))
def ir115 : List IRes := [.tmp 4]
theorem ie115 : cmpFunc Go.Proofs.Tryd.prog ⟨[(7, none)], []⟩ Go.Proofs.Tryd.f115 [0, 1, 4] = some ic115 := by kernel_rfl
theorem ig115 : cmpRes Go.Proofs.Tryd.prog Go.Proofs.Tryd.f115.results.toList = some ir115 := by kernel_rfl
def ic116 : IC :=
 (.seq
 (.region [1] [] [0, 1, 2] [⟨some 1, (.box 41 (.t 0)), none, none⟩,⟨some 2, (.move (.k (rB false))), none, none⟩])
 (.seq
 (.region [] [] [0, 1, 2] [⟨some 3, (.load (some 4) (.t 1)), none, none⟩,⟨some 4, (.callp (.k (rF 117)) [(.t 3)]), none, none⟩,⟨some 5, (.bin .neq (.t 4) (.k (rI .i64 0))), none, none⟩,⟨some 2, (.move (.t 5)), none, none⟩])
 .ret))
def ir116 : List IRes := [.tmp 2]
theorem ie116 : cmpFunc Go.Proofs.Tryd.prog ⟨[], []⟩ Go.Proofs.Tryd.f116 [0, 1, 2] = some ic116 := by kernel_rfl
theorem ig116 : cmpRes Go.Proofs.Tryd.prog Go.Proofs.Tryd.f116.results.toList = some ir116 := by kernel_rfl
def ic117 : IC :=
 (.seq
 (.region [1] [] [0, 1, 5, 2] [⟨some 1, (.box 41 (.t 0)), none, none⟩,⟨some 2, (.move (.k (rI .i64 0))), none, none⟩])
 (.seq
 (.seq
 (.region [] [] [0, 1, 5, 2] [⟨some 3, (.faddr 0 (.t 1)), none, none⟩,⟨some 4, (.load none (.t 3)), none, none⟩,⟨some 5, (.bin .eql (.t 4) (.k (rS (bs [])))), none, none⟩])
 (.cond (.t 5)
 (.seq
 (.region [] [] [0, 1, 5, 2] [⟨some 6, (.faddr 1 (.t 1)), none, none⟩,⟨some 7, (.load (some 3) (.t 6)), none, none⟩,⟨some 8, (.callp (.k (rF 92)) [(.t 7)]), none, none⟩,⟨some 9, (.bin .eql (.t 8) (.k (rI .i64 0))), none, none⟩,⟨some 10, (.callp (.k (rF 113)) [(.t 9)]), none, none⟩,⟨some 2, (.move (.t 10)), none, none⟩])
 .ret)
 .skip))
 (.seq
 (.region [] [] [0, 1, 5, 2] [⟨some 11, (.faddr 1 (.t 1)), none, none⟩,⟨some 12, (.load (some 3) (.t 11)), none, none⟩,⟨some 13, (.build [(.c (.v (.int .i8 0))), (.c (.v (.int .i64 0))), (.c (.v (.string (bs []))))] []), none, none⟩,⟨some 14, (.eqs false [.i .i8, .i .i64, .s] (.t 12) (.t 13)), none, none⟩,⟨some 15, (.move (.t 14)), none, none⟩,⟨some 16, (.faddr 0 (.t 1)), some (15, true), none⟩,⟨some 17, (.load none (.t 16)), some (15, true), none⟩,⟨some 18, (.bin .eql (.t 17) (.k (rS (bs [95])))), some (15, true), none⟩,⟨some 19, (.move (.t 18)), some (15, true), none⟩,⟨some 20, (.faddr 0 (.t 1)), some (19, false), none⟩,⟨some 21, (.load none (.t 20)), some (19, false), none⟩,⟨some 22, (.callp (.k (rF 168)) [(.t 21), (.k (rI .u8 65)), (.k (rI .u8 90))]), some (19, false), none⟩,⟨some 23, (.pick (.t 19) (.k (rB true)) (.t 22)), some (15, true), none⟩,⟨some 24, (.pick (.t 15) (.t 23) (.k (rB false))), none, none⟩,⟨some 25, (.callp (.k (rF 113)) [(.t 24)]), none, none⟩,⟨some 2, (.move (.t 25)), none, none⟩])
 .ret)))
def ir117 : List IRes := [.tmp 2]
theorem ie117 : cmpFunc Go.Proofs.Tryd.prog ⟨[], []⟩ Go.Proofs.Tryd.f117 [0, 1, 5, 2] = some ic117 := by kernel_rfl
theorem ig117 : cmpRes Go.Proofs.Tryd.prog Go.Proofs.Tryd.f117.results.toList = some ir117 := by kernel_rfl
abbrev ks168 (t0 t1 t2 t28 t32 t31 t33 t30 t8 t61 t6 : T) (O : List (Nat × Box)) (U : List (Nat × Fx.Tok)) (H : FHp) : S := st [(0, t0), (1, t1), (2, t2), (28, t28), (32, t32), (31, t31), (33, t33), (30, t30), (8, t8), (61, t61), (6, t6)] O U H
def ic168l0 : IC :=
 (.seq
 (.region [] [] [0, 1, 2, 28, 32, 31, 33, 30, 8, 61, 6] [⟨some 33, (.bin .lss (.t 32) (.t 31)), none, none⟩])
 (.seq
 (.cond (.t 33)
 .skip
 (.exit 0))
 (.seq
 (.block 1
 (.seq
 (.region [] [] [0, 1, 2, 28, 32, 31, 33, 30, 8, 61, 6] [⟨some 34, (.iaddr 1 (.t 30) (.t 32)), none, none⟩,⟨some 35, (.load none (.t 34)), none, none⟩,⟨some 8, (.move (.t 35)), none, none⟩])
 (.seq
 (.region [] [] [0, 1, 2, 28, 32, 31, 33, 30, 8, 61, 6] [⟨some 36, (.move (.t 8)), none, none⟩,⟨some 37, (.bin .lss (.t 36) (.k (rI .u8 97))), none, none⟩,⟨some 38, (.move (.t 37)), none, none⟩,⟨some 39, (.move (.t 8)), some (38, false), none⟩,⟨some 40, (.bin .gtr (.t 39) (.k (rI .u8 122))), some (38, false), none⟩,⟨some 41, (.pick (.t 38) (.k (rB true)) (.t 40)), none, none⟩,⟨some 42, (.move (.t 41)), none, none⟩,⟨some 43, (.move (.t 8)), some (42, true), none⟩,⟨some 44, (.bin .lss (.t 43) (.k (rI .u8 65))), some (42, true), none⟩,⟨some 45, (.move (.t 44)), some (42, true), none⟩,⟨some 46, (.move (.t 8)), some (45, false), none⟩,⟨some 47, (.bin .gtr (.t 46) (.k (rI .u8 90))), some (45, false), none⟩,⟨some 48, (.pick (.t 45) (.k (rB true)) (.t 47)), some (42, true), none⟩,⟨some 49, (.pick (.t 42) (.t 48) (.k (rB false))), none, none⟩,⟨some 50, (.move (.t 49)), none, none⟩,⟨some 51, (.move (.t 8)), some (50, true), none⟩,⟨some 52, (.bin .lss (.t 51) (.k (rI .u8 48))), some (50, true), none⟩,⟨some 53, (.move (.t 52)), some (50, true), none⟩,⟨some 54, (.move (.t 8)), some (53, false), none⟩,⟨some 55, (.bin .gtr (.t 54) (.k (rI .u8 57))), some (53, false), none⟩,⟨some 56, (.pick (.t 53) (.k (rB true)) (.t 55)), some (50, true), none⟩,⟨some 57, (.pick (.t 50) (.t 56) (.k (rB false))), none, none⟩,⟨some 58, (.move (.t 57)), none, none⟩,⟨some 59, (.move (.t 8)), some (58, true), none⟩,⟨some 60, (.bin .neq (.t 59) (.k (rI .u8 95))), some (58, true), none⟩,⟨some 61, (.pick (.t 58) (.t 60) (.k (rB false))), none, none⟩])
 (.cond (.t 61)
 (.seq
 (.region [] [] [0, 1, 2, 28, 32, 31, 33, 30, 8, 61, 6] [⟨some 6, (.move (.k (rB false))), none, none⟩])
 .ret)
 .skip))))
 (.region [] [] [0, 1, 2, 28, 32, 31, 33, 30, 8, 61, 6] [⟨some 62, (.bin .add (.t 32) (.k (rI .i64 1))), none, none⟩,⟨some 32, (.move (.t 62)), none, none⟩]))))
def ic168 : IC :=
 (.seq
 (.region [] [] [0, 1, 2, 28, 32, 31, 33, 30, 8, 61, 6] [⟨some 6, (.move (.k (rB false))), none, none⟩])
 (.seq
 (.seq
 (.region [] [] [0, 1, 2, 28, 32, 31, 33, 30, 8, 61, 6] [⟨some 9, (.move (.t 0)), none, none⟩,⟨some 10, (.slen (.t 9)), none, none⟩,⟨some 11, (.bin .eql (.t 10) (.k (rI .i64 0))), none, none⟩,⟨some 12, (.move (.t 11)), none, none⟩,⟨some 13, (.move (.t 0)), some (12, false), none⟩,⟨some 14, (.slen (.t 13)), some (12, false), none⟩,⟨some 15, (.bin .gtr (.t 14) (.k (rI .i64 120))), some (12, false), none⟩,⟨some 16, (.pick (.t 12) (.k (rB true)) (.t 15)), none, none⟩,⟨some 17, (.move (.t 16)), none, none⟩,⟨some 18, (.move (.t 0)), some (17, false), none⟩,⟨some 19, (.sindex (.t 18) (.k (rI .i64 0))), some (17, false), none⟩,⟨some 20, (.move (.t 1)), some (17, false), none⟩,⟨some 21, (.bin .lss (.t 19) (.t 20)), some (17, false), none⟩,⟨some 22, (.pick (.t 17) (.k (rB true)) (.t 21)), none, none⟩,⟨some 23, (.move (.t 22)), none, none⟩,⟨some 24, (.move (.t 0)), some (23, false), none⟩,⟨some 25, (.sindex (.t 24) (.k (rI .i64 0))), some (23, false), none⟩,⟨some 26, (.move (.t 2)), some (23, false), none⟩,⟨some 27, (.bin .gtr (.t 25) (.t 26)), some (23, false), none⟩,⟨some 28, (.pick (.t 23) (.k (rB true)) (.t 27)), none, none⟩])
 (.cond (.t 28)
 (.seq
 (.region [] [] [0, 1, 2, 28, 32, 31, 33, 30, 8, 61, 6] [⟨some 6, (.move (.k (rB false))), none, none⟩])
 .ret)
 .skip))
 (.seq
 (.seq
 (.region [] [] [0, 1, 2, 28, 32, 31, 33, 30, 8, 61, 6] [⟨some 29, (.move (.t 0)), none, none⟩,⟨some 30, (.bytes (.t 29)), none, none⟩,⟨some 31, (.len (.t 30)), none, none⟩,⟨some 32, (.move (.k (rI .i64 0))), none, none⟩])
 (.block 0
 (.loop ic168l0)))
 (.seq
 (.region [] [] [0, 1, 2, 28, 32, 31, 33, 30, 8, 61, 6] [⟨some 6, (.move (.k (rB true))), none, none⟩])
 .ret))))
def ir168 : List IRes := [.tmp 6]
theorem ie168 : cmpFunc Go.Proofs.Tryd.prog ⟨[], []⟩ Go.Proofs.Tryd.f168 [0, 1, 2, 28, 32, 31, 33, 30, 8, 61, 6] = some ic168 := by kernel_rfl
theorem ig168 : cmpRes Go.Proofs.Tryd.prog Go.Proofs.Tryd.f168.results.toList = some ir168 := by kernel_rfl
abbrev ks169 (t0 t8 t7 t9 t1 t5 t16 t4 : T) (O : List (Nat × Box)) (U : List (Nat × Fx.Tok)) (H : FHp) : S := st [(0, t0), (8, t8), (7, t7), (9, t9), (1, t1), (5, t5), (16, t16), (4, t4)] O U H
def ic169l0 : IC :=
 (.seq
 (.region [] [] [0, 8, 7, 9, 1, 5, 16, 4] [⟨some 9, (.bin .lss (.t 8) (.t 7)), none, none⟩])
 (.seq
 (.cond (.t 9)
 .skip
 (.exit 0))
 (.seq
 (.block 1
 (.seq
 (.region [] [] [0, 8, 7, 9, 1, 5, 16, 4] [⟨some 10, (.move (.t 8)), none, none⟩,⟨some 5, (.move (.t 10)), none, none⟩])
 (.seq
 (.region [] [] [0, 8, 7, 9, 1, 5, 16, 4] [⟨some 11, (.move (.t 1)), none, none⟩,⟨some 12, (.move (.t 0)), none, none⟩,⟨some 13, (.move (.t 5)), none, none⟩,⟨some 14, (.iaddr 4 (.t 12) (.t 13)), none, none⟩,⟨some 15, (.load (some 4) (.t 14)), none, none⟩,⟨some 16, (.call (.t 11) [(.t 15)]), none, none⟩])
 (.cond (.t 16)
 (.seq
 (.region [] [] [0, 8, 7, 9, 1, 5, 16, 4] [⟨some 17, (.move (.t 5)), none, none⟩,⟨some 4, (.move (.t 17)), none, none⟩])
 .ret)
 .skip))))
 (.region [] [] [0, 8, 7, 9, 1, 5, 16, 4] [⟨some 18, (.bin .add (.t 8) (.k (rI .i64 1))), none, none⟩,⟨some 8, (.move (.t 18)), none, none⟩]))))
def ic169 : IC :=
 (.seq
 (.region [] [] [0, 8, 7, 9, 1, 5, 16, 4] [⟨some 4, (.move (.k (rI .i64 0))), none, none⟩])
 (.seq
 (.seq
 (.region [] [] [0, 8, 7, 9, 1, 5, 16, 4] [⟨some 6, (.move (.t 0)), none, none⟩,⟨some 7, (.len (.t 6)), none, none⟩,⟨some 8, (.move (.k (rI .i64 0))), none, none⟩])
 (.block 0
 (.loop ic169l0)))
 (.seq
 (.region [] [] [0, 8, 7, 9, 1, 5, 16, 4] [⟨some 4, (.move (.k (rI .i64 (-1)))), none, none⟩])
 .ret)))
def ir169 : List IRes := [.tmp 4]
theorem ie169 : cmpFunc Go.Proofs.Tryd.prog ⟨[(16, none)], []⟩ Go.Proofs.Tryd.f169 [0, 8, 7, 9, 1, 5, 16, 4] = some ic169 := by kernel_rfl
theorem ig169 : cmpRes Go.Proofs.Tryd.prog Go.Proofs.Tryd.f169.results.toList = some ir169 := by kernel_rfl
end Go.Proofs.YtiomojlcnemnhaaDoor

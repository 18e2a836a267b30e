import Derived.Test.YtiomojlcnemnhaaDoorWFxZ
import Derived.Test.YtiomojlcnemnhaaDoorProg
import Derived.KernelRfl
import Derived.Shelf.Strconv.Itoa0
import Derived.Shelf.Strconv.Itoa1
import Derived.Shelf.LaysM
import Derived.Shelf.Strconv.Itoa2
import Derived.Shelf.Strconv.Itoa3
import Derived.Shelf.Slices.Turned
import Derived.Shelf.Slices.Equal
import Derived.Ground.Names2Prog
import Derived.Shelf.Slices.Clone
import Derived.Shelf.Slices.Empties2
import Derived.Ground.SlgnProg
import Derived.Shelf.SlicesE.Clone
namespace Go.Proofs.YtiomojlcnemnhaaDoor
open Go.Fx
def ic44 : IC :=
 (.seq
 (.region [1] [] [0, 1, 2] [⟨some 1, (.box 24 (.t 0)), none, none⟩,⟨some 2, (.move (.k (rI .i64 0))), none, none⟩])
 (.seq
 (.region [] [] [0, 1, 2] [⟨some 3, (.faddr 0 (.t 1)), none, none⟩,⟨some 4, (.load none (.t 3)), none, none⟩,⟨some 5, (.callp (.k (rF 114)) [(.t 4)]), none, none⟩,⟨some 6, (.move (.t 5)), none, none⟩,⟨some 7, (.faddr 1 (.t 1)), some (6, true), none⟩,⟨some 8, (.load none (.t 7)), some (6, true), none⟩,⟨some 9, (.len (.t 8)), some (6, true), none⟩,⟨some 10, (.bin .leq (.t 9) (.k (rI .i64 24))), some (6, true), none⟩,⟨some 11, (.pick (.t 6) (.t 10) (.k (rB false))), none, none⟩,⟨some 12, (.move (.t 11)), none, none⟩,⟨some 13, (.faddr 1 (.t 1)), some (12, true), none⟩,⟨some 14, (.load none (.t 13)), some (12, true), none⟩,⟨some 15, (.call (.k (rF 115)) [(.t 14), (.k (rF 116))]), some (12, true), none⟩,⟨some 16, (.un .not (.t 15)), some (12, true), none⟩,⟨some 17, (.pick (.t 12) (.t 16) (.k (rB false))), none, none⟩,⟨some 18, (.callp (.k (rF 113)) [(.t 17)]), none, none⟩,⟨some 2, (.move (.t 18)), none, none⟩])
 .ret))
def ir44 : List IRes := [.tmp 2]
theorem ie44 : cmpFunc Go.Proofs.Tryd.prog ⟨[(15, none)], []⟩ Go.Proofs.Tryd.f44 [0, 1, 2] = some ic44 := by kernel_rfl
theorem ig44 : cmpRes Go.Proofs.Tryd.prog Go.Proofs.Tryd.f44.results.toList = some ir44 := by kernel_rfl
def ic92 : IC :=
 (.seq
 (.region [1] [] [0, 1, 4, 5, 9, 10, 20, 2] [⟨some 1, (.box 39 (.t 0)), none, none⟩,⟨some 2, (.move (.k (rI .i64 0))), none, none⟩])
 (.seq
 (.seq
 (.region [] [] [0, 1, 4, 5, 9, 10, 20, 2] [⟨some 3, (.faddr 0 (.t 1)), none, none⟩,⟨some 4, (.load none (.t 3)), none, none⟩])
 (.block 0
 (.seq
 (.region [] [] [0, 1, 4, 5, 9, 10, 20, 2] [⟨some 6, (.bin .eql (.t 4) (.k (rI .i8 1))), none, none⟩,⟨some 5, (.move (.t 6)), none, none⟩])
 (.cond (.t 5)
 (.seq
 (.region [] [] [0, 1, 4, 5, 9, 10, 20, 2] [⟨some 7, (.faddr 2 (.t 1)), none, none⟩,⟨some 8, (.load none (.t 7)), none, none⟩,⟨some 9, (.bin .eql (.t 8) (.k (rS (bs [])))), none, none⟩])
 (.cond (.t 9)
 (.seq
 (.region [] [] [0, 1, 4, 5, 9, 10, 20, 2] [⟨some 2, (.move (.k (rI .i64 0))), none, none⟩])
 .ret)
 .skip))
 (.seq
 (.region [] [] [0, 1, 4, 5, 9, 10, 20, 2] [⟨some 11, (.bin .eql (.t 4) (.k (rI .i8 2))), none, none⟩,⟨some 10, (.move (.t 11)), none, none⟩])
 (.cond (.t 10)
 (.seq
 (.region [] [] [0, 1, 4, 5, 9, 10, 20, 2] [⟨some 12, (.faddr 1 (.t 1)), none, none⟩,⟨some 13, (.load none (.t 12)), none, none⟩,⟨some 14, (.bin .eql (.t 13) (.k (rI .i64 0))), none, none⟩,⟨some 15, (.move (.t 14)), none, none⟩,⟨some 16, (.faddr 2 (.t 1)), some (15, true), none⟩,⟨some 17, (.load none (.t 16)), some (15, true), none⟩,⟨some 18, (.slen (.t 17)), some (15, true), none⟩,⟨some 19, (.bin .leq (.t 18) (.k (rI .i64 200))), some (15, true), none⟩,⟨some 20, (.pick (.t 15) (.t 19) (.k (rB false))), none, none⟩])
 (.cond (.t 20)
 (.seq
 (.region [] [] [0, 1, 4, 5, 9, 10, 20, 2] [⟨some 2, (.move (.k (rI .i64 0))), none, none⟩])
 .ret)
 .skip))
 .skip))))))
 (.seq
 (.region [] [] [0, 1, 4, 5, 9, 10, 20, 2] [⟨some 2, (.move (.k (rI .i64 10))), none, none⟩])
 .ret)))
def ir92 : List IRes := [.tmp 2]
theorem ie92 : cmpFunc Go.Proofs.Tryd.prog ⟨[], []⟩ Go.Proofs.Tryd.f92 [0, 1, 4, 5, 9, 10, 20, 2] = some ic92 := by kernel_rfl
theorem ig92 : cmpRes Go.Proofs.Tryd.prog Go.Proofs.Tryd.f92.results.toList = some ir92 := by kernel_rfl
def ic113 : IC :=
 (.seq
 (.region [] [] [0, 3, 2] [⟨some 2, (.move (.k (rI .i64 0))), none, none⟩])
 (.seq
 (.seq
 (.region [] [] [0, 3, 2] [⟨some 3, (.move (.t 0)), none, none⟩])
 (.cond (.t 3)
 (.seq
 (.region [] [] [0, 3, 2] [⟨some 2, (.move (.k (rI .i64 0))), none, none⟩])
 .ret)
 .skip))
 (.seq
 (.region [] [] [0, 3, 2] [⟨some 2, (.move (.k (rI .i64 40))), none, none⟩])
 .ret)))
def ir113 : List IRes := [.tmp 2]
theorem ie113 : cmpFunc Go.Proofs.Tryd.prog ⟨[], []⟩ Go.Proofs.Tryd.f113 [0, 3, 2] = some ic113 := by kernel_rfl
theorem ig113 : cmpRes Go.Proofs.Tryd.prog Go.Proofs.Tryd.f113.results.toList = some ir113 := by kernel_rfl
def ic114 : IC :=
 (.seq
 (.region [] [] [0, 3, 4, 2] [⟨some 2, (.move (.k (rB false))), none, none⟩])
 (.seq
 (.seq
 (.region [] [] [0, 3, 4, 2] [⟨some 3, (.move (.t 0)), none, none⟩])
 (.block 0
 (.seq
 (.seq
 (.region [] [] [0, 3, 4, 2] [⟨some 5, (.bin .eql (.t 3) (.k (rS (bs [110, 111, 116])))), none, none⟩,⟨some 4, (.move (.t 5)), none, none⟩])
 (.cond (.t 4)
 .skip
 (.seq
 (.region [] [] [0, 3, 4, 2] [⟨some 6, (.bin .eql (.t 3) (.k (rS (bs [99, 111, 117, 110, 116])))), none, none⟩,⟨some 4, (.move (.t 6)), none, none⟩])
 (.cond (.t 4)
 .skip
 (.seq
 (.region [] [] [0, 3, 4, 2] [⟨some 7, (.bin .eql (.t 3) (.k (rS (bs [115, 117, 109])))), none, none⟩,⟨some 4, (.move (.t 7)), none, none⟩])
 (.cond (.t 4)
 .skip
 (.seq
 (.region [] [] [0, 3, 4, 2] [⟨some 8, (.bin .eql (.t 3) (.k (rS (bs [109, 105, 110])))), none, none⟩,⟨some 4, (.move (.t 8)), none, none⟩])
 (.cond (.t 4)
 .skip
 (.seq
 (.region [] [] [0, 3, 4, 2] [⟨some 9, (.bin .eql (.t 3) (.k (rS (bs [109, 97, 120])))), none, none⟩,⟨some 4, (.move (.t 9)), none, none⟩])
 (.cond (.t 4)
 .skip
 (.seq
 (.region [] [] [0, 3, 4, 2] [⟨some 10, (.bin .eql (.t 3) (.k (rS (bs [108, 101, 110])))), none, none⟩,⟨some 4, (.move (.t 10)), none, none⟩])
 (.cond (.t 4)
 .skip
 (.seq
 (.region [] [] [0, 3, 4, 2] [⟨some 11, (.bin .eql (.t 3) (.k (rS (bs [99, 104, 97, 114, 115])))), none, none⟩,⟨some 4, (.move (.t 11)), none, none⟩])
 (.cond (.t 4)
 .skip
 (.region [] [] [0, 3, 4, 2] [⟨some 12, (.bin .eql (.t 3) (.k (rS (bs [98, 97, 99, 107])))), none, none⟩,⟨some 4, (.move (.t 12)), none, none⟩])))))))))))))))
 (.cond (.t 4)
 (.seq
 (.region [] [] [0, 3, 4, 2] [⟨some 2, (.move (.k (rB false))), none, none⟩])
 .ret)
 .skip))))
 (.seq
 (.region [] [] [0, 3, 4, 2] [⟨some 13, (.move (.t 0)), none, none⟩,⟨some 14, (.callp (.k (rF 168)) [(.t 13), (.k (rI .u8 97)), (.k (rI .u8 122))]), none, none⟩,⟨some 2, (.move (.t 14)), none, none⟩])
 .ret)))
def ir114 : List IRes := [.tmp 2]
theorem ie114 : cmpFunc Go.Proofs.Tryd.prog ⟨[], []⟩ Go.Proofs.Tryd.f114 [0, 3, 4, 2] = some ic114 := by kernel_rfl
theorem ig114 : cmpRes Go.Proofs.Tryd.prog Go.Proofs.Tryd.f114.results.toList = some ir114 := by kernel_rfl
def ic115 : IC :=
 (.seq
 (.region [] [] [0, 1, 4] [⟨some 4, (.move (.k (rB false))), none, none⟩])
 (.seq
 (.region [] [] [0, 1, 4] [⟨some 5, (.move (.t 0)), none, none⟩,⟨some 6, (.move (.t 1)), none, none⟩,⟨some 7, (.call (.k (rF 169)) [(.t 5), (.t 6)]), none, none⟩,⟨some 8, (.bin .geq (.t 7) (.k (rI .i64 0))), none, none⟩,⟨some 4, (.move (.t 8)), none, none⟩])
 .ret))
def ir115 : List IRes := [.tmp 4]
theorem ie115 : cmpFunc Go.Proofs.Tryd.prog ⟨[(7, none)], []⟩ Go.Proofs.Tryd.f115 [0, 1, 4] = some ic115 := by kernel_rfl
theorem ig115 : cmpRes Go.Proofs.Tryd.prog Go.Proofs.Tryd.f115.results.toList = some ir115 := by kernel_rfl
def ic116 : IC :=
 (.seq
 (.region [1] [] [0, 1, 2] [⟨some 1, (.box 41 (.t 0)), none, none⟩,⟨some 2, (.move (.k (rB false))), none, none⟩])
 (.seq
 (.region [] [] [0, 1, 2] [⟨some 3, (.load (some 4) (.t 1)), none, none⟩,⟨some 4, (.callp (.k (rF 117)) [(.t 3)]), none, none⟩,⟨some 5, (.bin .neq (.t 4) (.k (rI .i64 0))), none, none⟩,⟨some 2, (.move (.t 5)), none, none⟩])
 .ret))
def ir116 : List IRes := [.tmp 2]
theorem ie116 : cmpFunc Go.Proofs.Tryd.prog ⟨[], []⟩ Go.Proofs.Tryd.f116 [0, 1, 2] = some ic116 := by kernel_rfl
theorem ig116 : cmpRes Go.Proofs.Tryd.prog Go.Proofs.Tryd.f116.results.toList = some ir116 := by kernel_rfl
def ic117 : IC :=
 (.seq
 (.region [1] [] [0, 1, 5, 2] [⟨some 1, (.box 41 (.t 0)), none, none⟩,⟨some 2, (.move (.k (rI .i64 0))), none, none⟩])
 (.seq
 (.seq
 (.region [] [] [0, 1, 5, 2] [⟨some 3, (.faddr 0 (.t 1)), none, none⟩,⟨some 4, (.load none (.t 3)), none, none⟩,⟨some 5, (.bin .eql (.t 4) (.k (rS (bs [])))), none, none⟩])
 (.cond (.t 5)
 (.seq
 (.region [] [] [0, 1, 5, 2] [⟨some 6, (.faddr 1 (.t 1)), none, none⟩,⟨some 7, (.load (some 3) (.t 6)), none, none⟩,⟨some 8, (.callp (.k (rF 92)) [(.t 7)]), none, none⟩,⟨some 9, (.bin .eql (.t 8) (.k (rI .i64 0))), none, none⟩,⟨some 10, (.callp (.k (rF 113)) [(.t 9)]), none, none⟩,⟨some 2, (.move (.t 10)), none, none⟩])
 .ret)
 .skip))
 (.seq
 (.region [] [] [0, 1, 5, 2] [⟨some 11, (.faddr 1 (.t 1)), none, none⟩,⟨some 12, (.load (some 3) (.t 11)), none, none⟩,⟨some 13, (.build [(.c (.v (.int .i8 0))), (.c (.v (.int .i64 0))), (.c (.v (.string (bs []))))] []), none, none⟩,⟨some 14, (.eqs false [.i .i8, .i .i64, .s] (.t 12) (.t 13)), none, none⟩,⟨some 15, (.move (.t 14)), none, none⟩,⟨some 16, (.faddr 0 (.t 1)), some (15, true), none⟩,⟨some 17, (.load none (.t 16)), some (15, true), none⟩,⟨some 18, (.bin .eql (.t 17) (.k (rS (bs [95])))), some (15, true), none⟩,⟨some 19, (.move (.t 18)), some (15, true), none⟩,⟨some 20, (.faddr 0 (.t 1)), some (19, false), none⟩,⟨some 21, (.load none (.t 20)), some (19, false), none⟩,⟨some 22, (.callp (.k (rF 168)) [(.t 21), (.k (rI .u8 65)), (.k (rI .u8 90))]), some (19, false), none⟩,⟨some 23, (.pick (.t 19) (.k (rB true)) (.t 22)), some (15, true), none⟩,⟨some 24, (.pick (.t 15) (.t 23) (.k (rB false))), none, none⟩,⟨some 25, (.callp (.k (rF 113)) [(.t 24)]), none, none⟩,⟨some 2, (.move (.t 25)), none, none⟩])
 .ret)))
def ir117 : List IRes := [.tmp 2]
theorem ie117 : cmpFunc Go.Proofs.Tryd.prog ⟨[], []⟩ Go.Proofs.Tryd.f117 [0, 1, 5, 2] = some ic117 := by kernel_rfl
theorem ig117 : cmpRes Go.Proofs.Tryd.prog Go.Proofs.Tryd.f117.results.toList = some ir117 := by kernel_rfl
abbrev ks168 (t0 t1 t2 t28 t32 t31 t33 t30 t8 t61 t6 : T) (O : List (Nat × Box)) (U : List (Nat × Fx.Tok)) (H : FHp) : S := st [(0, t0), (1, t1), (2, t2), (28, t28), (32, t32), (31, t31), (33, t33), (30, t30), (8, t8), (61, t61), (6, t6)] O U H
def ic168l0 : IC :=
 (.seq
 (.region [] [] [0, 1, 2, 28, 32, 31, 33, 30, 8, 61, 6] [⟨some 33, (.bin .lss (.t 32) (.t 31)), none, none⟩])
 (.seq
 (.cond (.t 33)
 .skip
 (.exit 0))
 (.seq
 (.block 1
 (.seq
 (.region [] [] [0, 1, 2, 28, 32, 31, 33, 30, 8, 61, 6] [⟨some 34, (.iaddr 1 (.t 30) (.t 32)), none, none⟩,⟨some 35, (.load none (.t 34)), none, none⟩,⟨some 8, (.move (.t 35)), none, none⟩])
 (.seq
 (.region [] [] [0, 1, 2, 28, 32, 31, 33, 30, 8, 61, 6] [⟨some 36, (.move (.t 8)), none, none⟩,⟨some 37, (.bin .lss (.t 36) (.k (rI .u8 97))), none, none⟩,⟨some 38, (.move (.t 37)), none, none⟩,⟨some 39, (.move (.t 8)), some (38, false), none⟩,⟨some 40, (.bin .gtr (.t 39) (.k (rI .u8 122))), some (38, false), none⟩,⟨some 41, (.pick (.t 38) (.k (rB true)) (.t 40)), none, none⟩,⟨some 42, (.move (.t 41)), none, none⟩,⟨some 43, (.move (.t 8)), some (42, true), none⟩,⟨some 44, (.bin .lss (.t 43) (.k (rI .u8 65))), some (42, true), none⟩,⟨some 45, (.move (.t 44)), some (42, true), none⟩,⟨some 46, (.move (.t 8)), some (45, false), none⟩,⟨some 47, (.bin .gtr (.t 46) (.k (rI .u8 90))), some (45, false), none⟩,⟨some 48, (.pick (.t 45) (.k (rB true)) (.t 47)), some (42, true), none⟩,⟨some 49, (.pick (.t 42) (.t 48) (.k (rB false))), none, none⟩,⟨some 50, (.move (.t 49)), none, none⟩,⟨some 51, (.move (.t 8)), some (50, true), none⟩,⟨some 52, (.bin .lss (.t 51) (.k (rI .u8 48))), some (50, true), none⟩,⟨some 53, (.move (.t 52)), some (50, true), none⟩,⟨some 54, (.move (.t 8)), some (53, false), none⟩,⟨some 55, (.bin .gtr (.t 54) (.k (rI .u8 57))), some (53, false), none⟩,⟨some 56, (.pick (.t 53) (.k (rB true)) (.t 55)), some (50, true), none⟩,⟨some 57, (.pick (.t 50) (.t 56) (.k (rB false))), none, none⟩,⟨some 58, (.move (.t 57)), none, none⟩,⟨some 59, (.move (.t 8)), some (58, true), none⟩,⟨some 60, (.bin .neq (.t 59) (.k (rI .u8 95))), some (58, true), none⟩,⟨some 61, (.pick (.t 58) (.t 60) (.k (rB false))), none, none⟩])
 (.cond (.t 61)
 (.seq
 (.region [] [] [0, 1, 2, 28, 32, 31, 33, 30, 8, 61, 6] [⟨some 6, (.move (.k (rB false))), none, none⟩])
 .ret)
 .skip))))
 (.region [] [] [0, 1, 2, 28, 32, 31, 33, 30, 8, 61, 6] [⟨some 62, (.bin .add (.t 32) (.k (rI .i64 1))), none, none⟩,⟨some 32, (.move (.t 62)), none, none⟩]))))
def ic168 : IC :=
 (.seq
 (.region [] [] [0, 1, 2, 28, 32, 31, 33, 30, 8, 61, 6] [⟨some 6, (.move (.k (rB false))), none, none⟩])
 (.seq
 (.seq
 (.region [] [] [0, 1, 2, 28, 32, 31, 33, 30, 8, 61, 6] [⟨some 9, (.move (.t 0)), none, none⟩,⟨some 10, (.slen (.t 9)), none, none⟩,⟨some 11, (.bin .eql (.t 10) (.k (rI .i64 0))), none, none⟩,⟨some 12, (.move (.t 11)), none, none⟩,⟨some 13, (.move (.t 0)), some (12, false), none⟩,⟨some 14, (.slen (.t 13)), some (12, false), none⟩,⟨some 15, (.bin .gtr (.t 14) (.k (rI .i64 120))), some (12, false), none⟩,⟨some 16, (.pick (.t 12) (.k (rB true)) (.t 15)), none, none⟩,⟨some 17, (.move (.t 16)), none, none⟩,⟨some 18, (.move (.t 0)), some (17, false), none⟩,⟨some 19, (.sindex (.t 18) (.k (rI .i64 0))), some (17, false), none⟩,⟨some 20, (.move (.t 1)), some (17, false), none⟩,⟨some 21, (.bin .lss (.t 19) (.t 20)), some (17, false), none⟩,⟨some 22, (.pick (.t 17) (.k (rB true)) (.t 21)), none, none⟩,⟨some 23, (.move (.t 22)), none, none⟩,⟨some 24, (.move (.t 0)), some (23, false), none⟩,⟨some 25, (.sindex (.t 24) (.k (rI .i64 0))), some (23, false), none⟩,⟨some 26, (.move (.t 2)), some (23, false), none⟩,⟨some 27, (.bin .gtr (.t 25) (.t 26)), some (23, false), none⟩,⟨some 28, (.pick (.t 23) (.k (rB true)) (.t 27)), none, none⟩])
 (.cond (.t 28)
 (.seq
 (.region [] [] [0, 1, 2, 28, 32, 31, 33, 30, 8, 61, 6] [⟨some 6, (.move (.k (rB false))), none, none⟩])
 .ret)
 .skip))
 (.seq
 (.seq
 (.region [] [] [0, 1, 2, 28, 32, 31, 33, 30, 8, 61, 6] [⟨some 29, (.move (.t 0)), none, none⟩,⟨some 30, (.bytes (.t 29)), none, none⟩,⟨some 31, (.len (.t 30)), none, none⟩,⟨some 32, (.move (.k (rI .i64 0))), none, none⟩])
 (.block 0
 (.loop ic168l0)))
 (.seq
 (.region [] [] [0, 1, 2, 28, 32, 31, 33, 30, 8, 61, 6] [⟨some 6, (.move (.k (rB true))), none, none⟩])
 .ret))))
def ir168 : List IRes := [.tmp 6]
theorem ie168 : cmpFunc Go.Proofs.Tryd.prog ⟨[], []⟩ Go.Proofs.Tryd.f168 [0, 1, 2, 28, 32, 31, 33, 30, 8, 61, 6] = some ic168 := by kernel_rfl
theorem ig168 : cmpRes Go.Proofs.Tryd.prog Go.Proofs.Tryd.f168.results.toList = some ir168 := by kernel_rfl
abbrev ks169 (t0 t8 t7 t9 t1 t5 t16 t4 : T) (O : List (Nat × Box)) (U : List (Nat × Fx.Tok)) (H : FHp) : S := st [(0, t0), (8, t8), (7, t7), (9, t9), (1, t1), (5, t5), (16, t16), (4, t4)] O U H
def ic169l0 : IC :=
 (.seq
 (.region [] [] [0, 8, 7, 9, 1, 5, 16, 4] [⟨some 9, (.bin .lss (.t 8) (.t 7)), none, none⟩])
 (.seq
 (.cond (.t 9)
 .skip
 (.exit 0))
 (.seq
 (.block 1
 (.seq
 (.region [] [] [0, 8, 7, 9, 1, 5, 16, 4] [⟨some 10, (.move (.t 8)), none, none⟩,⟨some 5, (.move (.t 10)), none, none⟩])
 (.seq
 (.region [] [] [0, 8, 7, 9, 1, 5, 16, 4] [⟨some 11, (.move (.t 1)), none, none⟩,⟨some 12, (.move (.t 0)), none, none⟩,⟨some 13, (.move (.t 5)), none, none⟩,⟨some 14, (.iaddr 4 (.t 12) (.t 13)), none, none⟩,⟨some 15, (.load (some 4) (.t 14)), none, none⟩,⟨some 16, (.call (.t 11) [(.t 15)]), none, none⟩])
 (.cond (.t 16)
 (.seq
 (.region [] [] [0, 8, 7, 9, 1, 5, 16, 4] [⟨some 17, (.move (.t 5)), none, none⟩,⟨some 4, (.move (.t 17)), none, none⟩])
 .ret)
 .skip))))
 (.region [] [] [0, 8, 7, 9, 1, 5, 16, 4] [⟨some 18, (.bin .add (.t 8) (.k (rI .i64 1))), none, none⟩,⟨some 8, (.move (.t 18)), none, none⟩]))))
def ic169 : IC :=
 (.seq
 (.region [] [] [0, 8, 7, 9, 1, 5, 16, 4] [⟨some 4, (.move (.k (rI .i64 0))), none, none⟩])
 (.seq
 (.seq
 (.region [] [] [0, 8, 7, 9, 1, 5, 16, 4] [⟨some 6, (.move (.t 0)), none, none⟩,⟨some 7, (.len (.t 6)), none, none⟩,⟨some 8, (.move (.k (rI .i64 0))), none, none⟩])
 (.block 0
 (.loop ic169l0)))
 (.seq
 (.region [] [] [0, 8, 7, 9, 1, 5, 16, 4] [⟨some 4, (.move (.k (rI .i64 (-1)))), none, none⟩])
 .ret)))
def ir169 : List IRes := [.tmp 4]
theorem ie169 : cmpFunc Go.Proofs.Tryd.prog ⟨[(16, none)], []⟩ Go.Proofs.Tryd.f169 [0, 8, 7, 9, 1, 5, 16, 4] = some ic169 := by kernel_rfl
theorem ig169 : cmpRes Go.Proofs.Tryd.prog Go.Proofs.Tryd.f169.results.toList = some ir169 := by kernel_rfl
end Go.Proofs.YtiomojlcnemnhaaDoor

namespace Go.Ped
structure Val where
  k : Int
  n : Int
  s : List UInt8
  deriving DecidableEq, Inhabited
structure Tm where
  v : List UInt8
  x : Val
  deriving DecidableEq, Inhabited
abbrev Name := List UInt8
def us : Name := [95]
def isVar (v : Name) : Bool := v != [] && v != us
def zeroV : Val := ⟨0, 0, []⟩
def varsOn : List Name → List Name → List Name
  | acc, [] => acc
  | acc, v :: l => varsOn (if isVar v && !acc.contains v then acc ++ [v] else acc) l
theorem varsOn_append : ∀ (acc l m : List Name), varsOn acc (l ++ m) = varsOn (varsOn acc l) m
  | _, [], _ => rfl
  | acc, v :: l, m => by simp only [List.cons_append, varsOn]; exact varsOn_append _ l m
theorem mem_varsOn : ∀ {acc l : List Name} {v : Name}, v ∈ varsOn acc l ↔ v ∈ acc ∨ (isVar v = true ∧ v ∈ l)
  | acc, [], v => by simp [varsOn]
  | acc, u :: l, v => by
    simp only [varsOn]
    split
    · rename_i h
      simp only [Bool.and_eq_true] at h
      rw [mem_varsOn, List.mem_append, List.mem_singleton, List.mem_cons]
      constructor
      · rintro ((h1 | rfl) | h1)
        · exact .inl h1
        · exact .inr ⟨h.1, .inl rfl⟩
        · exact .inr ⟨h1.1, .inr h1.2⟩
      · rintro (h1 | ⟨h1, rfl | h2⟩)
        · exact .inl (.inl h1)
        · exact .inl (.inr rfl)
        · exact .inr ⟨h1, h2⟩
    · rename_i h
      rw [mem_varsOn, List.mem_cons]
      constructor
      · rintro (h1 | h1)
        · exact .inl h1
        · exact .inr ⟨h1.1, .inr h1.2⟩
      · rintro (h1 | ⟨h1, rfl | h2⟩)
        · exact .inl h1
        · simp only [h1, Bool.true_and, Bool.not_eq_true', List.contains_eq_mem, decide_eq_false_iff_not, Classical.not_not] at h
          exact .inl h
        · exact .inr ⟨h1, h2⟩
def bindOf (out : List Tm) (v : Name) : Option Val := (out.find? (·.v == v)).map (·.x)
section
variable (valOk : Val → Bool)
end
end Go.Ped

namespace Go.Ped
structure Pr where
  v : Name
  t : Tm
  deriving DecidableEq, Inhabited
def keys (c : List Pr) : List Name := c.map (·.v)
def nextOf (c : List Pr) (v : Name) : Option Tm := (c.find? (·.v == v)).map (·.t)
def endOf : List Pr → Tm → Tm
  | [], t => t
  | p :: c, t => if t.v = p.v then endOf c p.t else endOf c t
def putS (s : List Pr) (t : Tm) : Tm := if t.v = [] ∨ t.v = us then t else match s.find? (·.v == t.v) with | some p => p.t | none => t
def Tm.bare (t : Tm) : Prop := t.v ≠ [] → t.x = zeroV
inductive Good : List Pr → Prop
  | nil : Good []
  | snoc {c : List Pr} {v : Name} {t : Tm} (h : Good c) (h1 : v ≠ []) (h2 : v ≠ us) (h3 : v ∉ keys c) (h4 : t.v ∉ keys c) (h5 : t.v ≠ v) (h6 : t.bare) : Good (c ++ [⟨v, t⟩])
end Go.Ped

namespace Go.Proofs.YtiomojlcnemnhaaDoor
open Go.Fx Go.RowKit
variable {G : World → Prop}
theorem m113 (b : Bool) : Meets Tryd.prog G 113 [.one (cB b)] (.x (.one (cI .i64 (if b then 0 else 40)))) := by
  refine meets Tryd.func113 ie113 ig113 (Nat.le_of_ble_eq_true rfl) ?_
  simp [ic113, ir113]
def okN (n : Int) : Bool := decide (n ≥ 97) && decide (n ≤ 122) || decide (n ≥ 65) && decide (n ≤ 90) || decide (n ≥ 48) && decide (n ≤ 57) || n == 95
def valOk (k n : Int) (s : List UInt8) : Bool := if k = 1 then s == [] else decide (k = 2) && decide (n = 0) && decide (s.length ≤ 200)
theorem m92 (k n : Int) (s : List UInt8) : Meets Tryd.prog G 92 [.agg [cI .i8 k, cI .i64 n, cS (bs s)]] (.x (.one (cI .i64 (if valOk k n s then 0 else 10)))) := by
  refine meets Tryd.func92 ie92 ig92 (Nat.le_of_ble_eq_true rfl) ?_
  simp [ic92, ir92, valOk]
  grind
def okB (b : UInt8) : Bool := okN b.toNat
def wordOk (a z : Int) : List UInt8 → Bool
  | [] => false
  | b :: l => decide ((b :: l).length ≤ 120) && decide (a ≤ b.toNat) && decide ((b.toNat : Int) ≤ z) && okB b && l.all okB
theorem m168 (s : List UInt8) (a z : Int) : Meets Tryd.prog G 168 [.one (cS (bs s)), .one (cI .u8 a), .one (cI .u8 z)] (.x (.one (cB (wordOk a z s)))) := by
  refine meets Tryd.func168 ie168 ig168 (Nat.le_of_ble_eq_true rfl) ?_
  simp [ic168, ir168]
  cases s with
  | nil => simp [wordOk]
  | cons b l =>
    have hl : (b :: l).length = l.length + 1 := rfl
    have hw : wordOk a z (b :: l) = (decide ((b :: l).length ≤ 120) && decide (a ≤ b.toNat) && decide ((b.toNat : Int) ≤ z) && ((b :: l).drop 0).all okB) := by simp [wordOk, Bool.and_assoc]
    have h0 : (b :: l)[0]? = some b := rfl
    have hne : b :: l ≠ [] := List.cons_ne_nil _ _
    generalize b :: l = L at *
    simp [h0, hne]
    refine ⟨fun hlen => by simp [hw]; omega, fun hlen => ⟨by omega, fun hb => by simp [hw]; omega, fun hb => ⟨by omega, fun hz => by simp [hw]; omega, fun hz => ⟨by unfold maxLen; omega, ?_⟩⟩⟩⟩
    refine w_loopK (fun n σ => ∃ (i : Nat) (t28 t33 t8 t61 : T), i + n = L.length ∧ wordOk a z L = (L.drop i).all okB ∧ σ = ks168 (tS L) (tI .u8 a) (tI .u8 z) t28 (tI .i64 i) (tI .i64 L.length) t33 (tL (L.map byteRow)) t8 t61 (tB false) [] [] F0)
      L.length ⟨0, _, _, _, _, by simp, by rw [hw]; simp; omega, rfl⟩ ?_
    rintro n σ1 K hK ⟨i, t28, t33, t8, t61, hi, hd, rfl⟩
    obtain hn | hn := Nat.lt_or_ge i L.length
    · obtain ⟨c, hc, hdr⟩ := at_list hn
      rw [hdr] at hd
      have hI : ∀ t28 t33 t8 t61, wordOk a z L = (L.drop (i + 1)).all okB → K (ks168 (tS L) (tI .u8 a) (tI .u8 z) t28 (tI .i64 (i + 1)) (tI .i64 L.length) t33 (tL (L.map byteRow)) t8 t61 (tB false) [] [] F0) :=
        fun t28 t33 t8 t61 h => hK _ (n - 1) (by omega) ⟨i + 1, t28, t33, t8, t61, by omega, h, rfl⟩
      clear hK
      simp only [List.all_cons] at hd
      have hb : okB c = true ∨ okB c = false := by cases okB c <;> simp
      simp [ic168l0, hn, hc, byteRow, wrap_next hn (by omega)]
      repeat' (first | apply And.intro | intro _)
      all_goals first
        | (apply hI; grind [okB, okN])
        | grind [okB, okN]
    · simp [ic168l0, Nat.not_lt.mpr hn, hd, List.drop_eq_nil_of_le hn]
def termOk (v : List UInt8) (k n : Int) (s : List UInt8) : Bool := if v = [] then valOk k n s else (decide (v = [95]) || wordOk 65 90 v) && decide (k = 0) && decide (n = 0) && decide (s = [])
theorem m117 (v : List UInt8) (k n : Int) (s : List UInt8) : Meets Tryd.prog G 117 [.agg [cS (bs v), cI .i8 k, cI .i64 n, cS (bs s)]] (.x (.one (cI .i64 (if termOk v k n s then 0 else 40)))) := by
  refine meets Tryd.func117 ie117 ig117 (Nat.le_of_ble_eq_true rfl) ?_
  simp [ic117, ir117]
  repeat' (first
    | apply And.intro
    | intro _
    | (refine r_callF (.x (.one (cB false))) rfl ?_; try simp)
    | (refine r_call 168 true _ _ (m168 _ _ _) rfl rfl rfl rfl ?_; try simp)
    | (refine r_call 92 true _ _ (m92 _ _ _) rfl rfl rfl rfl ?_; try simp)
    | (refine r_call 113 true _ _ (m113 _) rfl rfl rfl rfl ?_; try simp))
  all_goals grind [termOk]
end Go.Proofs.YtiomojlcnemnhaaDoor

namespace Go.Proofs.YtiomojlcnemnhaaDoor
open Go.Fx Go.RowKit
variable {G : World → Prop}
def kwOk (s : List UInt8) : Bool :=
  s == [110, 111, 116] || s == [99, 111, 117, 110, 116] || s == [115, 117, 109] || s == [109, 105, 110] || s == [109, 97, 120] || s == [108, 101, 110] || s == [99, 104, 97, 114, 115] || s == [98, 97, 99, 107]
def nameOk (s : List UInt8) : Bool := !kwOk s && wordOk 97 122 s
theorem m114 (s : List UInt8) : Meets Tryd.prog G 114 [.one (cS (bs s))] (.x (.one (cB (nameOk s)))) := by
  refine meets Tryd.func114 ie114 ig114 (Nat.le_of_ble_eq_true rfl) ?_
  simp [ic114, ir114]
  repeat' (first
    | apply And.intro
    | intro _
    | (refine r_call 168 true _ _ (m168 _ _ _) rfl rfl rfl rfl ?_; try simp))
  all_goals grind [kwOk, nameOk]
theorem m116 (v : List UInt8) (k n : Int) (s : List UInt8) : Meets Tryd.prog G 116 [.agg [cS (bs v), cI .i8 k, cI .i64 n, cS (bs s)]] (.x (.one (cB (!termOk v k n s)))) := by
  refine meets Tryd.func116 ie116 ig116 (Nat.le_of_ble_eq_true rfl) ?_
  simp [ic116, ir116]
  refine r_call 117 true _ _ (m117 _ _ _ _) rfl rfl rfl rfl ?_
  simp
  grind
end Go.Proofs.YtiomojlcnemnhaaDoor

namespace Go.Proofs.YtiomojlcnemnhaaDoor
open Go.Fx Go.RowKit Go.Ped
variable {G : World → Prop}
def _root_.Go.Ped.Val.row (x : Val) : List C := [cI .i8 x.k, cI .i64 x.n, cS (bs x.s)]
def _root_.Go.Ped.Tm.row (t : Tm) : List C := [cS (bs t.v), cI .i8 t.x.k, cI .i64 t.x.n, cS (bs t.x.s)]
def _root_.Go.Ped.Tm.ok (t : Tm) : Bool := termOk t.v t.x.k t.x.n t.x.s
def _root_.Go.Ped.Val.ok (x : Val) : Bool := valOk x.k x.n x.s
def idxOr {α : Type} (p : α → Bool) : Nat → List α → Int
  | _, [] => -1
  | i, t :: l => if p t then i else idxOr p (i + 1) l
theorem idxOr_nonneg {α : Type} (p : α → Bool) : ∀ (l : List α) (i : Nat), (0 ≤ idxOr p i l ↔ l.any p = true)
  | [], i => by simp [idxOr]
  | t :: l, i => by
    unfold idxOr
    by_cases h : p t = true
    · simp [h]
    · simp [h, idxOr_nonneg p l (i + 1)]
theorem m169 {H : FHp} {fv : A} (hfv : fv.only farKey (fun k => H.toks k ≠ none)) (p : List C → Bool) (l sp : List (List C)) (hl : l.length ≤ maxLen) (hs : ∀ r ∈ l, r.length = 4)
    (hf : ∀ r ∈ l, MeetsV Tryd.prog G fv [.agg (r.map A.c)] (hp [] [] H) (rB (p r)) (hp [] [] H)) :
    MeetsH Tryd.prog G 169 [.one (.c (.sl l sp)), .one fv] (hp [] [] H) (rI .i64 (idxOr p 0 l)) (hp [] [] H) := by
  refine meetsH [] Tryd.func169 ie169 ig169 (Nat.le_of_ble_eq_true rfl) (by simp) (by simp) ?_ (by simp) (by simp) (sameKeys_refl H) (by simp) (by simp) ?_
  · simp
    exact A.only_mono (fun _ => far_not_own) (fun _ h => h) hfv
  simp [ic169, ir169]
  refine w_loopK (fun n σ => ∃ (i : Nat) (t9 t5 t16 : T), i + n = l.length ∧ idxOr p 0 l = idxOr p i (l.drop i) ∧ σ = ks169 (.k true (.x (.one (.c (.sl l sp))))) (tI .i64 i) (tI .i64 l.length) t9 (.k true (.x (.one fv))) t5 t16 (tI .i64 0) [] [] H)
    l.length ⟨0, _, _, _, by simp, by simp, rfl⟩ ?_
  rintro n σ1 K hK ⟨i, t9, t5, t16, hi, hd, rfl⟩
  obtain hn | hn := Nat.lt_or_ge i l.length
  · obtain ⟨c, hc, hdr⟩ := at_list hn
    rw [hdr] at hd
    have hI : ∀ t9 t5 t16, idxOr p 0 l = idxOr p (i + 1) (l.drop (i + 1)) → K (ks169 (.k true (.x (.one (.c (.sl l sp))))) (tI .i64 (i + 1)) (tI .i64 l.length) t9 (.k true (.x (.one fv))) t5 t16 (tI .i64 0) [] [] H) :=
      fun t9 t5 t16 h => hK _ (n - 1) (by omega) ⟨i + 1, t9, t5, t16, by omega, h, rfl⟩
    clear hK
    obtain ⟨_, rfl⟩ := List.getElem?_eq_some_iff.1 hc
    have h4 := hs l[i] (List.getElem_mem hn)
    have htk : (l[i].map A.c).take 4 = l[i].map A.c := List.take_of_length_le (by simp [h4])
    simp [ic169l0, hn, h4]
    refine r_call0 (hf l[i] (List.getElem_mem hn)) rfl rfl rfl (by simp [htk]) (by simp) (by simp) ?_
    simp [wrap_next hn (by unfold maxLen at hl; omega)]
    rw [show ∀ t r, idxOr p i (t :: r) = if p t then (i : Int) else idxOr p (i + 1) r from fun _ _ => rfl] at hd
    refine ⟨fun h => ?_, fun h => ?_⟩
    · rw [if_pos h] at hd
      rw [hd]
      exact ret_st (by simp) (by simp) (by simp) (by simp) (by simp) (by simp)
    · rw [if_neg (by simp [h])] at hd; exact hI _ _ _ hd
  · simp [ic169l0, Nat.not_lt.mpr hn]
    rw [hd, List.drop_eq_nil_of_le hn]
    exact ret_st (by simp) (by simp [idxOr]) (by simp) (by simp) (by simp) (by simp)
theorem m115 {H : FHp} {fv : A} (hfv : fv.only farKey (fun k => H.toks k ≠ none)) (p : List C → Bool) (l sp : List (List C)) (hl : l.length ≤ maxLen) (hs : ∀ r ∈ l, r.length = 4)
    (hf : ∀ r ∈ l, MeetsV Tryd.prog G fv [.agg (r.map A.c)] (hp [] [] H) (rB (p r)) (hp [] [] H)) :
    MeetsH Tryd.prog G 115 [.one (.c (.sl l sp)), .one fv] (hp [] [] H) (rB (l.any p)) (hp [] [] H) := by
  refine meetsH [] Tryd.func115 ie115 ig115 (Nat.le_of_ble_eq_true rfl) (by simp) (by simp) ?_ (by simp) (by simp) (sameKeys_refl H) (by simp) (by simp) ?_
  · simp
    exact A.only_mono (fun _ => far_not_own) (fun _ h => h) hfv
  simp [ic115, ir115]
  refine r_call0 (MeetsV.of_fun (m169 hfv p l sp hl hs hf)) rfl rfl rfl (by simp) (by simp) (by simp) ?_
  simp
  refine ret_st (by simp) ?_ (by simp) (by simp) (by simp) (by simp)
  have := idxOr_nonneg p l 0
  simp
  rw [show (l.any p) = decide (0 ≤ idxOr p 0 l) from by rw [Bool.eq_iff_iff, decide_eq_true_iff, this]]
  exact X.fits_refl _
def atomOk (p : List UInt8) (l : List Tm) : Bool := nameOk p && decide (l.length ≤ 24) && l.all Tm.ok
def _root_.Go.Ped.Tm.of : List C → Tm
  | [.v (.string a), .v (.int _ k), .v (.int _ n), .v (.string b)] => ⟨a.data.toList, ⟨k, n, b.data.toList⟩⟩
  | _ => ⟨[], ⟨0, 0, []⟩⟩
@[simp] theorem _root_.Go.Ped.Tm.of_row (t : Tm) : Tm.of t.row = t := by simp [Tm.row, Tm.of]
@[simp] theorem _root_.Go.Ped.Tm.row_length (t : Tm) : t.row.length = 4 := rfl
theorem any_term {f : FuncId} {p : Tm → Bool} (hf : ∀ t, Meets Tryd.prog G f [.agg t.row] (.x (.one (cB (p t))))) (l : List Tm) (sp : List (List C)) (hl : l.length ≤ maxLen) :
    MeetsV Tryd.prog G (fnA 115) [.one (.c (.sl (l.map Tm.row) sp)), .one (fnA f)] (hp [] [] F0) (rB (l.any p)) (hp [] [] F0) := by
  have h := m115 (G := G) (H := F0) (fv := fnA f) trivial (fun r => p (Tm.of r)) (l.map Tm.row) sp (by simpa using hl) (by simp) (fun r hr => by
    obtain ⟨t, _, rfl⟩ := List.mem_map.1 hr
    simpa [CX.open, CR.open] using plainV (hf t) F0)
  have e : (l.map Tm.row).any (fun r => p (Tm.of r)) = l.any p := by simp [List.any_map, Function.comp_def]
  rw [e] at h
  exact MeetsV.of_fun h
theorem m44 (p : List UInt8) (l : List Tm) (sp : List (List C)) (hl : l.length ≤ maxLen) :
    Meets Tryd.prog G 44 [.agg [cS (bs p), .sl (l.map Tm.row) sp]] (.x (.one (cI .i64 (if atomOk p l then 0 else 40)))) := by
  refine meets Tryd.func44 ie44 ig44 (Nat.le_of_ble_eq_true rfl) ?_
  have h116 : ∀ t : Tm, Meets Tryd.prog G 116 [.agg t.row] (.x (.one (cB (!t.ok)))) := fun t => m116 t.v t.x.k t.x.n t.x.s
  have hany : (l.any fun t => !t.ok) = !l.all Tm.ok := by simp [List.any_eq_not_all_not]
  simp [ic44, ir44]
  repeat' (first
    | apply And.intro
    | intro _
    | (refine r_callF (.x (.one (cB false))) rfl ?_; try simp)
    | (refine r_callVF (rB false) rfl ?_; try simp)
    | (refine r_call 114 true _ _ (m114 _) rfl rfl rfl rfl ?_; try simp)
    | (refine r_call0 (any_term h116 l sp hl) rfl rfl rfl (by simp) (by simp) (by simp) ?_; try simp)
    | (refine r_call 113 true _ _ (m113 _) rfl rfl rfl rfl ?_; try simp))
  all_goals grind [atomOk]
end Go.Proofs.YtiomojlcnemnhaaDoor

namespace Go.Proofs
open Go.Shelf
end Go.Proofs

namespace Go.Fx
open Go.RowKit
end Go.Fx

namespace Go.Fx
open Go.RowKit
section
variable {P : Program} {G : World → Prop} {α : Type} [DecidableEq α] {s : Nat} {ks : List Kd}
end
end Go.Fx

namespace Go.Fx
open Go.RowKit
section
variable {P : Program} {G : World → Prop} {α : Type} {s : Nat} {ks : List Kd}
end
end Go.Fx

namespace Go.Fx
open Go.RowKit
section
variable {P : Program} {G : World → Prop} {L : List (Nat × T)} {O : List (Nat × Box)} {U : List (Nat × Tok)} {H : FHp} {l : List IOper} {K : S → Prop} {d : Nat}
end
end Go.Fx

namespace Go.Proofs.YtiomojlcnemnhaaDoor
open Go.Fx Go.RowKit
variable {G : World → Prop}
end Go.Proofs.YtiomojlcnemnhaaDoor

namespace Go.Proofs.YtiomojlcnemnhaaDoor
open Go.Fx Go.RowKit Go.Ped
variable {G : World → Prop}
end Go.Proofs.YtiomojlcnemnhaaDoor

namespace Go.Proofs.YtiomojlcnemnhaaDoor
open Go.Fx Go.RowKit Go.Ped
variable {G : World → Prop}
abbrev tmVars (l : List Tm) : List Name := varsOn [] (l.map Tm.v)
abbrev nmRow (v : Name) : List C := [cS (bs v)]
theorem varsOn_length : ∀ (l acc : List Name), (varsOn acc l).length ≤ acc.length + l.length
  | [], acc => by simp [varsOn]
  | v :: l, acc => by
    simp only [varsOn]
    split
    · have := varsOn_length l (acc ++ [v]); simp at this ⊢; omega
    · have := varsOn_length l acc; simp; omega
end Go.Proofs.YtiomojlcnemnhaaDoor

namespace Go.Fx
open Go.RowKit
section
def AccN (k : Nat) (ty : TypeId) (size : Nat) (es : List (List C)) (a : A) (U : List (Nat × Tok)) : Prop :=
  (es = [] ∧ a = .nil ∧ U = []) ∨ (a = .own k es ∧ U = [(k, ⟨ty, size, es.length⟩)])
theorem AccN.nil {k size : Nat} {ty : TypeId} : AccN k ty size [] .nil [] := .inl ⟨rfl, rfl, rfl⟩
theorem AccN.own {k size : Nat} {ty : TypeId} {es : List (List C)} {n : Nat} (h : n = es.length) : AccN k ty size es (.own k es) [(k, ⟨ty, size, n⟩)] := .inr ⟨rfl, by rw [h]⟩
theorem AccN.strikeU {k size : Nat} {ty : TypeId} {es : List (List C)} {t : A} {U : List (Nat × Tok)} (h : AccN k ty size es t U) {l : Nat} (hl : l ≠ k) : strikeU [l] U = U := by
  rcases h with ⟨rfl, rfl, rfl⟩ | ⟨rfl, rfl⟩
  · rfl
  · simp [Ne.symm hl]
end
end Go.Fx

namespace Go.Proofs.YtiomojlcnemnhaaDoor
open Go.Fx Go.RowKit Go.Ped
variable {G : World → Prop}
end Go.Proofs.YtiomojlcnemnhaaDoor

namespace Go.Proofs.YtiomojlcnemnhaaDoor
open Go.Fx Go.RowKit Go.Ped
variable {G : World → Prop}
def mpRow (t : Tm) : List A := .c (cS (bs t.v)) :: t.x.row.map A.c
end Go.Proofs.YtiomojlcnemnhaaDoor

import Derived.Test.YtiomojlcnemnhaaDoorWFxZ
import Derived.Test.YtiomojlcnemnhaaDoorProg
import Derived.KernelRfl
import Derived.Test.YtiomojlcnemnhaaDoorWDxM8
import Derived.Test.YtiomojlcnemnhaaDoorWDxN3
import Derived.Test.YtiomojlcnemnhaaDoorCards
import Derived.Test.YtiomojlcnemnhaaDoorTie
import Derived.WalkKit
import Derived.ProofKit
import Derived.OpenShut
import Derived.Deep.DeepHandedRow
import Derived.Lib.LaidTab
import Derived.Lib.AppendIntMem
import Derived.Stop.LaidErr
import Derived.LaidMore
namespace Go.Proofs.YtiomojlcnemnhaaDoor
open Go.Fx
def ic93l0 : IC :=
 (.seq
 (.seq
 (.region [] [] [0, 2, 6, 15, 5, 1, 7, 28, 9, 34, 8, 49, 10, 59, 4] [⟨some 52, (.move (.t 10)), none, none⟩,⟨some 53, (.move (.t 6)), none, none⟩,⟨some 54, (.move (.t 9)), none, none⟩,⟨some 55, (.iaddr 6 (.t 53) (.t 54)), none, none⟩,⟨some 56, (.faddr 5 (.t 55)), none, none⟩,⟨some 57, (.load none (.t 56)), none, none⟩,⟨some 58, (.len (.t 57)), none, none⟩,⟨some 59, (.bin .lss (.t 52) (.t 58)), none, none⟩])
 (.cond (.t 59)
 .skip
 (.exit 4)))
 (.seq
 (.block 5
 (.region [71] [] [0, 2, 6, 15, 5, 1, 7, 28, 9, 34, 8, 49, 10, 59, 4] [⟨some 62, (.move (.t 8)), none, none⟩,⟨some 63, (.move (.t 6)), none, none⟩,⟨some 64, (.move (.t 9)), none, none⟩,⟨some 65, (.iaddr 6 (.t 63) (.t 64)), none, none⟩,⟨some 66, (.faddr 5 (.t 65)), none, none⟩,⟨some 67, (.load none (.t 66)), none, none⟩,⟨some 68, (.move (.t 10)), none, none⟩,⟨some 69, (.iaddr 6 (.t 67) (.t 68)), none, none⟩,⟨some 70, (.load (some 6) (.t 69)), none, none⟩,⟨some 71, (.row 47 6 [(.t 70)]), none, none⟩,⟨some 72, (.app 47 6 80 (.t 62) (.t 71)), none, none⟩,⟨some 8, (.move (.t 72)), none, none⟩]))
 (.region [] [] [0, 2, 6, 15, 5, 1, 7, 28, 9, 34, 8, 49, 10, 59, 4] [⟨some 60, (.move (.t 10)), none, none⟩,⟨some 61, (.bin .add (.t 60) (.k (rI .i64 1))), none, none⟩,⟨some 10, (.move (.t 61)), none, none⟩])))
def ic93l1 : IC :=
 (.seq
 (.seq
 (.region [] [] [0, 2, 6, 15, 5, 1, 7, 28, 9, 34, 8, 49, 10, 59, 4] [⟨some 31, (.move (.t 9)), none, none⟩,⟨some 32, (.move (.t 6)), none, none⟩,⟨some 33, (.len (.t 32)), none, none⟩,⟨some 34, (.bin .lss (.t 31) (.t 33)), none, none⟩])
 (.cond (.t 34)
 .skip
 (.exit 2)))
 (.seq
 (.block 3
 (.seq
 (.seq
 (.region [] [] [0, 2, 6, 15, 5, 1, 7, 28, 9, 34, 8, 49, 10, 59, 4] [⟨some 37, (.move (.t 5)), none, none⟩,⟨some 38, (.move (.t 8)), none, none⟩,⟨some 39, (.len (.t 38)), none, none⟩,⟨some 40, (.bin .add (.t 37) (.t 39)), none, none⟩,⟨some 41, (.move (.t 6)), none, none⟩,⟨some 42, (.move (.t 9)), none, none⟩,⟨some 43, (.iaddr 6 (.t 41) (.t 42)), none, none⟩,⟨some 44, (.faddr 5 (.t 43)), none, none⟩,⟨some 45, (.load none (.t 44)), none, none⟩,⟨some 46, (.len (.t 45)), none, none⟩,⟨some 47, (.bin .add (.t 40) (.t 46)), none, none⟩,⟨some 48, (.move (.t 1)), none, none⟩,⟨some 49, (.bin .gtr (.t 47) (.t 48)), none, none⟩])
 (.cond (.t 49)
 (.seq
 (.region [] [] [0, 2, 6, 15, 5, 1, 7, 28, 9, 34, 8, 49, 10, 59, 4] [⟨some 50, (.move (.t 1)), none, none⟩,⟨some 51, (.bin .add (.t 50) (.k (rI .i64 1))), none, none⟩,⟨some 4, (.move (.t 51)), none, none⟩])
 .ret)
 .skip))
 (.seq
 (.region [] [] [0, 2, 6, 15, 5, 1, 7, 28, 9, 34, 8, 49, 10, 59, 4] [⟨some 10, (.move (.k (rI .i64 0))), none, none⟩])
 (.block 4
 (.loop ic93l0)))))
 (.region [] [] [0, 2, 6, 15, 5, 1, 7, 28, 9, 34, 8, 49, 10, 59, 4] [⟨some 35, (.move (.t 9)), none, none⟩,⟨some 36, (.bin .add (.t 35) (.k (rI .i64 1))), none, none⟩,⟨some 9, (.move (.t 36)), none, none⟩])))
def ic93l2 : IC :=
 (.seq
 (.seq
 (.region [] [] [0, 2, 6, 15, 5, 1, 7, 28, 9, 34, 8, 49, 10, 59, 4] [⟨some 13, (.move (.t 6)), none, none⟩,⟨some 14, (.len (.t 13)), none, none⟩,⟨some 15, (.bin .gtr (.t 14) (.k (rI .i64 0))), none, none⟩])
 (.cond (.t 15)
 .skip
 (.exit 0)))
 (.seq
 (.block 1
 (.seq
 (.region [] [] [0, 2, 6, 15, 5, 1, 7, 28, 9, 34, 8, 49, 10, 59, 4] [⟨some 18, (.move (.t 5)), none, none⟩,⟨some 19, (.move (.t 6)), none, none⟩,⟨some 20, (.len (.t 19)), none, none⟩,⟨some 21, (.bin .add (.t 18) (.t 20)), none, none⟩,⟨some 5, (.move (.t 21)), none, none⟩])
 (.seq
 (.seq
 (.region [] [] [0, 2, 6, 15, 5, 1, 7, 28, 9, 34, 8, 49, 10, 59, 4] [⟨some 22, (.move (.t 5)), none, none⟩,⟨some 23, (.move (.t 1)), none, none⟩,⟨some 24, (.bin .gtr (.t 22) (.t 23)), none, none⟩,⟨some 25, (.move (.t 24)), none, none⟩,⟨some 26, (.move (.t 7)), some (25, false), none⟩,⟨some 27, (.bin .gtr (.t 26) (.k (rI .i64 65536))), some (25, false), none⟩,⟨some 28, (.pick (.t 25) (.k (rB true)) (.t 27)), none, none⟩])
 (.cond (.t 28)
 (.seq
 (.region [] [] [0, 2, 6, 15, 5, 1, 7, 28, 9, 34, 8, 49, 10, 59, 4] [⟨some 29, (.move (.t 1)), none, none⟩,⟨some 30, (.bin .add (.t 29) (.k (rI .i64 1))), none, none⟩,⟨some 4, (.move (.t 30)), none, none⟩])
 .ret)
 .skip))
 (.seq
 (.region [] [] [0, 2, 6, 15, 5, 1, 7, 28, 9, 34, 8, 49, 10, 59, 4] [⟨some 8, (.move (.k (.x (.one .nil)))), none, none⟩])
 (.seq
 (.seq
 (.region [] [] [0, 2, 6, 15, 5, 1, 7, 28, 9, 34, 8, 49, 10, 59, 4] [⟨some 9, (.move (.k (rI .i64 0))), none, none⟩])
 (.block 2
 (.loop ic93l1)))
 (.region [] [] [0, 2, 6, 15, 5, 1, 7, 28, 9, 34, 8, 49, 10, 59, 4] [⟨some 73, (.move (.t 8)), none, none⟩,⟨some 6, (.move (.t 73)), none, none⟩]))))))
 (.region [] [] [0, 2, 6, 15, 5, 1, 7, 28, 9, 34, 8, 49, 10, 59, 4] [⟨some 16, (.move (.t 7)), none, none⟩,⟨some 17, (.bin .add (.t 16) (.k (rI .i64 1))), none, none⟩,⟨some 7, (.move (.t 17)), none, none⟩])))
def ic93 : IC :=
 (.seq
 (.region [2] [] [0, 2, 6, 15, 5, 1, 7, 28, 9, 34, 8, 49, 10, 59, 4] [⟨some 2, (.box 47 (.t 0)), none, none⟩,⟨some 4, (.move (.k (rI .i64 0))), none, none⟩])
 (.seq
 (.region [] [] [0, 2, 6, 15, 5, 1, 7, 28, 9, 34, 8, 49, 10, 59, 4] [⟨some 5, (.move (.k (rI .i64 0))), none, none⟩])
 (.seq
 (.region [12] [] [0, 2, 6, 15, 5, 1, 7, 28, 9, 34, 8, 49, 10, 59, 4] [⟨some 11, (.load (some 6) (.t 2)), none, none⟩,⟨some 12, (.row 47 6 [(.t 11)]), none, none⟩,⟨some 6, (.move (.t 12)), none, none⟩])
 (.seq
 (.seq
 (.region [] [] [0, 2, 6, 15, 5, 1, 7, 28, 9, 34, 8, 49, 10, 59, 4] [⟨some 7, (.move (.k (rI .i64 0))), none, none⟩])
 (.block 0
 (.loop ic93l2)))
 (.seq
 (.region [] [] [0, 2, 6, 15, 5, 1, 7, 28, 9, 34, 8, 49, 10, 59, 4] [⟨some 74, (.move (.t 5)), none, none⟩,⟨some 4, (.move (.t 74)), none, none⟩])
 .ret)))))
def ir93 : List IRes := [.tmp 4]
theorem ie93 : cmpFunc Go.Proofs.Tryd.prog ⟨[], []⟩ Go.Proofs.Tryd.f93 [0, 2, 6, 15, 5, 1, 7, 28, 9, 34, 8, 49, 10, 59, 4] = some ic93 := by kernel_rfl
theorem ig93 : cmpRes Go.Proofs.Tryd.prog Go.Proofs.Tryd.f93.results.toList = some ir93 := by kernel_rfl
def ic94 : IC :=
 (.seq
 (.region [1] [] [0, 1, 2] [⟨some 1, (.box 47 (.t 0)), none, none⟩,⟨some 2, (.move (.k (rI .i64 0))), none, none⟩])
 (.seq
 (.region [] [] [0, 1, 2] [⟨some 3, (.load (some 6) (.t 1)), none, none⟩,⟨some 4, (.callp (.k (rF 158)) [(.t 3), (.k (rI .i64 8))]), none, none⟩,⟨some 5, (.callp (.k (rF 113)) [(.t 4)]), none, none⟩,⟨some 2, (.move (.t 5)), none, none⟩])
 .ret))
def ir94 : List IRes := [.tmp 2]
theorem ie94 : cmpFunc Go.Proofs.Tryd.prog ⟨[], []⟩ Go.Proofs.Tryd.f94 [0, 1, 2] = some ic94 := by kernel_rfl
theorem ig94 : cmpRes Go.Proofs.Tryd.prog Go.Proofs.Tryd.f94.results.toList = some ir94 := by kernel_rfl
def ic119l0 : IC :=
 (.seq
 (.seq
 (.region [] [] [0, 2, 6, 5, 1, 20, 4] [⟨some 11, (.move (.t 6)), none, none⟩,⟨some 12, (.faddr 2 (.t 2)), none, none⟩,⟨some 13, (.load none (.t 12)), none, none⟩,⟨some 14, (.len (.t 13)), none, none⟩,⟨some 15, (.bin .lss (.t 11) (.t 14)), none, none⟩,⟨some 16, (.move (.t 15)), none, none⟩,⟨some 17, (.move (.t 5)), some (16, true), none⟩,⟨some 18, (.move (.t 1)), some (16, true), none⟩,⟨some 19, (.bin .leq (.t 17) (.t 18)), some (16, true), none⟩,⟨some 20, (.pick (.t 16) (.t 19) (.k (rB false))), none, none⟩])
 (.cond (.t 20)
 .skip
 (.exit 0)))
 (.seq
 (.block 1
 (.region [] [] [0, 2, 6, 5, 1, 20, 4] [⟨some 23, (.move (.t 5)), none, none⟩,⟨some 24, (.faddr 2 (.t 2)), none, none⟩,⟨some 25, (.load none (.t 24)), none, none⟩,⟨some 26, (.move (.t 6)), none, none⟩,⟨some 27, (.iaddr 16 (.t 25) (.t 26)), none, none⟩,⟨some 28, (.load (some 16) (.t 27)), none, none⟩,⟨some 29, (.move (.t 1)), none, none⟩,⟨some 30, (.move (.t 5)), none, none⟩,⟨some 31, (.bin .sub (.t 29) (.t 30)), none, none⟩,⟨some 32, (.callp (.k (rF 171)) [(.t 28), (.t 31)]), none, none⟩,⟨some 33, (.bin .add (.t 23) (.t 32)), none, none⟩,⟨some 5, (.move (.t 33)), none, none⟩]))
 (.region [] [] [0, 2, 6, 5, 1, 20, 4] [⟨some 21, (.move (.t 6)), none, none⟩,⟨some 22, (.bin .add (.t 21) (.k (rI .i64 1))), none, none⟩,⟨some 6, (.move (.t 22)), none, none⟩])))
def ic119 : IC :=
 (.seq
 (.region [2] [] [0, 2, 6, 5, 1, 20, 4] [⟨some 2, (.box 96 (.t 0)), none, none⟩,⟨some 4, (.move (.k (rI .i64 0))), none, none⟩])
 (.seq
 (.region [] [] [0, 2, 6, 5, 1, 20, 4] [⟨some 7, (.faddr 1 (.t 2)), none, none⟩,⟨some 8, (.load none (.t 7)), none, none⟩,⟨some 9, (.len (.t 8)), none, none⟩,⟨some 10, (.bin .add (.k (rI .i64 1)) (.t 9)), none, none⟩,⟨some 5, (.move (.t 10)), none, none⟩])
 (.seq
 (.seq
 (.region [] [] [0, 2, 6, 5, 1, 20, 4] [⟨some 6, (.move (.k (rI .i64 0))), none, none⟩])
 (.block 0
 (.loop ic119l0)))
 (.seq
 (.region [] [] [0, 2, 6, 5, 1, 20, 4] [⟨some 34, (.move (.t 5)), none, none⟩,⟨some 4, (.move (.t 34)), none, none⟩])
 .ret))))
def ir119 : List IRes := [.tmp 4]
theorem ie119 : cmpFunc Go.Proofs.Tryd.prog ⟨[], []⟩ Go.Proofs.Tryd.f119 [0, 2, 6, 5, 1, 20, 4] = some ic119 := by kernel_rfl
theorem ig119 : cmpRes Go.Proofs.Tryd.prog Go.Proofs.Tryd.f119.results.toList = some ir119 := by kernel_rfl
def ic130 : IC :=
 (.seq
 (.region [1] [] [0, 1, 2] [⟨some 1, (.box 47 (.t 0)), none, none⟩,⟨some 2, (.move (.k (rB false))), none, none⟩])
 (.seq
 (.region [] [] [0, 1, 2] [⟨some 3, (.faddr 0 (.t 1)), none, none⟩,⟨some 4, (.load none (.t 3)), none, none⟩,⟨some 5, (.bin .eql (.t 4) (.k (rI .i8 0))), none, none⟩,⟨some 6, (.move (.t 5)), none, none⟩,⟨some 7, (.faddr 1 (.t 1)), some (6, true), none⟩,⟨some 8, (.load (some 4) (.t 7)), some (6, true), none⟩,⟨some 9, (.callp (.k (rF 180)) [(.t 8)]), some (6, true), none⟩,⟨some 10, (.pick (.t 6) (.t 9) (.k (rB false))), none, none⟩,⟨some 11, (.move (.t 10)), none, none⟩,⟨some 12, (.faddr 5 (.t 1)), some (11, true), none⟩,⟨some 13, (.load none (.t 12)), some (11, true), none⟩,⟨some 14, (.len (.t 13)), some (11, true), none⟩,⟨some 15, (.bin .eql (.t 14) (.k (rI .i64 0))), some (11, true), none⟩,⟨some 16, (.pick (.t 11) (.t 15) (.k (rB false))), none, none⟩,⟨some 2, (.move (.t 16)), none, none⟩])
 .ret))
def ir130 : List IRes := [.tmp 2]
theorem ie130 : cmpFunc Go.Proofs.Tryd.prog ⟨[], []⟩ Go.Proofs.Tryd.f130 [0, 1, 2] = some ic130 := by kernel_rfl
theorem ig130 : cmpRes Go.Proofs.Tryd.prog Go.Proofs.Tryd.f130.results.toList = some ir130 := by kernel_rfl
def ic158 : IC :=
 (.seq
 (.region [2, 3] [] [0, 1, 3, 6, 2, 9, 31, 4] [⟨some 2, (.box 47 (.t 0)), none, none⟩,⟨some 3, (.box 3 (.t 1)), none, none⟩,⟨some 4, (.move (.k (rB false))), none, none⟩])
 (.seq
 (.seq
 (.region [] [] [0, 1, 3, 6, 2, 9, 31, 4] [⟨some 5, (.load none (.t 3)), none, none⟩,⟨some 6, (.bin .eql (.t 5) (.k (rI .i64 0))), none, none⟩])
 (.cond (.t 6)
 (.seq
 (.region [] [] [0, 1, 3, 6, 2, 9, 31, 4] [⟨some 4, (.move (.k (rB false))), none, none⟩])
 .ret)
 .skip))
 (.seq
 (.seq
 (.region [] [] [0, 1, 3, 6, 2, 9, 31, 4] [⟨some 7, (.faddr 0 (.t 2)), none, none⟩,⟨some 8, (.load none (.t 7)), none, none⟩,⟨some 9, (.bin .eql (.t 8) (.k (rI .i8 0))), none, none⟩])
 (.cond (.t 9)
 (.seq
 (.region [] [] [0, 1, 3, 6, 2, 9, 31, 4] [⟨some 10, (.faddr 5 (.t 2)), none, none⟩,⟨some 11, (.load none (.t 10)), none, none⟩,⟨some 12, (.len (.t 11)), none, none⟩,⟨some 13, (.bin .eql (.t 12) (.k (rI .i64 0))), none, none⟩,⟨some 14, (.move (.t 13)), none, none⟩,⟨some 15, (.faddr 1 (.t 2)), some (14, true), none⟩,⟨some 16, (.load (some 4) (.t 15)), some (14, true), none⟩,⟨some 17, (.callp (.k (rF 183)) [(.t 16)]), some (14, true), none⟩,⟨some 18, (.pick (.t 14) (.t 17) (.k (rB false))), none, none⟩,⟨some 4, (.move (.t 18)), none, none⟩])
 .ret)
 .skip))
 (.seq
 (.seq
 (.region [] [] [0, 1, 3, 6, 2, 9, 31, 4] [⟨some 19, (.faddr 1 (.t 2)), none, none⟩,⟨some 20, (.load (some 4) (.t 19)), none, none⟩,⟨some 21, (.callp (.k (rF 180)) [(.t 20)]), none, none⟩,⟨some 22, (.un .not (.t 21)), none, none⟩,⟨some 23, (.move (.t 22)), none, none⟩,⟨some 24, (.faddr 5 (.t 2)), some (23, false), none⟩,⟨some 25, (.load none (.t 24)), some (23, false), none⟩,⟨some 26, (.len (.t 25)), some (23, false), none⟩,⟨some 27, (.faddr 0 (.t 2)), some (23, false), none⟩,⟨some 28, (.load none (.t 27)), some (23, false), none⟩,⟨some 29, (.callp (.k (rF 204)) [(.t 28)]), some (23, false), none⟩,⟨some 30, (.bin .neq (.t 26) (.t 29)), some (23, false), none⟩,⟨some 31, (.pick (.t 23) (.k (rB true)) (.t 30)), none, none⟩])
 (.cond (.t 31)
 (.seq
 (.region [] [] [0, 1, 3, 6, 2, 9, 31, 4] [⟨some 4, (.move (.k (rB false))), none, none⟩])
 .ret)
 .skip))
 (.seq
 (.region [] [] [0, 1, 3, 6, 2, 9, 31, 4] [⟨some 32, (.faddr 5 (.t 2)), none, none⟩,⟨some 33, (.load none (.t 32)), none, none⟩,⟨some 34, (.clo 206 [] [(.t 3)]), none, none⟩,⟨some 35, (.call (.k (rF 205)) [(.t 33), (.t 34)]), none, none⟩,⟨some 36, (.un .not (.t 35)), none, none⟩,⟨some 4, (.move (.t 36)), none, none⟩])
 .ret)))))
def ir158 : List IRes := [.tmp 4]
theorem ie158 : cmpFunc Go.Proofs.Tryd.prog ⟨[(35, none)], []⟩ Go.Proofs.Tryd.f158 [0, 1, 3, 6, 2, 9, 31, 4] = some ic158 := by kernel_rfl
theorem ig158 : cmpRes Go.Proofs.Tryd.prog Go.Proofs.Tryd.f158.results.toList = some ir158 := by kernel_rfl
def ic171 : IC :=
 (.seq
 (.region [2] [] [0, 2, 1, 5, 18, 4] [⟨some 2, (.box 88 (.t 0)), none, none⟩,⟨some 4, (.move (.k (rI .i64 0))), none, none⟩])
 (.seq
 (.region [] [] [0, 2, 1, 5, 18, 4] [⟨some 6, (.faddr 1 (.t 2)), none, none⟩,⟨some 7, (.faddr 1 (.t 6)), none, none⟩,⟨some 8, (.load none (.t 7)), none, none⟩,⟨some 9, (.len (.t 8)), none, none⟩,⟨some 10, (.bin .add (.k (rI .i64 1)) (.t 9)), none, none⟩,⟨some 11, (.faddr 4 (.t 2)), none, none⟩,⟨some 12, (.load (some 6) (.t 11)), none, none⟩,⟨some 13, (.move (.t 1)), none, none⟩,⟨some 14, (.callp (.k (rF 93)) [(.t 12), (.t 13)]), none, none⟩,⟨some 15, (.bin .add (.t 10) (.t 14)), none, none⟩,⟨some 5, (.move (.t 15)), none, none⟩])
 (.seq
 (.seq
 (.region [] [] [0, 2, 1, 5, 18, 4] [⟨some 16, (.move (.t 5)), none, none⟩,⟨some 17, (.move (.t 1)), none, none⟩,⟨some 18, (.bin .gtr (.t 16) (.t 17)), none, none⟩])
 (.cond (.t 18)
 (.seq
 (.region [] [] [0, 2, 1, 5, 18, 4] [⟨some 19, (.move (.t 1)), none, none⟩,⟨some 20, (.bin .add (.t 19) (.k (rI .i64 1))), none, none⟩,⟨some 4, (.move (.t 20)), none, none⟩])
 .ret)
 .skip))
 (.seq
 (.region [] [] [0, 2, 1, 5, 18, 4] [⟨some 21, (.move (.t 5)), none, none⟩,⟨some 22, (.faddr 10 (.t 2)), none, none⟩,⟨some 23, (.load (some 6) (.t 22)), none, none⟩,⟨some 24, (.move (.t 1)), none, none⟩,⟨some 25, (.move (.t 5)), none, none⟩,⟨some 26, (.bin .sub (.t 24) (.t 25)), none, none⟩,⟨some 27, (.callp (.k (rF 93)) [(.t 23), (.t 26)]), none, none⟩,⟨some 28, (.bin .add (.t 21) (.t 27)), none, none⟩,⟨some 4, (.move (.t 28)), none, none⟩])
 .ret))))
def ir171 : List IRes := [.tmp 4]
theorem ie171 : cmpFunc Go.Proofs.Tryd.prog ⟨[], []⟩ Go.Proofs.Tryd.f171 [0, 2, 1, 5, 18, 4] = some ic171 := by kernel_rfl
theorem ig171 : cmpRes Go.Proofs.Tryd.prog Go.Proofs.Tryd.f171.results.toList = some ir171 := by kernel_rfl
def ic180 : IC :=
 (.seq
 (.region [1] [] [0, 1, 2] [⟨some 1, (.box 41 (.t 0)), none, none⟩,⟨some 2, (.move (.k (rB false))), none, none⟩])
 (.seq
 (.region [] [] [0, 1, 2] [⟨some 3, (.load (some 4) (.t 1)), none, none⟩,⟨some 4, (.build [(.c (.v (.string (bs [])))), (.c (.v (.int .i8 0))), (.c (.v (.int .i64 0))), (.c (.v (.string (bs []))))] []), none, none⟩,⟨some 5, (.eqs false [.s, .i .i8, .i .i64, .s] (.t 3) (.t 4)), none, none⟩,⟨some 2, (.move (.t 5)), none, none⟩])
 .ret))
def ir180 : List IRes := [.tmp 2]
theorem ie180 : cmpFunc Go.Proofs.Tryd.prog ⟨[], []⟩ Go.Proofs.Tryd.f180 [0, 1, 2] = some ic180 := by kernel_rfl
theorem ig180 : cmpRes Go.Proofs.Tryd.prog Go.Proofs.Tryd.f180.results.toList = some ir180 := by kernel_rfl
def ic183 : IC :=
 (.seq
 (.region [1] [] [0, 1, 2] [⟨some 1, (.box 41 (.t 0)), none, none⟩,⟨some 2, (.move (.k (rB false))), none, none⟩])
 (.seq
 (.region [] [] [0, 1, 2] [⟨some 3, (.faddr 0 (.t 1)), none, none⟩,⟨some 4, (.load none (.t 3)), none, none⟩,⟨some 5, (.bin .neq (.t 4) (.k (rS (bs [95])))), none, none⟩,⟨some 6, (.move (.t 5)), none, none⟩,⟨some 7, (.load (some 4) (.t 1)), some (6, true), none⟩,⟨some 8, (.callp (.k (rF 117)) [(.t 7)]), some (6, true), none⟩,⟨some 9, (.bin .eql (.t 8) (.k (rI .i64 0))), some (6, true), none⟩,⟨some 10, (.pick (.t 6) (.t 9) (.k (rB false))), none, none⟩,⟨some 2, (.move (.t 10)), none, none⟩])
 .ret))
def ir183 : List IRes := [.tmp 2]
theorem ie183 : cmpFunc Go.Proofs.Tryd.prog ⟨[], []⟩ Go.Proofs.Tryd.f183 [0, 1, 2] = some ic183 := by kernel_rfl
theorem ig183 : cmpRes Go.Proofs.Tryd.prog Go.Proofs.Tryd.f183.results.toList = some ir183 := by kernel_rfl
def ic204 : IC :=
 (.seq
 (.region [] [] [0, 3, 4, 9, 2] [⟨some 2, (.move (.k (rI .i64 0))), none, none⟩])
 (.seq
 (.seq
 (.region [] [] [0, 3, 4, 9, 2] [⟨some 3, (.move (.t 0)), none, none⟩])
 (.block 0
 (.seq
 (.seq
 (.region [] [] [0, 3, 4, 9, 2] [⟨some 5, (.bin .eql (.t 3) (.k (rI .i8 1))), none, none⟩,⟨some 4, (.move (.t 5)), none, none⟩])
 (.cond (.t 4)
 .skip
 (.seq
 (.region [] [] [0, 3, 4, 9, 2] [⟨some 6, (.bin .eql (.t 3) (.k (rI .i8 8))), none, none⟩,⟨some 4, (.move (.t 6)), none, none⟩])
 (.cond (.t 4)
 .skip
 (.seq
 (.region [] [] [0, 3, 4, 9, 2] [⟨some 7, (.bin .eql (.t 3) (.k (rI .i8 9))), none, none⟩,⟨some 4, (.move (.t 7)), none, none⟩])
 (.cond (.t 4)
 .skip
 (.region [] [] [0, 3, 4, 9, 2] [⟨some 8, (.bin .eql (.t 3) (.k (rI .i8 10))), none, none⟩,⟨some 4, (.move (.t 8)), none, none⟩])))))))
 (.cond (.t 4)
 (.seq
 (.region [] [] [0, 3, 4, 9, 2] [⟨some 2, (.move (.k (rI .i64 1))), none, none⟩])
 .ret)
 (.seq
 (.seq
 (.region [] [] [0, 3, 4, 9, 2] [⟨some 10, (.bin .eql (.t 3) (.k (rI .i8 2))), none, none⟩,⟨some 9, (.move (.t 10)), none, none⟩])
 (.cond (.t 9)
 .skip
 (.seq
 (.region [] [] [0, 3, 4, 9, 2] [⟨some 11, (.bin .eql (.t 3) (.k (rI .i8 3))), none, none⟩,⟨some 9, (.move (.t 11)), none, none⟩])
 (.cond (.t 9)
 .skip
 (.seq
 (.region [] [] [0, 3, 4, 9, 2] [⟨some 12, (.bin .eql (.t 3) (.k (rI .i8 4))), none, none⟩,⟨some 9, (.move (.t 12)), none, none⟩])
 (.cond (.t 9)
 .skip
 (.seq
 (.region [] [] [0, 3, 4, 9, 2] [⟨some 13, (.bin .eql (.t 3) (.k (rI .i8 5))), none, none⟩,⟨some 9, (.move (.t 13)), none, none⟩])
 (.cond (.t 9)
 .skip
 (.seq
 (.region [] [] [0, 3, 4, 9, 2] [⟨some 14, (.bin .eql (.t 3) (.k (rI .i8 6))), none, none⟩,⟨some 9, (.move (.t 14)), none, none⟩])
 (.cond (.t 9)
 .skip
 (.region [] [] [0, 3, 4, 9, 2] [⟨some 15, (.bin .eql (.t 3) (.k (rI .i8 7))), none, none⟩,⟨some 9, (.move (.t 15)), none, none⟩])))))))))))
 (.cond (.t 9)
 (.seq
 (.region [] [] [0, 3, 4, 9, 2] [⟨some 2, (.move (.k (rI .i64 2))), none, none⟩])
 .ret)
 .skip))))))
 (.seq
 (.region [] [] [0, 3, 4, 9, 2] [⟨some 2, (.move (.k (rI .i64 (-1)))), none, none⟩])
 .ret)))
def ir204 : List IRes := [.tmp 2]
theorem ie204 : cmpFunc Go.Proofs.Tryd.prog ⟨[], []⟩ Go.Proofs.Tryd.f204 [0, 3, 4, 9, 2] = some ic204 := by kernel_rfl
theorem ig204 : cmpRes Go.Proofs.Tryd.prog Go.Proofs.Tryd.f204.results.toList = some ir204 := by kernel_rfl
def ic205 : IC :=
 (.seq
 (.region [] [] [0, 1, 4] [⟨some 4, (.move (.k (rB false))), none, none⟩])
 (.seq
 (.region [] [] [0, 1, 4] [⟨some 5, (.move (.t 0)), none, none⟩,⟨some 6, (.move (.t 1)), none, none⟩,⟨some 7, (.call (.k (rF 223)) [(.t 5), (.t 6)]), none, none⟩,⟨some 8, (.bin .geq (.t 7) (.k (rI .i64 0))), none, none⟩,⟨some 4, (.move (.t 8)), none, none⟩])
 .ret))
def ir205 : List IRes := [.tmp 4]
theorem ie205 : cmpFunc Go.Proofs.Tryd.prog ⟨[(7, none)], []⟩ Go.Proofs.Tryd.f205 [0, 1, 4] = some ic205 := by kernel_rfl
theorem ig205 : cmpRes Go.Proofs.Tryd.prog Go.Proofs.Tryd.f205.results.toList = some ir205 := by kernel_rfl
def ic206 : IC :=
 (.seq
 (.region [2] [] [0, 2, 1, 3] [⟨some 2, (.box 47 (.t 0)), none, none⟩,⟨some 3, (.move (.k (rB false))), none, none⟩])
 (.seq
 (.region [] [] [0, 2, 1, 3] [⟨some 4, (.load (some 6) (.t 2)), none, none⟩,⟨some 5, (.load none (.t 1)), none, none⟩,⟨some 6, (.bin .sub (.t 5) (.k (rI .i64 1))), none, none⟩,⟨some 7, (.callp (.k (rF 158)) [(.t 4), (.t 6)]), none, none⟩,⟨some 8, (.un .not (.t 7)), none, none⟩,⟨some 3, (.move (.t 8)), none, none⟩])
 .ret))
def ir206 : List IRes := [.tmp 3]
theorem ie206 : cmpFunc Go.Proofs.Tryd.prog ⟨[], []⟩ Go.Proofs.Tryd.f206 [0, 2, 1, 3] = some ic206 := by kernel_rfl
theorem ig206 : cmpRes Go.Proofs.Tryd.prog Go.Proofs.Tryd.f206.results.toList = some ir206 := by kernel_rfl
abbrev ks223 (t0 t8 t7 t9 t1 t5 t16 t4 : T) (O : List (Nat × Box)) (U : List (Nat × Fx.Tok)) (H : FHp) : S := st [(0, t0), (8, t8), (7, t7), (9, t9), (1, t1), (5, t5), (16, t16), (4, t4)] O U H
def ic223l0 : IC :=
 (.seq
 (.region [] [] [0, 8, 7, 9, 1, 5, 16, 4] [⟨some 9, (.bin .lss (.t 8) (.t 7)), none, none⟩])
 (.seq
 (.cond (.t 9)
 .skip
 (.exit 0))
 (.seq
 (.block 1
 (.seq
 (.region [] [] [0, 8, 7, 9, 1, 5, 16, 4] [⟨some 10, (.move (.t 8)), none, none⟩,⟨some 5, (.move (.t 10)), none, none⟩])
 (.seq
 (.region [] [] [0, 8, 7, 9, 1, 5, 16, 4] [⟨some 11, (.move (.t 1)), none, none⟩,⟨some 12, (.move (.t 0)), none, none⟩,⟨some 13, (.move (.t 5)), none, none⟩,⟨some 14, (.iaddr 6 (.t 12) (.t 13)), none, none⟩,⟨some 15, (.load (some 6) (.t 14)), none, none⟩,⟨some 16, (.call (.t 11) [(.t 15)]), none, none⟩])
 (.cond (.t 16)
 (.seq
 (.region [] [] [0, 8, 7, 9, 1, 5, 16, 4] [⟨some 17, (.move (.t 5)), none, none⟩,⟨some 4, (.move (.t 17)), none, none⟩])
 .ret)
 .skip))))
 (.region [] [] [0, 8, 7, 9, 1, 5, 16, 4] [⟨some 18, (.bin .add (.t 8) (.k (rI .i64 1))), none, none⟩,⟨some 8, (.move (.t 18)), none, none⟩]))))
def ic223 : IC :=
 (.seq
 (.region [] [] [0, 8, 7, 9, 1, 5, 16, 4] [⟨some 4, (.move (.k (rI .i64 0))), none, none⟩])
 (.seq
 (.seq
 (.region [] [] [0, 8, 7, 9, 1, 5, 16, 4] [⟨some 6, (.move (.t 0)), none, none⟩,⟨some 7, (.len (.t 6)), none, none⟩,⟨some 8, (.move (.k (rI .i64 0))), none, none⟩])
 (.block 0
 (.loop ic223l0)))
 (.seq
 (.region [] [] [0, 8, 7, 9, 1, 5, 16, 4] [⟨some 4, (.move (.k (rI .i64 (-1)))), none, none⟩])
 .ret)))
def ir223 : List IRes := [.tmp 4]
theorem ie223 : cmpFunc Go.Proofs.Tryd.prog ⟨[(16, none)], []⟩ Go.Proofs.Tryd.f223 [0, 8, 7, 9, 1, 5, 16, 4] = some ic223 := by kernel_rfl
theorem ig223 : cmpRes Go.Proofs.Tryd.prog Go.Proofs.Tryd.f223.results.toList = some ir223 := by kernel_rfl
end Go.Proofs.YtiomojlcnemnhaaDoor

namespace Go.Proofs.YtiomojlcnemnhaaDoor
open Go.Fx Go.RowKit Go.Ped
abbrev Sp := List (List C)
inductive Ex where
  | mk (op : Int) (t : Tm) (kids : List Ex) (sp : Sp)
  deriving Inhabited
def Ex.op : Ex → Int | .mk op _ _ _ => op
def Ex.t : Ex → Tm | .mk _ t _ _ => t
def Ex.kids : Ex → List Ex | .mk _ _ kids _ => kids
def Ex.sp : Ex → Sp | .mk _ _ _ sp => sp
@[simp] theorem Ex.op_mk (op : Int) (t : Tm) (kids : List Ex) (sp : Sp) : (Ex.mk op t kids sp).op = op := rfl
@[simp] theorem Ex.t_mk (op : Int) (t : Tm) (kids : List Ex) (sp : Sp) : (Ex.mk op t kids sp).t = t := rfl
@[simp] theorem Ex.kids_mk (op : Int) (t : Tm) (kids : List Ex) (sp : Sp) : (Ex.mk op t kids sp).kids = kids := rfl
@[simp] theorem Ex.sp_mk (op : Int) (t : Tm) (kids : List Ex) (sp : Sp) : (Ex.mk op t kids sp).sp = sp := rfl
mutual
theorem Ex.ind {Q : Ex → Prop} (h : ∀ op t kids sp, (∀ k ∈ kids, Q k) → Q (.mk op t kids sp)) : ∀ e, Q e
  | .mk op t kids sp => h op t kids sp (Ex.indL h kids)
theorem Ex.indL {Q : Ex → Prop} (h : ∀ op t kids sp, (∀ k ∈ kids, Q k) → Q (.mk op t kids sp)) : ∀ l : List Ex, ∀ k ∈ l, Q k
  | [], _, hk => by cases hk
  | e :: l, k, hk => match List.mem_cons.1 hk with
    | .inl e1 => e1 ▸ Ex.ind h e
    | .inr hk => Ex.indL h l k hk
end
mutual
def Ex.row : Ex → List C
  | .mk op t kids sp => [cI .i8 op, cS (bs t.v), cI .i8 t.x.k, cI .i64 t.x.n, cS (bs t.x.s), .sl (exRows kids) sp]
def exRows : List Ex → List (List C)
  | [] => []
  | e :: l => e.row :: exRows l
end
theorem exRows_map : ∀ l : List Ex, exRows l = l.map Ex.row
  | [] => rfl
  | e :: l => by rw [exRows, exRows_map l]; rfl
theorem Ex.row_mk (op : Int) (t : Tm) (kids : List Ex) (sp : Sp) : (Ex.mk op t kids sp).row = [cI .i8 op, cS (bs t.v), cI .i8 t.x.k, cI .i64 t.x.n, cS (bs t.x.s), .sl (kids.map Ex.row) sp] := by
  rw [Ex.row, exRows_map]
theorem Ex.row_eq (e : Ex) : e.row = [cI .i8 e.op, cS (bs e.t.v), cI .i8 e.t.x.k, cI .i64 e.t.x.n, cS (bs e.t.x.s), .sl (e.kids.map Ex.row) e.sp] := by
  cases e; exact Ex.row_mk ..
@[simp] theorem Ex.row_length (e : Ex) : e.row.length = 6 := by rw [Ex.row_eq]; rfl
mutual
def Ex.terms : Ex → List Tm
  | .mk _ t kids _ => t :: exTerms kids
def exTerms : List Ex → List Tm
  | [] => []
  | e :: l => e.terms ++ exTerms l
end
theorem exTerms_flat : ∀ l : List Ex, exTerms l = l.flatMap Ex.terms
  | [] => rfl
  | e :: l => by rw [exTerms, exTerms_flat l]; rfl
theorem Ex.terms_mk (op : Int) (t : Tm) (kids : List Ex) (sp : Sp) : (Ex.mk op t kids sp).terms = t :: kids.flatMap Ex.terms := by rw [Ex.terms, exTerms_flat]
mutual
def Ex.same : Ex → Ex → Bool
  | .mk op t kids _, .mk op' t' kids' _ => op == op' && t == t' && exSame kids kids'
def exSame : List Ex → List Ex → Bool
  | [], [] => true
  | e :: l, e' :: l' => e.same e' && exSame l l'
  | _, _ => false
end
mutual
def Ex.small (N : Nat) : Ex → Prop
  | .mk _ _ kids _ => kids.length ≤ N ∧ exSmall N kids
def exSmall (N : Nat) : List Ex → Prop
  | [] => True
  | e :: l => e.small N ∧ exSmall N l
end
theorem exSmall_iff {N : Nat} : ∀ {l : List Ex}, exSmall N l ↔ ∀ e ∈ l, e.small N
  | [] => by simp [exSmall]
  | e :: l => by rw [exSmall, exSmall_iff]; simp
theorem Ex.small_mk {N : Nat} {op : Int} {t : Tm} {kids : List Ex} {sp : Sp} : (Ex.mk op t kids sp).small N ↔ kids.length ≤ N ∧ ∀ k ∈ kids, k.small N := by rw [Ex.small, exSmall_iff]
def arity (op : Int) : Int := if op = 1 ∨ op = 8 ∨ op = 9 ∨ op = 10 then 1 else if 2 ≤ op ∧ op ≤ 7 then 2 else -1
def zeroT : Tm := ⟨[], zeroV⟩
def solidOk (t : Tm) : Bool := t.v != us && t.ok
def exOk : Nat → Ex → Bool
  | 0, _ => false
  | d + 1, .mk op t kids _ => if op = 0 then kids.isEmpty && solidOk t else t == zeroT && (kids.length : Int) == arity op && kids.all (exOk d)
structure Lit where
  kind : Int
  p : Name
  l : List Tm
  sp : Sp
  rel : Int
  left : Ex
  right : Ex
  deriving Inhabited
def Lit.row (x : Lit) : List C := [cI .i8 x.kind, cS (bs x.p), .sl (x.l.map Tm.row) x.sp, cI .i8 x.rel] ++ x.left.row ++ x.right.row
@[simp] theorem Lit.row_length (x : Lit) : x.row.length = 16 := by simp [Lit.row]
def Lit.terms (x : Lit) : List Tm := x.l ++ x.left.terms ++ x.right.terms
def Lit.small (N : Nat) (x : Lit) : Prop := x.l.length ≤ N ∧ x.left.small N ∧ x.right.small N
structure Arg where
  agg : Int
  t : Tm
  deriving DecidableEq, Inhabited
def Arg.row (x : Arg) : List C := cI .i8 x.agg :: x.t.row
@[simp] theorem Arg.row_length (x : Arg) : x.row.length = 5 := rfl
structure Rule where
  p : Name
  head : List Arg
  hsp : Sp
  body : List Lit
  bsp : Sp
  deriving Inhabited
def Rule.row (r : Rule) : List C := [cS (bs r.p), .sl (r.head.map Arg.row) r.hsp, .sl (r.body.map Lit.row) r.bsp]
@[simp] theorem Rule.row_length (x : Rule) : x.row.length = 3 := rfl
def Rule.terms (r : Rule) : List Tm := r.head.map Arg.t ++ r.body.flatMap Lit.terms
def Rule.small (N : Nat) (r : Rule) : Prop := r.head.length ≤ N ∧ r.body.length ≤ N ∧ ∀ x ∈ r.body, x.small N
def exNone (e : Ex) : Bool := e.op == 0 && e.t == zeroT && e.kids.isEmpty
def litOk (x : Lit) : Bool :=
  if x.kind = 1 ∨ x.kind = 2 then atomOk x.p x.l && x.rel == 0 && exNone x.left && exNone x.right
  else if x.kind = 3 then x.p == [] && x.l.isEmpty && decide (1 ≤ x.rel) && decide (x.rel ≤ 6) && exOk 8 x.left && exOk 8 x.right
  else false
def argOk (a : Arg) : Bool :=
  if a.agg = 0 then solidOk a.t else if a.agg = 1 then a.t == zeroT else if a.agg = 2 ∨ a.agg = 3 ∨ a.agg = 4 then a.t.v != [] && solidOk a.t else false
abbrev varsOf (l : List Tm) : List Name := varsOn [] (l.map Tm.v)
def ruleOk (r : Rule) : Bool :=
  nameOk r.p && decide (r.head.length ≤ 24) && decide (r.body.length ≤ 16) && r.head.all argOk && r.body.all litOk && decide ((varsOf r.terms).length ≤ 24)
end Go.Proofs.YtiomojlcnemnhaaDoor

namespace Go.Proofs.YtiomojlcnemnhaaDoor
open Go.Fx Go.RowKit Go.Ped
variable {G : World → Prop}
theorem tm_zero (t : Tm) : (t == zeroT) = (t.v == [] && (t.x.k == 0 && (t.x.n == 0 && t.x.s == []))) := by
  obtain ⟨v, k, n, s⟩ := t
  rw [Bool.eq_iff_iff]
  simp [zeroT, zeroV]
theorem len_zero (l : List Ex) : ((l.length : Int) == 0) = l.isEmpty := by cases l <;> simp; omega
theorem m180 (t : Tm) : Meets Tryd.prog G 180 [.agg t.row] (.x (.one (cB (t == zeroT)))) := by
  refine meets Tryd.func180 ie180 ig180 (Nat.le_of_ble_eq_true rfl) ?_
  rw [tm_zero]
  simp [ic180, ir180, Tm.row]
theorem m183 (t : Tm) : Meets Tryd.prog G 183 [.agg t.row] (.x (.one (cB (solidOk t)))) := by
  refine meets Tryd.func183 ie183 ig183 (Nat.le_of_ble_eq_true rfl) ?_
  by_cases h : t.v = [95]
  · simp [ic183, ir183, Tm.row, h]
    refine r_callF (.x (.one (cI .i64 0))) rfl ?_
    simp [solidOk, us, h]
  · simp [ic183, ir183, Tm.row, h]
    refine r_call 117 true _ _ (m117 t.v t.x.k t.x.n t.x.s) rfl rfl rfl rfl ?_
    simp
    have : solidOk t = t.ok := by simp [solidOk, us, h]
    rw [this, Tm.ok]
    cases termOk t.v t.x.k t.x.n t.x.s <;> simp
theorem m204 (op : Int) : Meets Tryd.prog G 204 [.one (cI .i8 op)] (.x (.one (cI .i64 (arity op)))) := by
  refine meets Tryd.func204 ie204 ig204 (Nat.le_of_ble_eq_true rfl) ?_
  by_cases a1 : op = 1
  · subst a1; simp [ic204, ir204, arity]
  by_cases a8 : op = 8
  · subst a8; simp [ic204, ir204, arity]
  by_cases a9 : op = 9
  · subst a9; simp [ic204, ir204, arity]
  by_cases a10 : op = 10
  · subst a10; simp [ic204, ir204, arity]
  by_cases a2 : op = 2
  · subst a2; simp [ic204, ir204, arity]
  by_cases a3 : op = 3
  · subst a3; simp [ic204, ir204, arity]
  by_cases a4 : op = 4
  · subst a4; simp [ic204, ir204, arity]
  by_cases a5 : op = 5
  · subst a5; simp [ic204, ir204, arity]
  by_cases a6 : op = 6
  · subst a6; simp [ic204, ir204, arity]
  by_cases a7 : op = 7
  · subst a7; simp [ic204, ir204, arity]
  have hn : ¬(2 ≤ op ∧ op ≤ 7) := by omega
  simp [ic204, ir204, arity, a1, a8, a9, a10, a2, a3, a4, a5, a6, a7, hn]
theorem m130 (e : Ex) : Meets Tryd.prog G 130 [.agg e.row] (.x (.one (cB (exNone e)))) := by
  refine meets Tryd.func130 ie130 ig130 (Nat.le_of_ble_eq_true rfl) ?_
  rw [Ex.row_eq, exNone]
  by_cases h : e.op = 0
  · simp [ic130, ir130, h]
    refine r_call 180 true _ _ (m180 e.t) rfl rfl rfl rfl ?_
    simp
    exact ⟨fun a => by simp [a, len_zero], fun a b => absurd b a⟩
  · simp [ic130, ir130, h]
    refine r_callF (.x (.one (cB false))) rfl ?_
    simp
    exact fun h0 => absurd h0 h
theorem m223 {H : FHp} {fv : A} (hfv : fv.only farKey (fun k => H.toks k ≠ none)) (p : Ex → Bool) (l : List Ex) (sp : List (List C)) (hl : l.length ≤ maxLen)
    (hf : ∀ r ∈ l, MeetsV Tryd.prog G fv [.agg (r.row.map A.c)] (hp [] [] H) (rB (p r)) (hp [] [] H)) :
    MeetsH Tryd.prog G 223 [.one (.c (.sl (l.map Ex.row) sp)), .one fv] (hp [] [] H) (rI .i64 (idxOr p 0 l)) (hp [] [] H) := by
  refine meetsH [] Tryd.func223 ie223 ig223 (Nat.le_of_ble_eq_true rfl) (by simp) (by simp) ?_ (by simp) (by simp) (sameKeys_refl H) (by simp) (by simp) ?_
  · simp
    exact A.only_mono (fun _ => far_not_own) (fun _ h => h) hfv
  simp [ic223, ir223]
  refine w_loopK (fun n σ => ∃ (i : Nat) (t9 t5 t16 : T), i + n = l.length ∧ idxOr p 0 l = idxOr p i (l.drop i) ∧ σ = ks223 (.k true (.x (.one (.c (.sl (l.map Ex.row) sp))))) (tI .i64 i) (tI .i64 l.length) t9 (.k true (.x (.one fv))) t5 t16 (tI .i64 0) [] [] H)
    l.length ⟨0, _, _, _, by simp, by simp, rfl⟩ ?_
  rintro n σ1 K hK ⟨i, t9, t5, t16, hi, hd, rfl⟩
  obtain hn | hn := Nat.lt_or_ge i l.length
  · obtain ⟨c, hc, hdr⟩ := at_list hn
    rw [hdr] at hd
    have hI : ∀ t9 t5 t16, idxOr p 0 l = idxOr p (i + 1) (l.drop (i + 1)) → K (ks223 (.k true (.x (.one (.c (.sl (l.map Ex.row) sp))))) (tI .i64 (i + 1)) (tI .i64 l.length) t9 (.k true (.x (.one fv))) t5 t16 (tI .i64 0) [] [] H) :=
      fun t9 t5 t16 h => hK _ (n - 1) (by omega) ⟨i + 1, t9, t5, t16, by omega, h, rfl⟩
    clear hK
    obtain ⟨_, rfl⟩ := List.getElem?_eq_some_iff.1 hc
    have htk : (l[i].row.map A.c).take 6 = l[i].row.map A.c := List.take_of_length_le (by simp)
    simp [ic223l0, hn]
    refine r_call0 (hf l[i] (List.getElem_mem hn)) rfl rfl rfl (by simp [htk]) (by simp) (by simp) ?_
    simp [wrap_next hn (by unfold maxLen at hl; omega)]
    rw [show ∀ t r, idxOr p i (t :: r) = if p t then (i : Int) else idxOr p (i + 1) r from fun _ _ => rfl] at hd
    refine ⟨fun h => ?_, fun h => ?_⟩
    · rw [if_pos h] at hd
      rw [hd]
      exact ret_st (by simp) (by simp) (by simp) (by simp) (by simp) (by simp)
    · rw [if_neg (by simp [h])] at hd; exact hI _ _ _ hd
  · simp [ic223l0, Nat.not_lt.mpr hn]
    rw [hd, List.drop_eq_nil_of_le hn]
    exact ret_st (by simp) (by simp [idxOr]) (by simp) (by simp) (by simp) (by simp)
theorem m205 {H : FHp} {fv : A} (hfv : fv.only farKey (fun k => H.toks k ≠ none)) (p : Ex → Bool) (l : List Ex) (sp : List (List C)) (hl : l.length ≤ maxLen)
    (hf : ∀ r ∈ l, MeetsV Tryd.prog G fv [.agg (r.row.map A.c)] (hp [] [] H) (rB (p r)) (hp [] [] H)) :
    MeetsH Tryd.prog G 205 [.one (.c (.sl (l.map Ex.row) sp)), .one fv] (hp [] [] H) (rB (l.any p)) (hp [] [] H) := by
  refine meetsH [] Tryd.func205 ie205 ig205 (Nat.le_of_ble_eq_true rfl) (by simp) (by simp) ?_ (by simp) (by simp) (sameKeys_refl H) (by simp) (by simp) ?_
  · simp
    exact A.only_mono (fun _ => far_not_own) (fun _ h => h) hfv
  simp [ic205, ir205]
  refine r_call0 (MeetsV.of_fun (m223 hfv p l sp hl hf)) rfl rfl rfl (by simp) (by simp) (by simp) ?_
  simp
  refine ret_st (by simp) ?_ (by simp) (by simp) (by simp) (by simp)
  have := idxOr_nonneg p l 0
  simp
  rw [show (l.any p) = decide (0 ≤ idxOr p 0 l) from by rw [Bool.eq_iff_iff, decide_eq_true_iff, this]]
  exact X.fits_refl _
abbrev Od (k : Nat) (n : Int) : List (Nat × Box) := [(k, ⟨3, 1, [[.c (cI .i64 n)]], none⟩)]
def Hd (n : Int) : FHp := FHp.of (Od 15003 n) [] (by
  intro p hp
  simp only [List.mem_cons, List.not_mem_nil, or_false] at hp
  subst hp
  exact ⟨by unfold farKey; omega, by simp⟩) (fun _ h => by cases h)
theorem c206 (k : Ex) (n : Int) (hn : 0 < n) (hn2 : n ≤ 1000) (b : Bool) (hm : Meets Tryd.prog G 158 [.agg k.row, .one (cI .i64 (n - 1))] (.x (.one (cB b)))) :
    MeetsV Tryd.prog G (.clo 206 [] [.ref 15003 0 0]) [.agg (k.row.map A.c)] (hp [] [] (Hd n)) (rB (!b)) (hp [] [] (Hd n)) := by
  have h : MeetsH Tryd.prog G 206 [.agg (k.row.map A.c), .one (.ref 10003 0 0)] (hp (Od 10003 n) [] F0) (rB (!b)) (hp (Od 10003 n) [] F0) := by
    refine meetsH [] Tryd.func206 ie206 ig206 (Nat.le_of_ble_eq_true rfl) ?_ (by simp) ?_ (by simp) (by simp) (sameKeys_refl F0) (by simp) (by simp) ?_
    · intro p hp
      simp only [List.mem_cons, List.not_mem_nil, or_false] at hp
      subst hp
      exact ⟨by unfold midKey; omega, by simp⟩
    · simp [ownKey]
    have hw : IntKind.i64.wrap (n - 1) = n - 1 := Go.IntWalk.i64_in _ (by omega)
    simp [ic206, ir206, hw]
    have htk : (k.row.map A.c).take 6 = k.row.map A.c := List.take_of_length_le (by simp)
    refine r_call 158 true _ _ hm rfl rfl rfl (by simp [htk, closeArgs, X.close, A.close, closeL_c]) ?_
    simp
    exact ret_st (by simp) (by simp) (by simp) (by simp) (by simp) (by simp)
  have h1 := (clo_of (f := 206) (fs := []) (args := [.agg (k.row.map A.c)]) (cs := [.ref 10003 0 0]) rfl h).ren (π := midFar)
  simp [mfF] at h1
  unfold Hd
  rw [hp_of]
  exact h1
set_option maxRecDepth 20000 in
theorem c205 (n : Int) (hn : 0 < n) (hn2 : n ≤ 1000) (p : Ex → Bool) (kids : List Ex) (sp : List (List C)) (hl : kids.length ≤ maxLen) (hf : ∀ k ∈ kids, Meets Tryd.prog G 158 [.agg k.row, .one (cI .i64 (n - 1))] (.x (.one (cB (p k))))) :
    MeetsV Tryd.prog G (fnA 205) [.one (.c (.sl (kids.map Ex.row) sp)), .one (.clo 206 [] [.ref 3 0 0])] (hp (Od 3 n) [] F0) (rB (kids.any fun k => !p k)) (hp (Od 3 n) [] F0) := by
  have h1 := (MeetsV.of_fun (m205 (G := G) (H := Hd n) (fv := .clo 206 [] [.ref 15003 0 0]) ⟨trivial, by simp [farKey]⟩ (fun k => !p k) kids sp hl (fun k hk => c206 k n hn hn2 (p k) (hf k hk)))).ren (π := nearFar)
  unfold Hd at h1
  rw [hp_of] at h1
  simp [nfF] at h1
  exact h1
theorem m158 : ∀ (d : Nat) (e : Ex) (_ : e.small 1048576) (_ : d ≤ 1000), Meets Tryd.prog G 158 [.agg e.row, .one (cI .i64 d)] (.x (.one (cB (exOk d e))))
  | 0, e, _, _ => by
    refine meets Tryd.func158 ie158 ig158 (Nat.le_of_ble_eq_true rfl) ?_
    rw [Ex.row_eq]
    simp [ic158, ir158, exOk]
  | d + 1, .mk op t kids sp, hs, hd => by
    refine meets Tryd.func158 ie158 ig158 (Nat.le_of_ble_eq_true rfl) ?_
    obtain ⟨hl, hk⟩ := Ex.small_mk.1 hs
    have hd0 : ¬((d : Int) + 1 = 0) := by omega
    rw [Ex.row_mk, exOk]
    by_cases h0 : op = 0
    · simp [ic158, ir158, hd0, h0]
      by_cases hk0 : kids = []
      · simp [hk0]
        refine r_call 183 true _ _ (m183 t) rfl rfl rfl rfl ?_
        simp
      · have : ¬((kids.length : Int) = 0) := by
          intro e; exact hk0 (List.length_eq_zero_iff.1 (by omega))
        simp [this, hk0]
        refine r_callF (.x (.one (cB false))) rfl ?_
        simp
        exact fun e => absurd e hk0
    · simp [ic158, ir158, hd0, h0]
      refine r_call 180 true _ _ (m180 t) rfl rfl rfl rfl ?_
      simp
      by_cases ht : t = zeroT
      · simp [ht]
        refine r_call 204 true _ _ (m204 op) rfl rfl rfl rfl ?_
        simp
        refine ⟨fun a b => absurd b a, fun ha => ?_⟩
        have h1 := c205 (G := G) ((d + 1 : Nat) : Int) (by omega) (by omega) (exOk d) kids sp (by unfold maxLen; omega) (fun k hk' => by
          have h := m158 d k (hk k hk') (by omega)
          rwa [show (((d + 1 : Nat) : Int) - 1) = (d : Int) by omega])
        rw [show (((d + 1 : Nat) : Int)) = (d : Int) + 1 by omega] at h1
        refine r_callV _ _ _ [] _ _ [] F0 h1 rfl rfl rfl (by simp) (by simp) (by simp) (by simp) (by simp) (by simp) (by simp) (by simp) (by simp) (sameKeys_refl F0) rfl ?_
        simp [ha]
        rw [List.any_eq_not_all_not]; simp
      · simp [ht]
        refine r_callF (.x (.one (cI .i64 0))) rfl ?_
        simp
        exact fun e => absurd e ht
end Go.Proofs.YtiomojlcnemnhaaDoor

namespace Go.Proofs.YtiomojlcnemnhaaDoor
open Go.Fx Go.RowKit Go.Ped
variable {G : World → Prop}
theorem m94 (e : Ex) (hs : e.small 1048576) : Meets Tryd.prog G 94 [.agg e.row] (.x (.one (cI .i64 (if exOk 8 e then 0 else 40)))) := by
  refine meets Tryd.func94 ie94 ig94 (Nat.le_of_ble_eq_true rfl) ?_
  have h := m158 (G := G) 8 e hs (by omega)
  rw [Ex.row_eq] at h ⊢
  simp [ic94, ir94]
  refine r_call 158 true _ _ h rfl rfl rfl rfl ?_
  simp
  refine r_call 113 true _ _ (m113 _) rfl rfl rfl rfl ?_
  simp
end Go.Proofs.YtiomojlcnemnhaaDoor

namespace Go.Proofs.YtiomojlcnemnhaaDoor
open Go.Fx Go.RowKit Go.Ped
theorem list_of {α : Type} {row : α → List C} : ∀ {es : List (List C)}, (∀ x ∈ es, ∃ t, x = row t) → ∃ l : List α, es = l.map row
  | [], _ => ⟨[], rfl⟩
  | x :: es, h => by
    obtain ⟨t, rfl⟩ := h x (List.mem_cons_self ..)
    obtain ⟨l, rfl⟩ := list_of (es := es) fun y hy => h y (List.mem_cons_of_mem _ hy)
    exact ⟨t :: l, rfl⟩
theorem ty_str {cs : List C} (h : Typed Tryd.prog 9 cs) : ∃ s, cs = [cS (bs s)] := by
  obtain ⟨s, rfl, _⟩ := h.asStr Tryd.underlying9
  exact ⟨s, rfl⟩
theorem ty_val {cs : List C} (h : Typed Tryd.prog 39 cs) : ∃ x : Val, cs = x.row := by
  obtain ⟨a, r, rfl, ha, b, r', rfl, hb, c, r'', rfl, hc, hr⟩ := h.asStruct Tryd.underlying39
  cases hr
  obtain ⟨k, rfl, _⟩ := ha.asInt Tryd.underlying37
  obtain ⟨n, rfl, _⟩ := hb.asInt Tryd.underlying2
  obtain ⟨s, rfl⟩ := ty_str hc
  exact ⟨⟨k, n, s⟩, rfl⟩
theorem ty_tm {cs : List C} (h : Typed Tryd.prog 41 cs) : ∃ t : Tm, cs = t.row := by
  obtain ⟨a, r, rfl, ha, b, r', rfl, hb, hr⟩ := h.asStruct Tryd.underlying41
  cases hr
  obtain ⟨v, rfl⟩ := ty_str ha
  obtain ⟨x, rfl⟩ := ty_val hb
  exact ⟨⟨v, x⟩, rfl⟩
theorem ty_tms {cs : List C} (h : Typed Tryd.prog 22 cs) : ∃ (l : List Tm) (sp : Sp), cs = [.sl (l.map Tm.row) sp] := by
  obtain ⟨es, sp, rfl, hes, hn⟩ := h.asSlice Tryd.underlying22
  obtain ⟨l, rfl⟩ := list_of (row := Tm.row) (es := es) fun x hx => ty_tm (hes x (List.mem_append_left _ hx))
  exact ⟨l, sp, rfl⟩
theorem ty_atom {cs : List C} (h : Typed Tryd.prog 24 cs) : ∃ (p : Name) (l : List Tm) (sp : Sp), cs = [cS (bs p), .sl (l.map Tm.row) sp] := by
  obtain ⟨a, r, rfl, ha, b, r', rfl, hb, hr⟩ := h.asStruct Tryd.underlying24
  cases hr
  obtain ⟨p, rfl⟩ := ty_str ha
  obtain ⟨l, sp, rfl⟩ := ty_tms hb
  exact ⟨p, l, sp, rfl⟩
theorem ty_arg {cs : List C} (h : Typed Tryd.prog 189 cs) : ∃ a : Arg, cs = a.row := by
  obtain ⟨a, r, rfl, ha, b, r', rfl, hb, hr⟩ := h.asStruct Tryd.underlying189
  cases hr
  obtain ⟨k, rfl, _⟩ := ha.asInt Tryd.underlying187
  obtain ⟨t, rfl⟩ := ty_tm hb
  exact ⟨⟨k, t⟩, by simp [Arg.row]⟩
theorem ty_ex {cs : List C} (h : Typed Tryd.prog 47 cs) : ∃ e : Ex, cs = e.row := by
  induction hn : rowBulk cs using Nat.strongRecOn generalizing cs with
  | ind n ih =>
    obtain ⟨a, r, rfl, ha, b, r', rfl, hb, c, r'', rfl, hc, hr⟩ := h.asStruct Tryd.underlying47
    cases hr
    obtain ⟨op, rfl, _⟩ := ha.asInt Tryd.underlying44
    obtain ⟨t, rfl⟩ := ty_tm hb
    obtain ⟨es, sp, rfl, hes, _⟩ := hc.asSlice Tryd.underlying45
    obtain ⟨l, rfl⟩ := list_of (row := Ex.row) (es := es) fun x hx => by
      have hle : ∀ (es : List (List C)) (x : List C), x ∈ es → rowBulk x ≤ rowsBulk es := by
        intro es x hx
        induction es with
        | nil => cases hx
        | cons y es ih =>
          simp only [rowsBulk]
          rcases List.mem_cons.1 hx with rfl | hx
          · omega
          · have := ih hx; omega
      have h1 := hle es x hx
      refine ih (rowBulk x) ?_ (hes x (List.mem_append_left _ hx)) rfl
      rw [← hn]
      simp only [rowBulk_append, rowBulk, C.bulk]
      omega
    exact ⟨.mk op t l sp, by rw [Ex.row_mk]; rfl⟩
theorem ty_lit {cs : List C} (h : Typed Tryd.prog 88 cs) : ∃ x : Lit, cs = x.row := by
  obtain ⟨a, r, rfl, ha, b, r', rfl, hb, c, r'', rfl, hc, d, r3, rfl, hd, e, r4, rfl, he, hr⟩ := h.asStruct Tryd.underlying88
  cases hr
  obtain ⟨k, rfl, _⟩ := ha.asInt Tryd.underlying85
  obtain ⟨p, l, sp, rfl⟩ := ty_atom hb
  obtain ⟨rel, rfl, _⟩ := hc.asInt Tryd.underlying86
  obtain ⟨x, rfl⟩ := ty_ex hd
  obtain ⟨y, rfl⟩ := ty_ex he
  exact ⟨⟨k, p, l, sp, rel, x, y⟩, by simp [Lit.row]⟩
theorem ty_rule {cs : List C} (h : Typed Tryd.prog 96 cs) : ∃ x : Rule, cs = x.row := by
  obtain ⟨a, r, rfl, ha, b, r', rfl, hb, c, r'', rfl, hc, hr⟩ := h.asStruct Tryd.underlying96
  cases hr
  obtain ⟨p, rfl⟩ := ty_str ha
  obtain ⟨es, sp, rfl, hes, _⟩ := hb.asSlice Tryd.underlying94
  obtain ⟨hd, rfl⟩ := list_of (row := Arg.row) (es := es) fun x hx => ty_arg (hes x (List.mem_append_left _ hx))
  obtain ⟨bs', bsp, rfl, hbs, _⟩ := hc.asSlice Tryd.underlying78
  obtain ⟨bd, rfl⟩ := list_of (row := Lit.row) (es := bs') fun x hx => ty_lit (hbs x (List.mem_append_left _ hx))
  exact ⟨⟨p, hd, sp, bd, bsp⟩, rfl⟩
theorem rows_len {α : Type} {row : α → List C} (h : ∀ t, 1 ≤ rowBulk (row t)) : ∀ l : List α, l.length ≤ rowsBulk (l.map row)
  | [] => Nat.zero_le _
  | t :: l => by have := rows_len h l; have := h t; simp only [List.map_cons, rowsBulk, List.length_cons]; omega
theorem rows_mem {α : Type} {row : α → List C} {t : α} : ∀ {l : List α}, t ∈ l → rowBulk (row t) ≤ rowsBulk (l.map row)
  | x :: l, h => by
    simp only [List.map_cons, rowsBulk]
    rcases List.mem_cons.1 h with rfl | h
    · omega
    · have := rows_mem (row := row) h; omega
theorem tm_bulk (t : Tm) : 1 ≤ rowBulk t.row := by simp only [Tm.row, rowBulk, C.bulk]; omega
theorem arg_bulk (t : Arg) : 1 ≤ rowBulk t.row := by simp only [Arg.row, rowBulk, C.bulk]; omega
theorem ex_bulk (e : Ex) : 1 ≤ rowBulk e.row := by rw [Ex.row_eq]; simp only [rowBulk, C.bulk]; omega
theorem lit_bulk (x : Lit) : 1 ≤ rowBulk x.row := by simp only [Lit.row, List.cons_append, rowBulk, C.bulk]; omega
theorem ex_small {N : Nat} : ∀ e : Ex, rowBulk e.row ≤ N → e.small N := by
  refine Ex.ind fun op t kids sp ih h => ?_
  rw [Ex.row_mk] at h
  simp only [rowBulk, C.bulk] at h
  refine Ex.small_mk.2 ⟨?_, fun k hk => ih k hk ?_⟩
  · have := rows_len ex_bulk kids; omega
  · have := rows_mem (row := Ex.row) hk; omega
theorem lit_small {N : Nat} (x : Lit) (h : rowBulk x.row ≤ N) : x.small N := by
  simp only [Lit.row, List.cons_append, List.nil_append, rowBulk, rowBulk_append, C.bulk] at h
  have h1 := rows_len tm_bulk x.l
  exact ⟨by omega, ex_small _ (by omega), ex_small _ (by omega)⟩
theorem rule_small {N : Nat} (x : Rule) (h : rowBulk x.row ≤ N) : x.small N := by
  simp only [Rule.row, rowBulk, C.bulk] at h
  have h1 := rows_len arg_bulk x.head
  have h2 := rows_len lit_bulk x.body
  exact ⟨by omega, by omega, fun y hy => lit_small y (by have := rows_mem (row := Lit.row) hy; omega)⟩
theorem flat_bulk {α β : Type} {row : α → List C} {f : α → List β} : ∀ {l : List α}, (∀ k ∈ l, (f k).length ≤ rowBulk (row k)) → (l.flatMap f).length ≤ rowsBulk (l.map row)
  | [], _ => Nat.zero_le _
  | k :: l, h => by
    have h1 := h k (List.mem_cons_self ..)
    have h2 := flat_bulk (row := row) (f := f) fun x hx => h x (List.mem_cons_of_mem k hx)
    simp only [List.flatMap_cons, List.length_append, List.map_cons, rowsBulk]
    omega
theorem ex_terms_bulk : ∀ e : Ex, e.terms.length ≤ rowBulk e.row := by
  refine Ex.ind fun op t kids sp ih => ?_
  have := flat_bulk (row := Ex.row) (f := Ex.terms) ih
  rw [Ex.row_mk, Ex.terms_mk]
  simp only [List.length_cons, rowBulk, C.bulk]
  omega
theorem lit_terms_bulk (x : Lit) : x.terms.length ≤ rowBulk x.row := by
  have h1 := rows_len tm_bulk x.l
  have h2 := ex_terms_bulk x.left
  have h3 := ex_terms_bulk x.right
  simp only [Lit.terms, Lit.row, List.length_append, List.cons_append, List.nil_append, rowBulk, rowBulk_append, C.bulk]
  omega
theorem rule_terms_bulk (r : Rule) : r.terms.length ≤ rowBulk r.row := by
  have h1 := rows_len arg_bulk r.head
  have h2 := flat_bulk (row := Lit.row) (f := Lit.terms) (l := r.body) fun x _ => lit_terms_bulk x
  simp only [Rule.terms, Rule.row, List.length_append, List.length_map, rowBulk, C.bulk]
  omega
end Go.Proofs.YtiomojlcnemnhaaDoor

namespace Go.Proofs.YtiomojlcnemnhaaDoor
open Go.Fx Go.RowKit Go.Ped
theorem own : ownKnob Tryd.prog.godebug = none := by kernel_rfl
theorem laidOut : laidOutB Tryd.prog = true := by kernel_rfl
mutual
theorem bulk_le {H : Type} : ∀ d : DataW H, bulkD d ≤ Rows.uptoBulk d
  | .lit l => by cases l <;> simp [bulkD, Rows.uptoBulk]
  | .nil => by simp [bulkD, Rows.uptoBulk]
  | .ptr d => by simp [bulkD]
  | .slice a b => by have := bulks_le a; have := bulks_le b; simp only [bulkD, Rows.uptoBulk]; omega
  | .agg a => by have := bulks_le a; simp only [bulkD, Rows.uptoBulk]; omega
  | .iface t d => by simp [bulkD]
  | .map e => by simp [bulkD]
  | .held h => by simp [bulkD]
theorem bulks_le {H : Type} : ∀ l : List (DataW H), bulkDs l ≤ Rows.uptoBulkAll l
  | [] => by simp [bulkDs]
  | d :: l => by have := bulk_le d; have := bulks_le l; simp only [bulkDs, Rows.uptoBulkAll]; omega
end
theorem upto_bound {H : Type} {ds gs : List (DataW H)} (hk : Rows.uptoSmall H (ds ++ gs) = true) : bulkDs ds ≤ 1048576 := by
  have h : Rows.uptoBulkAll (ds ++ gs) ≤ 1048576 := of_decide_eq_true hk
  have h2 := bulks_le (ds ++ gs)
  have h3 : ∀ a b : List (DataW H), bulkDs a ≤ bulkDs (a ++ b) := by
    intro a b
    induction a with
    | nil => simp [bulkDs]
    | cons x a ih => simp only [List.cons_append, bulkDs]; omega
  have := h3 ds gs
  omega
theorem plain_laid {l : List (String × DataW Unit)} {W : World} (hp : (l.all fun x => x.2.handleName?.isNone) = true) (h : laidMetH Tryd.prog l W) : laidMet Tryd.prog l W := by
  rw [MakeChecks.laidMetH_plain _ _ _ hp] at h
  exact h
noncomputable abbrev wit (os : Os) : World := World.doorLaid Tryd.prog 29 os
end Go.Proofs.YtiomojlcnemnhaaDoor

namespace Go.Proofs.YtiomojlcnemnhaaDoor
open Go.Fx Go.RowKit Go.Ped
theorem mapsRowedT : mapsRowed Tryd.prog = true := by kernel_rfl
theorem stopsT : (Tryd.prog.stops == []) = true := by kernel_rfl
theorem stopKnobsT : (Tryd.prog.stopKnobs == []) = true := by kernel_rfl
theorem stopsHeardT : Tryd.prog.stopsHeard = true := by kernel_rfl
theorem mayEnterT : Tryd.prog.mayEnter = true := by kernel_rfl
theorem liftsFinalT : (Rows.termMatchesUptoRow.lifted == Tryd.prog.liftsFinal) = true := by kernel_rfl
theorem makeT : (Tryd.prog.make == some Rows.termMatchesUptoRow.make) = true := by kernel_rfl
end Go.Proofs.YtiomojlcnemnhaaDoor

namespace Go.Proofs.YtiomojlcnemnhaaDoor
open Go.Fx Go.RowKit Go.Ped
variable {G : World → Prop}
@[simp] theorem strike_val (ks : List Nat) : (strikeL ks ∘ fun v : Val => v.row.map A.c) = fun v => v.row.map A.c := funext fun v => strikeL_c ks _
end Go.Proofs.YtiomojlcnemnhaaDoor

namespace Go.Proofs.YtiomojlcnemnhaaDoor
open Go.Fx
-- BAD 33 pedigree/value.Arith: [range at value.go:156, next at value.go:156]
end Go.Proofs.YtiomojlcnemnhaaDoor

namespace Go.Ped
section
variable (valOk : Val → Bool)
def gr (f : Name → Val) (nine : Val) (t : Tm) : Val := if t.v = [] then t.x else if t.v = us then nine else f t.v
end
end Go.Ped

import Derived.Test.YtiomojlcnemnhaaDoorGFxWb
import Derived.Test.YtiomojlcnemnhaaDoorProg
import Derived.KernelRfl
namespace Go.Proofs.YtiomojlcnemnhaaDoor
open Go.Fx
def ic93l0 : IC :=
 (.seq
 (.seq
 (.region [] [] [0, 2, 6, 15, 5, 1, 7, 28, 9, 34, 8, 49, 10, 59, 4] [⟨some 52, (.move (.t 10)), none, none⟩,⟨some 53, (.move (.t 6)), none, none⟩,⟨some 54, (.move (.t 9)), none, none⟩,⟨some 55, (.iaddr 6 (.t 53) (.t 54)), none, none⟩,⟨some 56, (.faddr 5 (.t 55)), none, none⟩,⟨some 57, (.load none (.t 56)), none, none⟩,⟨some 58, (.len (.t 57)), none, none⟩,⟨some 59, (.bin .lss (.t 52) (.t 58)), none, none⟩])
 (.cond (.t 59)
 .skip
 (.exit 4)))
 (.seq
 (.block 5
 (.region [71] [] [0, 2, 6, 15, 5, 1, 7, 28, 9, 34, 8, 49, 10, 59, 4] [⟨some 62, (.move (.t 8)), none, none⟩,⟨some 63, (.move (.t 6)), none, none⟩,⟨some 64, (.move (.t 9)), none, none⟩,⟨some 65, (.iaddr 6 (.t 63) (.t 64)), none, none⟩,⟨some 66, (.faddr 5 (.t 65)), none, none⟩,⟨some 67, (.load none (.t 66)), none, none⟩,⟨some 68, (.move (.t 10)), none, none⟩,⟨some 69, (.iaddr 6 (.t 67) (.t 68)), none, none⟩,⟨some 70, (.load (some 6) (.t 69)), none, none⟩,⟨some 71, (.row 47 6 [(.t 70)]), none, none⟩,⟨some 72, (.app 47 6 80 (.t 62) (.t 71)), none, none⟩,⟨some 8, (.move (.t 72)), none, none⟩]))
 (.region [] [] [0, 2, 6, 15, 5, 1, 7, 28, 9, 34, 8, 49, 10, 59, 4] [⟨some 60, (.move (.t 10)), none, none⟩,⟨some 61, (.bin .add (.t 60) (.k (rI .i64 1))), none, none⟩,⟨some 10, (.move (.t 61)), none, none⟩])))
def ic93l1 : IC :=
 (.seq
 (.seq
 (.region [] [] [0, 2, 6, 15, 5, 1, 7, 28, 9, 34, 8, 49, 10, 59, 4] [⟨some 31, (.move (.t 9)), none, none⟩,⟨some 32, (.move (.t 6)), none, none⟩,⟨some 33, (.len (.t 32)), none, none⟩,⟨some 34, (.bin .lss (.t 31) (.t 33)), none, none⟩])
 (.cond (.t 34)
 .skip
 (.exit 2)))
 (.seq
 (.block 3
 (.seq
 (.seq
 (.region [] [] [0, 2, 6, 15, 5, 1, 7, 28, 9, 34, 8, 49, 10, 59, 4] [⟨some 37, (.move (.t 5)), none, none⟩,⟨some 38, (.move (.t 8)), none, none⟩,⟨some 39, (.len (.t 38)), none, none⟩,⟨some 40, (.bin .add (.t 37) (.t 39)), none, none⟩,⟨some 41, (.move (.t 6)), none, none⟩,⟨some 42, (.move (.t 9)), none, none⟩,⟨some 43, (.iaddr 6 (.t 41) (.t 42)), none, none⟩,⟨some 44, (.faddr 5 (.t 43)), none, none⟩,⟨some 45, (.load none (.t 44)), none, none⟩,⟨some 46, (.len (.t 45)), none, none⟩,⟨some 47, (.bin .add (.t 40) (.t 46)), none, none⟩,⟨some 48, (.move (.t 1)), none, none⟩,⟨some 49, (.bin .gtr (.t 47) (.t 48)), none, none⟩])
 (.cond (.t 49)
 (.seq
 (.region [] [] [0, 2, 6, 15, 5, 1, 7, 28, 9, 34, 8, 49, 10, 59, 4] [⟨some 50, (.move (.t 1)), none, none⟩,⟨some 51, (.bin .add (.t 50) (.k (rI .i64 1))), none, none⟩,⟨some 4, (.move (.t 51)), none, none⟩])
 .ret)
 .skip))
 (.seq
 (.region [] [] [0, 2, 6, 15, 5, 1, 7, 28, 9, 34, 8, 49, 10, 59, 4] [⟨some 10, (.move (.k (rI .i64 0))), none, none⟩])
 (.block 4
 (.loop ic93l0)))))
 (.region [] [] [0, 2, 6, 15, 5, 1, 7, 28, 9, 34, 8, 49, 10, 59, 4] [⟨some 35, (.move (.t 9)), none, none⟩,⟨some 36, (.bin .add (.t 35) (.k (rI .i64 1))), none, none⟩,⟨some 9, (.move (.t 36)), none, none⟩])))
def ic93l2 : IC :=
 (.seq
 (.seq
 (.region [] [] [0, 2, 6, 15, 5, 1, 7, 28, 9, 34, 8, 49, 10, 59, 4] [⟨some 13, (.move (.t 6)), none, none⟩,⟨some 14, (.len (.t 13)), none, none⟩,⟨some 15, (.bin .gtr (.t 14) (.k (rI .i64 0))), none, none⟩])
 (.cond (.t 15)
 .skip
 (.exit 0)))
 (.seq
 (.block 1
 (.seq
 (.region [] [] [0, 2, 6, 15, 5, 1, 7, 28, 9, 34, 8, 49, 10, 59, 4] [⟨some 18, (.move (.t 5)), none, none⟩,⟨some 19, (.move (.t 6)), none, none⟩,⟨some 20, (.len (.t 19)), none, none⟩,⟨some 21, (.bin .add (.t 18) (.t 20)), none, none⟩,⟨some 5, (.move (.t 21)), none, none⟩])
 (.seq
 (.seq
 (.region [] [] [0, 2, 6, 15, 5, 1, 7, 28, 9, 34, 8, 49, 10, 59, 4] [⟨some 22, (.move (.t 5)), none, none⟩,⟨some 23, (.move (.t 1)), none, none⟩,⟨some 24, (.bin .gtr (.t 22) (.t 23)), none, none⟩,⟨some 25, (.move (.t 24)), none, none⟩,⟨some 26, (.move (.t 7)), some (25, false), none⟩,⟨some 27, (.bin .gtr (.t 26) (.k (rI .i64 65536))), some (25, false), none⟩,⟨some 28, (.pick (.t 25) (.k (rB true)) (.t 27)), none, none⟩])
 (.cond (.t 28)
 (.seq
 (.region [] [] [0, 2, 6, 15, 5, 1, 7, 28, 9, 34, 8, 49, 10, 59, 4] [⟨some 29, (.move (.t 1)), none, none⟩,⟨some 30, (.bin .add (.t 29) (.k (rI .i64 1))), none, none⟩,⟨some 4, (.move (.t 30)), none, none⟩])
 .ret)
 .skip))
 (.seq
 (.region [] [] [0, 2, 6, 15, 5, 1, 7, 28, 9, 34, 8, 49, 10, 59, 4] [⟨some 8, (.move (.k (.x (.one .nil)))), none, none⟩])
 (.seq
 (.seq
 (.region [] [] [0, 2, 6, 15, 5, 1, 7, 28, 9, 34, 8, 49, 10, 59, 4] [⟨some 9, (.move (.k (rI .i64 0))), none, none⟩])
 (.block 2
 (.loop ic93l1)))
 (.region [] [] [0, 2, 6, 15, 5, 1, 7, 28, 9, 34, 8, 49, 10, 59, 4] [⟨some 73, (.move (.t 8)), none, none⟩,⟨some 6, (.move (.t 73)), none, none⟩]))))))
 (.region [] [] [0, 2, 6, 15, 5, 1, 7, 28, 9, 34, 8, 49, 10, 59, 4] [⟨some 16, (.move (.t 7)), none, none⟩,⟨some 17, (.bin .add (.t 16) (.k (rI .i64 1))), none, none⟩,⟨some 7, (.move (.t 17)), none, none⟩])))
def ic93 : IC :=
 (.seq
 (.region [2] [] [0, 2, 6, 15, 5, 1, 7, 28, 9, 34, 8, 49, 10, 59, 4] [⟨some 2, (.box 47 (.t 0)), none, none⟩,⟨some 4, (.move (.k (rI .i64 0))), none, none⟩])
 (.seq
 (.region [] [] [0, 2, 6, 15, 5, 1, 7, 28, 9, 34, 8, 49, 10, 59, 4] [⟨some 5, (.move (.k (rI .i64 0))), none, none⟩])
 (.seq
 (.region [12] [] [0, 2, 6, 15, 5, 1, 7, 28, 9, 34, 8, 49, 10, 59, 4] [⟨some 11, (.load (some 6) (.t 2)), none, none⟩,⟨some 12, (.row 47 6 [(.t 11)]), none, none⟩,⟨some 6, (.move (.t 12)), none, none⟩])
 (.seq
 (.seq
 (.region [] [] [0, 2, 6, 15, 5, 1, 7, 28, 9, 34, 8, 49, 10, 59, 4] [⟨some 7, (.move (.k (rI .i64 0))), none, none⟩])
 (.block 0
 (.loop ic93l2)))
 (.seq
 (.region [] [] [0, 2, 6, 15, 5, 1, 7, 28, 9, 34, 8, 49, 10, 59, 4] [⟨some 74, (.move (.t 5)), none, none⟩,⟨some 4, (.move (.t 74)), none, none⟩])
 .ret)))))
def ir93 : List IRes := [.tmp 4]
theorem ie93 : cmpFunc Go.Proofs.Tryd.prog ⟨[], []⟩ Go.Proofs.Tryd.f93 [0, 2, 6, 15, 5, 1, 7, 28, 9, 34, 8, 49, 10, 59, 4] = some ic93 := by kernel_rfl
theorem ig93 : cmpRes Go.Proofs.Tryd.prog Go.Proofs.Tryd.f93.results.toList = some ir93 := by kernel_rfl
def ic94 : IC :=
 (.seq
 (.region [1] [] [0, 1, 2] [⟨some 1, (.box 47 (.t 0)), none, none⟩,⟨some 2, (.move (.k (rI .i64 0))), none, none⟩])
 (.seq
 (.region [] [] [0, 1, 2] [⟨some 3, (.load (some 6) (.t 1)), none, none⟩,⟨some 4, (.callp (.k (rF 158)) [(.t 3), (.k (rI .i64 8))]), none, none⟩,⟨some 5, (.callp (.k (rF 113)) [(.t 4)]), none, none⟩,⟨some 2, (.move (.t 5)), none, none⟩])
 .ret))
def ir94 : List IRes := [.tmp 2]
theorem ie94 : cmpFunc Go.Proofs.Tryd.prog ⟨[], []⟩ Go.Proofs.Tryd.f94 [0, 1, 2] = some ic94 := by kernel_rfl
theorem ig94 : cmpRes Go.Proofs.Tryd.prog Go.Proofs.Tryd.f94.results.toList = some ir94 := by kernel_rfl
def ic119l0 : IC :=
 (.seq
 (.seq
 (.region [] [] [0, 2, 6, 5, 1, 20, 4] [⟨some 11, (.move (.t 6)), none, none⟩,⟨some 12, (.faddr 2 (.t 2)), none, none⟩,⟨some 13, (.load none (.t 12)), none, none⟩,⟨some 14, (.len (.t 13)), none, none⟩,⟨some 15, (.bin .lss (.t 11) (.t 14)), none, none⟩,⟨some 16, (.move (.t 15)), none, none⟩,⟨some 17, (.move (.t 5)), some (16, true), none⟩,⟨some 18, (.move (.t 1)), some (16, true), none⟩,⟨some 19, (.bin .leq (.t 17) (.t 18)), some (16, true), none⟩,⟨some 20, (.pick (.t 16) (.t 19) (.k (rB false))), none, none⟩])
 (.cond (.t 20)
 .skip
 (.exit 0)))
 (.seq
 (.block 1
 (.region [] [] [0, 2, 6, 5, 1, 20, 4] [⟨some 23, (.move (.t 5)), none, none⟩,⟨some 24, (.faddr 2 (.t 2)), none, none⟩,⟨some 25, (.load none (.t 24)), none, none⟩,⟨some 26, (.move (.t 6)), none, none⟩,⟨some 27, (.iaddr 16 (.t 25) (.t 26)), none, none⟩,⟨some 28, (.load (some 16) (.t 27)), none, none⟩,⟨some 29, (.move (.t 1)), none, none⟩,⟨some 30, (.move (.t 5)), none, none⟩,⟨some 31, (.bin .sub (.t 29) (.t 30)), none, none⟩,⟨some 32, (.callp (.k (rF 171)) [(.t 28), (.t 31)]), none, none⟩,⟨some 33, (.bin .add (.t 23) (.t 32)), none, none⟩,⟨some 5, (.move (.t 33)), none, none⟩]))
 (.region [] [] [0, 2, 6, 5, 1, 20, 4] [⟨some 21, (.move (.t 6)), none, none⟩,⟨some 22, (.bin .add (.t 21) (.k (rI .i64 1))), none, none⟩,⟨some 6, (.move (.t 22)), none, none⟩])))
def ic119 : IC :=
 (.seq
 (.region [2] [] [0, 2, 6, 5, 1, 20, 4] [⟨some 2, (.box 96 (.t 0)), none, none⟩,⟨some 4, (.move (.k (rI .i64 0))), none, none⟩])
 (.seq
 (.region [] [] [0, 2, 6, 5, 1, 20, 4] [⟨some 7, (.faddr 1 (.t 2)), none, none⟩,⟨some 8, (.load none (.t 7)), none, none⟩,⟨some 9, (.len (.t 8)), none, none⟩,⟨some 10, (.bin .add (.k (rI .i64 1)) (.t 9)), none, none⟩,⟨some 5, (.move (.t 10)), none, none⟩])
 (.seq
 (.seq
 (.region [] [] [0, 2, 6, 5, 1, 20, 4] [⟨some 6, (.move (.k (rI .i64 0))), none, none⟩])
 (.block 0
 (.loop ic119l0)))
 (.seq
 (.region [] [] [0, 2, 6, 5, 1, 20, 4] [⟨some 34, (.move (.t 5)), none, none⟩,⟨some 4, (.move (.t 34)), none, none⟩])
 .ret))))
def ir119 : List IRes := [.tmp 4]
theorem ie119 : cmpFunc Go.Proofs.Tryd.prog ⟨[], []⟩ Go.Proofs.Tryd.f119 [0, 2, 6, 5, 1, 20, 4] = some ic119 := by kernel_rfl
theorem ig119 : cmpRes Go.Proofs.Tryd.prog Go.Proofs.Tryd.f119.results.toList = some ir119 := by kernel_rfl
def ic130 : IC :=
 (.seq
 (.region [1] [] [0, 1, 2] [⟨some 1, (.box 47 (.t 0)), none, none⟩,⟨some 2, (.move (.k (rB false))), none, none⟩])
 (.seq
 (.region [] [] [0, 1, 2] [⟨some 3, (.faddr 0 (.t 1)), none, none⟩,⟨some 4, (.load none (.t 3)), none, none⟩,⟨some 5, (.bin .eql (.t 4) (.k (rI .i8 0))), none, none⟩,⟨some 6, (.move (.t 5)), none, none⟩,⟨some 7, (.faddr 1 (.t 1)), some (6, true), none⟩,⟨some 8, (.load (some 4) (.t 7)), some (6, true), none⟩,⟨some 9, (.callp (.k (rF 180)) [(.t 8)]), some (6, true), none⟩,⟨some 10, (.pick (.t 6) (.t 9) (.k (rB false))), none, none⟩,⟨some 11, (.move (.t 10)), none, none⟩,⟨some 12, (.faddr 5 (.t 1)), some (11, true), none⟩,⟨some 13, (.load none (.t 12)), some (11, true), none⟩,⟨some 14, (.len (.t 13)), some (11, true), none⟩,⟨some 15, (.bin .eql (.t 14) (.k (rI .i64 0))), some (11, true), none⟩,⟨some 16, (.pick (.t 11) (.t 15) (.k (rB false))), none, none⟩,⟨some 2, (.move (.t 16)), none, none⟩])
 .ret))
def ir130 : List IRes := [.tmp 2]
theorem ie130 : cmpFunc Go.Proofs.Tryd.prog ⟨[], []⟩ Go.Proofs.Tryd.f130 [0, 1, 2] = some ic130 := by kernel_rfl
theorem ig130 : cmpRes Go.Proofs.Tryd.prog Go.Proofs.Tryd.f130.results.toList = some ir130 := by kernel_rfl
def ic158 : IC :=
 (.seq
 (.region [2, 3] [] [0, 1, 3, 6, 2, 9, 31, 4] [⟨some 2, (.box 47 (.t 0)), none, none⟩,⟨some 3, (.box 3 (.t 1)), none, none⟩,⟨some 4, (.move (.k (rB false))), none, none⟩])
 (.seq
 (.seq
 (.region [] [] [0, 1, 3, 6, 2, 9, 31, 4] [⟨some 5, (.load none (.t 3)), none, none⟩,⟨some 6, (.bin .eql (.t 5) (.k (rI .i64 0))), none, none⟩])
 (.cond (.t 6)
 (.seq
 (.region [] [] [0, 1, 3, 6, 2, 9, 31, 4] [⟨some 4, (.move (.k (rB false))), none, none⟩])
 .ret)
 .skip))
 (.seq
 (.seq
 (.region [] [] [0, 1, 3, 6, 2, 9, 31, 4] [⟨some 7, (.faddr 0 (.t 2)), none, none⟩,⟨some 8, (.load none (.t 7)), none, none⟩,⟨some 9, (.bin .eql (.t 8) (.k (rI .i8 0))), none, none⟩])
 (.cond (.t 9)
 (.seq
 (.region [] [] [0, 1, 3, 6, 2, 9, 31, 4] [⟨some 10, (.faddr 5 (.t 2)), none, none⟩,⟨some 11, (.load none (.t 10)), none, none⟩,⟨some 12, (.len (.t 11)), none, none⟩,⟨some 13, (.bin .eql (.t 12) (.k (rI .i64 0))), none, none⟩,⟨some 14, (.move (.t 13)), none, none⟩,⟨some 15, (.faddr 1 (.t 2)), some (14, true), none⟩,⟨some 16, (.load (some 4) (.t 15)), some (14, true), none⟩,⟨some 17, (.callp (.k (rF 183)) [(.t 16)]), some (14, true), none⟩,⟨some 18, (.pick (.t 14) (.t 17) (.k (rB false))), none, none⟩,⟨some 4, (.move (.t 18)), none, none⟩])
 .ret)
 .skip))
 (.seq
 (.seq
 (.region [] [] [0, 1, 3, 6, 2, 9, 31, 4] [⟨some 19, (.faddr 1 (.t 2)), none, none⟩,⟨some 20, (.load (some 4) (.t 19)), none, none⟩,⟨some 21, (.callp (.k (rF 180)) [(.t 20)]), none, none⟩,⟨some 22, (.un .not (.t 21)), none, none⟩,⟨some 23, (.move (.t 22)), none, none⟩,⟨some 24, (.faddr 5 (.t 2)), some (23, false), none⟩,⟨some 25, (.load none (.t 24)), some (23, false), none⟩,⟨some 26, (.len (.t 25)), some (23, false), none⟩,⟨some 27, (.faddr 0 (.t 2)), some (23, false), none⟩,⟨some 28, (.load none (.t 27)), some (23, false), none⟩,⟨some 29, (.callp (.k (rF 204)) [(.t 28)]), some (23, false), none⟩,⟨some 30, (.bin .neq (.t 26) (.t 29)), some (23, false), none⟩,⟨some 31, (.pick (.t 23) (.k (rB true)) (.t 30)), none, none⟩])
 (.cond (.t 31)
 (.seq
 (.region [] [] [0, 1, 3, 6, 2, 9, 31, 4] [⟨some 4, (.move (.k (rB false))), none, none⟩])
 .ret)
 .skip))
 (.seq
 (.region [] [] [0, 1, 3, 6, 2, 9, 31, 4] [⟨some 32, (.faddr 5 (.t 2)), none, none⟩,⟨some 33, (.load none (.t 32)), none, none⟩,⟨some 34, (.clo 206 [] [(.t 3)]), none, none⟩,⟨some 35, (.call (.k (rF 205)) [(.t 33), (.t 34)]), none, none⟩,⟨some 36, (.un .not (.t 35)), none, none⟩,⟨some 4, (.move (.t 36)), none, none⟩])
 .ret)))))
def ir158 : List IRes := [.tmp 4]
theorem ie158 : cmpFunc Go.Proofs.Tryd.prog ⟨[(35, none)], []⟩ Go.Proofs.Tryd.f158 [0, 1, 3, 6, 2, 9, 31, 4] = some ic158 := by kernel_rfl
theorem ig158 : cmpRes Go.Proofs.Tryd.prog Go.Proofs.Tryd.f158.results.toList = some ir158 := by kernel_rfl
def ic171 : IC :=
 (.seq
 (.region [2] [] [0, 2, 1, 5, 18, 4] [⟨some 2, (.box 88 (.t 0)), none, none⟩,⟨some 4, (.move (.k (rI .i64 0))), none, none⟩])
 (.seq
 (.region [] [] [0, 2, 1, 5, 18, 4] [⟨some 6, (.faddr 1 (.t 2)), none, none⟩,⟨some 7, (.faddr 1 (.t 6)), none, none⟩,⟨some 8, (.load none (.t 7)), none, none⟩,⟨some 9, (.len (.t 8)), none, none⟩,⟨some 10, (.bin .add (.k (rI .i64 1)) (.t 9)), none, none⟩,⟨some 11, (.faddr 4 (.t 2)), none, none⟩,⟨some 12, (.load (some 6) (.t 11)), none, none⟩,⟨some 13, (.move (.t 1)), none, none⟩,⟨some 14, (.callp (.k (rF 93)) [(.t 12), (.t 13)]), none, none⟩,⟨some 15, (.bin .add (.t 10) (.t 14)), none, none⟩,⟨some 5, (.move (.t 15)), none, none⟩])
 (.seq
 (.seq
 (.region [] [] [0, 2, 1, 5, 18, 4] [⟨some 16, (.move (.t 5)), none, none⟩,⟨some 17, (.move (.t 1)), none, none⟩,⟨some 18, (.bin .gtr (.t 16) (.t 17)), none, none⟩])
 (.cond (.t 18)
 (.seq
 (.region [] [] [0, 2, 1, 5, 18, 4] [⟨some 19, (.move (.t 1)), none, none⟩,⟨some 20, (.bin .add (.t 19) (.k (rI .i64 1))), none, none⟩,⟨some 4, (.move (.t 20)), none, none⟩])
 .ret)
 .skip))
 (.seq
 (.region [] [] [0, 2, 1, 5, 18, 4] [⟨some 21, (.move (.t 5)), none, none⟩,⟨some 22, (.faddr 10 (.t 2)), none, none⟩,⟨some 23, (.load (some 6) (.t 22)), none, none⟩,⟨some 24, (.move (.t 1)), none, none⟩,⟨some 25, (.move (.t 5)), none, none⟩,⟨some 26, (.bin .sub (.t 24) (.t 25)), none, none⟩,⟨some 27, (.callp (.k (rF 93)) [(.t 23), (.t 26)]), none, none⟩,⟨some 28, (.bin .add (.t 21) (.t 27)), none, none⟩,⟨some 4, (.move (.t 28)), none, none⟩])
 .ret))))
def ir171 : List IRes := [.tmp 4]
theorem ie171 : cmpFunc Go.Proofs.Tryd.prog ⟨[], []⟩ Go.Proofs.Tryd.f171 [0, 2, 1, 5, 18, 4] = some ic171 := by kernel_rfl
theorem ig171 : cmpRes Go.Proofs.Tryd.prog Go.Proofs.Tryd.f171.results.toList = some ir171 := by kernel_rfl
def ic180 : IC :=
 (.seq
 (.region [1] [] [0, 1, 2] [⟨some 1, (.box 41 (.t 0)), none, none⟩,⟨some 2, (.move (.k (rB false))), none, none⟩])
 (.seq
 (.region [] [] [0, 1, 2] [⟨some 3, (.load (some 4) (.t 1)), none, none⟩,⟨some 4, (.build [(.c (.v (.string (bs [])))), (.c (.v (.int .i8 0))), (.c (.v (.int .i64 0))), (.c (.v (.string (bs []))))] []), none, none⟩,⟨some 5, (.eqs false [.s, .i .i8, .i .i64, .s] (.t 3) (.t 4)), none, none⟩,⟨some 2, (.move (.t 5)), none, none⟩])
 .ret))
def ir180 : List IRes := [.tmp 2]
theorem ie180 : cmpFunc Go.Proofs.Tryd.prog ⟨[], []⟩ Go.Proofs.Tryd.f180 [0, 1, 2] = some ic180 := by kernel_rfl
theorem ig180 : cmpRes Go.Proofs.Tryd.prog Go.Proofs.Tryd.f180.results.toList = some ir180 := by kernel_rfl
def ic183 : IC :=
 (.seq
 (.region [1] [] [0, 1, 2] [⟨some 1, (.box 41 (.t 0)), none, none⟩,⟨some 2, (.move (.k (rB false))), none, none⟩])
 (.seq
 (.region [] [] [0, 1, 2] [⟨some 3, (.faddr 0 (.t 1)), none, none⟩,⟨some 4, (.load none (.t 3)), none, none⟩,⟨some 5, (.bin .neq (.t 4) (.k (rS (bs [95])))), none, none⟩,⟨some 6, (.move (.t 5)), none, none⟩,⟨some 7, (.load (some 4) (.t 1)), some (6, true), none⟩,⟨some 8, (.callp (.k (rF 117)) [(.t 7)]), some (6, true), none⟩,⟨some 9, (.bin .eql (.t 8) (.k (rI .i64 0))), some (6, true), none⟩,⟨some 10, (.pick (.t 6) (.t 9) (.k (rB false))), none, none⟩,⟨some 2, (.move (.t 10)), none, none⟩])
 .ret))
def ir183 : List IRes := [.tmp 2]
theorem ie183 : cmpFunc Go.Proofs.Tryd.prog ⟨[], []⟩ Go.Proofs.Tryd.f183 [0, 1, 2] = some ic183 := by kernel_rfl
theorem ig183 : cmpRes Go.Proofs.Tryd.prog Go.Proofs.Tryd.f183.results.toList = some ir183 := by kernel_rfl
def ic204 : IC :=
 (.seq
 (.region [] [] [0, 3, 4, 9, 2] [⟨some 2, (.move (.k (rI .i64 0))), none, none⟩])
 (.seq
 (.seq
 (.region [] [] [0, 3, 4, 9, 2] [⟨some 3, (.move (.t 0)), none, none⟩])
 (.block 0
 (.seq
 (.seq
 (.region [] [] [0, 3, 4, 9, 2] [⟨some 5, (.bin .eql (.t 3) (.k (rI .i8 1))), none, none⟩,⟨some 4, (.move (.t 5)), none, none⟩])
 (.cond (.t 4)
 .skip
 (.seq
 (.region [] [] [0, 3, 4, 9, 2] [⟨some 6, (.bin .eql (.t 3) (.k (rI .i8 8))), none, none⟩,⟨some 4, (.move (.t 6)), none, none⟩])
 (.cond (.t 4)
 .skip
 (.seq
 (.region [] [] [0, 3, 4, 9, 2] [⟨some 7, (.bin .eql (.t 3) (.k (rI .i8 9))), none, none⟩,⟨some 4, (.move (.t 7)), none, none⟩])
 (.cond (.t 4)
 .skip
 (.region [] [] [0, 3, 4, 9, 2] [⟨some 8, (.bin .eql (.t 3) (.k (rI .i8 10))), none, none⟩,⟨some 4, (.move (.t 8)), none, none⟩])))))))
 (.cond (.t 4)
 (.seq
 (.region [] [] [0, 3, 4, 9, 2] [⟨some 2, (.move (.k (rI .i64 1))), none, none⟩])
 .ret)
 (.seq
 (.seq
 (.region [] [] [0, 3, 4, 9, 2] [⟨some 10, (.bin .eql (.t 3) (.k (rI .i8 2))), none, none⟩,⟨some 9, (.move (.t 10)), none, none⟩])
 (.cond (.t 9)
 .skip
 (.seq
 (.region [] [] [0, 3, 4, 9, 2] [⟨some 11, (.bin .eql (.t 3) (.k (rI .i8 3))), none, none⟩,⟨some 9, (.move (.t 11)), none, none⟩])
 (.cond (.t 9)
 .skip
 (.seq
 (.region [] [] [0, 3, 4, 9, 2] [⟨some 12, (.bin .eql (.t 3) (.k (rI .i8 4))), none, none⟩,⟨some 9, (.move (.t 12)), none, none⟩])
 (.cond (.t 9)
 .skip
 (.seq
 (.region [] [] [0, 3, 4, 9, 2] [⟨some 13, (.bin .eql (.t 3) (.k (rI .i8 5))), none, none⟩,⟨some 9, (.move (.t 13)), none, none⟩])
 (.cond (.t 9)
 .skip
 (.seq
 (.region [] [] [0, 3, 4, 9, 2] [⟨some 14, (.bin .eql (.t 3) (.k (rI .i8 6))), none, none⟩,⟨some 9, (.move (.t 14)), none, none⟩])
 (.cond (.t 9)
 .skip
 (.region [] [] [0, 3, 4, 9, 2] [⟨some 15, (.bin .eql (.t 3) (.k (rI .i8 7))), none, none⟩,⟨some 9, (.move (.t 15)), none, none⟩])))))))))))
 (.cond (.t 9)
 (.seq
 (.region [] [] [0, 3, 4, 9, 2] [⟨some 2, (.move (.k (rI .i64 2))), none, none⟩])
 .ret)
 .skip))))))
 (.seq
 (.region [] [] [0, 3, 4, 9, 2] [⟨some 2, (.move (.k (rI .i64 (-1)))), none, none⟩])
 .ret)))
def ir204 : List IRes := [.tmp 2]
theorem ie204 : cmpFunc Go.Proofs.Tryd.prog ⟨[], []⟩ Go.Proofs.Tryd.f204 [0, 3, 4, 9, 2] = some ic204 := by kernel_rfl
theorem ig204 : cmpRes Go.Proofs.Tryd.prog Go.Proofs.Tryd.f204.results.toList = some ir204 := by kernel_rfl
def ic205 : IC :=
 (.seq
 (.region [] [] [0, 1, 4] [⟨some 4, (.move (.k (rB false))), none, none⟩])
 (.seq
 (.region [] [] [0, 1, 4] [⟨some 5, (.move (.t 0)), none, none⟩,⟨some 6, (.move (.t 1)), none, none⟩,⟨some 7, (.call (.k (rF 223)) [(.t 5), (.t 6)]), none, none⟩,⟨some 8, (.bin .geq (.t 7) (.k (rI .i64 0))), none, none⟩,⟨some 4, (.move (.t 8)), none, none⟩])
 .ret))
def ir205 : List IRes := [.tmp 4]
theorem ie205 : cmpFunc Go.Proofs.Tryd.prog ⟨[(7, none)], []⟩ Go.Proofs.Tryd.f205 [0, 1, 4] = some ic205 := by kernel_rfl
theorem ig205 : cmpRes Go.Proofs.Tryd.prog Go.Proofs.Tryd.f205.results.toList = some ir205 := by kernel_rfl
def ic206 : IC :=
 (.seq
 (.region [2] [] [0, 2, 1, 3] [⟨some 2, (.box 47 (.t 0)), none, none⟩,⟨some 3, (.move (.k (rB false))), none, none⟩])
 (.seq
 (.region [] [] [0, 2, 1, 3] [⟨some 4, (.load (some 6) (.t 2)), none, none⟩,⟨some 5, (.load none (.t 1)), none, none⟩,⟨some 6, (.bin .sub (.t 5) (.k (rI .i64 1))), none, none⟩,⟨some 7, (.callp (.k (rF 158)) [(.t 4), (.t 6)]), none, none⟩,⟨some 8, (.un .not (.t 7)), none, none⟩,⟨some 3, (.move (.t 8)), none, none⟩])
 .ret))
def ir206 : List IRes := [.tmp 3]
theorem ie206 : cmpFunc Go.Proofs.Tryd.prog ⟨[], []⟩ Go.Proofs.Tryd.f206 [0, 2, 1, 3] = some ic206 := by kernel_rfl
theorem ig206 : cmpRes Go.Proofs.Tryd.prog Go.Proofs.Tryd.f206.results.toList = some ir206 := by kernel_rfl
abbrev ks223 (t0 t8 t7 t9 t1 t5 t16 t4 : T) (O : List (Nat × Box)) (U : List (Nat × Fx.Tok)) (H : FHp) : S := st [(0, t0), (8, t8), (7, t7), (9, t9), (1, t1), (5, t5), (16, t16), (4, t4)] O U H
def ic223l0 : IC :=
 (.seq
 (.region [] [] [0, 8, 7, 9, 1, 5, 16, 4] [⟨some 9, (.bin .lss (.t 8) (.t 7)), none, none⟩])
 (.seq
 (.cond (.t 9)
 .skip
 (.exit 0))
 (.seq
 (.block 1
 (.seq
 (.region [] [] [0, 8, 7, 9, 1, 5, 16, 4] [⟨some 10, (.move (.t 8)), none, none⟩,⟨some 5, (.move (.t 10)), none, none⟩])
 (.seq
 (.region [] [] [0, 8, 7, 9, 1, 5, 16, 4] [⟨some 11, (.move (.t 1)), none, none⟩,⟨some 12, (.move (.t 0)), none, none⟩,⟨some 13, (.move (.t 5)), none, none⟩,⟨some 14, (.iaddr 6 (.t 12) (.t 13)), none, none⟩,⟨some 15, (.load (some 6) (.t 14)), none, none⟩,⟨some 16, (.call (.t 11) [(.t 15)]), none, none⟩])
 (.cond (.t 16)
 (.seq
 (.region [] [] [0, 8, 7, 9, 1, 5, 16, 4] [⟨some 17, (.move (.t 5)), none, none⟩,⟨some 4, (.move (.t 17)), none, none⟩])
 .ret)
 .skip))))
 (.region [] [] [0, 8, 7, 9, 1, 5, 16, 4] [⟨some 18, (.bin .add (.t 8) (.k (rI .i64 1))), none, none⟩,⟨some 8, (.move (.t 18)), none, none⟩]))))
def ic223 : IC :=
 (.seq
 (.region [] [] [0, 8, 7, 9, 1, 5, 16, 4] [⟨some 4, (.move (.k (rI .i64 0))), none, none⟩])
 (.seq
 (.seq
 (.region [] [] [0, 8, 7, 9, 1, 5, 16, 4] [⟨some 6, (.move (.t 0)), none, none⟩,⟨some 7, (.len (.t 6)), none, none⟩,⟨some 8, (.move (.k (rI .i64 0))), none, none⟩])
 (.block 0
 (.loop ic223l0)))
 (.seq
 (.region [] [] [0, 8, 7, 9, 1, 5, 16, 4] [⟨some 4, (.move (.k (rI .i64 (-1)))), none, none⟩])
 .ret)))
def ir223 : List IRes := [.tmp 4]
theorem ie223 : cmpFunc Go.Proofs.Tryd.prog ⟨[(16, none)], []⟩ Go.Proofs.Tryd.f223 [0, 8, 7, 9, 1, 5, 16, 4] = some ic223 := by kernel_rfl
theorem ig223 : cmpRes Go.Proofs.Tryd.prog Go.Proofs.Tryd.f223.results.toList = some ir223 := by kernel_rfl
end Go.Proofs.YtiomojlcnemnhaaDoor

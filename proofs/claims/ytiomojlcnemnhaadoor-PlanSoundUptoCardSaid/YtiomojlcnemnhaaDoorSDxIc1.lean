import Derived.Test.YtiomojlcnemnhaaDoorSFxZ
import Derived.Test.YtiomojlcnemnhaaDoorProg
import Derived.KernelRfl
namespace Go.Proofs.YtiomojlcnemnhaaDoor
open Go.Fx
def ic72 : IC :=
 (.seq
 (.region [2, 3] [] [0, 1, 2, 3, 4] [⟨some 2, (.box 96 (.t 0)), none, none⟩,⟨some 3, (.box 96 (.t 1)), none, none⟩,⟨some 4, (.move (.k (rB false))), none, none⟩])
 (.seq
 (.region [] [] [0, 1, 2, 3, 4] [⟨some 5, (.faddr 0 (.t 2)), none, none⟩,⟨some 6, (.load none (.t 5)), none, none⟩,⟨some 7, (.faddr 0 (.t 3)), none, none⟩,⟨some 8, (.load none (.t 7)), none, none⟩,⟨some 9, (.bin .eql (.t 6) (.t 8)), none, none⟩,⟨some 10, (.move (.t 9)), none, none⟩,⟨some 11, (.faddr 1 (.t 2)), some (10, true), none⟩,⟨some 12, (.load none (.t 11)), some (10, true), none⟩,⟨some 13, (.faddr 1 (.t 3)), some (10, true), none⟩,⟨some 14, (.load none (.t 13)), some (10, true), none⟩,⟨some 15, (.callp (.k (rF 139)) [(.t 12), (.t 14)]), some (10, true), none⟩,⟨some 16, (.pick (.t 10) (.t 15) (.k (rB false))), none, none⟩,⟨some 17, (.move (.t 16)), none, none⟩,⟨some 18, (.faddr 2 (.t 2)), some (17, true), none⟩,⟨some 19, (.load none (.t 18)), some (17, true), none⟩,⟨some 20, (.faddr 2 (.t 3)), some (17, true), none⟩,⟨some 21, (.load none (.t 20)), some (17, true), none⟩,⟨some 22, (.callp (.k (rF 140)) [(.t 19), (.t 21)]), some (17, true), none⟩,⟨some 23, (.pick (.t 17) (.t 22) (.k (rB false))), none, none⟩,⟨some 4, (.move (.t 23)), none, none⟩])
 .ret))
def ir72 : List IRes := [.tmp 4]
theorem ie72 : cmpFunc Go.Proofs.Tryd.prog ⟨[], []⟩ Go.Proofs.Tryd.f72 [0, 1, 2, 3, 4] = some ic72 := by kernel_rfl
theorem ig72 : cmpRes Go.Proofs.Tryd.prog Go.Proofs.Tryd.f72.results.toList = some ir72 := by kernel_rfl
def ic140l0 : IC :=
 (.seq
 (.seq
 (.region [] [] [0, 1, 10, 5, 14, 26, 4] [⟨some 11, (.move (.t 5)), none, none⟩,⟨some 12, (.move (.t 0)), none, none⟩,⟨some 13, (.len (.t 12)), none, none⟩,⟨some 14, (.bin .lss (.t 11) (.t 13)), none, none⟩])
 (.cond (.t 14)
 .skip
 (.exit 0)))
 (.seq
 (.block 1
 (.seq
 (.region [] [] [0, 1, 10, 5, 14, 26, 4] [⟨some 17, (.move (.t 0)), none, none⟩,⟨some 18, (.move (.t 5)), none, none⟩,⟨some 19, (.iaddr 16 (.t 17) (.t 18)), none, none⟩,⟨some 20, (.load (some 16) (.t 19)), none, none⟩,⟨some 21, (.move (.t 1)), none, none⟩,⟨some 22, (.move (.t 5)), none, none⟩,⟨some 23, (.iaddr 16 (.t 21) (.t 22)), none, none⟩,⟨some 24, (.load (some 16) (.t 23)), none, none⟩,⟨some 25, (.callp (.k (rF 187)) [(.t 20), (.t 24)]), none, none⟩,⟨some 26, (.un .not (.t 25)), none, none⟩])
 (.cond (.t 26)
 (.seq
 (.region [] [] [0, 1, 10, 5, 14, 26, 4] [⟨some 4, (.move (.k (rB false))), none, none⟩])
 .ret)
 .skip)))
 (.region [] [] [0, 1, 10, 5, 14, 26, 4] [⟨some 15, (.move (.t 5)), none, none⟩,⟨some 16, (.bin .add (.t 15) (.k (rI .i64 1))), none, none⟩,⟨some 5, (.move (.t 16)), none, none⟩])))
def ic140 : IC :=
 (.seq
 (.region [] [] [0, 1, 10, 5, 14, 26, 4] [⟨some 4, (.move (.k (rB false))), none, none⟩])
 (.seq
 (.seq
 (.region [] [] [0, 1, 10, 5, 14, 26, 4] [⟨some 6, (.move (.t 0)), none, none⟩,⟨some 7, (.len (.t 6)), none, none⟩,⟨some 8, (.move (.t 1)), none, none⟩,⟨some 9, (.len (.t 8)), none, none⟩,⟨some 10, (.bin .neq (.t 7) (.t 9)), none, none⟩])
 (.cond (.t 10)
 (.seq
 (.region [] [] [0, 1, 10, 5, 14, 26, 4] [⟨some 4, (.move (.k (rB false))), none, none⟩])
 .ret)
 .skip))
 (.seq
 (.seq
 (.region [] [] [0, 1, 10, 5, 14, 26, 4] [⟨some 5, (.move (.k (rI .i64 0))), none, none⟩])
 (.block 0
 (.loop ic140l0)))
 (.seq
 (.region [] [] [0, 1, 10, 5, 14, 26, 4] [⟨some 4, (.move (.k (rB true))), none, none⟩])
 .ret))))
def ir140 : List IRes := [.tmp 4]
theorem ie140 : cmpFunc Go.Proofs.Tryd.prog ⟨[], []⟩ Go.Proofs.Tryd.f140 [0, 1, 10, 5, 14, 26, 4] = some ic140 := by kernel_rfl
theorem ig140 : cmpRes Go.Proofs.Tryd.prog Go.Proofs.Tryd.f140.results.toList = some ir140 := by kernel_rfl
def ic187 : IC :=
 (.seq
 (.region [2, 3] [] [0, 1, 2, 3, 4] [⟨some 2, (.box 88 (.t 0)), none, none⟩,⟨some 3, (.box 88 (.t 1)), none, none⟩,⟨some 4, (.move (.k (rB false))), none, none⟩])
 (.seq
 (.region [] [] [0, 1, 2, 3, 4] [⟨some 5, (.faddr 0 (.t 2)), none, none⟩,⟨some 6, (.load none (.t 5)), none, none⟩,⟨some 7, (.faddr 0 (.t 3)), none, none⟩,⟨some 8, (.load none (.t 7)), none, none⟩,⟨some 9, (.bin .eql (.t 6) (.t 8)), none, none⟩,⟨some 10, (.move (.t 9)), none, none⟩,⟨some 11, (.faddr 3 (.t 2)), some (10, true), none⟩,⟨some 12, (.load none (.t 11)), some (10, true), none⟩,⟨some 13, (.faddr 3 (.t 3)), some (10, true), none⟩,⟨some 14, (.load none (.t 13)), some (10, true), none⟩,⟨some 15, (.bin .eql (.t 12) (.t 14)), some (10, true), none⟩,⟨some 16, (.pick (.t 10) (.t 15) (.k (rB false))), none, none⟩,⟨some 17, (.move (.t 16)), none, none⟩,⟨some 18, (.faddr 1 (.t 2)), some (17, true), none⟩,⟨some 19, (.load (some 2) (.t 18)), some (17, true), none⟩,⟨some 20, (.faddr 1 (.t 3)), some (17, true), none⟩,⟨some 21, (.load (some 2) (.t 20)), some (17, true), none⟩,⟨some 22, (.callp (.k (rF 55)) [(.t 19), (.t 21)]), some (17, true), none⟩,⟨some 23, (.pick (.t 17) (.t 22) (.k (rB false))), none, none⟩,⟨some 24, (.move (.t 23)), none, none⟩,⟨some 25, (.faddr 4 (.t 2)), some (24, true), none⟩,⟨some 26, (.load (some 6) (.t 25)), some (24, true), none⟩,⟨some 27, (.faddr 4 (.t 3)), some (24, true), none⟩,⟨some 28, (.load (some 6) (.t 27)), some (24, true), none⟩,⟨some 29, (.callp (.k (rF 209)) [(.t 26), (.t 28)]), some (24, true), none⟩,⟨some 30, (.pick (.t 24) (.t 29) (.k (rB false))), none, none⟩,⟨some 31, (.move (.t 30)), none, none⟩,⟨some 32, (.faddr 10 (.t 2)), some (31, true), none⟩,⟨some 33, (.load (some 6) (.t 32)), some (31, true), none⟩,⟨some 34, (.faddr 10 (.t 3)), some (31, true), none⟩,⟨some 35, (.load (some 6) (.t 34)), some (31, true), none⟩,⟨some 36, (.callp (.k (rF 209)) [(.t 33), (.t 35)]), some (31, true), none⟩,⟨some 37, (.pick (.t 31) (.t 36) (.k (rB false))), none, none⟩,⟨some 4, (.move (.t 37)), none, none⟩])
 .ret))
def ir187 : List IRes := [.tmp 4]
theorem ie187 : cmpFunc Go.Proofs.Tryd.prog ⟨[], []⟩ Go.Proofs.Tryd.f187 [0, 1, 2, 3, 4] = some ic187 := by kernel_rfl
theorem ig187 : cmpRes Go.Proofs.Tryd.prog Go.Proofs.Tryd.f187.results.toList = some ir187 := by kernel_rfl
def ic209 : IC :=
 (.seq
 (.region [2, 3] [] [0, 1, 2, 3, 4] [⟨some 2, (.box 47 (.t 0)), none, none⟩,⟨some 3, (.box 47 (.t 1)), none, none⟩,⟨some 4, (.move (.k (rB false))), none, none⟩])
 (.seq
 (.region [] [] [0, 1, 2, 3, 4] [⟨some 5, (.faddr 0 (.t 2)), none, none⟩,⟨some 6, (.load none (.t 5)), none, none⟩,⟨some 7, (.faddr 0 (.t 3)), none, none⟩,⟨some 8, (.load none (.t 7)), none, none⟩,⟨some 9, (.bin .eql (.t 6) (.t 8)), none, none⟩,⟨some 10, (.move (.t 9)), none, none⟩,⟨some 11, (.faddr 1 (.t 2)), some (10, true), none⟩,⟨some 12, (.load (some 4) (.t 11)), some (10, true), none⟩,⟨some 13, (.faddr 1 (.t 3)), some (10, true), none⟩,⟨some 14, (.load (some 4) (.t 13)), some (10, true), none⟩,⟨some 15, (.eqs false [.s, .i .i8, .i .i64, .s] (.t 12) (.t 14)), some (10, true), none⟩,⟨some 16, (.pick (.t 10) (.t 15) (.k (rB false))), none, none⟩,⟨some 17, (.move (.t 16)), none, none⟩,⟨some 18, (.faddr 5 (.t 2)), some (17, true), none⟩,⟨some 19, (.load none (.t 18)), some (17, true), none⟩,⟨some 20, (.faddr 5 (.t 3)), some (17, true), none⟩,⟨some 21, (.load none (.t 20)), some (17, true), none⟩,⟨some 22, (.callp (.k (rF 225)) [(.t 19), (.t 21)]), some (17, true), none⟩,⟨some 23, (.pick (.t 17) (.t 22) (.k (rB false))), none, none⟩,⟨some 4, (.move (.t 23)), none, none⟩])
 .ret))
def ir209 : List IRes := [.tmp 4]
theorem ie209 : cmpFunc Go.Proofs.Tryd.prog ⟨[], []⟩ Go.Proofs.Tryd.f209 [0, 1, 2, 3, 4] = some ic209 := by kernel_rfl
theorem ig209 : cmpRes Go.Proofs.Tryd.prog Go.Proofs.Tryd.f209.results.toList = some ir209 := by kernel_rfl
def ic225l0 : IC :=
 (.seq
 (.seq
 (.region [] [] [0, 1, 10, 5, 14, 26, 4] [⟨some 11, (.move (.t 5)), none, none⟩,⟨some 12, (.move (.t 0)), none, none⟩,⟨some 13, (.len (.t 12)), none, none⟩,⟨some 14, (.bin .lss (.t 11) (.t 13)), none, none⟩])
 (.cond (.t 14)
 .skip
 (.exit 0)))
 (.seq
 (.block 1
 (.seq
 (.region [] [] [0, 1, 10, 5, 14, 26, 4] [⟨some 17, (.move (.t 0)), none, none⟩,⟨some 18, (.move (.t 5)), none, none⟩,⟨some 19, (.iaddr 6 (.t 17) (.t 18)), none, none⟩,⟨some 20, (.load (some 6) (.t 19)), none, none⟩,⟨some 21, (.move (.t 1)), none, none⟩,⟨some 22, (.move (.t 5)), none, none⟩,⟨some 23, (.iaddr 6 (.t 21) (.t 22)), none, none⟩,⟨some 24, (.load (some 6) (.t 23)), none, none⟩,⟨some 25, (.callp (.k (rF 209)) [(.t 20), (.t 24)]), none, none⟩,⟨some 26, (.un .not (.t 25)), none, none⟩])
 (.cond (.t 26)
 (.seq
 (.region [] [] [0, 1, 10, 5, 14, 26, 4] [⟨some 4, (.move (.k (rB false))), none, none⟩])
 .ret)
 .skip)))
 (.region [] [] [0, 1, 10, 5, 14, 26, 4] [⟨some 15, (.move (.t 5)), none, none⟩,⟨some 16, (.bin .add (.t 15) (.k (rI .i64 1))), none, none⟩,⟨some 5, (.move (.t 16)), none, none⟩])))
def ic225 : IC :=
 (.seq
 (.region [] [] [0, 1, 10, 5, 14, 26, 4] [⟨some 4, (.move (.k (rB false))), none, none⟩])
 (.seq
 (.seq
 (.region [] [] [0, 1, 10, 5, 14, 26, 4] [⟨some 6, (.move (.t 0)), none, none⟩,⟨some 7, (.len (.t 6)), none, none⟩,⟨some 8, (.move (.t 1)), none, none⟩,⟨some 9, (.len (.t 8)), none, none⟩,⟨some 10, (.bin .neq (.t 7) (.t 9)), none, none⟩])
 (.cond (.t 10)
 (.seq
 (.region [] [] [0, 1, 10, 5, 14, 26, 4] [⟨some 4, (.move (.k (rB false))), none, none⟩])
 .ret)
 .skip))
 (.seq
 (.seq
 (.region [] [] [0, 1, 10, 5, 14, 26, 4] [⟨some 5, (.move (.k (rI .i64 0))), none, none⟩])
 (.block 0
 (.loop ic225l0)))
 (.seq
 (.region [] [] [0, 1, 10, 5, 14, 26, 4] [⟨some 4, (.move (.k (rB true))), none, none⟩])
 .ret))))
def ir225 : List IRes := [.tmp 4]
theorem ie225 : cmpFunc Go.Proofs.Tryd.prog ⟨[], []⟩ Go.Proofs.Tryd.f225 [0, 1, 10, 5, 14, 26, 4] = some ic225 := by kernel_rfl
theorem ig225 : cmpRes Go.Proofs.Tryd.prog Go.Proofs.Tryd.f225.results.toList = some ir225 := by kernel_rfl
end Go.Proofs.YtiomojlcnemnhaaDoor

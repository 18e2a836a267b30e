import Derived.Test.YtiomojlcnemnhaaDoorWFxZ
import Derived.Test.YtiomojlcnemnhaaDoorProg
import Derived.KernelRfl
namespace Go.Proofs.YtiomojlcnemnhaaDoor
open Go.Fx
def ic62 : IC :=
 (.seq
 (.region [1] [] [0, 1, 2] [⟨some 1, (.box 96 (.t 0)), none, none⟩,⟨some 2, (.move (.k (rB false))), none, none⟩])
 (.seq
 (.region [] [] [0, 1, 2] [⟨some 3, (.load (some 3) (.t 1)), none, none⟩,⟨some 4, (.callp (.k (rF 119)) [(.t 3), (.k (rI .i64 1048576))]), none, none⟩,⟨some 5, (.bin .gtr (.t 4) (.k (rI .i64 1048576))), none, none⟩,⟨some 2, (.move (.t 5)), none, none⟩])
 .ret))
def ir62 : List IRes := [.tmp 2]
theorem ie62 : cmpFunc Go.Proofs.Tryd.prog ⟨[], []⟩ Go.Proofs.Tryd.f62 [0, 1, 2] = some ic62 := by kernel_rfl
theorem ig62 : cmpRes Go.Proofs.Tryd.prog Go.Proofs.Tryd.f62.results.toList = some ir62 := by kernel_rfl
def ic66l0 : IC :=
 (.seq
 (.region [] [] [0, 1, 23, 27, 26, 28, 25, 4, 33, 38, 37, 39, 36, 6, 7, 45, 2] [⟨some 28, (.bin .lss (.t 27) (.t 26)), none, none⟩])
 (.seq
 (.cond (.t 28)
 .skip
 (.exit 0))
 (.seq
 (.block 1
 (.seq
 (.region [4] [] [0, 1, 23, 27, 26, 28, 25, 4, 33, 38, 37, 39, 36, 6, 7, 45, 2] [⟨some 29, (.iaddr 5 (.t 25) (.t 27)), none, none⟩,⟨some 30, (.load (some 5) (.t 29)), none, none⟩,⟨some 4, (.zero 189 [(.c (.v (.int .i8 0))), (.c (.v (.string (bs [])))), (.c (.v (.int .i8 0))), (.c (.v (.int .i64 0))), (.c (.v (.string (bs []))))]), none, none⟩,⟨none, (.store (some 5) (.t 4) (.t 30)), none, none⟩])
 (.seq
 (.region [] [] [0, 1, 23, 27, 26, 28, 25, 4, 33, 38, 37, 39, 36, 6, 7, 45, 2] [⟨some 31, (.load (some 5) (.t 4)), none, none⟩,⟨some 32, (.callp (.k (rF 134)) [(.t 31)]), none, none⟩,⟨some 33, (.un .not (.t 32)), none, none⟩])
 (.cond (.t 33)
 (.seq
 (.region [] [] [0, 1, 23, 27, 26, 28, 25, 4, 33, 38, 37, 39, 36, 6, 7, 45, 2] [⟨some 2, (.move (.k (rI .i64 40))), none, none⟩])
 .ret)
 .skip))))
 (.region [] [] [0, 1, 23, 27, 26, 28, 25, 4, 33, 38, 37, 39, 36, 6, 7, 45, 2] [⟨some 34, (.bin .add (.t 27) (.k (rI .i64 1))), none, none⟩,⟨some 27, (.move (.t 34)), none, none⟩]))))
def ic66l1 : IC :=
 (.seq
 (.region [] [] [0, 1, 23, 27, 26, 28, 25, 4, 33, 38, 37, 39, 36, 6, 7, 45, 2] [⟨some 39, (.bin .lss (.t 38) (.t 37)), none, none⟩])
 (.seq
 (.cond (.t 39)
 .skip
 (.exit 2))
 (.seq
 (.block 3
 (.seq
 (.region [6] [] [0, 1, 23, 27, 26, 28, 25, 4, 33, 38, 37, 39, 36, 6, 7, 45, 2] [⟨some 40, (.iaddr 16 (.t 36) (.t 38)), none, none⟩,⟨some 41, (.load (some 16) (.t 40)), none, none⟩,⟨some 6, (.zero 88 [(.c (.v (.int .i8 0))), (.c (.v (.string (bs [])))), .nil, (.c (.v (.int .i8 0))), (.c (.v (.int .i8 0))), (.c (.v (.string (bs [])))), (.c (.v (.int .i8 0))), (.c (.v (.int .i64 0))), (.c (.v (.string (bs [])))), .nil, (.c (.v (.int .i8 0))), (.c (.v (.string (bs [])))), (.c (.v (.int .i8 0))), (.c (.v (.int .i64 0))), (.c (.v (.string (bs [])))), .nil]), none, none⟩,⟨none, (.store (some 16) (.t 6) (.t 41)), none, none⟩])
 (.seq
 (.region [] [] [0, 1, 23, 27, 26, 28, 25, 4, 33, 38, 37, 39, 36, 6, 7, 45, 2] [⟨some 42, (.load (some 16) (.t 6)), none, none⟩,⟨some 43, (.callp (.k (rF 57)) [(.t 42)]), none, none⟩,⟨some 7, (.move (.t 43)), none, none⟩])
 (.seq
 (.region [] [] [0, 1, 23, 27, 26, 28, 25, 4, 33, 38, 37, 39, 36, 6, 7, 45, 2] [⟨some 44, (.move (.t 7)), none, none⟩,⟨some 45, (.bin .neq (.t 44) (.k (rI .i64 0))), none, none⟩])
 (.cond (.t 45)
 (.seq
 (.region [] [] [0, 1, 23, 27, 26, 28, 25, 4, 33, 38, 37, 39, 36, 6, 7, 45, 2] [⟨some 46, (.move (.t 7)), none, none⟩,⟨some 2, (.move (.t 46)), none, none⟩])
 .ret)
 .skip)))))
 (.region [] [] [0, 1, 23, 27, 26, 28, 25, 4, 33, 38, 37, 39, 36, 6, 7, 45, 2] [⟨some 47, (.bin .add (.t 38) (.k (rI .i64 1))), none, none⟩,⟨some 38, (.move (.t 47)), none, none⟩]))))
def ic66 : IC :=
 (.seq
 (.region [1] [] [0, 1, 23, 27, 26, 28, 25, 4, 33, 38, 37, 39, 36, 6, 7, 45, 2] [⟨some 1, (.box 96 (.t 0)), none, none⟩,⟨some 2, (.move (.k (rI .i64 0))), none, none⟩])
 (.seq
 (.seq
 (.region [] [] [0, 1, 23, 27, 26, 28, 25, 4, 33, 38, 37, 39, 36, 6, 7, 45, 2] [⟨some 8, (.faddr 0 (.t 1)), none, none⟩,⟨some 9, (.load none (.t 8)), none, none⟩,⟨some 10, (.callp (.k (rF 114)) [(.t 9)]), none, none⟩,⟨some 11, (.un .not (.t 10)), none, none⟩,⟨some 12, (.move (.t 11)), none, none⟩,⟨some 13, (.faddr 1 (.t 1)), some (12, false), none⟩,⟨some 14, (.load none (.t 13)), some (12, false), none⟩,⟨some 15, (.len (.t 14)), some (12, false), none⟩,⟨some 16, (.bin .gtr (.t 15) (.k (rI .i64 24))), some (12, false), none⟩,⟨some 17, (.pick (.t 12) (.k (rB true)) (.t 16)), none, none⟩,⟨some 18, (.move (.t 17)), none, none⟩,⟨some 19, (.faddr 2 (.t 1)), some (18, false), none⟩,⟨some 20, (.load none (.t 19)), some (18, false), none⟩,⟨some 21, (.len (.t 20)), some (18, false), none⟩,⟨some 22, (.bin .gtr (.t 21) (.k (rI .i64 16))), some (18, false), none⟩,⟨some 23, (.pick (.t 18) (.k (rB true)) (.t 22)), none, none⟩])
 (.cond (.t 23)
 (.seq
 (.region [] [] [0, 1, 23, 27, 26, 28, 25, 4, 33, 38, 37, 39, 36, 6, 7, 45, 2] [⟨some 2, (.move (.k (rI .i64 40))), none, none⟩])
 .ret)
 .skip))
 (.seq
 (.seq
 (.region [] [] [0, 1, 23, 27, 26, 28, 25, 4, 33, 38, 37, 39, 36, 6, 7, 45, 2] [⟨some 24, (.faddr 1 (.t 1)), none, none⟩,⟨some 25, (.load none (.t 24)), none, none⟩,⟨some 26, (.len (.t 25)), none, none⟩,⟨some 27, (.move (.k (rI .i64 0))), none, none⟩])
 (.block 0
 (.loop ic66l0)))
 (.seq
 (.seq
 (.region [] [] [0, 1, 23, 27, 26, 28, 25, 4, 33, 38, 37, 39, 36, 6, 7, 45, 2] [⟨some 35, (.faddr 2 (.t 1)), none, none⟩,⟨some 36, (.load none (.t 35)), none, none⟩,⟨some 37, (.len (.t 36)), none, none⟩,⟨some 38, (.move (.k (rI .i64 0))), none, none⟩])
 (.block 2
 (.loop ic66l1)))
 (.seq
 (.region [] [] [0, 1, 23, 27, 26, 28, 25, 4, 33, 38, 37, 39, 36, 6, 7, 45, 2] [⟨some 48, (.load (some 3) (.t 1)), none, none⟩,⟨some 49, (.callp (.k (rF 68)) [(.t 48)]), none, none⟩,⟨some 50, (.len (.t 49)), none, none⟩,⟨some 51, (.bin .leq (.t 50) (.k (rI .i64 24))), none, none⟩,⟨some 52, (.callp (.k (rF 113)) [(.t 51)]), none, none⟩,⟨some 2, (.move (.t 52)), none, none⟩])
 .ret)))))
def ir66 : List IRes := [.tmp 2]
theorem ie66 : cmpFunc Go.Proofs.Tryd.prog ⟨[], []⟩ Go.Proofs.Tryd.f66 [0, 1, 23, 27, 26, 28, 25, 4, 33, 38, 37, 39, 36, 6, 7, 45, 2] = some ic66 := by kernel_rfl
theorem ig66 : cmpRes Go.Proofs.Tryd.prog Go.Proofs.Tryd.f66.results.toList = some ir66 := by kernel_rfl
def ic68 : IC :=
 (.seq
 (.region [1] [] [0, 1, 2] [⟨some 1, (.box 96 (.t 0)), none, none⟩,⟨some 2, (.move (.k (.x (.one .nil)))), none, none⟩])
 (.seq
 (.region [] [.fz [1]] [0, 1, 2] [⟨some 3, (.mki 191 (.t 1)), none, none⟩,⟨some 4, (.call (.k (rF 118)) [(.t 3)]), none, none⟩,⟨some 2, (.move (.t 4)), none, none⟩])
 .ret))
def ir68 : List IRes := [.tmp 2]
theorem ie68 : cmpFunc Go.Proofs.Tryd.prog ⟨[(4, none)], [(3, .fz [1])]⟩ Go.Proofs.Tryd.f68 [0, 1, 2] = some ic68 := by kernel_rfl
theorem ig68 : cmpRes Go.Proofs.Tryd.prog Go.Proofs.Tryd.f68.results.toList = some ir68 := by kernel_rfl
def ic134 : IC :=
 (.seq
 (.region [1] [] [0, 1, 4, 5, 10, 15, 2] [⟨some 1, (.box 189 (.t 0)), none, none⟩,⟨some 2, (.move (.k (rB false))), none, none⟩])
 (.seq
 (.seq
 (.region [] [] [0, 1, 4, 5, 10, 15, 2] [⟨some 3, (.faddr 0 (.t 1)), none, none⟩,⟨some 4, (.load none (.t 3)), none, none⟩])
 (.block 0
 (.seq
 (.region [] [] [0, 1, 4, 5, 10, 15, 2] [⟨some 6, (.bin .eql (.t 4) (.k (rI .i8 0))), none, none⟩,⟨some 5, (.move (.t 6)), none, none⟩])
 (.cond (.t 5)
 (.seq
 (.region [] [] [0, 1, 4, 5, 10, 15, 2] [⟨some 7, (.faddr 1 (.t 1)), none, none⟩,⟨some 8, (.load (some 4) (.t 7)), none, none⟩,⟨some 9, (.callp (.k (rF 183)) [(.t 8)]), none, none⟩,⟨some 2, (.move (.t 9)), none, none⟩])
 .ret)
 (.seq
 (.region [] [] [0, 1, 4, 5, 10, 15, 2] [⟨some 11, (.bin .eql (.t 4) (.k (rI .i8 1))), none, none⟩,⟨some 10, (.move (.t 11)), none, none⟩])
 (.cond (.t 10)
 (.seq
 (.region [] [] [0, 1, 4, 5, 10, 15, 2] [⟨some 12, (.faddr 1 (.t 1)), none, none⟩,⟨some 13, (.load (some 4) (.t 12)), none, none⟩,⟨some 14, (.callp (.k (rF 180)) [(.t 13)]), none, none⟩,⟨some 2, (.move (.t 14)), none, none⟩])
 .ret)
 (.seq
 (.seq
 (.region [] [] [0, 1, 4, 5, 10, 15, 2] [⟨some 16, (.bin .eql (.t 4) (.k (rI .i8 2))), none, none⟩,⟨some 15, (.move (.t 16)), none, none⟩])
 (.cond (.t 15)
 .skip
 (.seq
 (.region [] [] [0, 1, 4, 5, 10, 15, 2] [⟨some 17, (.bin .eql (.t 4) (.k (rI .i8 3))), none, none⟩,⟨some 15, (.move (.t 17)), none, none⟩])
 (.cond (.t 15)
 .skip
 (.region [] [] [0, 1, 4, 5, 10, 15, 2] [⟨some 18, (.bin .eql (.t 4) (.k (rI .i8 4))), none, none⟩,⟨some 15, (.move (.t 18)), none, none⟩])))))
 (.cond (.t 15)
 (.seq
 (.region [] [] [0, 1, 4, 5, 10, 15, 2] [⟨some 19, (.faddr 1 (.t 1)), none, none⟩,⟨some 20, (.faddr 0 (.t 19)), none, none⟩,⟨some 21, (.load none (.t 20)), none, none⟩,⟨some 22, (.bin .neq (.t 21) (.k (rS (bs [])))), none, none⟩,⟨some 23, (.move (.t 22)), none, none⟩,⟨some 24, (.faddr 1 (.t 1)), some (23, true), none⟩,⟨some 25, (.load (some 4) (.t 24)), some (23, true), none⟩,⟨some 26, (.callp (.k (rF 183)) [(.t 25)]), some (23, true), none⟩,⟨some 27, (.pick (.t 23) (.t 26) (.k (rB false))), none, none⟩,⟨some 2, (.move (.t 27)), none, none⟩])
 .ret)
 .skip))))))))
 (.seq
 (.region [] [] [0, 1, 4, 5, 10, 15, 2] [⟨some 2, (.move (.k (rB false))), none, none⟩])
 .ret)))
def ir134 : List IRes := [.tmp 2]
theorem ie134 : cmpFunc Go.Proofs.Tryd.prog ⟨[], []⟩ Go.Proofs.Tryd.f134 [0, 1, 4, 5, 10, 15, 2] = some ic134 := by kernel_rfl
theorem ig134 : cmpRes Go.Proofs.Tryd.prog Go.Proofs.Tryd.f134.results.toList = some ir134 := by kernel_rfl
end Go.Proofs.YtiomojlcnemnhaaDoor

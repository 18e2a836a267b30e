import Derived.Test.YtiomojlcnemnhaaGreatDoorCFxZ
import Derived.Test.YtiomojlcnemnhaaGreatDoorProg
import Derived.KernelRfl
namespace Go.Proofs.YtiomojlcnemnhaaGreatDoor
open Go.Fx
def ic2005 : IC :=
 (.seq
 (.region [2, 3] [] [0, 1, 2, 3, 14, 7, 10, 6, 9, 5, 8, 4] [⟨some 2, (.box 29 (.t 0)), none, none⟩,⟨some 3, (.box 29 (.t 1)), none, none⟩,⟨some 4, (.move (.k (rB false))), none, none⟩])
 (.seq
 (.seq
 (.region [13] [] [0, 1, 2, 3, 14, 7, 10, 6, 9, 5, 8, 4] [⟨some 11, (.load (some 3) (.t 2)), none, none⟩,⟨some 12, (.load (some 3) (.t 3)), none, none⟩,⟨some 13, (.row 29 3 [(.t 11), (.t 12)]), none, none⟩,⟨some 14, (.callp (.k (rF 30)) [(.t 13)]), none, none⟩])
 (.cond (.t 14)
 (.seq
 (.region [] [] [0, 1, 2, 3, 14, 7, 10, 6, 9, 5, 8, 4] [⟨some 4, (.move (.k (rB true))), none, none⟩])
 .ret)
 .skip))
 (.seq
 (.region [5] [] [0, 1, 2, 3, 14, 7, 10, 6, 9, 5, 8, 4] [⟨some 16, (.load (some 3) (.t 2)), none, none⟩,⟨some 17, (.callp (.k (rF 31)) [(.t 16)]), none, none⟩,⟨some 15, (.move (.t 17)), none, none⟩,⟨some 18, (.ext (.t 15) 0), none, none⟩,⟨some 19, (.ext (.t 15) 1), none, none⟩,⟨some 5, (.zero 29 [(.c (.v (.string (bs [])))), .nil, .nil]), none, none⟩,⟨none, (.store (some 3) (.t 5) (.t 18)), none, none⟩,⟨some 6, (.move (.t 19)), none, none⟩])
 (.seq
 (.region [7] [] [0, 1, 2, 3, 14, 7, 10, 6, 9, 5, 8, 4] [⟨some 20, (.load (some 3) (.t 2)), none, none⟩,⟨some 21, (.callp (.k (rF 16)) [(.t 20)]), none, none⟩,⟨some 7, (.zero 29 [(.c (.v (.string (bs [])))), .nil, .nil]), none, none⟩,⟨none, (.store (some 3) (.t 7) (.t 21)), none, none⟩])
 (.seq
 (.region [8] [] [0, 1, 2, 3, 14, 7, 10, 6, 9, 5, 8, 4] [⟨some 22, (.load (some 3) (.t 3)), none, none⟩,⟨some 23, (.callp (.k (rF 16)) [(.t 22)]), none, none⟩,⟨some 8, (.zero 29 [(.c (.v (.string (bs [])))), .nil, .nil]), none, none⟩,⟨none, (.store (some 3) (.t 8) (.t 23)), none, none⟩])
 (.seq
 (.region [9] [] [0, 1, 2, 3, 14, 7, 10, 6, 9, 5, 8, 4] [⟨some 25, (.load (some 3) (.t 7)), none, none⟩,⟨some 26, (.callp (.k (rF 32)) [(.t 25)]), none, none⟩,⟨some 24, (.move (.t 26)), none, none⟩,⟨some 27, (.ext (.t 24) 0), none, none⟩,⟨some 28, (.ext (.t 24) 1), none, none⟩,⟨some 9, (.zero 29 [(.c (.v (.string (bs [])))), .nil, .nil]), none, none⟩,⟨none, (.store (some 3) (.t 9) (.t 27)), none, none⟩,⟨some 10, (.move (.t 28)), none, none⟩])
 (.seq
 (.region [] [] [0, 1, 2, 3, 14, 7, 10, 6, 9, 5, 8, 4] [⟨some 29, (.move (.t 10)), none, none⟩,⟨some 30, (.move (.t 6)), none, none⟩,⟨some 31, (.bin .eql (.t 29) (.t 30)), none, none⟩,⟨some 32, (.move (.t 31)), none, none⟩,⟨some 33, (.load (some 3) (.t 9)), some (32, true), none⟩,⟨some 34, (.load (some 3) (.t 5)), some (32, true), none⟩,⟨some 35, (.callp (.k (rF 22)) [(.t 33), (.t 34)]), some (32, true), none⟩,⟨some 36, (.pick (.t 32) (.t 35) (.k (rB false))), none, none⟩,⟨some 37, (.move (.t 36)), none, none⟩,⟨some 38, (.load (some 3) (.t 7)), some (37, true), none⟩,⟨some 39, (.load (some 3) (.t 8)), some (37, true), none⟩,⟨some 40, (.callp (.k (rF 33)) [(.t 38), (.t 39)]), some (37, true), none⟩,⟨some 41, (.load (some 3) (.t 2)), some (37, true), none⟩,⟨some 42, (.load (some 3) (.t 3)), some (37, true), none⟩,⟨some 43, (.callp (.k (rF 34)) [(.t 41), (.t 42)]), some (37, true), none⟩,⟨some 44, (.eqb false (.t 40) (.t 43)), some (37, true), none⟩,⟨some 45, (.pick (.t 37) (.t 44) (.k (rB false))), none, none⟩,⟨some 46, (.move (.t 45)), none, none⟩,⟨some 47, (.load (some 3) (.t 8)), some (46, true), none⟩,⟨some 48, (.load (some 3) (.t 7)), some (46, true), none⟩,⟨some 49, (.callp (.k (rF 33)) [(.t 47), (.t 48)]), some (46, true), none⟩,⟨some 50, (.load (some 3) (.t 3)), some (46, true), none⟩,⟨some 51, (.load (some 3) (.t 2)), some (46, true), none⟩,⟨some 52, (.callp (.k (rF 34)) [(.t 50), (.t 51)]), some (46, true), none⟩,⟨some 53, (.eqb false (.t 49) (.t 52)), some (46, true), none⟩,⟨some 54, (.pick (.t 46) (.t 53) (.k (rB false))), none, none⟩,⟨some 55, (.move (.t 54)), none, none⟩,⟨some 56, (.load (some 3) (.t 7)), some (55, true), none⟩,⟨some 57, (.load (some 3) (.t 2)), some (55, true), none⟩,⟨some 58, (.callp (.k (rF 25)) [(.t 56), (.t 57)]), some (55, true), none⟩,⟨some 59, (.pick (.t 55) (.t 58) (.k (rB false))), none, none⟩,⟨some 60, (.move (.t 59)), none, none⟩,⟨some 61, (.load (some 3) (.t 8)), some (60, true), none⟩,⟨some 62, (.load (some 3) (.t 3)), some (60, true), none⟩,⟨some 63, (.callp (.k (rF 25)) [(.t 61), (.t 62)]), some (60, true), none⟩,⟨some 64, (.pick (.t 60) (.t 63) (.k (rB false))), none, none⟩,⟨some 4, (.move (.t 64)), none, none⟩])
 .ret)))))))
def ir2005 : List IRes := [.tmp 4]
theorem ie2005 : cmpFunc Go.Proofs.Tryz.prog ⟨[], []⟩ Go.Proofs.Tryz.f5 [0, 1, 2, 3, 14, 7, 10, 6, 9, 5, 8, 4] = some ic2005 := by kernel_rfl
theorem ig2005 : cmpRes Go.Proofs.Tryz.prog Go.Proofs.Tryz.f5.results.toList = some ir2005 := by kernel_rfl
def ic2031l0 : IC :=
 (.seq
 (.seq
 (.region [] [] [0, 1, 9, 2, 6, 4, 16, 5, 3] [⟨some 13, (.move (.t 6)), none, none⟩,⟨some 14, (.move (.t 4)), none, none⟩,⟨some 15, (.len (.t 14)), none, none⟩,⟨some 16, (.bin .lss (.t 13) (.t 15)), none, none⟩])
 (.cond (.t 16)
 .skip
 (.exit 0)))
 (.seq
 (.block 1
 (.region [28] [] [0, 1, 9, 2, 6, 4, 16, 5, 3] [⟨some 19, (.move (.t 5)), none, none⟩,⟨some 20, (.move (.t 4)), none, none⟩,⟨some 21, (.move (.t 6)), none, none⟩,⟨some 22, (.iaddr 1 (.t 20) (.t 21)), none, none⟩,⟨some 23, (.load none (.t 22)), none, none⟩,⟨some 24, (.move (.t 6)), none, none⟩,⟨some 25, (.callp (.k (rF 98)) [(.t 24)]), none, none⟩,⟨some 26, (.build [(.c (.v (.string (bs [])))), (.c (.v (.int .i8 0))), (.c (.v (.int .i64 0))), (.c (.v (.string (bs []))))] [(0, 1, (.t 25))]), none, none⟩,⟨some 27, (.build [(.c (.v (.string (bs [])))), (.c (.v (.string (bs [])))), (.c (.v (.int .i8 0))), (.c (.v (.int .i64 0))), (.c (.v (.string (bs []))))] [(0, 1, (.t 23)), (1, 4, (.t 26))]), none, none⟩,⟨some 28, (.row 76 5 [(.t 27)]), none, none⟩,⟨some 29, (.app 76 5 64 (.t 19) (.t 28)), none, none⟩,⟨some 5, (.move (.t 29)), none, none⟩]))
 (.region [] [] [0, 1, 9, 2, 6, 4, 16, 5, 3] [⟨some 17, (.move (.t 6)), none, none⟩,⟨some 18, (.bin .add (.t 17) (.k (rI .i64 1))), none, none⟩,⟨some 6, (.move (.t 18)), none, none⟩])))
def ic2031 : IC :=
 (.seq
 (.region [1, 2] [] [0, 1, 9, 2, 6, 4, 16, 5, 3] [⟨some 1, (.box 29 (.t 0)), none, none⟩,⟨some 2, (.zero 29 [(.c (.v (.string (bs [])))), .nil, .nil]), none, none⟩,⟨some 3, (.move (.k (rI .i64 0))), none, none⟩])
 (.seq
 (.seq
 (.region [] [] [0, 1, 9, 2, 6, 4, 16, 5, 3] [⟨some 7, (.load (some 3) (.t 1)), none, none⟩,⟨some 8, (.callp (.k (rF 77)) [(.t 7)]), none, none⟩,⟨some 9, (.un .not (.t 8)), none, none⟩])
 (.cond (.t 9)
 (.seq
 (.region [] [] [0, 1, 9, 2, 6, 4, 16, 5, 3] [⟨some 10, (.build [(.c (.v (.string (bs [])))), .nil, .nil] []), none, none⟩,⟨none, (.store (some 3) (.t 2) (.t 10)), none, none⟩,⟨some 3, (.move (.k (rI .i64 40))), none, none⟩])
 .ret)
 .skip))
 (.seq
 (.region [] [] [0, 1, 9, 2, 6, 4, 16, 5, 3] [⟨some 11, (.load (some 3) (.t 1)), none, none⟩,⟨some 12, (.callp (.k (rF 48)) [(.t 11)]), none, none⟩,⟨some 4, (.move (.t 12)), none, none⟩])
 (.seq
 (.region [] [] [0, 1, 9, 2, 6, 4, 16, 5, 3] [⟨some 5, (.move (.k (.x (.one .nil)))), none, none⟩])
 (.seq
 (.seq
 (.region [] [] [0, 1, 9, 2, 6, 4, 16, 5, 3] [⟨some 6, (.move (.k (rI .i64 0))), none, none⟩])
 (.block 0
 (.loop ic2031l0)))
 (.seq
 (.region [] [] [0, 1, 9, 2, 6, 4, 16, 5, 3] [⟨some 30, (.move (.t 5)), none, none⟩,⟨some 31, (.load (some 3) (.t 1)), none, none⟩,⟨some 32, (.callp (.k (rF 78)) [(.t 30), (.t 31)]), none, none⟩,⟨none, (.store (some 3) (.t 2) (.t 32)), none, none⟩,⟨some 3, (.move (.k (rI .i64 0))), none, none⟩])
 .ret))))))
def ir2031 : List IRes := [.cell 2 (some 3), .tmp 3]
theorem ie2031 : cmpFunc Go.Proofs.Tryz.prog ⟨[], []⟩ Go.Proofs.Tryz.f31 [0, 1, 9, 2, 6, 4, 16, 5, 3] = some ic2031 := by kernel_rfl
theorem ig2031 : cmpRes Go.Proofs.Tryz.prog Go.Proofs.Tryz.f31.results.toList = some ir2031 := by kernel_rfl
def ic2032l0 : IC :=
 (.seq
 (.region [] [] [0, 1, 11, 10, 12, 9, 4, 6, 5, 2, 3] [⟨some 12, (.bin .lss (.t 11) (.t 10)), none, none⟩])
 (.seq
 (.cond (.t 12)
 .skip
 (.exit 0))
 (.seq
 (.block 1
 (.seq
 (.region [] [] [0, 1, 11, 10, 12, 9, 4, 6, 5, 2, 3] [⟨some 13, (.move (.t 11)), none, none⟩,⟨some 14, (.iaddr 1 (.t 9) (.t 11)), none, none⟩,⟨some 15, (.load none (.t 14)), none, none⟩,⟨some 5, (.move (.t 13)), none, none⟩,⟨some 6, (.move (.t 15)), none, none⟩])
 (.region [] [] [0, 1, 11, 10, 12, 9, 4, 6, 5, 2, 3] [⟨some 16, (.move (.t 4)), none, none⟩,⟨some 17, (.move (.t 6)), none, none⟩,⟨some 18, (.move (.t 5)), none, none⟩,⟨some 19, (.callp (.k (rF 99)) [(.t 18)]), none, none⟩,⟨some 20, (.bin .add (.k (rS (bs [86]))) (.t 19)), none, none⟩,⟨some 21, (.build [(.c (.v (.string (bs [])))), (.c (.v (.int .i8 0))), (.c (.v (.int .i64 0))), (.c (.v (.string (bs []))))] [(0, 1, (.t 20))]), none, none⟩,⟨none, (.mapup .string false (.t 16) (.t 17) (.t 21)), none, none⟩])))
 (.region [] [] [0, 1, 11, 10, 12, 9, 4, 6, 5, 2, 3] [⟨some 22, (.bin .add (.t 11) (.k (rI .i64 1))), none, none⟩,⟨some 11, (.move (.t 22)), none, none⟩]))))
def ic2032 : IC :=
 (.seq
 (.region [1, 2] [] [0, 1, 11, 10, 12, 9, 4, 6, 5, 2, 3] [⟨some 1, (.box 29 (.t 0)), none, none⟩,⟨some 2, (.zero 29 [(.c (.v (.string (bs [])))), .nil, .nil]), none, none⟩,⟨some 3, (.move (.k (rI .i64 0))), none, none⟩])
 (.seq
 (.region [7] [] [0, 1, 11, 10, 12, 9, 4, 6, 5, 2, 3] [⟨some 7, (.mkmap .string 5 false), none, none⟩,⟨some 4, (.move (.t 7)), none, none⟩])
 (.seq
 (.seq
 (.region [] [] [0, 1, 11, 10, 12, 9, 4, 6, 5, 2, 3] [⟨some 8, (.load (some 3) (.t 1)), none, none⟩,⟨some 9, (.callp (.k (rF 96)) [(.t 8)]), none, none⟩,⟨some 10, (.len (.t 9)), none, none⟩,⟨some 11, (.move (.k (rI .i64 0))), none, none⟩])
 (.block 0
 (.loop ic2032l0)))
 (.seq
 (.region [] [] [0, 1, 11, 10, 12, 9, 4, 6, 5, 2, 3] [⟨some 23, (.move (.t 4)), none, none⟩,⟨some 24, (.load (some 3) (.t 1)), none, none⟩,⟨some 25, (.call (.k (rF 83)) [(.t 23), (.t 24)]), none, none⟩,⟨some 26, (.ext (.t 25) 0), none, none⟩,⟨some 27, (.ext (.t 25) 1), none, none⟩,⟨none, (.store (some 3) (.t 2) (.t 26)), none, none⟩,⟨some 3, (.move (.t 27)), none, none⟩])
 .ret))))
def ir2032 : List IRes := [.cell 2 (some 3), .tmp 3]
theorem ie2032 : cmpFunc Go.Proofs.Tryz.prog ⟨[(25, none)], []⟩ Go.Proofs.Tryz.f32 [0, 1, 11, 10, 12, 9, 4, 6, 5, 2, 3] = some ic2032 := by kernel_rfl
theorem ig2032 : cmpRes Go.Proofs.Tryz.prog Go.Proofs.Tryz.f32.results.toList = some ir2032 := by kernel_rfl
def ic2033 : IC :=
 (.seq
 (.region [2, 3] [] [0, 1, 2, 3, 6, 8, 5, 7, 32, 9, 4] [⟨some 2, (.box 29 (.t 0)), none, none⟩,⟨some 3, (.box 29 (.t 1)), none, none⟩,⟨some 4, (.move (.k (rB false))), none, none⟩])
 (.seq
 (.region [5] [] [0, 1, 2, 3, 6, 8, 5, 7, 32, 9, 4] [⟨some 11, (.load (some 3) (.t 2)), none, none⟩,⟨some 12, (.callp (.k (rF 32)) [(.t 11)]), none, none⟩,⟨some 10, (.move (.t 12)), none, none⟩,⟨some 13, (.ext (.t 10) 0), none, none⟩,⟨some 14, (.ext (.t 10) 1), none, none⟩,⟨some 5, (.zero 29 [(.c (.v (.string (bs [])))), .nil, .nil]), none, none⟩,⟨none, (.store (some 3) (.t 5) (.t 13)), none, none⟩,⟨some 6, (.move (.t 14)), none, none⟩])
 (.seq
 (.region [7] [] [0, 1, 2, 3, 6, 8, 5, 7, 32, 9, 4] [⟨some 16, (.load (some 3) (.t 3)), none, none⟩,⟨some 17, (.callp (.k (rF 32)) [(.t 16)]), none, none⟩,⟨some 15, (.move (.t 17)), none, none⟩,⟨some 18, (.ext (.t 15) 0), none, none⟩,⟨some 19, (.ext (.t 15) 1), none, none⟩,⟨some 7, (.zero 29 [(.c (.v (.string (bs [])))), .nil, .nil]), none, none⟩,⟨none, (.store (some 3) (.t 7) (.t 18)), none, none⟩,⟨some 8, (.move (.t 19)), none, none⟩])
 (.seq
 (.seq
 (.region [] [] [0, 1, 2, 3, 6, 8, 5, 7, 32, 9, 4] [⟨some 20, (.move (.t 6)), none, none⟩,⟨some 21, (.bin .neq (.t 20) (.k (rI .i64 0))), none, none⟩,⟨some 22, (.move (.t 21)), none, none⟩,⟨some 23, (.move (.t 8)), some (22, false), none⟩,⟨some 24, (.bin .neq (.t 23) (.k (rI .i64 0))), some (22, false), none⟩,⟨some 25, (.pick (.t 22) (.k (rB true)) (.t 24)), none, none⟩,⟨some 26, (.move (.t 25)), none, none⟩,⟨some 27, (.faddr 0 (.t 5)), some (26, false), none⟩,⟨some 28, (.load none (.t 27)), some (26, false), none⟩,⟨some 29, (.faddr 0 (.t 7)), some (26, false), none⟩,⟨some 30, (.load none (.t 29)), some (26, false), none⟩,⟨some 31, (.bin .neq (.t 28) (.t 30)), some (26, false), none⟩,⟨some 32, (.pick (.t 26) (.k (rB true)) (.t 31)), none, none⟩])
 (.cond (.t 32)
 (.seq
 (.region [] [] [0, 1, 2, 3, 6, 8, 5, 7, 32, 9, 4] [⟨some 4, (.move (.k (rB false))), none, none⟩])
 .ret)
 .skip))
 (.seq
 (.region [] [] [0, 1, 2, 3, 6, 8, 5, 7, 32, 9, 4] [⟨some 9, (.move (.k (rF 100))), none, none⟩])
 (.seq
 (.region [] [.fz [5, 7]] [0, 1, 2, 3, 6, 8, 5, 7, 32, 9, 4] [⟨some 33, (.faddr 1 (.t 5)), none, none⟩,⟨some 34, (.load none (.t 33)), none, none⟩,⟨some 35, (.faddr 1 (.t 7)), none, none⟩,⟨some 36, (.load none (.t 35)), none, none⟩,⟨some 37, (.move (.t 9)), none, none⟩,⟨some 38, (.callp (.k (rF 101)) [(.t 34), (.t 36), (.t 37)]), none, none⟩,⟨some 39, (.move (.t 38)), none, none⟩,⟨some 40, (.faddr 2 (.t 5)), some (39, true), none⟩,⟨some 41, (.load none (.t 40)), some (39, true), none⟩,⟨some 42, (.faddr 2 (.t 7)), some (39, true), none⟩,⟨some 43, (.load none (.t 42)), some (39, true), none⟩,⟨some 44, (.callp (.k (rF 102)) [(.t 41), (.t 43), (.k (rF 103))]), some (39, true), none⟩,⟨some 45, (.pick (.t 39) (.t 44) (.k (rB false))), none, none⟩,⟨some 46, (.move (.t 45)), none, none⟩,⟨some 47, (.mki 143 (.t 5)), some (46, true), none⟩,⟨some 48, (.mki 143 (.t 7)), some (46, true), none⟩,⟨some 49, (.call (.k (rF 104)) [(.t 47), (.t 48)]), some (46, true), none⟩,⟨some 50, (.pick (.t 46) (.t 49) (.k (rB false))), none, none⟩,⟨some 4, (.move (.t 50)), none, none⟩])
 .ret))))))
def ir2033 : List IRes := [.tmp 4]
theorem ie2033 : cmpFunc Go.Proofs.Tryz.prog ⟨[(49, none)], [(33, .fz [5, 7])]⟩ Go.Proofs.Tryz.f33 [0, 1, 2, 3, 6, 8, 5, 7, 32, 9, 4] = some ic2033 := by kernel_rfl
theorem ig2033 : cmpRes Go.Proofs.Tryz.prog Go.Proofs.Tryz.f33.results.toList = some ir2033 := by kernel_rfl
def ic2034 : IC :=
 (.seq
 (.region [2, 3] [] [0, 1, 2, 3, 6, 8, 5, 7, 4] [⟨some 2, (.box 29 (.t 0)), none, none⟩,⟨some 3, (.box 29 (.t 1)), none, none⟩,⟨some 4, (.move (.k (rB false))), none, none⟩])
 (.seq
 (.region [5] [] [0, 1, 2, 3, 6, 8, 5, 7, 4] [⟨some 10, (.load (some 3) (.t 2)), none, none⟩,⟨some 11, (.callp (.k (rF 31)) [(.t 10)]), none, none⟩,⟨some 9, (.move (.t 11)), none, none⟩,⟨some 12, (.ext (.t 9) 0), none, none⟩,⟨some 13, (.ext (.t 9) 1), none, none⟩,⟨some 5, (.zero 29 [(.c (.v (.string (bs [])))), .nil, .nil]), none, none⟩,⟨none, (.store (some 3) (.t 5) (.t 12)), none, none⟩,⟨some 6, (.move (.t 13)), none, none⟩])
 (.seq
 (.region [7] [] [0, 1, 2, 3, 6, 8, 5, 7, 4] [⟨some 15, (.load (some 3) (.t 3)), none, none⟩,⟨some 16, (.callp (.k (rF 31)) [(.t 15)]), none, none⟩,⟨some 14, (.move (.t 16)), none, none⟩,⟨some 17, (.ext (.t 14) 0), none, none⟩,⟨some 18, (.ext (.t 14) 1), none, none⟩,⟨some 7, (.zero 29 [(.c (.v (.string (bs [])))), .nil, .nil]), none, none⟩,⟨none, (.store (some 3) (.t 7) (.t 17)), none, none⟩,⟨some 8, (.move (.t 18)), none, none⟩])
 (.seq
 (.region [] [] [0, 1, 2, 3, 6, 8, 5, 7, 4] [⟨some 19, (.move (.t 6)), none, none⟩,⟨some 20, (.bin .eql (.t 19) (.k (rI .i64 0))), none, none⟩,⟨some 21, (.move (.t 20)), none, none⟩,⟨some 22, (.move (.t 8)), some (21, true), none⟩,⟨some 23, (.bin .eql (.t 22) (.k (rI .i64 0))), some (21, true), none⟩,⟨some 24, (.pick (.t 21) (.t 23) (.k (rB false))), none, none⟩,⟨some 25, (.move (.t 24)), none, none⟩,⟨some 26, (.load (some 3) (.t 5)), some (25, true), none⟩,⟨some 27, (.load (some 3) (.t 7)), some (25, true), none⟩,⟨some 28, (.callp (.k (rF 105)) [(.t 26), (.t 27)]), some (25, true), none⟩,⟨some 29, (.pick (.t 25) (.t 28) (.k (rB false))), none, none⟩,⟨some 4, (.move (.t 29)), none, none⟩])
 .ret))))
def ir2034 : List IRes := [.tmp 4]
theorem ie2034 : cmpFunc Go.Proofs.Tryz.prog ⟨[], []⟩ Go.Proofs.Tryz.f34 [0, 1, 2, 3, 6, 8, 5, 7, 4] = some ic2034 := by kernel_rfl
theorem ig2034 : cmpRes Go.Proofs.Tryz.prog Go.Proofs.Tryz.f34.results.toList = some ir2034 := by kernel_rfl
def ic2098 : IC :=
 (.seq
 (.region [] [] [0, 2] [⟨some 2, (.move (.k (rS (bs [])))), none, none⟩])
 (.seq
 (.region [] [] [0, 2] [⟨some 3, (.move (.t 0)), none, none⟩,⟨some 4, (.callp (.k (rF 196)) [(.t 3)]), none, none⟩,⟨some 5, (.bin .add (.k (rS (bs [86]))) (.t 4)), none, none⟩,⟨some 2, (.move (.t 5)), none, none⟩])
 .ret))
def ir2098 : List IRes := [.tmp 2]
theorem ie2098 : cmpFunc Go.Proofs.Tryz.prog ⟨[], []⟩ Go.Proofs.Tryz.f98 [0, 2] = some ic2098 := by kernel_rfl
theorem ig2098 : cmpRes Go.Proofs.Tryz.prog Go.Proofs.Tryz.f98.results.toList = some ir2098 := by kernel_rfl
def ic2100 : IC :=
 (.seq
 (.region [2, 3] [] [0, 1, 2, 3, 4] [⟨some 2, (.box 137 (.t 0)), none, none⟩,⟨some 3, (.box 137 (.t 1)), none, none⟩,⟨some 4, (.move (.k (rB false))), none, none⟩])
 (.seq
 (.region [] [] [0, 1, 2, 3, 4] [⟨some 5, (.faddr 0 (.t 2)), none, none⟩,⟨some 6, (.load none (.t 5)), none, none⟩,⟨some 7, (.faddr 0 (.t 3)), none, none⟩,⟨some 8, (.load none (.t 7)), none, none⟩,⟨some 9, (.bin .eql (.t 6) (.t 8)), none, none⟩,⟨some 4, (.move (.t 9)), none, none⟩])
 .ret))
def ir2100 : List IRes := [.tmp 4]
theorem ie2100 : cmpFunc Go.Proofs.Tryz.prog ⟨[], []⟩ Go.Proofs.Tryz.f100 [0, 1, 2, 3, 4] = some ic2100 := by kernel_rfl
theorem ig2100 : cmpRes Go.Proofs.Tryz.prog Go.Proofs.Tryz.f100.results.toList = some ir2100 := by kernel_rfl
def ic2101l0 : IC :=
 (.seq
 (.region [] [] [0, 1, 14, 17, 16, 18, 15, 7, 2, 8, 9, 30, 6] [⟨some 18, (.bin .lss (.t 17) (.t 16)), none, none⟩])
 (.seq
 (.cond (.t 18)
 .skip
 (.exit 0))
 (.seq
 (.block 1
 (.seq
 (.region [8] [] [0, 1, 14, 17, 16, 18, 15, 7, 2, 8, 9, 30, 6] [⟨some 19, (.move (.t 17)), none, none⟩,⟨some 20, (.iaddr 5 (.t 15) (.t 17)), none, none⟩,⟨some 21, (.load (some 5) (.t 20)), none, none⟩,⟨some 8, (.zero 137 [(.c (.v (.int .i8 0))), (.c (.v (.string (bs [])))), (.c (.v (.int .i8 0))), (.c (.v (.int .i64 0))), (.c (.v (.string (bs []))))]), none, none⟩,⟨some 7, (.move (.t 19)), none, none⟩,⟨none, (.store (some 5) (.t 8) (.t 21)), none, none⟩])
 (.seq
 (.region [9] [] [0, 1, 14, 17, 16, 18, 15, 7, 2, 8, 9, 30, 6] [⟨some 22, (.move (.t 1)), none, none⟩,⟨some 23, (.move (.t 7)), none, none⟩,⟨some 24, (.iaddr 5 (.t 22) (.t 23)), none, none⟩,⟨some 25, (.load (some 5) (.t 24)), none, none⟩,⟨some 9, (.zero 137 [(.c (.v (.int .i8 0))), (.c (.v (.string (bs [])))), (.c (.v (.int .i8 0))), (.c (.v (.int .i64 0))), (.c (.v (.string (bs []))))]), none, none⟩,⟨none, (.store (some 5) (.t 9) (.t 25)), none, none⟩])
 (.seq
 (.region [] [] [0, 1, 14, 17, 16, 18, 15, 7, 2, 8, 9, 30, 6] [⟨some 26, (.move (.t 2)), none, none⟩,⟨some 27, (.load (some 5) (.t 8)), none, none⟩,⟨some 28, (.load (some 5) (.t 9)), none, none⟩,⟨some 29, (.call (.t 26) [(.t 27), (.t 28)]), none, none⟩,⟨some 30, (.un .not (.t 29)), none, none⟩])
 (.cond (.t 30)
 (.seq
 (.region [] [] [0, 1, 14, 17, 16, 18, 15, 7, 2, 8, 9, 30, 6] [⟨some 6, (.move (.k (rB false))), none, none⟩])
 .ret)
 .skip)))))
 (.region [] [] [0, 1, 14, 17, 16, 18, 15, 7, 2, 8, 9, 30, 6] [⟨some 31, (.bin .add (.t 17) (.k (rI .i64 1))), none, none⟩,⟨some 17, (.move (.t 31)), none, none⟩]))))
def ic2101 : IC :=
 (.seq
 (.region [] [] [0, 1, 14, 17, 16, 18, 15, 7, 2, 8, 9, 30, 6] [⟨some 6, (.move (.k (rB false))), none, none⟩])
 (.seq
 (.seq
 (.region [] [] [0, 1, 14, 17, 16, 18, 15, 7, 2, 8, 9, 30, 6] [⟨some 10, (.move (.t 0)), none, none⟩,⟨some 11, (.len (.t 10)), none, none⟩,⟨some 12, (.move (.t 1)), none, none⟩,⟨some 13, (.len (.t 12)), none, none⟩,⟨some 14, (.bin .neq (.t 11) (.t 13)), none, none⟩])
 (.cond (.t 14)
 (.seq
 (.region [] [] [0, 1, 14, 17, 16, 18, 15, 7, 2, 8, 9, 30, 6] [⟨some 6, (.move (.k (rB false))), none, none⟩])
 .ret)
 .skip))
 (.seq
 (.seq
 (.region [] [] [0, 1, 14, 17, 16, 18, 15, 7, 2, 8, 9, 30, 6] [⟨some 15, (.move (.t 0)), none, none⟩,⟨some 16, (.len (.t 15)), none, none⟩,⟨some 17, (.move (.k (rI .i64 0))), none, none⟩])
 (.block 0
 (.loop ic2101l0)))
 (.seq
 (.region [] [] [0, 1, 14, 17, 16, 18, 15, 7, 2, 8, 9, 30, 6] [⟨some 6, (.move (.k (rB true))), none, none⟩])
 .ret))))
def ir2101 : List IRes := [.tmp 6]
theorem ie2101 : cmpFunc Go.Proofs.Tryz.prog ⟨[(29, none)], []⟩ Go.Proofs.Tryz.f101 [0, 1, 14, 17, 16, 18, 15, 7, 2, 8, 9, 30, 6] = some ic2101 := by kernel_rfl
theorem ig2101 : cmpRes Go.Proofs.Tryz.prog Go.Proofs.Tryz.f101.results.toList = some ir2101 := by kernel_rfl
def ic2102l0 : IC :=
 (.seq
 (.region [] [] [0, 1, 14, 17, 16, 18, 15, 7, 2, 8, 9, 30, 6] [⟨some 18, (.bin .lss (.t 17) (.t 16)), none, none⟩])
 (.seq
 (.cond (.t 18)
 .skip
 (.exit 0))
 (.seq
 (.block 1
 (.seq
 (.region [8] [] [0, 1, 14, 17, 16, 18, 15, 7, 2, 8, 9, 30, 6] [⟨some 19, (.move (.t 17)), none, none⟩,⟨some 20, (.iaddr 16 (.t 15) (.t 17)), none, none⟩,⟨some 21, (.load (some 16) (.t 20)), none, none⟩,⟨some 8, (.zero 107 [(.c (.v (.int .i8 0))), (.c (.v (.string (bs [])))), .nil, (.c (.v (.int .i8 0))), (.c (.v (.int .i8 0))), (.c (.v (.string (bs [])))), (.c (.v (.int .i8 0))), (.c (.v (.int .i64 0))), (.c (.v (.string (bs [])))), .nil, (.c (.v (.int .i8 0))), (.c (.v (.string (bs [])))), (.c (.v (.int .i8 0))), (.c (.v (.int .i64 0))), (.c (.v (.string (bs [])))), .nil]), none, none⟩,⟨some 7, (.move (.t 19)), none, none⟩,⟨none, (.store (some 16) (.t 8) (.t 21)), none, none⟩])
 (.seq
 (.region [9] [] [0, 1, 14, 17, 16, 18, 15, 7, 2, 8, 9, 30, 6] [⟨some 22, (.move (.t 1)), none, none⟩,⟨some 23, (.move (.t 7)), none, none⟩,⟨some 24, (.iaddr 16 (.t 22) (.t 23)), none, none⟩,⟨some 25, (.load (some 16) (.t 24)), none, none⟩,⟨some 9, (.zero 107 [(.c (.v (.int .i8 0))), (.c (.v (.string (bs [])))), .nil, (.c (.v (.int .i8 0))), (.c (.v (.int .i8 0))), (.c (.v (.string (bs [])))), (.c (.v (.int .i8 0))), (.c (.v (.int .i64 0))), (.c (.v (.string (bs [])))), .nil, (.c (.v (.int .i8 0))), (.c (.v (.string (bs [])))), (.c (.v (.int .i8 0))), (.c (.v (.int .i64 0))), (.c (.v (.string (bs [])))), .nil]), none, none⟩,⟨none, (.store (some 16) (.t 9) (.t 25)), none, none⟩])
 (.seq
 (.region [] [] [0, 1, 14, 17, 16, 18, 15, 7, 2, 8, 9, 30, 6] [⟨some 26, (.move (.t 2)), none, none⟩,⟨some 27, (.load (some 16) (.t 8)), none, none⟩,⟨some 28, (.load (some 16) (.t 9)), none, none⟩,⟨some 29, (.call (.t 26) [(.t 27), (.t 28)]), none, none⟩,⟨some 30, (.un .not (.t 29)), none, none⟩])
 (.cond (.t 30)
 (.seq
 (.region [] [] [0, 1, 14, 17, 16, 18, 15, 7, 2, 8, 9, 30, 6] [⟨some 6, (.move (.k (rB false))), none, none⟩])
 .ret)
 .skip)))))
 (.region [] [] [0, 1, 14, 17, 16, 18, 15, 7, 2, 8, 9, 30, 6] [⟨some 31, (.bin .add (.t 17) (.k (rI .i64 1))), none, none⟩,⟨some 17, (.move (.t 31)), none, none⟩]))))
def ic2102 : IC :=
 (.seq
 (.region [] [] [0, 1, 14, 17, 16, 18, 15, 7, 2, 8, 9, 30, 6] [⟨some 6, (.move (.k (rB false))), none, none⟩])
 (.seq
 (.seq
 (.region [] [] [0, 1, 14, 17, 16, 18, 15, 7, 2, 8, 9, 30, 6] [⟨some 10, (.move (.t 0)), none, none⟩,⟨some 11, (.len (.t 10)), none, none⟩,⟨some 12, (.move (.t 1)), none, none⟩,⟨some 13, (.len (.t 12)), none, none⟩,⟨some 14, (.bin .neq (.t 11) (.t 13)), none, none⟩])
 (.cond (.t 14)
 (.seq
 (.region [] [] [0, 1, 14, 17, 16, 18, 15, 7, 2, 8, 9, 30, 6] [⟨some 6, (.move (.k (rB false))), none, none⟩])
 .ret)
 .skip))
 (.seq
 (.seq
 (.region [] [] [0, 1, 14, 17, 16, 18, 15, 7, 2, 8, 9, 30, 6] [⟨some 15, (.move (.t 0)), none, none⟩,⟨some 16, (.len (.t 15)), none, none⟩,⟨some 17, (.move (.k (rI .i64 0))), none, none⟩])
 (.block 0
 (.loop ic2102l0)))
 (.seq
 (.region [] [] [0, 1, 14, 17, 16, 18, 15, 7, 2, 8, 9, 30, 6] [⟨some 6, (.move (.k (rB true))), none, none⟩])
 .ret))))
def ir2102 : List IRes := [.tmp 6]
theorem ie2102 : cmpFunc Go.Proofs.Tryz.prog ⟨[(29, none)], []⟩ Go.Proofs.Tryz.f102 [0, 1, 14, 17, 16, 18, 15, 7, 2, 8, 9, 30, 6] = some ic2102 := by kernel_rfl
theorem ig2102 : cmpRes Go.Proofs.Tryz.prog Go.Proofs.Tryz.f102.results.toList = some ir2102 := by kernel_rfl
def ic2103 : IC :=
 (.seq
 (.region [2, 3] [] [0, 1, 2, 3, 4] [⟨some 2, (.box 107 (.t 0)), none, none⟩,⟨some 3, (.box 107 (.t 1)), none, none⟩,⟨some 4, (.move (.k (rB false))), none, none⟩])
 (.seq
 (.region [] [] [0, 1, 2, 3, 4] [⟨some 5, (.faddr 0 (.t 2)), none, none⟩,⟨some 6, (.load none (.t 5)), none, none⟩,⟨some 7, (.faddr 0 (.t 3)), none, none⟩,⟨some 8, (.load none (.t 7)), none, none⟩,⟨some 9, (.bin .eql (.t 6) (.t 8)), none, none⟩,⟨some 10, (.move (.t 9)), none, none⟩,⟨some 11, (.faddr 3 (.t 2)), some (10, true), none⟩,⟨some 12, (.load none (.t 11)), some (10, true), none⟩,⟨some 13, (.faddr 3 (.t 3)), some (10, true), none⟩,⟨some 14, (.load none (.t 13)), some (10, true), none⟩,⟨some 15, (.bin .eql (.t 12) (.t 14)), some (10, true), none⟩,⟨some 16, (.pick (.t 10) (.t 15) (.k (rB false))), none, none⟩,⟨some 17, (.move (.t 16)), none, none⟩,⟨some 18, (.faddr 1 (.t 2)), some (17, true), none⟩,⟨some 19, (.faddr 0 (.t 18)), some (17, true), none⟩,⟨some 20, (.load none (.t 19)), some (17, true), none⟩,⟨some 21, (.faddr 1 (.t 3)), some (17, true), none⟩,⟨some 22, (.faddr 0 (.t 21)), some (17, true), none⟩,⟨some 23, (.load none (.t 22)), some (17, true), none⟩,⟨some 24, (.bin .eql (.t 20) (.t 23)), some (17, true), none⟩,⟨some 25, (.pick (.t 17) (.t 24) (.k (rB false))), none, none⟩,⟨some 26, (.move (.t 25)), none, none⟩,⟨some 27, (.faddr 1 (.t 2)), some (26, true), none⟩,⟨some 28, (.faddr 1 (.t 27)), some (26, true), none⟩,⟨some 29, (.load none (.t 28)), some (26, true), none⟩,⟨some 30, (.len (.t 29)), some (26, true), none⟩,⟨some 31, (.faddr 1 (.t 3)), some (26, true), none⟩,⟨some 32, (.faddr 1 (.t 31)), some (26, true), none⟩,⟨some 33, (.load none (.t 32)), some (26, true), none⟩,⟨some 34, (.len (.t 33)), some (26, true), none⟩,⟨some 35, (.bin .eql (.t 30) (.t 34)), some (26, true), none⟩,⟨some 36, (.pick (.t 26) (.t 35) (.k (rB false))), none, none⟩,⟨some 37, (.move (.t 36)), none, none⟩,⟨some 38, (.faddr 4 (.t 2)), some (37, true), none⟩,⟨some 39, (.load (some 6) (.t 38)), some (37, true), none⟩,⟨some 40, (.faddr 4 (.t 3)), some (37, true), none⟩,⟨some 41, (.load (some 6) (.t 40)), some (37, true), none⟩,⟨some 42, (.callp (.k (rF 198)) [(.t 39), (.t 41)]), some (37, true), none⟩,⟨some 43, (.pick (.t 37) (.t 42) (.k (rB false))), none, none⟩,⟨some 44, (.move (.t 43)), none, none⟩,⟨some 45, (.faddr 10 (.t 2)), some (44, true), none⟩,⟨some 46, (.load (some 6) (.t 45)), some (44, true), none⟩,⟨some 47, (.faddr 10 (.t 3)), some (44, true), none⟩,⟨some 48, (.load (some 6) (.t 47)), some (44, true), none⟩,⟨some 49, (.callp (.k (rF 198)) [(.t 46), (.t 48)]), some (44, true), none⟩,⟨some 50, (.pick (.t 44) (.t 49) (.k (rB false))), none, none⟩,⟨some 4, (.move (.t 50)), none, none⟩])
 .ret))
def ir2103 : List IRes := [.tmp 4]
theorem ie2103 : cmpFunc Go.Proofs.Tryz.prog ⟨[], []⟩ Go.Proofs.Tryz.f103 [0, 1, 2, 3, 4] = some ic2103 := by kernel_rfl
theorem ig2103 : cmpRes Go.Proofs.Tryz.prog Go.Proofs.Tryz.f103.results.toList = some ir2103 := by kernel_rfl
def ic2104 : IC :=
 (.seq
 (.region [] [] [0, 5, 1, 6, 4] [⟨some 4, (.move (.k (rB false))), none, none⟩])
 (.seq
 (.region [5, 6] [] [0, 5, 1, 6, 4] [⟨some 5, (.zero 23 [.nil]), none, none⟩,⟨some 6, (.zero 23 [.nil]), none, none⟩])
 (.seq
 (.region [] [.pm 30 5 73 4] [0, 5, 1, 6, 4] [⟨some 7, (.move (.t 0)), none, none⟩,⟨some 8, (.clo 199 [] [(.t 5)]), none, none⟩,⟨some 9, (.call (.k (rF 80)) [(.t 7), (.t 8)]), none, none⟩])
 (.seq
 (.region [] [.pm 31 6 73 4] [0, 5, 1, 6, 4] [⟨some 10, (.move (.t 1)), none, none⟩,⟨some 11, (.clo 200 [] [(.t 6)]), none, none⟩,⟨some 12, (.call (.k (rF 80)) [(.t 10), (.t 11)]), none, none⟩])
 (.seq
 (.region [] [] [0, 5, 1, 6, 4] [⟨some 13, (.load none (.t 5)), none, none⟩,⟨some 14, (.load none (.t 6)), none, none⟩,⟨some 15, (.callp (.k (rF 201)) [(.t 13), (.t 14)]), none, none⟩,⟨some 4, (.move (.t 15)), none, none⟩])
 .ret)))))
def ir2104 : List IRes := [.tmp 4]
theorem ie2104 : cmpFunc Go.Proofs.Tryz.prog ⟨[(9, none), (12, none)], [(7, .pm 30 5 73 4), (10, .pm 31 6 73 4)]⟩ Go.Proofs.Tryz.f104 [0, 5, 1, 6, 4] = some ic2104 := by kernel_rfl
theorem ig2104 : cmpRes Go.Proofs.Tryz.prog Go.Proofs.Tryz.f104.results.toList = some ir2104 := by kernel_rfl
def ic2105l0 : IC :=
 (.seq
 (.seq
 (.region [] [] [0, 1, 2, 3, 29, 5, 34, 47, 6, 52, 66, 4] [⟨some 30, (.move (.t 5)), none, none⟩,⟨some 31, (.faddr 1 (.t 2)), none, none⟩,⟨some 32, (.load none (.t 31)), none, none⟩,⟨some 33, (.len (.t 32)), none, none⟩,⟨some 34, (.bin .lss (.t 30) (.t 33)), none, none⟩])
 (.cond (.t 34)
 .skip
 (.exit 0)))
 (.seq
 (.block 1
 (.seq
 (.region [] [] [0, 1, 2, 3, 29, 5, 34, 47, 6, 52, 66, 4] [⟨some 37, (.faddr 1 (.t 2)), none, none⟩,⟨some 38, (.load none (.t 37)), none, none⟩,⟨some 39, (.move (.t 5)), none, none⟩,⟨some 40, (.iaddr 5 (.t 38) (.t 39)), none, none⟩,⟨some 41, (.load (some 5) (.t 40)), none, none⟩,⟨some 42, (.faddr 1 (.t 3)), none, none⟩,⟨some 43, (.load none (.t 42)), none, none⟩,⟨some 44, (.move (.t 5)), none, none⟩,⟨some 45, (.iaddr 5 (.t 43) (.t 44)), none, none⟩,⟨some 46, (.load (some 5) (.t 45)), none, none⟩,⟨some 47, (.eqs true [.i .i8, .s, .i .i8, .i .i64, .s] (.t 41) (.t 46)), none, none⟩])
 (.cond (.t 47)
 (.seq
 (.region [] [] [0, 1, 2, 3, 29, 5, 34, 47, 6, 52, 66, 4] [⟨some 4, (.move (.k (rB false))), none, none⟩])
 .ret)
 .skip)))
 (.region [] [] [0, 1, 2, 3, 29, 5, 34, 47, 6, 52, 66, 4] [⟨some 35, (.move (.t 5)), none, none⟩,⟨some 36, (.bin .add (.t 35) (.k (rI .i64 1))), none, none⟩,⟨some 5, (.move (.t 36)), none, none⟩])))
def ic2105l1 : IC :=
 (.seq
 (.seq
 (.region [] [] [0, 1, 2, 3, 29, 5, 34, 47, 6, 52, 66, 4] [⟨some 48, (.move (.t 6)), none, none⟩,⟨some 49, (.faddr 2 (.t 2)), none, none⟩,⟨some 50, (.load none (.t 49)), none, none⟩,⟨some 51, (.len (.t 50)), none, none⟩,⟨some 52, (.bin .lss (.t 48) (.t 51)), none, none⟩])
 (.cond (.t 52)
 .skip
 (.exit 2)))
 (.seq
 (.block 3
 (.seq
 (.region [] [] [0, 1, 2, 3, 29, 5, 34, 47, 6, 52, 66, 4] [⟨some 55, (.faddr 2 (.t 2)), none, none⟩,⟨some 56, (.load none (.t 55)), none, none⟩,⟨some 57, (.move (.t 6)), none, none⟩,⟨some 58, (.iaddr 16 (.t 56) (.t 57)), none, none⟩,⟨some 59, (.load (some 16) (.t 58)), none, none⟩,⟨some 60, (.faddr 2 (.t 3)), none, none⟩,⟨some 61, (.load none (.t 60)), none, none⟩,⟨some 62, (.move (.t 6)), none, none⟩,⟨some 63, (.iaddr 16 (.t 61) (.t 62)), none, none⟩,⟨some 64, (.load (some 16) (.t 63)), none, none⟩,⟨some 65, (.callp (.k (rF 202)) [(.t 59), (.t 64)]), none, none⟩,⟨some 66, (.un .not (.t 65)), none, none⟩])
 (.cond (.t 66)
 (.seq
 (.region [] [] [0, 1, 2, 3, 29, 5, 34, 47, 6, 52, 66, 4] [⟨some 4, (.move (.k (rB false))), none, none⟩])
 .ret)
 .skip)))
 (.region [] [] [0, 1, 2, 3, 29, 5, 34, 47, 6, 52, 66, 4] [⟨some 53, (.move (.t 6)), none, none⟩,⟨some 54, (.bin .add (.t 53) (.k (rI .i64 1))), none, none⟩,⟨some 6, (.move (.t 54)), none, none⟩])))
def ic2105 : IC :=
 (.seq
 (.region [2, 3] [] [0, 1, 2, 3, 29, 5, 34, 47, 6, 52, 66, 4] [⟨some 2, (.box 29 (.t 0)), none, none⟩,⟨some 3, (.box 29 (.t 1)), none, none⟩,⟨some 4, (.move (.k (rB false))), none, none⟩])
 (.seq
 (.seq
 (.region [] [] [0, 1, 2, 3, 29, 5, 34, 47, 6, 52, 66, 4] [⟨some 7, (.faddr 0 (.t 2)), none, none⟩,⟨some 8, (.load none (.t 7)), none, none⟩,⟨some 9, (.faddr 0 (.t 3)), none, none⟩,⟨some 10, (.load none (.t 9)), none, none⟩,⟨some 11, (.bin .neq (.t 8) (.t 10)), none, none⟩,⟨some 12, (.move (.t 11)), none, none⟩,⟨some 13, (.faddr 1 (.t 2)), some (12, false), none⟩,⟨some 14, (.load none (.t 13)), some (12, false), none⟩,⟨some 15, (.len (.t 14)), some (12, false), none⟩,⟨some 16, (.faddr 1 (.t 3)), some (12, false), none⟩,⟨some 17, (.load none (.t 16)), some (12, false), none⟩,⟨some 18, (.len (.t 17)), some (12, false), none⟩,⟨some 19, (.bin .neq (.t 15) (.t 18)), some (12, false), none⟩,⟨some 20, (.pick (.t 12) (.k (rB true)) (.t 19)), none, none⟩,⟨some 21, (.move (.t 20)), none, none⟩,⟨some 22, (.faddr 2 (.t 2)), some (21, false), none⟩,⟨some 23, (.load none (.t 22)), some (21, false), none⟩,⟨some 24, (.len (.t 23)), some (21, false), none⟩,⟨some 25, (.faddr 2 (.t 3)), some (21, false), none⟩,⟨some 26, (.load none (.t 25)), some (21, false), none⟩,⟨some 27, (.len (.t 26)), some (21, false), none⟩,⟨some 28, (.bin .neq (.t 24) (.t 27)), some (21, false), none⟩,⟨some 29, (.pick (.t 21) (.k (rB true)) (.t 28)), none, none⟩])
 (.cond (.t 29)
 (.seq
 (.region [] [] [0, 1, 2, 3, 29, 5, 34, 47, 6, 52, 66, 4] [⟨some 4, (.move (.k (rB false))), none, none⟩])
 .ret)
 .skip))
 (.seq
 (.seq
 (.region [] [] [0, 1, 2, 3, 29, 5, 34, 47, 6, 52, 66, 4] [⟨some 5, (.move (.k (rI .i64 0))), none, none⟩])
 (.block 0
 (.loop ic2105l0)))
 (.seq
 (.seq
 (.region [] [] [0, 1, 2, 3, 29, 5, 34, 47, 6, 52, 66, 4] [⟨some 6, (.move (.k (rI .i64 0))), none, none⟩])
 (.block 2
 (.loop ic2105l1)))
 (.seq
 (.region [] [] [0, 1, 2, 3, 29, 5, 34, 47, 6, 52, 66, 4] [⟨some 4, (.move (.k (rB true))), none, none⟩])
 .ret)))))
def ir2105 : List IRes := [.tmp 4]
theorem ie2105 : cmpFunc Go.Proofs.Tryz.prog ⟨[], []⟩ Go.Proofs.Tryz.f105 [0, 1, 2, 3, 29, 5, 34, 47, 6, 52, 66, 4] = some ic2105 := by kernel_rfl
theorem ig2105 : cmpRes Go.Proofs.Tryz.prog Go.Proofs.Tryz.f105.results.toList = some ir2105 := by kernel_rfl
def ic2196 : IC :=
 (.seq
 (.region [] [] [0, 4, 2] [⟨some 2, (.move (.k (rS (bs [])))), none, none⟩])
 (.seq
 (.seq
 (.region [] [] [0, 4, 2] [⟨some 3, (.move (.t 0)), none, none⟩,⟨some 4, (.bin .lss (.t 3) (.k (rI .i64 0))), none, none⟩])
 (.cond (.t 4)
 (.seq
 (.region [] [] [0, 4, 2] [⟨some 5, (.move (.t 0)), none, none⟩,⟨some 6, (.conv .u64 (.t 5)), none, none⟩,⟨some 7, (.un .neg (.t 6)), none, none⟩,⟨some 8, (.callp (.k (rF 264)) [(.t 7)]), none, none⟩,⟨some 9, (.bin .add (.k (rS (bs [45]))) (.t 8)), none, none⟩,⟨some 2, (.move (.t 9)), none, none⟩])
 .ret)
 .skip))
 (.seq
 (.region [] [] [0, 4, 2] [⟨some 10, (.move (.t 0)), none, none⟩,⟨some 11, (.conv .u64 (.t 10)), none, none⟩,⟨some 12, (.callp (.k (rF 264)) [(.t 11)]), none, none⟩,⟨some 2, (.move (.t 12)), none, none⟩])
 .ret)))
def ir2196 : List IRes := [.tmp 2]
theorem ie2196 : cmpFunc Go.Proofs.Tryz.prog ⟨[], []⟩ Go.Proofs.Tryz.f196 [0, 4, 2] = some ic2196 := by kernel_rfl
theorem ig2196 : cmpRes Go.Proofs.Tryz.prog Go.Proofs.Tryz.f196.results.toList = some ir2196 := by kernel_rfl
def ic2198 : IC :=
 (.seq
 (.region [2, 3] [] [0, 1, 2, 3, 4] [⟨some 2, (.box 105 (.t 0)), none, none⟩,⟨some 3, (.box 105 (.t 1)), none, none⟩,⟨some 4, (.move (.k (rB false))), none, none⟩])
 (.seq
 (.region [] [] [0, 1, 2, 3, 4] [⟨some 5, (.faddr 0 (.t 2)), none, none⟩,⟨some 6, (.load none (.t 5)), none, none⟩,⟨some 7, (.faddr 0 (.t 3)), none, none⟩,⟨some 8, (.load none (.t 7)), none, none⟩,⟨some 9, (.bin .eql (.t 6) (.t 8)), none, none⟩,⟨some 10, (.move (.t 9)), none, none⟩,⟨some 11, (.faddr 5 (.t 2)), some (10, true), none⟩,⟨some 12, (.load none (.t 11)), some (10, true), none⟩,⟨some 13, (.faddr 5 (.t 3)), some (10, true), none⟩,⟨some 14, (.load none (.t 13)), some (10, true), none⟩,⟨some 15, (.callp (.k (rF 266)) [(.t 12), (.t 14), (.k (rF 198))]), some (10, true), none⟩,⟨some 16, (.pick (.t 10) (.t 15) (.k (rB false))), none, none⟩,⟨some 4, (.move (.t 16)), none, none⟩])
 .ret))
def ir2198 : List IRes := [.tmp 4]
theorem ie2198 : cmpFunc Go.Proofs.Tryz.prog ⟨[], []⟩ Go.Proofs.Tryz.f198 [0, 1, 2, 3, 4] = some ic2198 := by kernel_rfl
theorem ig2198 : cmpRes Go.Proofs.Tryz.prog Go.Proofs.Tryz.f198.results.toList = some ir2198 := by kernel_rfl
def ic2199 : IC :=
 (.region [7] [] [1, 0] [⟨some 3, (.load none (.t 1)), none, none⟩,⟨some 4, (.move (.t 0)), none, none⟩,⟨some 5, (.nilchk (.t 4)), none, none⟩,⟨some 6, (.load (some 4) (.t 5)), none, none⟩,⟨some 7, (.row 73 4 [(.t 6)]), none, none⟩,⟨some 8, (.app 73 4 48 (.t 3) (.t 7)), none, none⟩,⟨none, (.store (some 1) (.t 1) (.t 8)), none, none⟩])
def ir2199 : List IRes := []
theorem ie2199 : cmpFunc Go.Proofs.Tryz.prog ⟨[], []⟩ Go.Proofs.Tryz.f199 [1, 0] = some ic2199 := by kernel_rfl
theorem ig2199 : cmpRes Go.Proofs.Tryz.prog Go.Proofs.Tryz.f199.results.toList = some ir2199 := by kernel_rfl
def ic2200 : IC :=
 (.region [7] [] [1, 0] [⟨some 3, (.load none (.t 1)), none, none⟩,⟨some 4, (.move (.t 0)), none, none⟩,⟨some 5, (.nilchk (.t 4)), none, none⟩,⟨some 6, (.load (some 4) (.t 5)), none, none⟩,⟨some 7, (.row 73 4 [(.t 6)]), none, none⟩,⟨some 8, (.app 73 4 48 (.t 3) (.t 7)), none, none⟩,⟨none, (.store (some 1) (.t 1) (.t 8)), none, none⟩])
def ir2200 : List IRes := []
theorem ie2200 : cmpFunc Go.Proofs.Tryz.prog ⟨[], []⟩ Go.Proofs.Tryz.f200 [1, 0] = some ic2200 := by kernel_rfl
theorem ig2200 : cmpRes Go.Proofs.Tryz.prog Go.Proofs.Tryz.f200.results.toList = some ir2200 := by kernel_rfl
def ic2201l0 : IC :=
 (.seq
 (.region [] [] [0, 1, 10, 13, 12, 14, 5, 24, 4] [⟨some 14, (.bin .lss (.t 13) (.t 12)), none, none⟩])
 (.seq
 (.cond (.t 14)
 .skip
 (.exit 0))
 (.seq
 (.block 1
 (.seq
 (.region [] [] [0, 1, 10, 13, 12, 14, 5, 24, 4] [⟨some 15, (.move (.t 13)), none, none⟩,⟨some 5, (.move (.t 15)), none, none⟩])
 (.seq
 (.region [] [] [0, 1, 10, 13, 12, 14, 5, 24, 4] [⟨some 16, (.move (.t 0)), none, none⟩,⟨some 17, (.move (.t 5)), none, none⟩,⟨some 18, (.iaddr 4 (.t 16) (.t 17)), none, none⟩,⟨some 19, (.load (some 4) (.t 18)), none, none⟩,⟨some 20, (.move (.t 1)), none, none⟩,⟨some 21, (.move (.t 5)), none, none⟩,⟨some 22, (.iaddr 4 (.t 20) (.t 21)), none, none⟩,⟨some 23, (.load (some 4) (.t 22)), none, none⟩,⟨some 24, (.eqs true [.s, .i .i8, .i .i64, .s] (.t 19) (.t 23)), none, none⟩])
 (.cond (.t 24)
 (.seq
 (.region [] [] [0, 1, 10, 13, 12, 14, 5, 24, 4] [⟨some 4, (.move (.k (rB false))), none, none⟩])
 .ret)
 .skip))))
 (.region [] [] [0, 1, 10, 13, 12, 14, 5, 24, 4] [⟨some 25, (.bin .add (.t 13) (.k (rI .i64 1))), none, none⟩,⟨some 13, (.move (.t 25)), none, none⟩]))))
def ic2201 : IC :=
 (.seq
 (.region [] [] [0, 1, 10, 13, 12, 14, 5, 24, 4] [⟨some 4, (.move (.k (rB false))), none, none⟩])
 (.seq
 (.seq
 (.region [] [] [0, 1, 10, 13, 12, 14, 5, 24, 4] [⟨some 6, (.move (.t 0)), none, none⟩,⟨some 7, (.len (.t 6)), none, none⟩,⟨some 8, (.move (.t 1)), none, none⟩,⟨some 9, (.len (.t 8)), none, none⟩,⟨some 10, (.bin .neq (.t 7) (.t 9)), none, none⟩])
 (.cond (.t 10)
 (.seq
 (.region [] [] [0, 1, 10, 13, 12, 14, 5, 24, 4] [⟨some 4, (.move (.k (rB false))), none, none⟩])
 .ret)
 .skip))
 (.seq
 (.seq
 (.region [] [] [0, 1, 10, 13, 12, 14, 5, 24, 4] [⟨some 11, (.move (.t 0)), none, none⟩,⟨some 12, (.len (.t 11)), none, none⟩,⟨some 13, (.move (.k (rI .i64 0))), none, none⟩])
 (.block 0
 (.loop ic2201l0)))
 (.seq
 (.region [] [] [0, 1, 10, 13, 12, 14, 5, 24, 4] [⟨some 4, (.move (.k (rB true))), none, none⟩])
 .ret))))
def ir2201 : List IRes := [.tmp 4]
theorem ie2201 : cmpFunc Go.Proofs.Tryz.prog ⟨[], []⟩ Go.Proofs.Tryz.f201 [0, 1, 10, 13, 12, 14, 5, 24, 4] = some ic2201 := by kernel_rfl
theorem ig2201 : cmpRes Go.Proofs.Tryz.prog Go.Proofs.Tryz.f201.results.toList = some ir2201 := by kernel_rfl
def ic2202 : IC :=
 (.seq
 (.region [2, 3] [] [0, 1, 2, 3, 4] [⟨some 2, (.box 107 (.t 0)), none, none⟩,⟨some 3, (.box 107 (.t 1)), none, none⟩,⟨some 4, (.move (.k (rB false))), none, none⟩])
 (.seq
 (.region [] [] [0, 1, 2, 3, 4] [⟨some 5, (.faddr 0 (.t 2)), none, none⟩,⟨some 6, (.load none (.t 5)), none, none⟩,⟨some 7, (.faddr 0 (.t 3)), none, none⟩,⟨some 8, (.load none (.t 7)), none, none⟩,⟨some 9, (.bin .eql (.t 6) (.t 8)), none, none⟩,⟨some 10, (.move (.t 9)), none, none⟩,⟨some 11, (.faddr 3 (.t 2)), some (10, true), none⟩,⟨some 12, (.load none (.t 11)), some (10, true), none⟩,⟨some 13, (.faddr 3 (.t 3)), some (10, true), none⟩,⟨some 14, (.load none (.t 13)), some (10, true), none⟩,⟨some 15, (.bin .eql (.t 12) (.t 14)), some (10, true), none⟩,⟨some 16, (.pick (.t 10) (.t 15) (.k (rB false))), none, none⟩,⟨some 17, (.move (.t 16)), none, none⟩,⟨some 18, (.faddr 1 (.t 2)), some (17, true), none⟩,⟨some 19, (.load (some 2) (.t 18)), some (17, true), none⟩,⟨some 20, (.faddr 1 (.t 3)), some (17, true), none⟩,⟨some 21, (.load (some 2) (.t 20)), some (17, true), none⟩,⟨some 22, (.callp (.k (rF 267)) [(.t 19), (.t 21)]), some (17, true), none⟩,⟨some 23, (.pick (.t 17) (.t 22) (.k (rB false))), none, none⟩,⟨some 24, (.move (.t 23)), none, none⟩,⟨some 25, (.faddr 4 (.t 2)), some (24, true), none⟩,⟨some 26, (.load (some 6) (.t 25)), some (24, true), none⟩,⟨some 27, (.faddr 4 (.t 3)), some (24, true), none⟩,⟨some 28, (.load (some 6) (.t 27)), some (24, true), none⟩,⟨some 29, (.callp (.k (rF 268)) [(.t 26), (.t 28)]), some (24, true), none⟩,⟨some 30, (.pick (.t 24) (.t 29) (.k (rB false))), none, none⟩,⟨some 31, (.move (.t 30)), none, none⟩,⟨some 32, (.faddr 10 (.t 2)), some (31, true), none⟩,⟨some 33, (.load (some 6) (.t 32)), some (31, true), none⟩,⟨some 34, (.faddr 10 (.t 3)), some (31, true), none⟩,⟨some 35, (.load (some 6) (.t 34)), some (31, true), none⟩,⟨some 36, (.callp (.k (rF 268)) [(.t 33), (.t 35)]), some (31, true), none⟩,⟨some 37, (.pick (.t 31) (.t 36) (.k (rB false))), none, none⟩,⟨some 4, (.move (.t 37)), none, none⟩])
 .ret))
def ir2202 : List IRes := [.tmp 4]
theorem ie2202 : cmpFunc Go.Proofs.Tryz.prog ⟨[], []⟩ Go.Proofs.Tryz.f202 [0, 1, 2, 3, 4] = some ic2202 := by kernel_rfl
theorem ig2202 : cmpRes Go.Proofs.Tryz.prog Go.Proofs.Tryz.f202.results.toList = some ir2202 := by kernel_rfl
def ic2266l0 : IC :=
 (.seq
 (.region [] [] [0, 1, 14, 17, 16, 18, 15, 7, 2, 8, 9, 30, 6] [⟨some 18, (.bin .lss (.t 17) (.t 16)), none, none⟩])
 (.seq
 (.cond (.t 18)
 .skip
 (.exit 0))
 (.seq
 (.block 1
 (.seq
 (.region [8] [] [0, 1, 14, 17, 16, 18, 15, 7, 2, 8, 9, 30, 6] [⟨some 19, (.move (.t 17)), none, none⟩,⟨some 20, (.iaddr 6 (.t 15) (.t 17)), none, none⟩,⟨some 21, (.load (some 6) (.t 20)), none, none⟩,⟨some 8, (.zero 105 [(.c (.v (.int .i8 0))), (.c (.v (.string (bs [])))), (.c (.v (.int .i8 0))), (.c (.v (.int .i64 0))), (.c (.v (.string (bs [])))), .nil]), none, none⟩,⟨some 7, (.move (.t 19)), none, none⟩,⟨none, (.store (some 6) (.t 8) (.t 21)), none, none⟩])
 (.seq
 (.region [9] [] [0, 1, 14, 17, 16, 18, 15, 7, 2, 8, 9, 30, 6] [⟨some 22, (.move (.t 1)), none, none⟩,⟨some 23, (.move (.t 7)), none, none⟩,⟨some 24, (.iaddr 6 (.t 22) (.t 23)), none, none⟩,⟨some 25, (.load (some 6) (.t 24)), none, none⟩,⟨some 9, (.zero 105 [(.c (.v (.int .i8 0))), (.c (.v (.string (bs [])))), (.c (.v (.int .i8 0))), (.c (.v (.int .i64 0))), (.c (.v (.string (bs [])))), .nil]), none, none⟩,⟨none, (.store (some 6) (.t 9) (.t 25)), none, none⟩])
 (.seq
 (.region [] [] [0, 1, 14, 17, 16, 18, 15, 7, 2, 8, 9, 30, 6] [⟨some 26, (.move (.t 2)), none, none⟩,⟨some 27, (.load (some 6) (.t 8)), none, none⟩,⟨some 28, (.load (some 6) (.t 9)), none, none⟩,⟨some 29, (.call (.t 26) [(.t 27), (.t 28)]), none, none⟩,⟨some 30, (.un .not (.t 29)), none, none⟩])
 (.cond (.t 30)
 (.seq
 (.region [] [] [0, 1, 14, 17, 16, 18, 15, 7, 2, 8, 9, 30, 6] [⟨some 6, (.move (.k (rB false))), none, none⟩])
 .ret)
 .skip)))))
 (.region [] [] [0, 1, 14, 17, 16, 18, 15, 7, 2, 8, 9, 30, 6] [⟨some 31, (.bin .add (.t 17) (.k (rI .i64 1))), none, none⟩,⟨some 17, (.move (.t 31)), none, none⟩]))))
def ic2266 : IC :=
 (.seq
 (.region [] [] [0, 1, 14, 17, 16, 18, 15, 7, 2, 8, 9, 30, 6] [⟨some 6, (.move (.k (rB false))), none, none⟩])
 (.seq
 (.seq
 (.region [] [] [0, 1, 14, 17, 16, 18, 15, 7, 2, 8, 9, 30, 6] [⟨some 10, (.move (.t 0)), none, none⟩,⟨some 11, (.len (.t 10)), none, none⟩,⟨some 12, (.move (.t 1)), none, none⟩,⟨some 13, (.len (.t 12)), none, none⟩,⟨some 14, (.bin .neq (.t 11) (.t 13)), none, none⟩])
 (.cond (.t 14)
 (.seq
 (.region [] [] [0, 1, 14, 17, 16, 18, 15, 7, 2, 8, 9, 30, 6] [⟨some 6, (.move (.k (rB false))), none, none⟩])
 .ret)
 .skip))
 (.seq
 (.seq
 (.region [] [] [0, 1, 14, 17, 16, 18, 15, 7, 2, 8, 9, 30, 6] [⟨some 15, (.move (.t 0)), none, none⟩,⟨some 16, (.len (.t 15)), none, none⟩,⟨some 17, (.move (.k (rI .i64 0))), none, none⟩])
 (.block 0
 (.loop ic2266l0)))
 (.seq
 (.region [] [] [0, 1, 14, 17, 16, 18, 15, 7, 2, 8, 9, 30, 6] [⟨some 6, (.move (.k (rB true))), none, none⟩])
 .ret))))
def ir2266 : List IRes := [.tmp 6]
theorem ie2266 : cmpFunc Go.Proofs.Tryz.prog ⟨[(29, none)], []⟩ Go.Proofs.Tryz.f266 [0, 1, 14, 17, 16, 18, 15, 7, 2, 8, 9, 30, 6] = some ic2266 := by kernel_rfl
theorem ig2266 : cmpRes Go.Proofs.Tryz.prog Go.Proofs.Tryz.f266.results.toList = some ir2266 := by kernel_rfl
def ic2267l0 : IC :=
 (.seq
 (.seq
 (.region [] [] [0, 1, 2, 3, 19, 5, 24, 37, 4] [⟨some 20, (.move (.t 5)), none, none⟩,⟨some 21, (.faddr 1 (.t 2)), none, none⟩,⟨some 22, (.load none (.t 21)), none, none⟩,⟨some 23, (.len (.t 22)), none, none⟩,⟨some 24, (.bin .lss (.t 20) (.t 23)), none, none⟩])
 (.cond (.t 24)
 .skip
 (.exit 0)))
 (.seq
 (.block 1
 (.seq
 (.region [] [] [0, 1, 2, 3, 19, 5, 24, 37, 4] [⟨some 27, (.faddr 1 (.t 2)), none, none⟩,⟨some 28, (.load none (.t 27)), none, none⟩,⟨some 29, (.move (.t 5)), none, none⟩,⟨some 30, (.iaddr 4 (.t 28) (.t 29)), none, none⟩,⟨some 31, (.load (some 4) (.t 30)), none, none⟩,⟨some 32, (.faddr 1 (.t 3)), none, none⟩,⟨some 33, (.load none (.t 32)), none, none⟩,⟨some 34, (.move (.t 5)), none, none⟩,⟨some 35, (.iaddr 4 (.t 33) (.t 34)), none, none⟩,⟨some 36, (.load (some 4) (.t 35)), none, none⟩,⟨some 37, (.eqs true [.s, .i .i8, .i .i64, .s] (.t 31) (.t 36)), none, none⟩])
 (.cond (.t 37)
 (.seq
 (.region [] [] [0, 1, 2, 3, 19, 5, 24, 37, 4] [⟨some 4, (.move (.k (rB false))), none, none⟩])
 .ret)
 .skip)))
 (.region [] [] [0, 1, 2, 3, 19, 5, 24, 37, 4] [⟨some 25, (.move (.t 5)), none, none⟩,⟨some 26, (.bin .add (.t 25) (.k (rI .i64 1))), none, none⟩,⟨some 5, (.move (.t 26)), none, none⟩])))
def ic2267 : IC :=
 (.seq
 (.region [2, 3] [] [0, 1, 2, 3, 19, 5, 24, 37, 4] [⟨some 2, (.box 25 (.t 0)), none, none⟩,⟨some 3, (.box 25 (.t 1)), none, none⟩,⟨some 4, (.move (.k (rB false))), none, none⟩])
 (.seq
 (.seq
 (.region [] [] [0, 1, 2, 3, 19, 5, 24, 37, 4] [⟨some 6, (.faddr 0 (.t 2)), none, none⟩,⟨some 7, (.load none (.t 6)), none, none⟩,⟨some 8, (.faddr 0 (.t 3)), none, none⟩,⟨some 9, (.load none (.t 8)), none, none⟩,⟨some 10, (.bin .neq (.t 7) (.t 9)), none, none⟩,⟨some 11, (.move (.t 10)), none, none⟩,⟨some 12, (.faddr 1 (.t 2)), some (11, false), none⟩,⟨some 13, (.load none (.t 12)), some (11, false), none⟩,⟨some 14, (.len (.t 13)), some (11, false), none⟩,⟨some 15, (.faddr 1 (.t 3)), some (11, false), none⟩,⟨some 16, (.load none (.t 15)), some (11, false), none⟩,⟨some 17, (.len (.t 16)), some (11, false), none⟩,⟨some 18, (.bin .neq (.t 14) (.t 17)), some (11, false), none⟩,⟨some 19, (.pick (.t 11) (.k (rB true)) (.t 18)), none, none⟩])
 (.cond (.t 19)
 (.seq
 (.region [] [] [0, 1, 2, 3, 19, 5, 24, 37, 4] [⟨some 4, (.move (.k (rB false))), none, none⟩])
 .ret)
 .skip))
 (.seq
 (.seq
 (.region [] [] [0, 1, 2, 3, 19, 5, 24, 37, 4] [⟨some 5, (.move (.k (rI .i64 0))), none, none⟩])
 (.block 0
 (.loop ic2267l0)))
 (.seq
 (.region [] [] [0, 1, 2, 3, 19, 5, 24, 37, 4] [⟨some 4, (.move (.k (rB true))), none, none⟩])
 .ret))))
def ir2267 : List IRes := [.tmp 4]
theorem ie2267 : cmpFunc Go.Proofs.Tryz.prog ⟨[], []⟩ Go.Proofs.Tryz.f267 [0, 1, 2, 3, 19, 5, 24, 37, 4] = some ic2267 := by kernel_rfl
theorem ig2267 : cmpRes Go.Proofs.Tryz.prog Go.Proofs.Tryz.f267.results.toList = some ir2267 := by kernel_rfl
def ic2268l0 : IC :=
 (.seq
 (.seq
 (.region [] [] [0, 1, 2, 3, 26, 5, 31, 45, 4] [⟨some 27, (.move (.t 5)), none, none⟩,⟨some 28, (.faddr 5 (.t 2)), none, none⟩,⟨some 29, (.load none (.t 28)), none, none⟩,⟨some 30, (.len (.t 29)), none, none⟩,⟨some 31, (.bin .lss (.t 27) (.t 30)), none, none⟩])
 (.cond (.t 31)
 .skip
 (.exit 0)))
 (.seq
 (.block 1
 (.seq
 (.region [] [] [0, 1, 2, 3, 26, 5, 31, 45, 4] [⟨some 34, (.faddr 5 (.t 2)), none, none⟩,⟨some 35, (.load none (.t 34)), none, none⟩,⟨some 36, (.move (.t 5)), none, none⟩,⟨some 37, (.iaddr 6 (.t 35) (.t 36)), none, none⟩,⟨some 38, (.load (some 6) (.t 37)), none, none⟩,⟨some 39, (.faddr 5 (.t 3)), none, none⟩,⟨some 40, (.load none (.t 39)), none, none⟩,⟨some 41, (.move (.t 5)), none, none⟩,⟨some 42, (.iaddr 6 (.t 40) (.t 41)), none, none⟩,⟨some 43, (.load (some 6) (.t 42)), none, none⟩,⟨some 44, (.callp (.k (rF 268)) [(.t 38), (.t 43)]), none, none⟩,⟨some 45, (.un .not (.t 44)), none, none⟩])
 (.cond (.t 45)
 (.seq
 (.region [] [] [0, 1, 2, 3, 26, 5, 31, 45, 4] [⟨some 4, (.move (.k (rB false))), none, none⟩])
 .ret)
 .skip)))
 (.region [] [] [0, 1, 2, 3, 26, 5, 31, 45, 4] [⟨some 32, (.move (.t 5)), none, none⟩,⟨some 33, (.bin .add (.t 32) (.k (rI .i64 1))), none, none⟩,⟨some 5, (.move (.t 33)), none, none⟩])))
def ic2268 : IC :=
 (.seq
 (.region [2, 3] [] [0, 1, 2, 3, 26, 5, 31, 45, 4] [⟨some 2, (.box 105 (.t 0)), none, none⟩,⟨some 3, (.box 105 (.t 1)), none, none⟩,⟨some 4, (.move (.k (rB false))), none, none⟩])
 (.seq
 (.seq
 (.region [] [] [0, 1, 2, 3, 26, 5, 31, 45, 4] [⟨some 6, (.faddr 0 (.t 2)), none, none⟩,⟨some 7, (.load none (.t 6)), none, none⟩,⟨some 8, (.faddr 0 (.t 3)), none, none⟩,⟨some 9, (.load none (.t 8)), none, none⟩,⟨some 10, (.bin .neq (.t 7) (.t 9)), none, none⟩,⟨some 11, (.move (.t 10)), none, none⟩,⟨some 12, (.faddr 1 (.t 2)), some (11, false), none⟩,⟨some 13, (.load (some 4) (.t 12)), some (11, false), none⟩,⟨some 14, (.faddr 1 (.t 3)), some (11, false), none⟩,⟨some 15, (.load (some 4) (.t 14)), some (11, false), none⟩,⟨some 16, (.eqs true [.s, .i .i8, .i .i64, .s] (.t 13) (.t 15)), some (11, false), none⟩,⟨some 17, (.pick (.t 11) (.k (rB true)) (.t 16)), none, none⟩,⟨some 18, (.move (.t 17)), none, none⟩,⟨some 19, (.faddr 5 (.t 2)), some (18, false), none⟩,⟨some 20, (.load none (.t 19)), some (18, false), none⟩,⟨some 21, (.len (.t 20)), some (18, false), none⟩,⟨some 22, (.faddr 5 (.t 3)), some (18, false), none⟩,⟨some 23, (.load none (.t 22)), some (18, false), none⟩,⟨some 24, (.len (.t 23)), some (18, false), none⟩,⟨some 25, (.bin .neq (.t 21) (.t 24)), some (18, false), none⟩,⟨some 26, (.pick (.t 18) (.k (rB true)) (.t 25)), none, none⟩])
 (.cond (.t 26)
 (.seq
 (.region [] [] [0, 1, 2, 3, 26, 5, 31, 45, 4] [⟨some 4, (.move (.k (rB false))), none, none⟩])
 .ret)
 .skip))
 (.seq
 (.seq
 (.region [] [] [0, 1, 2, 3, 26, 5, 31, 45, 4] [⟨some 5, (.move (.k (rI .i64 0))), none, none⟩])
 (.block 0
 (.loop ic2268l0)))
 (.seq
 (.region [] [] [0, 1, 2, 3, 26, 5, 31, 45, 4] [⟨some 4, (.move (.k (rB true))), none, none⟩])
 .ret))))
def ir2268 : List IRes := [.tmp 4]
theorem ie2268 : cmpFunc Go.Proofs.Tryz.prog ⟨[], []⟩ Go.Proofs.Tryz.f268 [0, 1, 2, 3, 26, 5, 31, 45, 4] = some ic2268 := by kernel_rfl
theorem ig2268 : cmpRes Go.Proofs.Tryz.prog Go.Proofs.Tryz.f268.results.toList = some ir2268 := by kernel_rfl
end Go.Proofs.YtiomojlcnemnhaaGreatDoor

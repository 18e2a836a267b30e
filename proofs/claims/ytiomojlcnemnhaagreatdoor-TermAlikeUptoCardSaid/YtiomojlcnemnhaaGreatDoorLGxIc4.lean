import Derived.Test.YtiomojlcnemnhaaGreatDoorLFxZ
import Derived.Test.YtiomojlcnemnhaaGreatDoorProg
import Derived.KernelRfl
namespace Go.Proofs.YtiomojlcnemnhaaGreatDoor
open Go.Fx
def ic2032l0 : IC :=
 (.seq
 (.region [] [] [0, 1, 11, 10, 12, 9, 4, 6, 5, 2, 3] [⟨some 12, (.bin .lss (.t 11) (.t 10)), none, none⟩])
 (.seq
 (.cond (.t 12)
 .skip
 (.exit 0))
 (.seq
 (.block 1
 (.seq
 (.region [] [] [0, 1, 11, 10, 12, 9, 4, 6, 5, 2, 3] [⟨some 13, (.move (.t 11)), none, none⟩,⟨some 14, (.iaddr 1 (.t 9) (.t 11)), none, none⟩,⟨some 15, (.load none (.t 14)), none, none⟩,⟨some 5, (.move (.t 13)), none, none⟩,⟨some 6, (.move (.t 15)), none, none⟩])
 (.region [] [] [0, 1, 11, 10, 12, 9, 4, 6, 5, 2, 3] [⟨some 16, (.move (.t 4)), none, none⟩,⟨some 17, (.move (.t 6)), none, none⟩,⟨some 18, (.move (.t 5)), none, none⟩,⟨some 19, (.callp (.k (rF 99)) [(.t 18)]), none, none⟩,⟨some 20, (.bin .add (.k (rS (bs [86]))) (.t 19)), none, none⟩,⟨some 21, (.build [(.c (.v (.string (bs [])))), (.c (.v (.int .i8 0))), (.c (.v (.int .i64 0))), (.c (.v (.string (bs []))))] [(0, 1, (.t 20))]), none, none⟩,⟨none, (.mapup .string false (.t 16) (.t 17) (.t 21)), none, none⟩])))
 (.region [] [] [0, 1, 11, 10, 12, 9, 4, 6, 5, 2, 3] [⟨some 22, (.bin .add (.t 11) (.k (rI .i64 1))), none, none⟩,⟨some 11, (.move (.t 22)), none, none⟩]))))
def ic2032 : IC :=
 (.seq
 (.region [1, 2] [] [0, 1, 11, 10, 12, 9, 4, 6, 5, 2, 3] [⟨some 1, (.box 29 (.t 0)), none, none⟩,⟨some 2, (.zero 29 [(.c (.v (.string (bs [])))), .nil, .nil]), none, none⟩,⟨some 3, (.move (.k (rI .i64 0))), none, none⟩])
 (.seq
 (.region [7] [] [0, 1, 11, 10, 12, 9, 4, 6, 5, 2, 3] [⟨some 7, (.mkmap .string 5 false), none, none⟩,⟨some 4, (.move (.t 7)), none, none⟩])
 (.seq
 (.seq
 (.region [] [] [0, 1, 11, 10, 12, 9, 4, 6, 5, 2, 3] [⟨some 8, (.load (some 3) (.t 1)), none, none⟩,⟨some 9, (.callp (.k (rF 96)) [(.t 8)]), none, none⟩,⟨some 10, (.len (.t 9)), none, none⟩,⟨some 11, (.move (.k (rI .i64 0))), none, none⟩])
 (.block 0
 (.loop ic2032l0)))
 (.seq
 (.region [] [] [0, 1, 11, 10, 12, 9, 4, 6, 5, 2, 3] [⟨some 23, (.move (.t 4)), none, none⟩,⟨some 24, (.load (some 3) (.t 1)), none, none⟩,⟨some 25, (.call (.k (rF 83)) [(.t 23), (.t 24)]), none, none⟩,⟨some 26, (.ext (.t 25) 0), none, none⟩,⟨some 27, (.ext (.t 25) 1), none, none⟩,⟨none, (.store (some 3) (.t 2) (.t 26)), none, none⟩,⟨some 3, (.move (.t 27)), none, none⟩])
 .ret))))
def ir2032 : List IRes := [.cell 2 (some 3), .tmp 3]
theorem ie2032 : cmpFunc Go.Proofs.Tryz.prog ⟨[(25, none)], []⟩ Go.Proofs.Tryz.f32 [0, 1, 11, 10, 12, 9, 4, 6, 5, 2, 3] = some ic2032 := by kernel_rfl
theorem ig2032 : cmpRes Go.Proofs.Tryz.prog Go.Proofs.Tryz.f32.results.toList = some ir2032 := by kernel_rfl
def ic2033 : IC :=
 (.seq
 (.region [2, 3] [] [0, 1, 2, 3, 6, 8, 5, 7, 32, 9, 4] [⟨some 2, (.box 29 (.t 0)), none, none⟩,⟨some 3, (.box 29 (.t 1)), none, none⟩,⟨some 4, (.move (.k (rB false))), none, none⟩])
 (.seq
 (.region [5] [] [0, 1, 2, 3, 6, 8, 5, 7, 32, 9, 4] [⟨some 11, (.load (some 3) (.t 2)), none, none⟩,⟨some 12, (.callp (.k (rF 32)) [(.t 11)]), none, none⟩,⟨some 10, (.move (.t 12)), none, none⟩,⟨some 13, (.ext (.t 10) 0), none, none⟩,⟨some 14, (.ext (.t 10) 1), none, none⟩,⟨some 5, (.zero 29 [(.c (.v (.string (bs [])))), .nil, .nil]), none, none⟩,⟨none, (.store (some 3) (.t 5) (.t 13)), none, none⟩,⟨some 6, (.move (.t 14)), none, none⟩])
 (.seq
 (.region [7] [] [0, 1, 2, 3, 6, 8, 5, 7, 32, 9, 4] [⟨some 16, (.load (some 3) (.t 3)), none, none⟩,⟨some 17, (.callp (.k (rF 32)) [(.t 16)]), none, none⟩,⟨some 15, (.move (.t 17)), none, none⟩,⟨some 18, (.ext (.t 15) 0), none, none⟩,⟨some 19, (.ext (.t 15) 1), none, none⟩,⟨some 7, (.zero 29 [(.c (.v (.string (bs [])))), .nil, .nil]), none, none⟩,⟨none, (.store (some 3) (.t 7) (.t 18)), none, none⟩,⟨some 8, (.move (.t 19)), none, none⟩])
 (.seq
 (.seq
 (.region [] [] [0, 1, 2, 3, 6, 8, 5, 7, 32, 9, 4] [⟨some 20, (.move (.t 6)), none, none⟩,⟨some 21, (.bin .neq (.t 20) (.k (rI .i64 0))), none, none⟩,⟨some 22, (.move (.t 21)), none, none⟩,⟨some 23, (.move (.t 8)), some (22, false), none⟩,⟨some 24, (.bin .neq (.t 23) (.k (rI .i64 0))), some (22, false), none⟩,⟨some 25, (.pick (.t 22) (.k (rB true)) (.t 24)), none, none⟩,⟨some 26, (.move (.t 25)), none, none⟩,⟨some 27, (.faddr 0 (.t 5)), some (26, false), none⟩,⟨some 28, (.load none (.t 27)), some (26, false), none⟩,⟨some 29, (.faddr 0 (.t 7)), some (26, false), none⟩,⟨some 30, (.load none (.t 29)), some (26, false), none⟩,⟨some 31, (.bin .neq (.t 28) (.t 30)), some (26, false), none⟩,⟨some 32, (.pick (.t 26) (.k (rB true)) (.t 31)), none, none⟩])
 (.cond (.t 32)
 (.seq
 (.region [] [] [0, 1, 2, 3, 6, 8, 5, 7, 32, 9, 4] [⟨some 4, (.move (.k (rB false))), none, none⟩])
 .ret)
 .skip))
 (.seq
 (.region [] [] [0, 1, 2, 3, 6, 8, 5, 7, 32, 9, 4] [⟨some 9, (.move (.k (rF 100))), none, none⟩])
 (.seq
 (.region [] [.fz [5, 7]] [0, 1, 2, 3, 6, 8, 5, 7, 32, 9, 4] [⟨some 33, (.faddr 1 (.t 5)), none, none⟩,⟨some 34, (.load none (.t 33)), none, none⟩,⟨some 35, (.faddr 1 (.t 7)), none, none⟩,⟨some 36, (.load none (.t 35)), none, none⟩,⟨some 37, (.move (.t 9)), none, none⟩,⟨some 38, (.callp (.k (rF 101)) [(.t 34), (.t 36), (.t 37)]), none, none⟩,⟨some 39, (.move (.t 38)), none, none⟩,⟨some 40, (.faddr 2 (.t 5)), some (39, true), none⟩,⟨some 41, (.load none (.t 40)), some (39, true), none⟩,⟨some 42, (.faddr 2 (.t 7)), some (39, true), none⟩,⟨some 43, (.load none (.t 42)), some (39, true), none⟩,⟨some 44, (.callp (.k (rF 102)) [(.t 41), (.t 43), (.k (rF 103))]), some (39, true), none⟩,⟨some 45, (.pick (.t 39) (.t 44) (.k (rB false))), none, none⟩,⟨some 46, (.move (.t 45)), none, none⟩,⟨some 47, (.mki 143 (.t 5)), some (46, true), none⟩,⟨some 48, (.mki 143 (.t 7)), some (46, true), none⟩,⟨some 49, (.call (.k (rF 104)) [(.t 47), (.t 48)]), some (46, true), none⟩,⟨some 50, (.pick (.t 46) (.t 49) (.k (rB false))), none, none⟩,⟨some 4, (.move (.t 50)), none, none⟩])
 .ret))))))
def ir2033 : List IRes := [.tmp 4]
theorem ie2033 : cmpFunc Go.Proofs.Tryz.prog ⟨[(49, none)], [(33, .fz [5, 7])]⟩ Go.Proofs.Tryz.f33 [0, 1, 2, 3, 6, 8, 5, 7, 32, 9, 4] = some ic2033 := by kernel_rfl
theorem ig2033 : cmpRes Go.Proofs.Tryz.prog Go.Proofs.Tryz.f33.results.toList = some ir2033 := by kernel_rfl
def ic2100 : IC :=
 (.seq
 (.region [2, 3] [] [0, 1, 2, 3, 4] [⟨some 2, (.box 137 (.t 0)), none, none⟩,⟨some 3, (.box 137 (.t 1)), none, none⟩,⟨some 4, (.move (.k (rB false))), none, none⟩])
 (.seq
 (.region [] [] [0, 1, 2, 3, 4] [⟨some 5, (.faddr 0 (.t 2)), none, none⟩,⟨some 6, (.load none (.t 5)), none, none⟩,⟨some 7, (.faddr 0 (.t 3)), none, none⟩,⟨some 8, (.load none (.t 7)), none, none⟩,⟨some 9, (.bin .eql (.t 6) (.t 8)), none, none⟩,⟨some 4, (.move (.t 9)), none, none⟩])
 .ret))
def ir2100 : List IRes := [.tmp 4]
theorem ie2100 : cmpFunc Go.Proofs.Tryz.prog ⟨[], []⟩ Go.Proofs.Tryz.f100 [0, 1, 2, 3, 4] = some ic2100 := by kernel_rfl
theorem ig2100 : cmpRes Go.Proofs.Tryz.prog Go.Proofs.Tryz.f100.results.toList = some ir2100 := by kernel_rfl
def ic2101l0 : IC :=
 (.seq
 (.region [] [] [0, 1, 14, 17, 16, 18, 15, 7, 2, 8, 9, 30, 6] [⟨some 18, (.bin .lss (.t 17) (.t 16)), none, none⟩])
 (.seq
 (.cond (.t 18)
 .skip
 (.exit 0))
 (.seq
 (.block 1
 (.seq
 (.region [8] [] [0, 1, 14, 17, 16, 18, 15, 7, 2, 8, 9, 30, 6] [⟨some 19, (.move (.t 17)), none, none⟩,⟨some 20, (.iaddr 5 (.t 15) (.t 17)), none, none⟩,⟨some 21, (.load (some 5) (.t 20)), none, none⟩,⟨some 8, (.zero 137 [(.c (.v (.int .i8 0))), (.c (.v (.string (bs [])))), (.c (.v (.int .i8 0))), (.c (.v (.int .i64 0))), (.c (.v (.string (bs []))))]), none, none⟩,⟨some 7, (.move (.t 19)), none, none⟩,⟨none, (.store (some 5) (.t 8) (.t 21)), none, none⟩])
 (.seq
 (.region [9] [] [0, 1, 14, 17, 16, 18, 15, 7, 2, 8, 9, 30, 6] [⟨some 22, (.move (.t 1)), none, none⟩,⟨some 23, (.move (.t 7)), none, none⟩,⟨some 24, (.iaddr 5 (.t 22) (.t 23)), none, none⟩,⟨some 25, (.load (some 5) (.t 24)), none, none⟩,⟨some 9, (.zero 137 [(.c (.v (.int .i8 0))), (.c (.v (.string (bs [])))), (.c (.v (.int .i8 0))), (.c (.v (.int .i64 0))), (.c (.v (.string (bs []))))]), none, none⟩,⟨none, (.store (some 5) (.t 9) (.t 25)), none, none⟩])
 (.seq
 (.region [] [] [0, 1, 14, 17, 16, 18, 15, 7, 2, 8, 9, 30, 6] [⟨some 26, (.move (.t 2)), none, none⟩,⟨some 27, (.load (some 5) (.t 8)), none, none⟩,⟨some 28, (.load (some 5) (.t 9)), none, none⟩,⟨some 29, (.call (.t 26) [(.t 27), (.t 28)]), none, none⟩,⟨some 30, (.un .not (.t 29)), none, none⟩])
 (.cond (.t 30)
 (.seq
 (.region [] [] [0, 1, 14, 17, 16, 18, 15, 7, 2, 8, 9, 30, 6] [⟨some 6, (.move (.k (rB false))), none, none⟩])
 .ret)
 .skip)))))
 (.region [] [] [0, 1, 14, 17, 16, 18, 15, 7, 2, 8, 9, 30, 6] [⟨some 31, (.bin .add (.t 17) (.k (rI .i64 1))), none, none⟩,⟨some 17, (.move (.t 31)), none, none⟩]))))
def ic2101 : IC :=
 (.seq
 (.region [] [] [0, 1, 14, 17, 16, 18, 15, 7, 2, 8, 9, 30, 6] [⟨some 6, (.move (.k (rB false))), none, none⟩])
 (.seq
 (.seq
 (.region [] [] [0, 1, 14, 17, 16, 18, 15, 7, 2, 8, 9, 30, 6] [⟨some 10, (.move (.t 0)), none, none⟩,⟨some 11, (.len (.t 10)), none, none⟩,⟨some 12, (.move (.t 1)), none, none⟩,⟨some 13, (.len (.t 12)), none, none⟩,⟨some 14, (.bin .neq (.t 11) (.t 13)), none, none⟩])
 (.cond (.t 14)
 (.seq
 (.region [] [] [0, 1, 14, 17, 16, 18, 15, 7, 2, 8, 9, 30, 6] [⟨some 6, (.move (.k (rB false))), none, none⟩])
 .ret)
 .skip))
 (.seq
 (.seq
 (.region [] [] [0, 1, 14, 17, 16, 18, 15, 7, 2, 8, 9, 30, 6] [⟨some 15, (.move (.t 0)), none, none⟩,⟨some 16, (.len (.t 15)), none, none⟩,⟨some 17, (.move (.k (rI .i64 0))), none, none⟩])
 (.block 0
 (.loop ic2101l0)))
 (.seq
 (.region [] [] [0, 1, 14, 17, 16, 18, 15, 7, 2, 8, 9, 30, 6] [⟨some 6, (.move (.k (rB true))), none, none⟩])
 .ret))))
def ir2101 : List IRes := [.tmp 6]
theorem ie2101 : cmpFunc Go.Proofs.Tryz.prog ⟨[(29, none)], []⟩ Go.Proofs.Tryz.f101 [0, 1, 14, 17, 16, 18, 15, 7, 2, 8, 9, 30, 6] = some ic2101 := by kernel_rfl
theorem ig2101 : cmpRes Go.Proofs.Tryz.prog Go.Proofs.Tryz.f101.results.toList = some ir2101 := by kernel_rfl
def ic2102l0 : IC :=
 (.seq
 (.region [] [] [0, 1, 14, 17, 16, 18, 15, 7, 2, 8, 9, 30, 6] [⟨some 18, (.bin .lss (.t 17) (.t 16)), none, none⟩])
 (.seq
 (.cond (.t 18)
 .skip
 (.exit 0))
 (.seq
 (.block 1
 (.seq
 (.region [8] [] [0, 1, 14, 17, 16, 18, 15, 7, 2, 8, 9, 30, 6] [⟨some 19, (.move (.t 17)), none, none⟩,⟨some 20, (.iaddr 16 (.t 15) (.t 17)), none, none⟩,⟨some 21, (.load (some 16) (.t 20)), none, none⟩,⟨some 8, (.zero 107 [(.c (.v (.int .i8 0))), (.c (.v (.string (bs [])))), .nil, (.c (.v (.int .i8 0))), (.c (.v (.int .i8 0))), (.c (.v (.string (bs [])))), (.c (.v (.int .i8 0))), (.c (.v (.int .i64 0))), (.c (.v (.string (bs [])))), .nil, (.c (.v (.int .i8 0))), (.c (.v (.string (bs [])))), (.c (.v (.int .i8 0))), (.c (.v (.int .i64 0))), (.c (.v (.string (bs [])))), .nil]), none, none⟩,⟨some 7, (.move (.t 19)), none, none⟩,⟨none, (.store (some 16) (.t 8) (.t 21)), none, none⟩])
 (.seq
 (.region [9] [] [0, 1, 14, 17, 16, 18, 15, 7, 2, 8, 9, 30, 6] [⟨some 22, (.move (.t 1)), none, none⟩,⟨some 23, (.move (.t 7)), none, none⟩,⟨some 24, (.iaddr 16 (.t 22) (.t 23)), none, none⟩,⟨some 25, (.load (some 16) (.t 24)), none, none⟩,⟨some 9, (.zero 107 [(.c (.v (.int .i8 0))), (.c (.v (.string (bs [])))), .nil, (.c (.v (.int .i8 0))), (.c (.v (.int .i8 0))), (.c (.v (.string (bs [])))), (.c (.v (.int .i8 0))), (.c (.v (.int .i64 0))), (.c (.v (.string (bs [])))), .nil, (.c (.v (.int .i8 0))), (.c (.v (.string (bs [])))), (.c (.v (.int .i8 0))), (.c (.v (.int .i64 0))), (.c (.v (.string (bs [])))), .nil]), none, none⟩,⟨none, (.store (some 16) (.t 9) (.t 25)), none, none⟩])
 (.seq
 (.region [] [] [0, 1, 14, 17, 16, 18, 15, 7, 2, 8, 9, 30, 6] [⟨some 26, (.move (.t 2)), none, none⟩,⟨some 27, (.load (some 16) (.t 8)), none, none⟩,⟨some 28, (.load (some 16) (.t 9)), none, none⟩,⟨some 29, (.call (.t 26) [(.t 27), (.t 28)]), none, none⟩,⟨some 30, (.un .not (.t 29)), none, none⟩])
 (.cond (.t 30)
 (.seq
 (.region [] [] [0, 1, 14, 17, 16, 18, 15, 7, 2, 8, 9, 30, 6] [⟨some 6, (.move (.k (rB false))), none, none⟩])
 .ret)
 .skip)))))
 (.region [] [] [0, 1, 14, 17, 16, 18, 15, 7, 2, 8, 9, 30, 6] [⟨some 31, (.bin .add (.t 17) (.k (rI .i64 1))), none, none⟩,⟨some 17, (.move (.t 31)), none, none⟩]))))
def ic2102 : IC :=
 (.seq
 (.region [] [] [0, 1, 14, 17, 16, 18, 15, 7, 2, 8, 9, 30, 6] [⟨some 6, (.move (.k (rB false))), none, none⟩])
 (.seq
 (.seq
 (.region [] [] [0, 1, 14, 17, 16, 18, 15, 7, 2, 8, 9, 30, 6] [⟨some 10, (.move (.t 0)), none, none⟩,⟨some 11, (.len (.t 10)), none, none⟩,⟨some 12, (.move (.t 1)), none, none⟩,⟨some 13, (.len (.t 12)), none, none⟩,⟨some 14, (.bin .neq (.t 11) (.t 13)), none, none⟩])
 (.cond (.t 14)
 (.seq
 (.region [] [] [0, 1, 14, 17, 16, 18, 15, 7, 2, 8, 9, 30, 6] [⟨some 6, (.move (.k (rB false))), none, none⟩])
 .ret)
 .skip))
 (.seq
 (.seq
 (.region [] [] [0, 1, 14, 17, 16, 18, 15, 7, 2, 8, 9, 30, 6] [⟨some 15, (.move (.t 0)), none, none⟩,⟨some 16, (.len (.t 15)), none, none⟩,⟨some 17, (.move (.k (rI .i64 0))), none, none⟩])
 (.block 0
 (.loop ic2102l0)))
 (.seq
 (.region [] [] [0, 1, 14, 17, 16, 18, 15, 7, 2, 8, 9, 30, 6] [⟨some 6, (.move (.k (rB true))), none, none⟩])
 .ret))))
def ir2102 : List IRes := [.tmp 6]
theorem ie2102 : cmpFunc Go.Proofs.Tryz.prog ⟨[(29, none)], []⟩ Go.Proofs.Tryz.f102 [0, 1, 14, 17, 16, 18, 15, 7, 2, 8, 9, 30, 6] = some ic2102 := by kernel_rfl
theorem ig2102 : cmpRes Go.Proofs.Tryz.prog Go.Proofs.Tryz.f102.results.toList = some ir2102 := by kernel_rfl
def ic2103 : IC :=
 (.seq
 (.region [2, 3] [] [0, 1, 2, 3, 4] [⟨some 2, (.box 107 (.t 0)), none, none⟩,⟨some 3, (.box 107 (.t 1)), none, none⟩,⟨some 4, (.move (.k (rB false))), none, none⟩])
 (.seq
 (.region [] [] [0, 1, 2, 3, 4] [⟨some 5, (.faddr 0 (.t 2)), none, none⟩,⟨some 6, (.load none (.t 5)), none, none⟩,⟨some 7, (.faddr 0 (.t 3)), none, none⟩,⟨some 8, (.load none (.t 7)), none, none⟩,⟨some 9, (.bin .eql (.t 6) (.t 8)), none, none⟩,⟨some 10, (.move (.t 9)), none, none⟩,⟨some 11, (.faddr 3 (.t 2)), some (10, true), none⟩,⟨some 12, (.load none (.t 11)), some (10, true), none⟩,⟨some 13, (.faddr 3 (.t 3)), some (10, true), none⟩,⟨some 14, (.load none (.t 13)), some (10, true), none⟩,⟨some 15, (.bin .eql (.t 12) (.t 14)), some (10, true), none⟩,⟨some 16, (.pick (.t 10) (.t 15) (.k (rB false))), none, none⟩,⟨some 17, (.move (.t 16)), none, none⟩,⟨some 18, (.faddr 1 (.t 2)), some (17, true), none⟩,⟨some 19, (.faddr 0 (.t 18)), some (17, true), none⟩,⟨some 20, (.load none (.t 19)), some (17, true), none⟩,⟨some 21, (.faddr 1 (.t 3)), some (17, true), none⟩,⟨some 22, (.faddr 0 (.t 21)), some (17, true), none⟩,⟨some 23, (.load none (.t 22)), some (17, true), none⟩,⟨some 24, (.bin .eql (.t 20) (.t 23)), some (17, true), none⟩,⟨some 25, (.pick (.t 17) (.t 24) (.k (rB false))), none, none⟩,⟨some 26, (.move (.t 25)), none, none⟩,⟨some 27, (.faddr 1 (.t 2)), some (26, true), none⟩,⟨some 28, (.faddr 1 (.t 27)), some (26, true), none⟩,⟨some 29, (.load none (.t 28)), some (26, true), none⟩,⟨some 30, (.len (.t 29)), some (26, true), none⟩,⟨some 31, (.faddr 1 (.t 3)), some (26, true), none⟩,⟨some 32, (.faddr 1 (.t 31)), some (26, true), none⟩,⟨some 33, (.load none (.t 32)), some (26, true), none⟩,⟨some 34, (.len (.t 33)), some (26, true), none⟩,⟨some 35, (.bin .eql (.t 30) (.t 34)), some (26, true), none⟩,⟨some 36, (.pick (.t 26) (.t 35) (.k (rB false))), none, none⟩,⟨some 37, (.move (.t 36)), none, none⟩,⟨some 38, (.faddr 4 (.t 2)), some (37, true), none⟩,⟨some 39, (.load (some 6) (.t 38)), some (37, true), none⟩,⟨some 40, (.faddr 4 (.t 3)), some (37, true), none⟩,⟨some 41, (.load (some 6) (.t 40)), some (37, true), none⟩,⟨some 42, (.callp (.k (rF 198)) [(.t 39), (.t 41)]), some (37, true), none⟩,⟨some 43, (.pick (.t 37) (.t 42) (.k (rB false))), none, none⟩,⟨some 44, (.move (.t 43)), none, none⟩,⟨some 45, (.faddr 10 (.t 2)), some (44, true), none⟩,⟨some 46, (.load (some 6) (.t 45)), some (44, true), none⟩,⟨some 47, (.faddr 10 (.t 3)), some (44, true), none⟩,⟨some 48, (.load (some 6) (.t 47)), some (44, true), none⟩,⟨some 49, (.callp (.k (rF 198)) [(.t 46), (.t 48)]), some (44, true), none⟩,⟨some 50, (.pick (.t 44) (.t 49) (.k (rB false))), none, none⟩,⟨some 4, (.move (.t 50)), none, none⟩])
 .ret))
def ir2103 : List IRes := [.tmp 4]
theorem ie2103 : cmpFunc Go.Proofs.Tryz.prog ⟨[], []⟩ Go.Proofs.Tryz.f103 [0, 1, 2, 3, 4] = some ic2103 := by kernel_rfl
theorem ig2103 : cmpRes Go.Proofs.Tryz.prog Go.Proofs.Tryz.f103.results.toList = some ir2103 := by kernel_rfl
def ic2104 : IC :=
 (.seq
 (.region [] [] [0, 5, 1, 6, 4] [⟨some 4, (.move (.k (rB false))), none, none⟩])
 (.seq
 (.region [5, 6] [] [0, 5, 1, 6, 4] [⟨some 5, (.zero 23 [.nil]), none, none⟩,⟨some 6, (.zero 23 [.nil]), none, none⟩])
 (.seq
 (.region [] [.pm 30 5 73 4] [0, 5, 1, 6, 4] [⟨some 7, (.move (.t 0)), none, none⟩,⟨some 8, (.clo 199 [] [(.t 5)]), none, none⟩,⟨some 9, (.call (.k (rF 80)) [(.t 7), (.t 8)]), none, none⟩])
 (.seq
 (.region [] [.pm 31 6 73 4] [0, 5, 1, 6, 4] [⟨some 10, (.move (.t 1)), none, none⟩,⟨some 11, (.clo 200 [] [(.t 6)]), none, none⟩,⟨some 12, (.call (.k (rF 80)) [(.t 10), (.t 11)]), none, none⟩])
 (.seq
 (.region [] [] [0, 5, 1, 6, 4] [⟨some 13, (.load none (.t 5)), none, none⟩,⟨some 14, (.load none (.t 6)), none, none⟩,⟨some 15, (.callp (.k (rF 201)) [(.t 13), (.t 14)]), none, none⟩,⟨some 4, (.move (.t 15)), none, none⟩])
 .ret)))))
def ir2104 : List IRes := [.tmp 4]
theorem ie2104 : cmpFunc Go.Proofs.Tryz.prog ⟨[(9, none), (12, none)], [(7, .pm 30 5 73 4), (10, .pm 31 6 73 4)]⟩ Go.Proofs.Tryz.f104 [0, 5, 1, 6, 4] = some ic2104 := by kernel_rfl
theorem ig2104 : cmpRes Go.Proofs.Tryz.prog Go.Proofs.Tryz.f104.results.toList = some ir2104 := by kernel_rfl
def ic2198 : IC :=
 (.seq
 (.region [2, 3] [] [0, 1, 2, 3, 4] [⟨some 2, (.box 105 (.t 0)), none, none⟩,⟨some 3, (.box 105 (.t 1)), none, none⟩,⟨some 4, (.move (.k (rB false))), none, none⟩])
 (.seq
 (.region [] [] [0, 1, 2, 3, 4] [⟨some 5, (.faddr 0 (.t 2)), none, none⟩,⟨some 6, (.load none (.t 5)), none, none⟩,⟨some 7, (.faddr 0 (.t 3)), none, none⟩,⟨some 8, (.load none (.t 7)), none, none⟩,⟨some 9, (.bin .eql (.t 6) (.t 8)), none, none⟩,⟨some 10, (.move (.t 9)), none, none⟩,⟨some 11, (.faddr 5 (.t 2)), some (10, true), none⟩,⟨some 12, (.load none (.t 11)), some (10, true), none⟩,⟨some 13, (.faddr 5 (.t 3)), some (10, true), none⟩,⟨some 14, (.load none (.t 13)), some (10, true), none⟩,⟨some 15, (.callp (.k (rF 266)) [(.t 12), (.t 14), (.k (rF 198))]), some (10, true), none⟩,⟨some 16, (.pick (.t 10) (.t 15) (.k (rB false))), none, none⟩,⟨some 4, (.move (.t 16)), none, none⟩])
 .ret))
def ir2198 : List IRes := [.tmp 4]
theorem ie2198 : cmpFunc Go.Proofs.Tryz.prog ⟨[], []⟩ Go.Proofs.Tryz.f198 [0, 1, 2, 3, 4] = some ic2198 := by kernel_rfl
theorem ig2198 : cmpRes Go.Proofs.Tryz.prog Go.Proofs.Tryz.f198.results.toList = some ir2198 := by kernel_rfl
def ic2199 : IC :=
 (.region [7] [] [1, 0] [⟨some 3, (.load none (.t 1)), none, none⟩,⟨some 4, (.move (.t 0)), none, none⟩,⟨some 5, (.nilchk (.t 4)), none, none⟩,⟨some 6, (.load (some 4) (.t 5)), none, none⟩,⟨some 7, (.row 73 4 [(.t 6)]), none, none⟩,⟨some 8, (.app 73 4 48 (.t 3) (.t 7)), none, none⟩,⟨none, (.store (some 1) (.t 1) (.t 8)), none, none⟩])
def ir2199 : List IRes := []
theorem ie2199 : cmpFunc Go.Proofs.Tryz.prog ⟨[], []⟩ Go.Proofs.Tryz.f199 [1, 0] = some ic2199 := by kernel_rfl
theorem ig2199 : cmpRes Go.Proofs.Tryz.prog Go.Proofs.Tryz.f199.results.toList = some ir2199 := by kernel_rfl
def ic2200 : IC :=
 (.region [7] [] [1, 0] [⟨some 3, (.load none (.t 1)), none, none⟩,⟨some 4, (.move (.t 0)), none, none⟩,⟨some 5, (.nilchk (.t 4)), none, none⟩,⟨some 6, (.load (some 4) (.t 5)), none, none⟩,⟨some 7, (.row 73 4 [(.t 6)]), none, none⟩,⟨some 8, (.app 73 4 48 (.t 3) (.t 7)), none, none⟩,⟨none, (.store (some 1) (.t 1) (.t 8)), none, none⟩])
def ir2200 : List IRes := []
theorem ie2200 : cmpFunc Go.Proofs.Tryz.prog ⟨[], []⟩ Go.Proofs.Tryz.f200 [1, 0] = some ic2200 := by kernel_rfl
theorem ig2200 : cmpRes Go.Proofs.Tryz.prog Go.Proofs.Tryz.f200.results.toList = some ir2200 := by kernel_rfl
def ic2201l0 : IC :=
 (.seq
 (.region [] [] [0, 1, 10, 13, 12, 14, 5, 24, 4] [⟨some 14, (.bin .lss (.t 13) (.t 12)), none, none⟩])
 (.seq
 (.cond (.t 14)
 .skip
 (.exit 0))
 (.seq
 (.block 1
 (.seq
 (.region [] [] [0, 1, 10, 13, 12, 14, 5, 24, 4] [⟨some 15, (.move (.t 13)), none, none⟩,⟨some 5, (.move (.t 15)), none, none⟩])
 (.seq
 (.region [] [] [0, 1, 10, 13, 12, 14, 5, 24, 4] [⟨some 16, (.move (.t 0)), none, none⟩,⟨some 17, (.move (.t 5)), none, none⟩,⟨some 18, (.iaddr 4 (.t 16) (.t 17)), none, none⟩,⟨some 19, (.load (some 4) (.t 18)), none, none⟩,⟨some 20, (.move (.t 1)), none, none⟩,⟨some 21, (.move (.t 5)), none, none⟩,⟨some 22, (.iaddr 4 (.t 20) (.t 21)), none, none⟩,⟨some 23, (.load (some 4) (.t 22)), none, none⟩,⟨some 24, (.eqs true [.s, .i .i8, .i .i64, .s] (.t 19) (.t 23)), none, none⟩])
 (.cond (.t 24)
 (.seq
 (.region [] [] [0, 1, 10, 13, 12, 14, 5, 24, 4] [⟨some 4, (.move (.k (rB false))), none, none⟩])
 .ret)
 .skip))))
 (.region [] [] [0, 1, 10, 13, 12, 14, 5, 24, 4] [⟨some 25, (.bin .add (.t 13) (.k (rI .i64 1))), none, none⟩,⟨some 13, (.move (.t 25)), none, none⟩]))))
def ic2201 : IC :=
 (.seq
 (.region [] [] [0, 1, 10, 13, 12, 14, 5, 24, 4] [⟨some 4, (.move (.k (rB false))), none, none⟩])
 (.seq
 (.seq
 (.region [] [] [0, 1, 10, 13, 12, 14, 5, 24, 4] [⟨some 6, (.move (.t 0)), none, none⟩,⟨some 7, (.len (.t 6)), none, none⟩,⟨some 8, (.move (.t 1)), none, none⟩,⟨some 9, (.len (.t 8)), none, none⟩,⟨some 10, (.bin .neq (.t 7) (.t 9)), none, none⟩])
 (.cond (.t 10)
 (.seq
 (.region [] [] [0, 1, 10, 13, 12, 14, 5, 24, 4] [⟨some 4, (.move (.k (rB false))), none, none⟩])
 .ret)
 .skip))
 (.seq
 (.seq
 (.region [] [] [0, 1, 10, 13, 12, 14, 5, 24, 4] [⟨some 11, (.move (.t 0)), none, none⟩,⟨some 12, (.len (.t 11)), none, none⟩,⟨some 13, (.move (.k (rI .i64 0))), none, none⟩])
 (.block 0
 (.loop ic2201l0)))
 (.seq
 (.region [] [] [0, 1, 10, 13, 12, 14, 5, 24, 4] [⟨some 4, (.move (.k (rB true))), none, none⟩])
 .ret))))
def ir2201 : List IRes := [.tmp 4]
theorem ie2201 : cmpFunc Go.Proofs.Tryz.prog ⟨[], []⟩ Go.Proofs.Tryz.f201 [0, 1, 10, 13, 12, 14, 5, 24, 4] = some ic2201 := by kernel_rfl
theorem ig2201 : cmpRes Go.Proofs.Tryz.prog Go.Proofs.Tryz.f201.results.toList = some ir2201 := by kernel_rfl
def ic2266l0 : IC :=
 (.seq
 (.region [] [] [0, 1, 14, 17, 16, 18, 15, 7, 2, 8, 9, 30, 6] [⟨some 18, (.bin .lss (.t 17) (.t 16)), none, none⟩])
 (.seq
 (.cond (.t 18)
 .skip
 (.exit 0))
 (.seq
 (.block 1
 (.seq
 (.region [8] [] [0, 1, 14, 17, 16, 18, 15, 7, 2, 8, 9, 30, 6] [⟨some 19, (.move (.t 17)), none, none⟩,⟨some 20, (.iaddr 6 (.t 15) (.t 17)), none, none⟩,⟨some 21, (.load (some 6) (.t 20)), none, none⟩,⟨some 8, (.zero 105 [(.c (.v (.int .i8 0))), (.c (.v (.string (bs [])))), (.c (.v (.int .i8 0))), (.c (.v (.int .i64 0))), (.c (.v (.string (bs [])))), .nil]), none, none⟩,⟨some 7, (.move (.t 19)), none, none⟩,⟨none, (.store (some 6) (.t 8) (.t 21)), none, none⟩])
 (.seq
 (.region [9] [] [0, 1, 14, 17, 16, 18, 15, 7, 2, 8, 9, 30, 6] [⟨some 22, (.move (.t 1)), none, none⟩,⟨some 23, (.move (.t 7)), none, none⟩,⟨some 24, (.iaddr 6 (.t 22) (.t 23)), none, none⟩,⟨some 25, (.load (some 6) (.t 24)), none, none⟩,⟨some 9, (.zero 105 [(.c (.v (.int .i8 0))), (.c (.v (.string (bs [])))), (.c (.v (.int .i8 0))), (.c (.v (.int .i64 0))), (.c (.v (.string (bs [])))), .nil]), none, none⟩,⟨none, (.store (some 6) (.t 9) (.t 25)), none, none⟩])
 (.seq
 (.region [] [] [0, 1, 14, 17, 16, 18, 15, 7, 2, 8, 9, 30, 6] [⟨some 26, (.move (.t 2)), none, none⟩,⟨some 27, (.load (some 6) (.t 8)), none, none⟩,⟨some 28, (.load (some 6) (.t 9)), none, none⟩,⟨some 29, (.call (.t 26) [(.t 27), (.t 28)]), none, none⟩,⟨some 30, (.un .not (.t 29)), none, none⟩])
 (.cond (.t 30)
 (.seq
 (.region [] [] [0, 1, 14, 17, 16, 18, 15, 7, 2, 8, 9, 30, 6] [⟨some 6, (.move (.k (rB false))), none, none⟩])
 .ret)
 .skip)))))
 (.region [] [] [0, 1, 14, 17, 16, 18, 15, 7, 2, 8, 9, 30, 6] [⟨some 31, (.bin .add (.t 17) (.k (rI .i64 1))), none, none⟩,⟨some 17, (.move (.t 31)), none, none⟩]))))
def ic2266 : IC :=
 (.seq
 (.region [] [] [0, 1, 14, 17, 16, 18, 15, 7, 2, 8, 9, 30, 6] [⟨some 6, (.move (.k (rB false))), none, none⟩])
 (.seq
 (.seq
 (.region [] [] [0, 1, 14, 17, 16, 18, 15, 7, 2, 8, 9, 30, 6] [⟨some 10, (.move (.t 0)), none, none⟩,⟨some 11, (.len (.t 10)), none, none⟩,⟨some 12, (.move (.t 1)), none, none⟩,⟨some 13, (.len (.t 12)), none, none⟩,⟨some 14, (.bin .neq (.t 11) (.t 13)), none, none⟩])
 (.cond (.t 14)
 (.seq
 (.region [] [] [0, 1, 14, 17, 16, 18, 15, 7, 2, 8, 9, 30, 6] [⟨some 6, (.move (.k (rB false))), none, none⟩])
 .ret)
 .skip))
 (.seq
 (.seq
 (.region [] [] [0, 1, 14, 17, 16, 18, 15, 7, 2, 8, 9, 30, 6] [⟨some 15, (.move (.t 0)), none, none⟩,⟨some 16, (.len (.t 15)), none, none⟩,⟨some 17, (.move (.k (rI .i64 0))), none, none⟩])
 (.block 0
 (.loop ic2266l0)))
 (.seq
 (.region [] [] [0, 1, 14, 17, 16, 18, 15, 7, 2, 8, 9, 30, 6] [⟨some 6, (.move (.k (rB true))), none, none⟩])
 .ret))))
def ir2266 : List IRes := [.tmp 6]
theorem ie2266 : cmpFunc Go.Proofs.Tryz.prog ⟨[(29, none)], []⟩ Go.Proofs.Tryz.f266 [0, 1, 14, 17, 16, 18, 15, 7, 2, 8, 9, 30, 6] = some ic2266 := by kernel_rfl
theorem ig2266 : cmpRes Go.Proofs.Tryz.prog Go.Proofs.Tryz.f266.results.toList = some ir2266 := by kernel_rfl
end Go.Proofs.YtiomojlcnemnhaaGreatDoor

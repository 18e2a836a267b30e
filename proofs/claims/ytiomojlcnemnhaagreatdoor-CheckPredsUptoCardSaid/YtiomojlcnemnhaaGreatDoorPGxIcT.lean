/- Functions of the seat, as the small language has them. -/
import Derived.Test.YtiomojlcnemnhaaGreatDoorPFxWb
import Derived.Test.YtiomojlcnemnhaaGreatDoorProg
import Derived.KernelRfl
namespace Go.Proofs.YtiomojlcnemnhaaGreatDoor
open Go.Fx

def ic2043l0 : IC :=
 (.seq
 (.region [] [] [0, 2, 6, 1, 23, 28, 27, 29, 26, 7, 9, 4, 5] [
 ⟨(some 29), (.bin .lss (.t 28) (.t 27)), none, none⟩])
 (.seq
 (.cond (.t 29)
 .skip
 (.exit 0))
 (.seq
 (.block 1
 (.seq
 (.region [] [] [0, 2, 6, 1, 23, 28, 27, 29, 26, 7, 9, 4, 5] [
 ⟨(some 30), (.iaddr 1 (.t 26) (.t 28)), none, none⟩,
 ⟨(some 31), (.load none (.t 30)), none, none⟩,
 ⟨(some 9), (.move (.t 31)), none, none⟩])
 (.region [38] [] [0, 2, 6, 1, 23, 28, 27, 29, 26, 7, 9, 4, 5] [
 ⟨(some 32), (.move (.t 7)), none, none⟩,
 ⟨(some 33), (.move (.t 9)), none, none⟩,
 ⟨(some 34), (.move (.t 6)), none, none⟩,
 ⟨(some 35), (.move (.t 9)), none, none⟩,
 ⟨(some 36), (.mlook .string true false [(.c (.v (.int .i64 0)))] (.t 34) (.t 35)), none, none⟩,
 ⟨(some 37), (.build [(.c (.v (.string (bs [])))), (.c (.v (.int .i64 0)))] [(0, 1, (.t 33)), (1, 1, (.t 36))]), none, none⟩,
 ⟨(some 38), (.row 168 2 [(.t 37)]), none, none⟩,
 ⟨(some 39), (.app 168 2 24 (.t 32) (.t 38)), none, none⟩,
 ⟨(some 7), (.move (.t 39)), none, none⟩])))
 (.region [] [] [0, 2, 6, 1, 23, 28, 27, 29, 26, 7, 9, 4, 5] [
 ⟨(some 40), (.bin .add (.t 28) (.k (rI .i64 1))), none, none⟩,
 ⟨(some 28), (.move (.t 40)), none, none⟩]))))

/-- pedigree/check.Preds -/
def ic2043 : IC :=
 (.seq
 (.region [2] [] [0, 2, 6, 1, 23, 28, 27, 29, 26, 7, 9, 4, 5] [
 ⟨(some 2), (.box 47 (.t 0)), none, none⟩,
 ⟨(some 4), (.move (.k (.x (.one .nil)))), none, none⟩,
 ⟨(some 5), (.move (.k (rI .i64 0))), none, none⟩])
 (.seq
 (.region [10] [] [0, 2, 6, 1, 23, 28, 27, 29, 26, 7, 9, 4, 5] [
 ⟨(some 10), (.mkmap .string 2 true), none, none⟩,
 ⟨(some 6), (.move (.t 10)), none, none⟩])
 (.seq
 (.seq
 (.region [] [] [0, 2, 6, 1, 23, 28, 27, 29, 26, 7, 9, 4, 5] [
 ⟨(some 11), (.faddr 0 (.t 2)), none, none⟩,
 ⟨(some 12), (.load none (.t 11)), none, none⟩,
 ⟨(some 13), (.move (.t 6)), none, none⟩,
 ⟨(some 14), (.clo 113 [(.t 13)] []), none, none⟩,
 ⟨(some 15), (.call (.k (rF 132)) [(.t 12), (.t 14)]), none, none⟩,
 ⟨(some 16), (.un .not (.t 15)), none, none⟩,
 ⟨(some 17), (.move (.t 16)), none, none⟩,
 ⟨(some 18), (.move (.t 1)), some (17, false), none⟩,
 ⟨(some 19), (.move (.t 6)), some (17, false), none⟩,
 ⟨(some 20), (.clo 118 [(.t 19)] []), some (17, false), none⟩,
 ⟨(some 21), (.call (.k (rF 133)) [(.t 18), (.t 20)]), some (17, false), none⟩,
 ⟨(some 22), (.un .not (.t 21)), some (17, false), none⟩,
 ⟨(some 23), (.pick (.t 17) (.k (rB true)) (.t 22)), none, none⟩])
 (.cond (.t 23)
 (.seq
 (.region [] [] [0, 2, 6, 1, 23, 28, 27, 29, 26, 7, 9, 4, 5] [
 ⟨(some 4), (.move (.k (.x (.one .nil)))), none, none⟩,
 ⟨(some 5), (.move (.k (rI .i64 72))), none, none⟩])
 .ret)
 .skip))
 (.seq
 (.region [] [] [0, 2, 6, 1, 23, 28, 27, 29, 26, 7, 9, 4, 5] [
 ⟨(some 7), (.move (.k (.x (.one .nil)))), none, none⟩])
 (.seq
 (.seq
 (.region [] [] [0, 2, 6, 1, 23, 28, 27, 29, 26, 7, 9, 4, 5] [
 ⟨(some 24), (.move (.t 6)), none, none⟩,
 ⟨(some 25), (.call (.k (rF 135)) [(.t 24)]), none, none⟩,
 ⟨(some 26), (.call (.k (rF 134)) [(.t 25)]), none, none⟩,
 ⟨(some 27), (.len (.t 26)), none, none⟩,
 ⟨(some 28), (.move (.k (rI .i64 0))), none, none⟩])
 (.block 0
 (.loop ic2043l0)))
 (.seq
 (.region [] [] [0, 2, 6, 1, 23, 28, 27, 29, 26, 7, 9, 4, 5] [
 ⟨(some 41), (.move (.t 7)), none, none⟩,
 ⟨(some 4), (.move (.t 41)), none, none⟩,
 ⟨(some 5), (.move (.k (rI .i64 0))), none, none⟩])
 .ret))))))
def ir2043 : List IRes := [.tmp 4, .tmp 5]
theorem ie2043 : cmpFunc Go.Proofs.Tryz.prog ⟨[(15, none), (21, none), (25, none), (26, none)], []⟩ Go.Proofs.Tryz.f43 [0, 2, 6, 1, 23, 28, 27, 29, 26, 7, 9, 4, 5] = some ic2043 := by kernel_rfl
theorem ig2043 : cmpRes Go.Proofs.Tryz.prog Go.Proofs.Tryz.f43.results.toList = some ir2043 := by kernel_rfl

def ic2113l0 : IC :=
 (.seq
 (.region [] [] [1, 0, 3, 14, 18, 17, 19, 16, 6, 41, 4] [
 ⟨(some 19), (.bin .lss (.t 18) (.t 17)), none, none⟩])
 (.seq
 (.cond (.t 19)
 .skip
 (.exit 0))
 (.seq
 (.block 1
 (.seq
 (.region [6] [] [1, 0, 3, 14, 18, 17, 19, 16, 6, 41, 4] [
 ⟨(some 20), (.iaddr 16 (.t 16) (.t 18)), none, none⟩,
 ⟨(some 21), (.load (some 16) (.t 20)), none, none⟩,
 ⟨(some 6), (.zero 107 [(.c (.v (.int .i8 0))), (.c (.v (.string (bs [])))), .nil, (.c (.v (.int .i8 0))), (.c (.v (.int .i8 0))), (.c (.v (.string (bs [])))), (.c (.v (.int .i8 0))), (.c (.v (.int .i64 0))), (.c (.v (.string (bs [])))), .nil, (.c (.v (.int .i8 0))), (.c (.v (.string (bs [])))), (.c (.v (.int .i8 0))), (.c (.v (.int .i64 0))), (.c (.v (.string (bs [])))), .nil]), none, none⟩,
 ⟨none, (.store (some 16) (.t 6) (.t 21)), none, none⟩])
 (.seq
 (.region [] [] [1, 0, 3, 14, 18, 17, 19, 16, 6, 41, 4] [
 ⟨(some 22), (.faddr 0 (.t 6)), none, none⟩,
 ⟨(some 23), (.load none (.t 22)), none, none⟩,
 ⟨(some 24), (.bin .eql (.t 23) (.k (rI .i8 1))), none, none⟩,
 ⟨(some 25), (.move (.t 24)), none, none⟩,
 ⟨(some 26), (.faddr 0 (.t 6)), some (25, false), none⟩,
 ⟨(some 27), (.load none (.t 26)), some (25, false), none⟩,
 ⟨(some 28), (.bin .eql (.t 27) (.k (rI .i8 2))), some (25, false), none⟩,
 ⟨(some 29), (.pick (.t 25) (.k (rB true)) (.t 28)), none, none⟩,
 ⟨(some 30), (.move (.t 29)), none, none⟩,
 ⟨(some 31), (.move (.t 0)), some (30, true), none⟩,
 ⟨(some 32), (.faddr 1 (.t 6)), some (30, true), none⟩,
 ⟨(some 33), (.faddr 0 (.t 32)), some (30, true), none⟩,
 ⟨(some 34), (.load none (.t 33)), some (30, true), none⟩,
 ⟨(some 35), (.faddr 1 (.t 6)), some (30, true), none⟩,
 ⟨(some 36), (.faddr 1 (.t 35)), some (30, true), none⟩,
 ⟨(some 37), (.load none (.t 36)), some (30, true), none⟩,
 ⟨(some 38), (.len (.t 37)), some (30, true), none⟩,
 ⟨(some 39), (.call (.k (rF 124)) [(.t 31), (.t 34), (.t 38)]), some (30, true), none⟩,
 ⟨(some 40), (.un .not (.t 39)), some (30, true), none⟩,
 ⟨(some 41), (.pick (.t 30) (.t 40) (.k (rB false))), none, none⟩])
 (.cond (.t 41)
 (.seq
 (.region [] [] [1, 0, 3, 14, 18, 17, 19, 16, 6, 41, 4] [
 ⟨(some 4), (.move (.k (rB false))), none, none⟩])
 .ret)
 .skip))))
 (.region [] [] [1, 0, 3, 14, 18, 17, 19, 16, 6, 41, 4] [
 ⟨(some 42), (.bin .add (.t 18) (.k (rI .i64 1))), none, none⟩,
 ⟨(some 18), (.move (.t 42)), none, none⟩]))))

/-- (pedigree/check.arities).rule -/
def ic2113 : IC :=
 (.seq
 (.region [3] [] [1, 0, 3, 14, 18, 17, 19, 16, 6, 41, 4] [
 ⟨(some 3), (.box 29 (.t 1)), none, none⟩,
 ⟨(some 4), (.move (.k (rB false))), none, none⟩])
 (.seq
 (.seq
 (.region [] [] [1, 0, 3, 14, 18, 17, 19, 16, 6, 41, 4] [
 ⟨(some 7), (.move (.t 0)), none, none⟩,
 ⟨(some 8), (.faddr 0 (.t 3)), none, none⟩,
 ⟨(some 9), (.load none (.t 8)), none, none⟩,
 ⟨(some 10), (.faddr 1 (.t 3)), none, none⟩,
 ⟨(some 11), (.load none (.t 10)), none, none⟩,
 ⟨(some 12), (.len (.t 11)), none, none⟩,
 ⟨(some 13), (.call (.k (rF 124)) [(.t 7), (.t 9), (.t 12)]), none, none⟩,
 ⟨(some 14), (.un .not (.t 13)), none, none⟩])
 (.cond (.t 14)
 (.seq
 (.region [] [] [1, 0, 3, 14, 18, 17, 19, 16, 6, 41, 4] [
 ⟨(some 4), (.move (.k (rB false))), none, none⟩])
 .ret)
 .skip))
 (.seq
 (.seq
 (.region [] [] [1, 0, 3, 14, 18, 17, 19, 16, 6, 41, 4] [
 ⟨(some 15), (.faddr 2 (.t 3)), none, none⟩,
 ⟨(some 16), (.load none (.t 15)), none, none⟩,
 ⟨(some 17), (.len (.t 16)), none, none⟩,
 ⟨(some 18), (.move (.k (rI .i64 0))), none, none⟩])
 (.block 0
 (.loop ic2113l0)))
 (.seq
 (.region [] [] [1, 0, 3, 14, 18, 17, 19, 16, 6, 41, 4] [
 ⟨(some 4), (.move (.k (rB true))), none, none⟩])
 .ret))))
def ir2113 : List IRes := [.tmp 4]
theorem ie2113 : cmpFunc Go.Proofs.Tryz.prog ⟨[(13, none), (39, none)], []⟩ Go.Proofs.Tryz.f113 [1, 0, 3, 14, 18, 17, 19, 16, 6, 41, 4] = some ic2113 := by kernel_rfl
theorem ig2113 : cmpRes Go.Proofs.Tryz.prog Go.Proofs.Tryz.f113.results.toList = some ir2113 := by kernel_rfl

/-- (pedigree/check.arities).fact -/
def ic2118 : IC :=
 (.seq
 (.region [3] [] [1, 0, 3, 4] [
 ⟨(some 3), (.box 147 (.t 1)), none, none⟩,
 ⟨(some 4), (.move (.k (rB false))), none, none⟩])
 (.seq
 (.region [] [] [1, 0, 3, 4] [
 ⟨(some 5), (.move (.t 0)), none, none⟩,
 ⟨(some 6), (.faddr 0 (.t 3)), none, none⟩,
 ⟨(some 7), (.load none (.t 6)), none, none⟩,
 ⟨(some 8), (.faddr 1 (.t 3)), none, none⟩,
 ⟨(some 9), (.load none (.t 8)), none, none⟩,
 ⟨(some 10), (.len (.t 9)), none, none⟩,
 ⟨(some 11), (.call (.k (rF 124)) [(.t 5), (.t 7), (.t 10)]), none, none⟩,
 ⟨(some 4), (.move (.t 11)), none, none⟩])
 .ret))
def ir2118 : List IRes := [.tmp 4]
theorem ie2118 : cmpFunc Go.Proofs.Tryz.prog ⟨[(11, none)], []⟩ Go.Proofs.Tryz.f118 [1, 0, 3, 4] = some ic2118 := by kernel_rfl
theorem ig2118 : cmpRes Go.Proofs.Tryz.prog Go.Proofs.Tryz.f118.results.toList = some ir2118 := by kernel_rfl

/-- (pedigree/check.arities).meet -/
def ic2124 : IC :=
 (.seq
 (.region [] [] [0, 1, 8, 16, 2, 7, 6] [
 ⟨(some 6), (.move (.k (rB false))), none, none⟩])
 (.seq
 (.region [] [] [0, 1, 8, 16, 2, 7, 6] [
 ⟨(some 10), (.move (.t 0)), none, none⟩,
 ⟨(some 11), (.move (.t 1)), none, none⟩,
 ⟨(some 12), (.mlook .string true true [(.c (.v (.int .i64 0)))] (.t 10) (.t 11)), none, none⟩,
 ⟨(some 9), (.move (.t 12)), none, none⟩,
 ⟨(some 13), (.ext (.t 9) 0), none, none⟩,
 ⟨(some 14), (.ext (.t 9) 1), none, none⟩,
 ⟨(some 7), (.move (.t 13)), none, none⟩,
 ⟨(some 8), (.move (.t 14)), none, none⟩])
 (.seq
 (.seq
 (.region [] [] [0, 1, 8, 16, 2, 7, 6] [
 ⟨(some 15), (.move (.t 8)), none, none⟩,
 ⟨(some 16), (.un .not (.t 15)), none, none⟩])
 (.cond (.t 16)
 (.region [] [] [0, 1, 8, 16, 2, 7, 6] [
 ⟨(some 17), (.move (.t 0)), none, none⟩,
 ⟨(some 18), (.move (.t 1)), none, none⟩,
 ⟨(some 19), (.move (.t 2)), none, none⟩,
 ⟨none, (.mapup .string true (.t 17) (.t 18) (.t 19)), none, none⟩])
 .skip))
 (.seq
 (.region [] [] [0, 1, 8, 16, 2, 7, 6] [
 ⟨(some 20), (.move (.t 8)), none, none⟩,
 ⟨(some 21), (.un .not (.t 20)), none, none⟩,
 ⟨(some 22), (.move (.t 21)), none, none⟩,
 ⟨(some 23), (.move (.t 7)), some (22, false), none⟩,
 ⟨(some 24), (.move (.t 2)), some (22, false), none⟩,
 ⟨(some 25), (.bin .eql (.t 23) (.t 24)), some (22, false), none⟩,
 ⟨(some 26), (.pick (.t 22) (.k (rB true)) (.t 25)), none, none⟩,
 ⟨(some 6), (.move (.t 26)), none, none⟩])
 .ret))))
def ir2124 : List IRes := [.tmp 6]
theorem ie2124 : cmpFunc Go.Proofs.Tryz.prog ⟨[], []⟩ Go.Proofs.Tryz.f124 [0, 1, 8, 16, 2, 7, 6] = some ic2124 := by kernel_rfl
theorem ig2124 : cmpRes Go.Proofs.Tryz.prog Go.Proofs.Tryz.f124.results.toList = some ir2124 := by kernel_rfl

def ic2127l0 : IC :=
 (.seq
 (.seq
 (.region [] [] [6, 1, 14, 0, 8, 7, 37, 38, 10, 55, 9, 75, 4, 5] [
 ⟨(some 39), (.move (.t 10)), none, none⟩,
 ⟨(some 40), (.move (.t 0)), none, none⟩,
 ⟨(some 41), (.len (.t 40)), none, none⟩,
 ⟨(some 42), (.bin .lss (.t 39) (.t 41)), none, none⟩,
 ⟨(some 43), (.move (.t 42)), none, none⟩,
 ⟨(some 44), (.move (.t 0)), some (43, true), none⟩,
 ⟨(some 45), (.move (.t 10)), some (43, true), none⟩,
 ⟨(some 46), (.iaddr 2 (.t 44) (.t 45)), some (43, true), none⟩,
 ⟨(some 47), (.faddr 0 (.t 46)), some (43, true), none⟩,
 ⟨(some 48), (.load none (.t 47)), some (43, true), none⟩,
 ⟨(some 49), (.move (.t 1)), some (43, true), none⟩,
 ⟨(some 50), (.move (.t 6)), some (43, true), none⟩,
 ⟨(some 51), (.iaddr 2 (.t 49) (.t 50)), some (43, true), none⟩,
 ⟨(some 52), (.faddr 0 (.t 51)), some (43, true), none⟩,
 ⟨(some 53), (.load none (.t 52)), some (43, true), none⟩,
 ⟨(some 54), (.bin .lss (.t 48) (.t 53)), some (43, true), none⟩,
 ⟨(some 55), (.pick (.t 43) (.t 54) (.k (rB false))), none, none⟩])
 (.cond (.t 55)
 .skip
 (.exit 2)))
 (.block 3
 (.seq
 (.region [61] [] [6, 1, 14, 0, 8, 7, 37, 38, 10, 55, 9, 75, 4, 5] [
 ⟨(some 56), (.move (.t 9)), none, none⟩,
 ⟨(some 57), (.move (.t 0)), none, none⟩,
 ⟨(some 58), (.move (.t 10)), none, none⟩,
 ⟨(some 59), (.iaddr 2 (.t 57) (.t 58)), none, none⟩,
 ⟨(some 60), (.load (some 2) (.t 59)), none, none⟩,
 ⟨(some 61), (.row 168 2 [(.t 60)]), none, none⟩,
 ⟨(some 62), (.app 168 2 24 (.t 56) (.t 61)), none, none⟩,
 ⟨(some 9), (.move (.t 62)), none, none⟩])
 (.region [] [] [6, 1, 14, 0, 8, 7, 37, 38, 10, 55, 9, 75, 4, 5] [
 ⟨(some 63), (.move (.t 10)), none, none⟩,
 ⟨(some 64), (.bin .add (.t 63) (.k (rI .i64 1))), none, none⟩,
 ⟨(some 10), (.move (.t 64)), none, none⟩]))))

def ic2127l1 : IC :=
 (.seq
 (.seq
 (.region [] [] [6, 1, 14, 0, 8, 7, 37, 38, 10, 55, 9, 75, 4, 5] [
 ⟨(some 72), (.move (.t 10)), none, none⟩,
 ⟨(some 73), (.move (.t 0)), none, none⟩,
 ⟨(some 74), (.len (.t 73)), none, none⟩,
 ⟨(some 75), (.bin .lss (.t 72) (.t 74)), none, none⟩])
 (.cond (.t 75)
 .skip
 (.exit 4)))
 (.block 5
 (.seq
 (.region [81] [] [6, 1, 14, 0, 8, 7, 37, 38, 10, 55, 9, 75, 4, 5] [
 ⟨(some 76), (.move (.t 9)), none, none⟩,
 ⟨(some 77), (.move (.t 0)), none, none⟩,
 ⟨(some 78), (.move (.t 10)), none, none⟩,
 ⟨(some 79), (.iaddr 2 (.t 77) (.t 78)), none, none⟩,
 ⟨(some 80), (.load (some 2) (.t 79)), none, none⟩,
 ⟨(some 81), (.row 168 2 [(.t 80)]), none, none⟩,
 ⟨(some 82), (.app 168 2 24 (.t 76) (.t 81)), none, none⟩,
 ⟨(some 9), (.move (.t 82)), none, none⟩])
 (.region [] [] [6, 1, 14, 0, 8, 7, 37, 38, 10, 55, 9, 75, 4, 5] [
 ⟨(some 83), (.move (.t 10)), none, none⟩,
 ⟨(some 84), (.bin .add (.t 83) (.k (rI .i64 1))), none, none⟩,
 ⟨(some 10), (.move (.t 84)), none, none⟩]))))

def ic2127l2 : IC :=
 (.seq
 (.seq
 (.region [] [] [6, 1, 14, 0, 8, 7, 37, 38, 10, 55, 9, 75, 4, 5] [
 ⟨(some 11), (.move (.t 6)), none, none⟩,
 ⟨(some 12), (.move (.t 1)), none, none⟩,
 ⟨(some 13), (.len (.t 12)), none, none⟩,
 ⟨(some 14), (.bin .lss (.t 11) (.t 13)), none, none⟩])
 (.cond (.t 14)
 .skip
 (.exit 0)))
 (.seq
 (.block 1
 (.seq
 (.region [7] [] [6, 1, 14, 0, 8, 7, 37, 38, 10, 55, 9, 75, 4, 5] [
 ⟨(some 18), (.move (.t 1)), none, none⟩,
 ⟨(some 19), (.move (.t 6)), none, none⟩,
 ⟨(some 20), (.iaddr 2 (.t 18) (.t 19)), none, none⟩,
 ⟨(some 21), (.faddr 0 (.t 20)), none, none⟩,
 ⟨(some 22), (.load none (.t 21)), none, none⟩,
 ⟨(some 23), (.move (.t 0)), none, none⟩,
 ⟨(some 24), (.callp (.k (rF 213)) [(.t 22), (.t 23)]), none, none⟩,
 ⟨(some 17), (.move (.t 24)), none, none⟩,
 ⟨(some 25), (.ext (.t 17) 0), none, none⟩,
 ⟨(some 26), (.ext (.t 17) 1), none, none⟩,
 ⟨(some 7), (.zero 168 [(.c (.v (.string (bs [])))), (.c (.v (.int .i64 0)))]), none, none⟩,
 ⟨none, (.store (some 2) (.t 7) (.t 25)), none, none⟩,
 ⟨(some 8), (.move (.t 26)), none, none⟩])
 (.seq
 (.seq
 (.region [] [] [6, 1, 14, 0, 8, 7, 37, 38, 10, 55, 9, 75, 4, 5] [
 ⟨(some 27), (.move (.t 8)), none, none⟩,
 ⟨(some 28), (.move (.t 27)), none, none⟩,
 ⟨(some 29), (.faddr 1 (.t 7)), some (28, true), none⟩,
 ⟨(some 30), (.load none (.t 29)), some (28, true), none⟩,
 ⟨(some 31), (.move (.t 1)), some (28, true), none⟩,
 ⟨(some 32), (.move (.t 6)), some (28, true), none⟩,
 ⟨(some 33), (.iaddr 2 (.t 31) (.t 32)), some (28, true), none⟩,
 ⟨(some 34), (.faddr 1 (.t 33)), some (28, true), none⟩,
 ⟨(some 35), (.load none (.t 34)), some (28, true), none⟩,
 ⟨(some 36), (.bin .neq (.t 30) (.t 35)), some (28, true), none⟩,
 ⟨(some 37), (.pick (.t 28) (.t 36) (.k (rB false))), none, none⟩])
 (.cond (.t 37)
 (.seq
 (.region [] [] [6, 1, 14, 0, 8, 7, 37, 38, 10, 55, 9, 75, 4, 5] [
 ⟨(some 4), (.move (.k (.x (.one .nil)))), none, none⟩,
 ⟨(some 5), (.move (.k (rB false))), none, none⟩])
 .ret)
 .skip))
 (.seq
 (.seq
 (.region [] [] [6, 1, 14, 0, 8, 7, 37, 38, 10, 55, 9, 75, 4, 5] [
 ⟨(some 38), (.move (.t 8)), none, none⟩])
 (.cond (.t 38)
 (.exit 1)
 .skip))
 (.seq
 (.region [] [] [6, 1, 14, 0, 8, 7, 37, 38, 10, 55, 9, 75, 4, 5] [
 ⟨(some 9), (.move (.k (.x (.one .nil)))), none, none⟩])
 (.seq
 (.region [] [] [6, 1, 14, 0, 8, 7, 37, 38, 10, 55, 9, 75, 4, 5] [
 ⟨(some 10), (.move (.k (rI .i64 0))), none, none⟩])
 (.seq
 (.block 2
 (.loop ic2127l0))
 (.seq
 (.region [70] [] [6, 1, 14, 0, 8, 7, 37, 38, 10, 55, 9, 75, 4, 5] [
 ⟨(some 65), (.move (.t 9)), none, none⟩,
 ⟨(some 66), (.move (.t 1)), none, none⟩,
 ⟨(some 67), (.move (.t 6)), none, none⟩,
 ⟨(some 68), (.iaddr 2 (.t 66) (.t 67)), none, none⟩,
 ⟨(some 69), (.load (some 2) (.t 68)), none, none⟩,
 ⟨(some 70), (.row 168 2 [(.t 69)]), none, none⟩,
 ⟨(some 71), (.app 168 2 24 (.t 65) (.t 70)), none, none⟩,
 ⟨(some 9), (.move (.t 71)), none, none⟩])
 (.seq
 (.block 4
 (.loop ic2127l1))
 (.region [] [] [6, 1, 14, 0, 8, 7, 37, 38, 10, 55, 9, 75, 4, 5] [
 ⟨(some 85), (.move (.t 9)), none, none⟩,
 ⟨(some 0), (.move (.t 85)), none, none⟩]))))))))))
 (.region [] [] [6, 1, 14, 0, 8, 7, 37, 38, 10, 55, 9, 75, 4, 5] [
 ⟨(some 15), (.move (.t 6)), none, none⟩,
 ⟨(some 16), (.bin .add (.t 15) (.k (rI .i64 1))), none, none⟩,
 ⟨(some 6), (.move (.t 16)), none, none⟩])))

/-- pedigree/pedigreeref07.Meet -/
def ic2127 : IC :=
 (.seq
 (.region [] [] [6, 1, 14, 0, 8, 7, 37, 38, 10, 55, 9, 75, 4, 5] [
 ⟨(some 4), (.move (.k (.x (.one .nil)))), none, none⟩,
 ⟨(some 5), (.move (.k (rB false))), none, none⟩])
 (.seq
 (.seq
 (.region [] [] [6, 1, 14, 0, 8, 7, 37, 38, 10, 55, 9, 75, 4, 5] [
 ⟨(some 6), (.move (.k (rI .i64 0))), none, none⟩])
 (.block 0
 (.loop ic2127l2)))
 (.seq
 (.region [] [] [6, 1, 14, 0, 8, 7, 37, 38, 10, 55, 9, 75, 4, 5] [
 ⟨(some 86), (.move (.t 0)), none, none⟩,
 ⟨(some 4), (.move (.t 86)), none, none⟩,
 ⟨(some 5), (.move (.k (rB true))), none, none⟩])
 .ret)))
def ir2127 : List IRes := [.tmp 4, .tmp 5]
theorem ie2127 : cmpFunc Go.Proofs.Tryz.prog ⟨[], []⟩ Go.Proofs.Tryz.f127 [6, 1, 14, 0, 8, 7, 37, 38, 10, 55, 9, 75, 4, 5] = some ic2127 := by kernel_rfl
theorem ig2127 : cmpRes Go.Proofs.Tryz.prog Go.Proofs.Tryz.f127.results.toList = some ir2127 := by kernel_rfl

def ic2131l0 : IC :=
 (.seq
 (.seq
 (.region [] [] [0, 1, 4, 16, 34, 3, 2] [
 ⟨(some 12), (.move (.t 4)), none, none⟩,
 ⟨(some 13), (.faddr 2 (.t 1)), none, none⟩,
 ⟨(some 14), (.load none (.t 13)), none, none⟩,
 ⟨(some 15), (.len (.t 14)), none, none⟩,
 ⟨(some 16), (.bin .lss (.t 12) (.t 15)), none, none⟩])
 (.cond (.t 16)
 .skip
 (.exit 0)))
 (.seq
 (.block 1
 (.seq
 (.region [] [] [0, 1, 4, 16, 34, 3, 2] [
 ⟨(some 19), (.faddr 2 (.t 1)), none, none⟩,
 ⟨(some 20), (.load none (.t 19)), none, none⟩,
 ⟨(some 21), (.move (.t 4)), none, none⟩,
 ⟨(some 22), (.iaddr 16 (.t 20) (.t 21)), none, none⟩,
 ⟨(some 23), (.faddr 0 (.t 22)), none, none⟩,
 ⟨(some 24), (.load none (.t 23)), none, none⟩,
 ⟨(some 25), (.bin .eql (.t 24) (.k (rI .i8 1))), none, none⟩,
 ⟨(some 26), (.move (.t 25)), none, none⟩,
 ⟨(some 27), (.faddr 2 (.t 1)), some (26, false), none⟩,
 ⟨(some 28), (.load none (.t 27)), some (26, false), none⟩,
 ⟨(some 29), (.move (.t 4)), some (26, false), none⟩,
 ⟨(some 30), (.iaddr 16 (.t 28) (.t 29)), some (26, false), none⟩,
 ⟨(some 31), (.faddr 0 (.t 30)), some (26, false), none⟩,
 ⟨(some 32), (.load none (.t 31)), some (26, false), none⟩,
 ⟨(some 33), (.bin .eql (.t 32) (.k (rI .i8 2))), some (26, false), none⟩,
 ⟨(some 34), (.pick (.t 26) (.k (rB true)) (.t 33)), none, none⟩])
 (.cond (.t 34)
 (.region [52] [] [0, 1, 4, 16, 34, 3, 2] [
 ⟨(some 35), (.move (.t 3)), none, none⟩,
 ⟨(some 36), (.faddr 2 (.t 1)), none, none⟩,
 ⟨(some 37), (.load none (.t 36)), none, none⟩,
 ⟨(some 38), (.move (.t 4)), none, none⟩,
 ⟨(some 39), (.iaddr 16 (.t 37) (.t 38)), none, none⟩,
 ⟨(some 40), (.faddr 1 (.t 39)), none, none⟩,
 ⟨(some 41), (.faddr 0 (.t 40)), none, none⟩,
 ⟨(some 42), (.load none (.t 41)), none, none⟩,
 ⟨(some 43), (.faddr 2 (.t 1)), none, none⟩,
 ⟨(some 44), (.load none (.t 43)), none, none⟩,
 ⟨(some 45), (.move (.t 4)), none, none⟩,
 ⟨(some 46), (.iaddr 16 (.t 44) (.t 45)), none, none⟩,
 ⟨(some 47), (.faddr 1 (.t 46)), none, none⟩,
 ⟨(some 48), (.faddr 1 (.t 47)), none, none⟩,
 ⟨(some 49), (.load none (.t 48)), none, none⟩,
 ⟨(some 50), (.len (.t 49)), none, none⟩,
 ⟨(some 51), (.build [(.c (.v (.string (bs [])))), (.c (.v (.int .i64 0)))] [(0, 1, (.t 42)), (1, 1, (.t 50))]), none, none⟩,
 ⟨(some 52), (.row 168 2 [(.t 51)]), none, none⟩,
 ⟨(some 53), (.app 168 2 24 (.t 35) (.t 52)), none, none⟩,
 ⟨(some 3), (.move (.t 53)), none, none⟩])
 .skip)))
 (.region [] [] [0, 1, 4, 16, 34, 3, 2] [
 ⟨(some 17), (.move (.t 4)), none, none⟩,
 ⟨(some 18), (.bin .add (.t 17) (.k (rI .i64 1))), none, none⟩,
 ⟨(some 4), (.move (.t 18)), none, none⟩])))

/-- pedigree/pedigreeref07.Stand -/
def ic2131 : IC :=
 (.seq
 (.region [1] [] [0, 1, 4, 16, 34, 3, 2] [
 ⟨(some 1), (.box 29 (.t 0)), none, none⟩,
 ⟨(some 2), (.move (.k (.x (.one .nil)))), none, none⟩])
 (.seq
 (.region [11] [] [0, 1, 4, 16, 34, 3, 2] [
 ⟨(some 5), (.faddr 0 (.t 1)), none, none⟩,
 ⟨(some 6), (.load none (.t 5)), none, none⟩,
 ⟨(some 7), (.faddr 1 (.t 1)), none, none⟩,
 ⟨(some 8), (.load none (.t 7)), none, none⟩,
 ⟨(some 9), (.len (.t 8)), none, none⟩,
 ⟨(some 10), (.build [(.c (.v (.string (bs [])))), (.c (.v (.int .i64 0)))] [(0, 1, (.t 6)), (1, 1, (.t 9))]), none, none⟩,
 ⟨(some 11), (.row 168 2 [(.t 10)]), none, none⟩,
 ⟨(some 3), (.move (.t 11)), none, none⟩])
 (.seq
 (.seq
 (.region [] [] [0, 1, 4, 16, 34, 3, 2] [
 ⟨(some 4), (.move (.k (rI .i64 0))), none, none⟩])
 (.block 0
 (.loop ic2131l0)))
 (.seq
 (.region [] [] [0, 1, 4, 16, 34, 3, 2] [
 ⟨(some 54), (.move (.t 3)), none, none⟩,
 ⟨(some 2), (.move (.t 54)), none, none⟩])
 .ret))))
def ir2131 : List IRes := [.tmp 2]
theorem ie2131 : cmpFunc Go.Proofs.Tryz.prog ⟨[], []⟩ Go.Proofs.Tryz.f131 [0, 1, 4, 16, 34, 3, 2] = some ic2131 := by kernel_rfl
theorem ig2131 : cmpRes Go.Proofs.Tryz.prog Go.Proofs.Tryz.f131.results.toList = some ir2131 := by kernel_rfl

def ic2132l0 : IC :=
 (.seq
 (.region [] [] [0, 9, 8, 10, 7, 1, 6, 16, 4] [
 ⟨(some 10), (.bin .lss (.t 9) (.t 8)), none, none⟩])
 (.seq
 (.cond (.t 10)
 .skip
 (.exit 0))
 (.seq
 (.block 1
 (.seq
 (.region [6] [] [0, 9, 8, 10, 7, 1, 6, 16, 4] [
 ⟨(some 11), (.iaddr 3 (.t 7) (.t 9)), none, none⟩,
 ⟨(some 12), (.load (some 3) (.t 11)), none, none⟩,
 ⟨(some 6), (.zero 29 [(.c (.v (.string (bs [])))), .nil, .nil]), none, none⟩,
 ⟨none, (.store (some 3) (.t 6) (.t 12)), none, none⟩])
 (.seq
 (.region [] [] [0, 9, 8, 10, 7, 1, 6, 16, 4] [
 ⟨(some 13), (.move (.t 1)), none, none⟩,
 ⟨(some 14), (.load (some 3) (.t 6)), none, none⟩,
 ⟨(some 15), (.call (.t 13) [(.t 14)]), none, none⟩,
 ⟨(some 16), (.un .not (.t 15)), none, none⟩])
 (.cond (.t 16)
 (.seq
 (.region [] [] [0, 9, 8, 10, 7, 1, 6, 16, 4] [
 ⟨(some 4), (.move (.k (rB false))), none, none⟩])
 .ret)
 .skip))))
 (.region [] [] [0, 9, 8, 10, 7, 1, 6, 16, 4] [
 ⟨(some 17), (.bin .add (.t 9) (.k (rI .i64 1))), none, none⟩,
 ⟨(some 9), (.move (.t 17)), none, none⟩]))))

/-- pedigree/check.all[pedigree/api.Rule] -/
def ic2132 : IC :=
 (.seq
 (.region [] [] [0, 9, 8, 10, 7, 1, 6, 16, 4] [
 ⟨(some 4), (.move (.k (rB false))), none, none⟩])
 (.seq
 (.seq
 (.region [] [] [0, 9, 8, 10, 7, 1, 6, 16, 4] [
 ⟨(some 7), (.move (.t 0)), none, none⟩,
 ⟨(some 8), (.len (.t 7)), none, none⟩,
 ⟨(some 9), (.move (.k (rI .i64 0))), none, none⟩])
 (.block 0
 (.loop ic2132l0)))
 (.seq
 (.region [] [] [0, 9, 8, 10, 7, 1, 6, 16, 4] [
 ⟨(some 4), (.move (.k (rB true))), none, none⟩])
 .ret)))
def ir2132 : List IRes := [.tmp 4]
theorem ie2132 : cmpFunc Go.Proofs.Tryz.prog ⟨[(15, none)], []⟩ Go.Proofs.Tryz.f132 [0, 9, 8, 10, 7, 1, 6, 16, 4] = some ic2132 := by kernel_rfl
theorem ig2132 : cmpRes Go.Proofs.Tryz.prog Go.Proofs.Tryz.f132.results.toList = some ir2132 := by kernel_rfl

def ic2133l0 : IC :=
 (.seq
 (.region [] [] [0, 9, 8, 10, 7, 1, 6, 16, 4] [
 ⟨(some 10), (.bin .lss (.t 9) (.t 8)), none, none⟩])
 (.seq
 (.cond (.t 10)
 .skip
 (.exit 0))
 (.seq
 (.block 1
 (.seq
 (.region [6] [] [0, 9, 8, 10, 7, 1, 6, 16, 4] [
 ⟨(some 11), (.iaddr 2 (.t 7) (.t 9)), none, none⟩,
 ⟨(some 12), (.load (some 2) (.t 11)), none, none⟩,
 ⟨(some 6), (.zero 147 [(.c (.v (.string (bs [])))), .nil]), none, none⟩,
 ⟨none, (.store (some 2) (.t 6) (.t 12)), none, none⟩])
 (.seq
 (.region [] [] [0, 9, 8, 10, 7, 1, 6, 16, 4] [
 ⟨(some 13), (.move (.t 1)), none, none⟩,
 ⟨(some 14), (.load (some 2) (.t 6)), none, none⟩,
 ⟨(some 15), (.call (.t 13) [(.t 14)]), none, none⟩,
 ⟨(some 16), (.un .not (.t 15)), none, none⟩])
 (.cond (.t 16)
 (.seq
 (.region [] [] [0, 9, 8, 10, 7, 1, 6, 16, 4] [
 ⟨(some 4), (.move (.k (rB false))), none, none⟩])
 .ret)
 .skip))))
 (.region [] [] [0, 9, 8, 10, 7, 1, 6, 16, 4] [
 ⟨(some 17), (.bin .add (.t 9) (.k (rI .i64 1))), none, none⟩,
 ⟨(some 9), (.move (.t 17)), none, none⟩]))))

/-- pedigree/check.all[pedigree/api.Fact] -/
def ic2133 : IC :=
 (.seq
 (.region [] [] [0, 9, 8, 10, 7, 1, 6, 16, 4] [
 ⟨(some 4), (.move (.k (rB false))), none, none⟩])
 (.seq
 (.seq
 (.region [] [] [0, 9, 8, 10, 7, 1, 6, 16, 4] [
 ⟨(some 7), (.move (.t 0)), none, none⟩,
 ⟨(some 8), (.len (.t 7)), none, none⟩,
 ⟨(some 9), (.move (.k (rI .i64 0))), none, none⟩])
 (.block 0
 (.loop ic2133l0)))
 (.seq
 (.region [] [] [0, 9, 8, 10, 7, 1, 6, 16, 4] [
 ⟨(some 4), (.move (.k (rB true))), none, none⟩])
 .ret)))
def ir2133 : List IRes := [.tmp 4]
theorem ie2133 : cmpFunc Go.Proofs.Tryz.prog ⟨[(15, none)], []⟩ Go.Proofs.Tryz.f133 [0, 9, 8, 10, 7, 1, 6, 16, 4] = some ic2133 := by kernel_rfl
theorem ig2133 : cmpRes Go.Proofs.Tryz.prog Go.Proofs.Tryz.f133.results.toList = some ir2133 := by kernel_rfl


def ic2213l0 : IC :=
 (.seq
 (.seq
 (.region [] [] [6, 1, 10, 0, 19, 4, 5] [
 ⟨(some 7), (.move (.t 6)), none, none⟩,
 ⟨(some 8), (.move (.t 1)), none, none⟩,
 ⟨(some 9), (.len (.t 8)), none, none⟩,
 ⟨(some 10), (.bin .lss (.t 7) (.t 9)), none, none⟩])
 (.cond (.t 10)
 .skip
 (.exit 0)))
 (.seq
 (.block 1
 (.seq
 (.region [] [] [6, 1, 10, 0, 19, 4, 5] [
 ⟨(some 13), (.move (.t 1)), none, none⟩,
 ⟨(some 14), (.move (.t 6)), none, none⟩,
 ⟨(some 15), (.iaddr 2 (.t 13) (.t 14)), none, none⟩,
 ⟨(some 16), (.faddr 0 (.t 15)), none, none⟩,
 ⟨(some 17), (.load none (.t 16)), none, none⟩,
 ⟨(some 18), (.move (.t 0)), none, none⟩,
 ⟨(some 19), (.bin .eql (.t 17) (.t 18)), none, none⟩])
 (.cond (.t 19)
 (.seq
 (.region [] [] [6, 1, 10, 0, 19, 4, 5] [
 ⟨(some 20), (.move (.t 1)), none, none⟩,
 ⟨(some 21), (.move (.t 6)), none, none⟩,
 ⟨(some 22), (.iaddr 2 (.t 20) (.t 21)), none, none⟩,
 ⟨(some 23), (.load (some 2) (.t 22)), none, none⟩,
 ⟨none, (.store (some 2) (.t 4) (.t 23)), none, none⟩,
 ⟨(some 5), (.move (.k (rB true))), none, none⟩])
 .ret)
 .skip)))
 (.region [] [] [6, 1, 10, 0, 19, 4, 5] [
 ⟨(some 11), (.move (.t 6)), none, none⟩,
 ⟨(some 12), (.bin .add (.t 11) (.k (rI .i64 1))), none, none⟩,
 ⟨(some 6), (.move (.t 12)), none, none⟩])))

/-- pedigree/pedigreeref07.among -/
def ic2213 : IC :=
 (.seq
 (.region [4] [] [6, 1, 10, 0, 19, 4, 5] [
 ⟨(some 4), (.zero 168 [(.c (.v (.string (bs [])))), (.c (.v (.int .i64 0)))]), none, none⟩,
 ⟨(some 5), (.move (.k (rB false))), none, none⟩])
 (.seq
 (.seq
 (.region [] [] [6, 1, 10, 0, 19, 4, 5] [
 ⟨(some 6), (.move (.k (rI .i64 0))), none, none⟩])
 (.block 0
 (.loop ic2213l0)))
 (.seq
 (.region [] [] [6, 1, 10, 0, 19, 4, 5] [
 ⟨(some 24), (.build [(.c (.v (.string (bs [])))), (.c (.v (.int .i64 0)))] []), none, none⟩,
 ⟨none, (.store (some 2) (.t 4) (.t 24)), none, none⟩,
 ⟨(some 5), (.move (.k (rB false))), none, none⟩])
 .ret)))
def ir2213 : List IRes := [.cell 4 (some 2), .tmp 5]
theorem ie2213 : cmpFunc Go.Proofs.Tryz.prog ⟨[], []⟩ Go.Proofs.Tryz.f213 [6, 1, 10, 0, 19, 4, 5] = some ic2213 := by kernel_rfl
theorem ig2213 : cmpRes Go.Proofs.Tryz.prog Go.Proofs.Tryz.f213.results.toList = some ir2213 := by kernel_rfl


end Go.Proofs.YtiomojlcnemnhaaGreatDoor

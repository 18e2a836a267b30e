/- Functions of the seat, as the small language has them. -/
import Derived.Test.YtiomojlcnemnhaaGreatDoorWFxWb
import Derived.Test.YtiomojlcnemnhaaGreatDoorProg
import Derived.KernelRfl
namespace Go.Proofs.YtiomojlcnemnhaaGreatDoor
open Go.Fx
def ic2012l0 : IC :=
 (.seq
 (.seq
 (.region [] [] [0, 2, 16, 18, 21, 27, 1, 6, 35, 40, 5, 7, 46, 10, 9, 55, 8, 14, 12, 11, 13, 85, 4] [
 ⟨(some 52), (.move (.t 10)), none, none⟩,
 ⟨(some 53), (.move (.t 9)), none, none⟩,
 ⟨(some 54), (.len (.t 53)), none, none⟩,
 ⟨(some 55), (.bin .lss (.t 52) (.t 54)), none, none⟩])
 (.cond (.t 55)
 .skip
 (.exit 2)))
 (.seq
 (.block 3
 (.seq
 (.region [11] [] [0, 2, 16, 18, 21, 27, 1, 6, 35, 40, 5, 7, 46, 10, 9, 55, 8, 14, 12, 11, 13, 85, 4] [
 ⟨(some 59), (.move (.t 7)), none, none⟩,
 ⟨(some 60), (.move (.t 9)), none, none⟩,
 ⟨(some 61), (.move (.t 10)), none, none⟩,
 ⟨(some 62), (.iaddr 1 (.t 60) (.t 61)), none, none⟩,
 ⟨(some 63), (.load none (.t 62)), none, none⟩,
 ⟨(some 64), (.callp (.k (rF 72)) [(.t 59), (.t 63)]), none, none⟩,
 ⟨(some 58), (.move (.t 64)), none, none⟩,
 ⟨(some 65), (.ext (.t 58) 0), none, none⟩,
 ⟨(some 66), (.ext (.t 58) 1), none, none⟩,
 ⟨(some 11), (.zero 71 [(.c (.v (.int .i8 0))), (.c (.v (.int .i64 0))), (.c (.v (.string (bs []))))]), none, none⟩,
 ⟨none, (.store (some 3) (.t 11) (.t 65)), none, none⟩,
 ⟨(some 12), (.move (.t 66)), none, none⟩])
 (.seq
 (.region [13] [] [0, 2, 16, 18, 21, 27, 1, 6, 35, 40, 5, 7, 46, 10, 9, 55, 8, 14, 12, 11, 13, 85, 4] [
 ⟨(some 68), (.move (.t 8)), none, none⟩,
 ⟨(some 69), (.move (.t 9)), none, none⟩,
 ⟨(some 70), (.move (.t 10)), none, none⟩,
 ⟨(some 71), (.iaddr 1 (.t 69) (.t 70)), none, none⟩,
 ⟨(some 72), (.load none (.t 71)), none, none⟩,
 ⟨(some 73), (.callp (.k (rF 72)) [(.t 68), (.t 72)]), none, none⟩,
 ⟨(some 67), (.move (.t 73)), none, none⟩,
 ⟨(some 74), (.ext (.t 67) 0), none, none⟩,
 ⟨(some 75), (.ext (.t 67) 1), none, none⟩,
 ⟨(some 13), (.zero 71 [(.c (.v (.int .i8 0))), (.c (.v (.int .i64 0))), (.c (.v (.string (bs []))))]), none, none⟩,
 ⟨none, (.store (some 3) (.t 13) (.t 74)), none, none⟩,
 ⟨(some 14), (.move (.t 75)), none, none⟩])
 (.seq
 (.region [] [] [0, 2, 16, 18, 21, 27, 1, 6, 35, 40, 5, 7, 46, 10, 9, 55, 8, 14, 12, 11, 13, 85, 4] [
 ⟨(some 76), (.move (.t 14)), none, none⟩,
 ⟨(some 77), (.un .not (.t 76)), none, none⟩,
 ⟨(some 78), (.move (.t 77)), none, none⟩,
 ⟨(some 79), (.move (.t 12)), some (78, false), none⟩,
 ⟨(some 80), (.move (.t 79)), some (78, false), none⟩,
 ⟨(some 81), (.load (some 3) (.t 11)), some (80, true), none⟩,
 ⟨(some 82), (.load (some 3) (.t 13)), some (80, true), none⟩,
 ⟨(some 83), (.eqs true [.i .i8, .i .i64, .s] (.t 81) (.t 82)), some (80, true), none⟩,
 ⟨(some 84), (.pick (.t 80) (.t 83) (.k (rB false))), some (78, false), none⟩,
 ⟨(some 85), (.pick (.t 78) (.k (rB true)) (.t 84)), none, none⟩])
 (.cond (.t 85)
 (.seq
 (.region [] [] [0, 2, 16, 18, 21, 27, 1, 6, 35, 40, 5, 7, 46, 10, 9, 55, 8, 14, 12, 11, 13, 85, 4] [
 ⟨(some 4), (.move (.k (rB false))), none, none⟩])
 .ret)
 .skip)))))
 (.region [] [] [0, 2, 16, 18, 21, 27, 1, 6, 35, 40, 5, 7, 46, 10, 9, 55, 8, 14, 12, 11, 13, 85, 4] [
 ⟨(some 56), (.move (.t 10)), none, none⟩,
 ⟨(some 57), (.bin .add (.t 56) (.k (rI .i64 1))), none, none⟩,
 ⟨(some 10), (.move (.t 57)), none, none⟩])))

def ic2012l1 : IC :=
 (.seq
 (.seq
 (.region [] [] [0, 2, 16, 18, 21, 27, 1, 6, 35, 40, 5, 7, 46, 10, 9, 55, 8, 14, 12, 11, 13, 85, 4] [
 ⟨(some 34), (.move (.t 6)), none, none⟩,
 ⟨(some 35), (.bin .lss (.t 34) (.k (rI .i64 2))), none, none⟩])
 (.cond (.t 35)
 .skip
 (.exit 0)))
 (.seq
 (.block 1
 (.seq
 (.region [] [] [0, 2, 16, 18, 21, 27, 1, 6, 35, 40, 5, 7, 46, 10, 9, 55, 8, 14, 12, 11, 13, 85, 4] [
 ⟨(some 38), (.move (.t 1)), none, none⟩,
 ⟨(some 7), (.move (.t 38)), none, none⟩])
 (.seq
 (.seq
 (.region [] [] [0, 2, 16, 18, 21, 27, 1, 6, 35, 40, 5, 7, 46, 10, 9, 55, 8, 14, 12, 11, 13, 85, 4] [
 ⟨(some 39), (.move (.t 6)), none, none⟩,
 ⟨(some 40), (.bin .eql (.t 39) (.k (rI .i64 1))), none, none⟩])
 (.cond (.t 40)
 (.region [] [] [0, 2, 16, 18, 21, 27, 1, 6, 35, 40, 5, 7, 46, 10, 9, 55, 8, 14, 12, 11, 13, 85, 4] [
 ⟨(some 41), (.move (.t 5)), none, none⟩,
 ⟨(some 7), (.move (.t 41)), none, none⟩])
 .skip))
 (.seq
 (.seq
 (.region [] [] [0, 2, 16, 18, 21, 27, 1, 6, 35, 40, 5, 7, 46, 10, 9, 55, 8, 14, 12, 11, 13, 85, 4] [
 ⟨(some 42), (.faddr 2 (.t 2)), none, none⟩,
 ⟨(some 43), (.load none (.t 42)), none, none⟩,
 ⟨(some 44), (.move (.t 7)), none, none⟩,
 ⟨(some 45), (.callp (.k (rF 71)) [(.t 43), (.t 44)]), none, none⟩,
 ⟨(some 46), (.un .not (.t 45)), none, none⟩])
 (.cond (.t 46)
 (.exit 1)
 .skip))
 (.seq
 (.region [] [] [0, 2, 16, 18, 21, 27, 1, 6, 35, 40, 5, 7, 46, 10, 9, 55, 8, 14, 12, 11, 13, 85, 4] [
 ⟨(some 47), (.load (some 3) (.t 2)), none, none⟩,
 ⟨(some 48), (.move (.t 7)), none, none⟩,
 ⟨(some 49), (.callp (.k (rF 70)) [(.t 47), (.t 48)]), none, none⟩,
 ⟨(some 8), (.move (.t 49)), none, none⟩])
 (.seq
 (.region [] [] [0, 2, 16, 18, 21, 27, 1, 6, 35, 40, 5, 7, 46, 10, 9, 55, 8, 14, 12, 11, 13, 85, 4] [
 ⟨(some 50), (.load (some 3) (.t 2)), none, none⟩,
 ⟨(some 51), (.callp (.k (rF 48)) [(.t 50)]), none, none⟩,
 ⟨(some 9), (.move (.t 51)), none, none⟩])
 (.seq
 (.region [] [] [0, 2, 16, 18, 21, 27, 1, 6, 35, 40, 5, 7, 46, 10, 9, 55, 8, 14, 12, 11, 13, 85, 4] [
 ⟨(some 10), (.move (.k (rI .i64 0))), none, none⟩])
 (.block 2
 (.loop ic2012l0)))))))))
 (.region [] [] [0, 2, 16, 18, 21, 27, 1, 6, 35, 40, 5, 7, 46, 10, 9, 55, 8, 14, 12, 11, 13, 85, 4] [
 ⟨(some 36), (.move (.t 6)), none, none⟩,
 ⟨(some 37), (.bin .add (.t 36) (.k (rI .i64 1))), none, none⟩,
 ⟨(some 6), (.move (.t 37)), none, none⟩])))

/-- pedigree/pedigreelaw07.CheckOneWay -/
def ic2012 : IC :=
 (.seq
 (.region [2] [] [0, 2, 16, 18, 21, 27, 1, 6, 35, 40, 5, 7, 46, 10, 9, 55, 8, 14, 12, 11, 13, 85, 4] [
 ⟨(some 2), (.box 29 (.t 0)), none, none⟩,
 ⟨(some 4), (.move (.k (rB false))), none, none⟩])
 (.seq
 (.seq
 (.region [] [] [0, 2, 16, 18, 21, 27, 1, 6, 35, 40, 5, 7, 46, 10, 9, 55, 8, 14, 12, 11, 13, 85, 4] [
 ⟨(some 15), (.load (some 3) (.t 2)), none, none⟩,
 ⟨(some 16), (.callp (.k (rF 13)) [(.t 15)]), none, none⟩])
 (.cond (.t 16)
 (.seq
 (.region [] [] [0, 2, 16, 18, 21, 27, 1, 6, 35, 40, 5, 7, 46, 10, 9, 55, 8, 14, 12, 11, 13, 85, 4] [
 ⟨(some 4), (.move (.k (rB true))), none, none⟩])
 .ret)
 .skip))
 (.seq
 (.seq
 (.region [] [] [0, 2, 16, 18, 21, 27, 1, 6, 35, 40, 5, 7, 46, 10, 9, 55, 8, 14, 12, 11, 13, 85, 4] [
 ⟨(some 17), (.callp (.k (rF 62)) []), none, none⟩,
 ⟨(some 18), (.un .not (.t 17)), none, none⟩])
 (.cond (.t 18)
 (.seq
 (.region [] [] [0, 2, 16, 18, 21, 27, 1, 6, 35, 40, 5, 7, 46, 10, 9, 55, 8, 14, 12, 11, 13, 85, 4] [
 ⟨(some 4), (.move (.k (rB false))), none, none⟩])
 .ret)
 .skip))
 (.seq
 (.seq
 (.region [] [] [0, 2, 16, 18, 21, 27, 1, 6, 35, 40, 5, 7, 46, 10, 9, 55, 8, 14, 12, 11, 13, 85, 4] [
 ⟨(some 19), (.load (some 3) (.t 2)), none, none⟩,
 ⟨(some 20), (.callp (.k (rF 46)) [(.t 19)]), none, none⟩,
 ⟨(some 21), (.bin .neq (.t 20) (.k (rI .i64 0))), none, none⟩])
 (.cond (.t 21)
 (.seq
 (.region [] [] [0, 2, 16, 18, 21, 27, 1, 6, 35, 40, 5, 7, 46, 10, 9, 55, 8, 14, 12, 11, 13, 85, 4] [
 ⟨(some 22), (.load (some 3) (.t 2)), none, none⟩,
 ⟨(some 23), (.callp (.k (rF 26)) [(.t 22)]), none, none⟩,
 ⟨(some 24), (.bin .eql (.t 23) (.k (rI .i64 40))), none, none⟩,
 ⟨(some 4), (.move (.t 24)), none, none⟩])
 .ret)
 .skip))
 (.seq
 (.seq
 (.region [] [] [0, 2, 16, 18, 21, 27, 1, 6, 35, 40, 5, 7, 46, 10, 9, 55, 8, 14, 12, 11, 13, 85, 4] [
 ⟨(some 25), (.load (some 3) (.t 2)), none, none⟩,
 ⟨(some 26), (.callp (.k (rF 26)) [(.t 25)]), none, none⟩,
 ⟨(some 27), (.bin .neq (.t 26) (.k (rI .i64 0))), none, none⟩])
 (.cond (.t 27)
 (.seq
 (.region [] [] [0, 2, 16, 18, 21, 27, 1, 6, 35, 40, 5, 7, 46, 10, 9, 55, 8, 14, 12, 11, 13, 85, 4] [
 ⟨(some 28), (.load (some 3) (.t 2)), none, none⟩,
 ⟨(some 29), (.callp (.k (rF 26)) [(.t 28)]), none, none⟩,
 ⟨(some 30), (.bin .eql (.t 29) (.k (rI .i64 73))), none, none⟩,
 ⟨(some 4), (.move (.t 30)), none, none⟩])
 .ret)
 .skip))
 (.seq
 (.region [] [] [0, 2, 16, 18, 21, 27, 1, 6, 35, 40, 5, 7, 46, 10, 9, 55, 8, 14, 12, 11, 13, 85, 4] [
 ⟨(some 31), (.load (some 3) (.t 2)), none, none⟩,
 ⟨(some 32), (.move (.t 1)), none, none⟩,
 ⟨(some 33), (.callp (.k (rF 70)) [(.t 31), (.t 32)]), none, none⟩,
 ⟨(some 5), (.move (.t 33)), none, none⟩])
 (.seq
 (.seq
 (.region [] [] [0, 2, 16, 18, 21, 27, 1, 6, 35, 40, 5, 7, 46, 10, 9, 55, 8, 14, 12, 11, 13, 85, 4] [
 ⟨(some 6), (.move (.k (rI .i64 0))), none, none⟩])
 (.block 0
 (.loop ic2012l1)))
 (.seq
 (.region [] [] [0, 2, 16, 18, 21, 27, 1, 6, 35, 40, 5, 7, 46, 10, 9, 55, 8, 14, 12, 11, 13, 85, 4] [
 ⟨(some 4), (.move (.k (rB true))), none, none⟩])
 .ret))))))))
def ir2012 : List IRes := [.tmp 4]
theorem ie2012 : cmpFunc Go.Proofs.Tryz.prog ⟨[], []⟩ Go.Proofs.Tryz.f12 [0, 2, 16, 18, 21, 27, 1, 6, 35, 40, 5, 7, 46, 10, 9, 55, 8, 14, 12, 11, 13, 85, 4] = some ic2012 := by kernel_rfl
theorem ig2012 : cmpRes Go.Proofs.Tryz.prog Go.Proofs.Tryz.f12.results.toList = some ir2012 := by kernel_rfl

def ic2070l0 : IC :=
 (.seq
 (.seq
 (.region [] [] [0, 2, 7, 6, 25, 35, 1, 9, 46, 8, 5, 10, 61, 79, 12, 11, 98, 14, 110, 13, 16, 15, 138, 18, 150, 17, 4] [
 ⟨(some 57), (.move (.t 10)), none, none⟩,
 ⟨(some 58), (.faddr 2 (.t 2)), none, none⟩,
 ⟨(some 59), (.load none (.t 58)), none, none⟩,
 ⟨(some 60), (.len (.t 59)), none, none⟩,
 ⟨(some 61), (.bin .lss (.t 57) (.t 60)), none, none⟩])
 (.cond (.t 61)
 .skip
 (.exit 2)))
 (.seq
 (.block 3
 (.seq
 (.seq
 (.region [] [] [0, 2, 7, 6, 25, 35, 1, 9, 46, 8, 5, 10, 61, 79, 12, 11, 98, 14, 110, 13, 16, 15, 138, 18, 150, 17, 4] [
 ⟨(some 64), (.faddr 2 (.t 2)), none, none⟩,
 ⟨(some 65), (.load none (.t 64)), none, none⟩,
 ⟨(some 66), (.move (.t 10)), none, none⟩,
 ⟨(some 67), (.iaddr 16 (.t 65) (.t 66)), none, none⟩,
 ⟨(some 68), (.faddr 0 (.t 67)), none, none⟩,
 ⟨(some 69), (.load none (.t 68)), none, none⟩,
 ⟨(some 70), (.bin .neq (.t 69) (.k (rI .i8 3))), none, none⟩,
 ⟨(some 71), (.move (.t 70)), none, none⟩,
 ⟨(some 72), (.faddr 2 (.t 2)), some (71, false), none⟩,
 ⟨(some 73), (.load none (.t 72)), some (71, false), none⟩,
 ⟨(some 74), (.move (.t 10)), some (71, false), none⟩,
 ⟨(some 75), (.iaddr 16 (.t 73) (.t 74)), some (71, false), none⟩,
 ⟨(some 76), (.faddr 3 (.t 75)), some (71, false), none⟩,
 ⟨(some 77), (.load none (.t 76)), some (71, false), none⟩,
 ⟨(some 78), (.bin .neq (.t 77) (.k (rI .i8 1))), some (71, false), none⟩,
 ⟨(some 79), (.pick (.t 71) (.k (rB true)) (.t 78)), none, none⟩])
 (.cond (.t 79)
 (.exit 3)
 .skip))
 (.seq
 (.seq
 (.region [] [] [0, 2, 7, 6, 25, 35, 1, 9, 46, 8, 5, 10, 61, 79, 12, 11, 98, 14, 110, 13, 16, 15, 138, 18, 150, 17, 4] [
 ⟨(some 81), (.faddr 2 (.t 2)), none, none⟩,
 ⟨(some 82), (.load none (.t 81)), none, none⟩,
 ⟨(some 83), (.move (.t 10)), none, none⟩,
 ⟨(some 84), (.iaddr 16 (.t 82) (.t 83)), none, none⟩,
 ⟨(some 85), (.faddr 4 (.t 84)), none, none⟩,
 ⟨(some 86), (.load (some 6) (.t 85)), none, none⟩,
 ⟨(some 87), (.callp (.k (rF 165)) [(.t 86)]), none, none⟩,
 ⟨(some 80), (.move (.t 87)), none, none⟩,
 ⟨(some 88), (.ext (.t 80) 0), none, none⟩,
 ⟨(some 89), (.ext (.t 80) 1), none, none⟩,
 ⟨(some 11), (.move (.t 88)), none, none⟩,
 ⟨(some 12), (.move (.t 89)), none, none⟩])
 (.seq
 (.region [] [] [0, 2, 7, 6, 25, 35, 1, 9, 46, 8, 5, 10, 61, 79, 12, 11, 98, 14, 110, 13, 16, 15, 138, 18, 150, 17, 4] [
 ⟨(some 90), (.move (.t 12)), none, none⟩,
 ⟨(some 91), (.move (.t 90)), none, none⟩,
 ⟨(some 92), (.move (.t 11)), some (91, true), none⟩,
 ⟨(some 93), (.move (.t 6)), some (91, true), none⟩,
 ⟨(some 94), (.move (.t 7)), some (91, true), none⟩,
 ⟨(some 95), (.iaddr 1 (.t 93) (.t 94)), some (91, true), none⟩,
 ⟨(some 96), (.load none (.t 95)), some (91, true), none⟩,
 ⟨(some 97), (.bin .eql (.t 92) (.t 96)), some (91, true), none⟩,
 ⟨(some 98), (.pick (.t 91) (.t 97) (.k (rB false))), none, none⟩])
 (.cond (.t 98)
 (.seq
 (.region [13] [] [0, 2, 7, 6, 25, 35, 1, 9, 46, 8, 5, 10, 61, 79, 12, 11, 98, 14, 110, 13, 16, 15, 138, 18, 150, 17, 4] [
 ⟨(some 100), (.faddr 2 (.t 2)), none, none⟩,
 ⟨(some 101), (.load none (.t 100)), none, none⟩,
 ⟨(some 102), (.move (.t 10)), none, none⟩,
 ⟨(some 103), (.iaddr 16 (.t 101) (.t 102)), none, none⟩,
 ⟨(some 104), (.faddr 10 (.t 103)), none, none⟩,
 ⟨(some 105), (.load (some 6) (.t 104)), none, none⟩,
 ⟨(some 106), (.move (.t 5)), none, none⟩,
 ⟨(some 107), (.callp (.k (rF 139)) [(.t 105), (.t 106)]), none, none⟩,
 ⟨(some 99), (.move (.t 107)), none, none⟩,
 ⟨(some 108), (.ext (.t 99) 0), none, none⟩,
 ⟨(some 109), (.ext (.t 99) 1), none, none⟩,
 ⟨(some 13), (.zero 71 [(.c (.v (.int .i8 0))), (.c (.v (.int .i64 0))), (.c (.v (.string (bs []))))]), none, none⟩,
 ⟨none, (.store (some 3) (.t 13) (.t 108)), none, none⟩,
 ⟨(some 14), (.move (.t 109)), none, none⟩])
 (.seq
 (.region [] [] [0, 2, 7, 6, 25, 35, 1, 9, 46, 8, 5, 10, 61, 79, 12, 11, 98, 14, 110, 13, 16, 15, 138, 18, 150, 17, 4] [
 ⟨(some 110), (.move (.t 14)), none, none⟩])
 (.cond (.t 110)
 (.seq
 (.region [118] [] [0, 2, 7, 6, 25, 35, 1, 9, 46, 8, 5, 10, 61, 79, 12, 11, 98, 14, 110, 13, 16, 15, 138, 18, 150, 17, 4] [
 ⟨(some 111), (.move (.t 5)), none, none⟩,
 ⟨(some 112), (.move (.t 6)), none, none⟩,
 ⟨(some 113), (.move (.t 7)), none, none⟩,
 ⟨(some 114), (.iaddr 1 (.t 112) (.t 113)), none, none⟩,
 ⟨(some 115), (.load none (.t 114)), none, none⟩,
 ⟨(some 116), (.load (some 3) (.t 13)), none, none⟩,
 ⟨(some 117), (.build [(.c (.v (.string (bs [])))), (.c (.v (.int .i8 0))), (.c (.v (.int .i64 0))), (.c (.v (.string (bs []))))] [(0, 1, (.t 115)), (1, 3, (.t 116))]), none, none⟩,
 ⟨(some 118), (.row 210 4 [(.t 117)]), none, none⟩,
 ⟨(some 119), (.app 210 4 48 (.t 111) (.t 118)), none, none⟩,
 ⟨(some 5), (.move (.t 119)), none, none⟩])
 (.exit 2))
 .skip)))
 .skip)))
 (.seq
 (.region [] [] [0, 2, 7, 6, 25, 35, 1, 9, 46, 8, 5, 10, 61, 79, 12, 11, 98, 14, 110, 13, 16, 15, 138, 18, 150, 17, 4] [
 ⟨(some 121), (.faddr 2 (.t 2)), none, none⟩,
 ⟨(some 122), (.load none (.t 121)), none, none⟩,
 ⟨(some 123), (.move (.t 10)), none, none⟩,
 ⟨(some 124), (.iaddr 16 (.t 122) (.t 123)), none, none⟩,
 ⟨(some 125), (.faddr 10 (.t 124)), none, none⟩,
 ⟨(some 126), (.load (some 6) (.t 125)), none, none⟩,
 ⟨(some 127), (.callp (.k (rF 165)) [(.t 126)]), none, none⟩,
 ⟨(some 120), (.move (.t 127)), none, none⟩,
 ⟨(some 128), (.ext (.t 120) 0), none, none⟩,
 ⟨(some 129), (.ext (.t 120) 1), none, none⟩,
 ⟨(some 15), (.move (.t 128)), none, none⟩,
 ⟨(some 16), (.move (.t 129)), none, none⟩])
 (.seq
 (.region [] [] [0, 2, 7, 6, 25, 35, 1, 9, 46, 8, 5, 10, 61, 79, 12, 11, 98, 14, 110, 13, 16, 15, 138, 18, 150, 17, 4] [
 ⟨(some 130), (.move (.t 16)), none, none⟩,
 ⟨(some 131), (.move (.t 130)), none, none⟩,
 ⟨(some 132), (.move (.t 15)), some (131, true), none⟩,
 ⟨(some 133), (.move (.t 6)), some (131, true), none⟩,
 ⟨(some 134), (.move (.t 7)), some (131, true), none⟩,
 ⟨(some 135), (.iaddr 1 (.t 133) (.t 134)), some (131, true), none⟩,
 ⟨(some 136), (.load none (.t 135)), some (131, true), none⟩,
 ⟨(some 137), (.bin .eql (.t 132) (.t 136)), some (131, true), none⟩,
 ⟨(some 138), (.pick (.t 131) (.t 137) (.k (rB false))), none, none⟩])
 (.cond (.t 138)
 (.seq
 (.region [17] [] [0, 2, 7, 6, 25, 35, 1, 9, 46, 8, 5, 10, 61, 79, 12, 11, 98, 14, 110, 13, 16, 15, 138, 18, 150, 17, 4] [
 ⟨(some 140), (.faddr 2 (.t 2)), none, none⟩,
 ⟨(some 141), (.load none (.t 140)), none, none⟩,
 ⟨(some 142), (.move (.t 10)), none, none⟩,
 ⟨(some 143), (.iaddr 16 (.t 141) (.t 142)), none, none⟩,
 ⟨(some 144), (.faddr 4 (.t 143)), none, none⟩,
 ⟨(some 145), (.load (some 6) (.t 144)), none, none⟩,
 ⟨(some 146), (.move (.t 5)), none, none⟩,
 ⟨(some 147), (.callp (.k (rF 139)) [(.t 145), (.t 146)]), none, none⟩,
 ⟨(some 139), (.move (.t 147)), none, none⟩,
 ⟨(some 148), (.ext (.t 139) 0), none, none⟩,
 ⟨(some 149), (.ext (.t 139) 1), none, none⟩,
 ⟨(some 17), (.zero 71 [(.c (.v (.int .i8 0))), (.c (.v (.int .i64 0))), (.c (.v (.string (bs []))))]), none, none⟩,
 ⟨none, (.store (some 3) (.t 17) (.t 148)), none, none⟩,
 ⟨(some 18), (.move (.t 149)), none, none⟩])
 (.seq
 (.region [] [] [0, 2, 7, 6, 25, 35, 1, 9, 46, 8, 5, 10, 61, 79, 12, 11, 98, 14, 110, 13, 16, 15, 138, 18, 150, 17, 4] [
 ⟨(some 150), (.move (.t 18)), none, none⟩])
 (.cond (.t 150)
 (.seq
 (.region [158] [] [0, 2, 7, 6, 25, 35, 1, 9, 46, 8, 5, 10, 61, 79, 12, 11, 98, 14, 110, 13, 16, 15, 138, 18, 150, 17, 4] [
 ⟨(some 151), (.move (.t 5)), none, none⟩,
 ⟨(some 152), (.move (.t 6)), none, none⟩,
 ⟨(some 153), (.move (.t 7)), none, none⟩,
 ⟨(some 154), (.iaddr 1 (.t 152) (.t 153)), none, none⟩,
 ⟨(some 155), (.load none (.t 154)), none, none⟩,
 ⟨(some 156), (.load (some 3) (.t 17)), none, none⟩,
 ⟨(some 157), (.build [(.c (.v (.string (bs [])))), (.c (.v (.int .i8 0))), (.c (.v (.int .i64 0))), (.c (.v (.string (bs []))))] [(0, 1, (.t 155)), (1, 3, (.t 156))]), none, none⟩,
 ⟨(some 158), (.row 210 4 [(.t 157)]), none, none⟩,
 ⟨(some 159), (.app 210 4 48 (.t 151) (.t 158)), none, none⟩,
 ⟨(some 5), (.move (.t 159)), none, none⟩])
 (.exit 2))
 .skip)))
 .skip))))))
 (.region [] [] [0, 2, 7, 6, 25, 35, 1, 9, 46, 8, 5, 10, 61, 79, 12, 11, 98, 14, 110, 13, 16, 15, 138, 18, 150, 17, 4] [
 ⟨(some 62), (.move (.t 10)), none, none⟩,
 ⟨(some 63), (.bin .add (.t 62) (.k (rI .i64 1))), none, none⟩,
 ⟨(some 10), (.move (.t 63)), none, none⟩])))

def ic2070l1 : IC :=
 (.seq
 (.seq
 (.region [] [] [0, 2, 7, 6, 25, 35, 1, 9, 46, 8, 5, 10, 61, 79, 12, 11, 98, 14, 110, 13, 16, 15, 138, 18, 150, 17, 4] [
 ⟨(some 22), (.move (.t 7)), none, none⟩,
 ⟨(some 23), (.move (.t 6)), none, none⟩,
 ⟨(some 24), (.len (.t 23)), none, none⟩,
 ⟨(some 25), (.bin .lss (.t 22) (.t 24)), none, none⟩])
 (.cond (.t 25)
 .skip
 (.exit 0)))
 (.seq
 (.block 1
 (.seq
 (.seq
 (.region [] [] [0, 2, 7, 6, 25, 35, 1, 9, 46, 8, 5, 10, 61, 79, 12, 11, 98, 14, 110, 13, 16, 15, 138, 18, 150, 17, 4] [
 ⟨(some 28), (.move (.t 6)), none, none⟩,
 ⟨(some 29), (.move (.t 7)), none, none⟩,
 ⟨(some 30), (.iaddr 1 (.t 28) (.t 29)), none, none⟩,
 ⟨(some 31), (.load none (.t 30)), none, none⟩,
 ⟨(some 32), (.faddr 2 (.t 2)), none, none⟩,
 ⟨(some 33), (.load none (.t 32)), none, none⟩,
 ⟨(some 34), (.callp (.k (rF 65)) [(.t 33)]), none, none⟩,
 ⟨(some 35), (.callp (.k (rF 67)) [(.t 31), (.t 34)]), none, none⟩])
 (.cond (.t 35)
 (.seq
 (.region [8] [] [0, 2, 7, 6, 25, 35, 1, 9, 46, 8, 5, 10, 61, 79, 12, 11, 98, 14, 110, 13, 16, 15, 138, 18, 150, 17, 4] [
 ⟨(some 37), (.move (.t 1)), none, none⟩,
 ⟨(some 38), (.move (.t 6)), none, none⟩,
 ⟨(some 39), (.move (.t 7)), none, none⟩,
 ⟨(some 40), (.iaddr 1 (.t 38) (.t 39)), none, none⟩,
 ⟨(some 41), (.load none (.t 40)), none, none⟩,
 ⟨(some 42), (.callp (.k (rF 72)) [(.t 37), (.t 41)]), none, none⟩,
 ⟨(some 36), (.move (.t 42)), none, none⟩,
 ⟨(some 43), (.ext (.t 36) 0), none, none⟩,
 ⟨(some 44), (.ext (.t 36) 1), none, none⟩,
 ⟨(some 8), (.zero 71 [(.c (.v (.int .i8 0))), (.c (.v (.int .i64 0))), (.c (.v (.string (bs []))))]), none, none⟩,
 ⟨none, (.store (some 3) (.t 8) (.t 43)), none, none⟩,
 ⟨(some 9), (.move (.t 44)), none, none⟩])
 (.seq
 (.seq
 (.region [] [] [0, 2, 7, 6, 25, 35, 1, 9, 46, 8, 5, 10, 61, 79, 12, 11, 98, 14, 110, 13, 16, 15, 138, 18, 150, 17, 4] [
 ⟨(some 45), (.move (.t 9)), none, none⟩,
 ⟨(some 46), (.un .not (.t 45)), none, none⟩])
 (.cond (.t 46)
 (.region [] [] [0, 2, 7, 6, 25, 35, 1, 9, 46, 8, 5, 10, 61, 79, 12, 11, 98, 14, 110, 13, 16, 15, 138, 18, 150, 17, 4] [
 ⟨(some 47), (.callp (.k (rF 137)) [(.k (rI .i64 0))]), none, none⟩,
 ⟨none, (.store (some 3) (.t 8) (.t 47)), none, none⟩])
 .skip))
 (.seq
 (.region [55] [] [0, 2, 7, 6, 25, 35, 1, 9, 46, 8, 5, 10, 61, 79, 12, 11, 98, 14, 110, 13, 16, 15, 138, 18, 150, 17, 4] [
 ⟨(some 48), (.move (.t 5)), none, none⟩,
 ⟨(some 49), (.move (.t 6)), none, none⟩,
 ⟨(some 50), (.move (.t 7)), none, none⟩,
 ⟨(some 51), (.iaddr 1 (.t 49) (.t 50)), none, none⟩,
 ⟨(some 52), (.load none (.t 51)), none, none⟩,
 ⟨(some 53), (.load (some 3) (.t 8)), none, none⟩,
 ⟨(some 54), (.build [(.c (.v (.string (bs [])))), (.c (.v (.int .i8 0))), (.c (.v (.int .i64 0))), (.c (.v (.string (bs []))))] [(0, 1, (.t 52)), (1, 3, (.t 53))]), none, none⟩,
 ⟨(some 55), (.row 210 4 [(.t 54)]), none, none⟩,
 ⟨(some 56), (.app 210 4 48 (.t 48) (.t 55)), none, none⟩,
 ⟨(some 5), (.move (.t 56)), none, none⟩])
 (.exit 1))))
 .skip))
 (.seq
 (.region [] [] [0, 2, 7, 6, 25, 35, 1, 9, 46, 8, 5, 10, 61, 79, 12, 11, 98, 14, 110, 13, 16, 15, 138, 18, 150, 17, 4] [
 ⟨(some 10), (.move (.k (rI .i64 0))), none, none⟩])
 (.block 2
 (.loop ic2070l0)))))
 (.region [] [] [0, 2, 7, 6, 25, 35, 1, 9, 46, 8, 5, 10, 61, 79, 12, 11, 98, 14, 110, 13, 16, 15, 138, 18, 150, 17, 4] [
 ⟨(some 26), (.move (.t 7)), none, none⟩,
 ⟨(some 27), (.bin .add (.t 26) (.k (rI .i64 1))), none, none⟩,
 ⟨(some 7), (.move (.t 27)), none, none⟩])))

/-- pedigree/pedigreelaw07.solved -/
def ic2070 : IC :=
 (.seq
 (.region [2] [] [0, 2, 7, 6, 25, 35, 1, 9, 46, 8, 5, 10, 61, 79, 12, 11, 98, 14, 110, 13, 16, 15, 138, 18, 150, 17, 4] [
 ⟨(some 2), (.box 29 (.t 0)), none, none⟩,
 ⟨(some 4), (.move (.k (.x (.one .nil)))), none, none⟩])
 (.seq
 (.region [] [] [0, 2, 7, 6, 25, 35, 1, 9, 46, 8, 5, 10, 61, 79, 12, 11, 98, 14, 110, 13, 16, 15, 138, 18, 150, 17, 4] [
 ⟨(some 5), (.move (.k (.x (.one .nil)))), none, none⟩])
 (.seq
 (.region [] [] [0, 2, 7, 6, 25, 35, 1, 9, 46, 8, 5, 10, 61, 79, 12, 11, 98, 14, 110, 13, 16, 15, 138, 18, 150, 17, 4] [
 ⟨(some 19), (.faddr 2 (.t 2)), none, none⟩,
 ⟨(some 20), (.load none (.t 19)), none, none⟩,
 ⟨(some 21), (.callp (.k (rF 63)) [(.t 20)]), none, none⟩,
 ⟨(some 6), (.move (.t 21)), none, none⟩])
 (.seq
 (.seq
 (.region [] [] [0, 2, 7, 6, 25, 35, 1, 9, 46, 8, 5, 10, 61, 79, 12, 11, 98, 14, 110, 13, 16, 15, 138, 18, 150, 17, 4] [
 ⟨(some 7), (.move (.k (rI .i64 0))), none, none⟩])
 (.block 0
 (.loop ic2070l1)))
 (.seq
 (.region [] [] [0, 2, 7, 6, 25, 35, 1, 9, 46, 8, 5, 10, 61, 79, 12, 11, 98, 14, 110, 13, 16, 15, 138, 18, 150, 17, 4] [
 ⟨(some 160), (.move (.t 5)), none, none⟩,
 ⟨(some 4), (.move (.t 160)), none, none⟩])
 .ret)))))
def ir2070 : List IRes := [.tmp 4]
theorem ie2070 : cmpFunc Go.Proofs.Tryz.prog ⟨[], []⟩ Go.Proofs.Tryz.f70 [0, 2, 7, 6, 25, 35, 1, 9, 46, 8, 5, 10, 61, 79, 12, 11, 98, 14, 110, 13, 16, 15, 138, 18, 150, 17, 4] = some ic2070 := by kernel_rfl
theorem ig2070 : cmpRes Go.Proofs.Tryz.prog Go.Proofs.Tryz.f70.results.toList = some ir2070 := by kernel_rfl

def ic2071l0 : IC :=
 (.seq
 (.seq
 (.region [] [] [5, 0, 13, 29, 1, 7, 9, 6, 8, 61, 4] [
 ⟨(some 10), (.move (.t 5)), none, none⟩,
 ⟨(some 11), (.move (.t 0)), none, none⟩,
 ⟨(some 12), (.len (.t 11)), none, none⟩,
 ⟨(some 13), (.bin .lss (.t 10) (.t 12)), none, none⟩])
 (.cond (.t 13)
 .skip
 (.exit 0)))
 (.seq
 (.block 1
 (.seq
 (.seq
 (.region [] [] [5, 0, 13, 29, 1, 7, 9, 6, 8, 61, 4] [
 ⟨(some 16), (.move (.t 0)), none, none⟩,
 ⟨(some 17), (.move (.t 5)), none, none⟩,
 ⟨(some 18), (.iaddr 16 (.t 16) (.t 17)), none, none⟩,
 ⟨(some 19), (.faddr 0 (.t 18)), none, none⟩,
 ⟨(some 20), (.load none (.t 19)), none, none⟩,
 ⟨(some 21), (.bin .neq (.t 20) (.k (rI .i8 3))), none, none⟩,
 ⟨(some 22), (.move (.t 21)), none, none⟩,
 ⟨(some 23), (.move (.t 0)), some (22, false), none⟩,
 ⟨(some 24), (.move (.t 5)), some (22, false), none⟩,
 ⟨(some 25), (.iaddr 16 (.t 23) (.t 24)), some (22, false), none⟩,
 ⟨(some 26), (.faddr 3 (.t 25)), some (22, false), none⟩,
 ⟨(some 27), (.load none (.t 26)), some (22, false), none⟩,
 ⟨(some 28), (.bin .neq (.t 27) (.k (rI .i8 1))), some (22, false), none⟩,
 ⟨(some 29), (.pick (.t 22) (.k (rB true)) (.t 28)), none, none⟩])
 (.cond (.t 29)
 (.exit 1)
 .skip))
 (.seq
 (.region [6] [] [5, 0, 13, 29, 1, 7, 9, 6, 8, 61, 4] [
 ⟨(some 31), (.move (.t 0)), none, none⟩,
 ⟨(some 32), (.move (.t 5)), none, none⟩,
 ⟨(some 33), (.iaddr 16 (.t 31) (.t 32)), none, none⟩,
 ⟨(some 34), (.faddr 4 (.t 33)), none, none⟩,
 ⟨(some 35), (.load (some 6) (.t 34)), none, none⟩,
 ⟨(some 36), (.move (.t 1)), none, none⟩,
 ⟨(some 37), (.callp (.k (rF 139)) [(.t 35), (.t 36)]), none, none⟩,
 ⟨(some 30), (.move (.t 37)), none, none⟩,
 ⟨(some 38), (.ext (.t 30) 0), none, none⟩,
 ⟨(some 39), (.ext (.t 30) 1), none, none⟩,
 ⟨(some 6), (.zero 71 [(.c (.v (.int .i8 0))), (.c (.v (.int .i64 0))), (.c (.v (.string (bs []))))]), none, none⟩,
 ⟨none, (.store (some 3) (.t 6) (.t 38)), none, none⟩,
 ⟨(some 7), (.move (.t 39)), none, none⟩])
 (.seq
 (.region [8] [] [5, 0, 13, 29, 1, 7, 9, 6, 8, 61, 4] [
 ⟨(some 41), (.move (.t 0)), none, none⟩,
 ⟨(some 42), (.move (.t 5)), none, none⟩,
 ⟨(some 43), (.iaddr 16 (.t 41) (.t 42)), none, none⟩,
 ⟨(some 44), (.faddr 10 (.t 43)), none, none⟩,
 ⟨(some 45), (.load (some 6) (.t 44)), none, none⟩,
 ⟨(some 46), (.move (.t 1)), none, none⟩,
 ⟨(some 47), (.callp (.k (rF 139)) [(.t 45), (.t 46)]), none, none⟩,
 ⟨(some 40), (.move (.t 47)), none, none⟩,
 ⟨(some 48), (.ext (.t 40) 0), none, none⟩,
 ⟨(some 49), (.ext (.t 40) 1), none, none⟩,
 ⟨(some 8), (.zero 71 [(.c (.v (.int .i8 0))), (.c (.v (.int .i64 0))), (.c (.v (.string (bs []))))]), none, none⟩,
 ⟨none, (.store (some 3) (.t 8) (.t 48)), none, none⟩,
 ⟨(some 9), (.move (.t 49)), none, none⟩])
 (.seq
 (.region [] [] [5, 0, 13, 29, 1, 7, 9, 6, 8, 61, 4] [
 ⟨(some 50), (.move (.t 7)), none, none⟩,
 ⟨(some 51), (.un .not (.t 50)), none, none⟩,
 ⟨(some 52), (.move (.t 51)), none, none⟩,
 ⟨(some 53), (.move (.t 9)), some (52, false), none⟩,
 ⟨(some 54), (.un .not (.t 53)), some (52, false), none⟩,
 ⟨(some 55), (.pick (.t 52) (.k (rB true)) (.t 54)), none, none⟩,
 ⟨(some 56), (.move (.t 55)), none, none⟩,
 ⟨(some 57), (.load (some 3) (.t 6)), some (56, false), none⟩,
 ⟨(some 58), (.load (some 3) (.t 8)), some (56, false), none⟩,
 ⟨(some 59), (.callp (.k (rF 168)) [(.k (rI .i8 1)), (.t 57), (.t 58)]), some (56, false), none⟩,
 ⟨(some 60), (.un .not (.t 59)), some (56, false), none⟩,
 ⟨(some 61), (.pick (.t 56) (.k (rB true)) (.t 60)), none, none⟩])
 (.cond (.t 61)
 (.seq
 (.region [] [] [5, 0, 13, 29, 1, 7, 9, 6, 8, 61, 4] [
 ⟨(some 4), (.move (.k (rB false))), none, none⟩])
 .ret)
 .skip))))))
 (.region [] [] [5, 0, 13, 29, 1, 7, 9, 6, 8, 61, 4] [
 ⟨(some 14), (.move (.t 5)), none, none⟩,
 ⟨(some 15), (.bin .add (.t 14) (.k (rI .i64 1))), none, none⟩,
 ⟨(some 5), (.move (.t 15)), none, none⟩])))

/-- pedigree/pedigreelaw07.equal -/
def ic2071 : IC :=
 (.seq
 (.region [] [] [5, 0, 13, 29, 1, 7, 9, 6, 8, 61, 4] [
 ⟨(some 4), (.move (.k (rB false))), none, none⟩])
 (.seq
 (.seq
 (.region [] [] [5, 0, 13, 29, 1, 7, 9, 6, 8, 61, 4] [
 ⟨(some 5), (.move (.k (rI .i64 0))), none, none⟩])
 (.block 0
 (.loop ic2071l0)))
 (.seq
 (.region [] [] [5, 0, 13, 29, 1, 7, 9, 6, 8, 61, 4] [
 ⟨(some 4), (.move (.k (rB true))), none, none⟩])
 .ret)))
def ir2071 : List IRes := [.tmp 4]
theorem ie2071 : cmpFunc Go.Proofs.Tryz.prog ⟨[], []⟩ Go.Proofs.Tryz.f71 [5, 0, 13, 29, 1, 7, 9, 6, 8, 61, 4] = some ic2071 := by kernel_rfl
theorem ig2071 : cmpRes Go.Proofs.Tryz.prog Go.Proofs.Tryz.f71.results.toList = some ir2071 := by kernel_rfl


/-- pedigree/pedigreelaw07.bound -/
def ic2072 : IC :=
 (.seq
 (.region [4] [] [0, 1, 4, 5] [
 ⟨(some 4), (.zero 71 [(.c (.v (.int .i8 0))), (.c (.v (.int .i64 0))), (.c (.v (.string (bs []))))]), none, none⟩,
 ⟨(some 5), (.move (.k (rB false))), none, none⟩])
 (.seq
 (.region [] [] [0, 1, 4, 5] [
 ⟨(some 6), (.move (.t 0)), none, none⟩,
 ⟨(some 7), (.move (.t 1)), none, none⟩,
 ⟨(some 8), (.build [(.c (.v (.string (bs [])))), (.c (.v (.int .i8 0))), (.c (.v (.int .i64 0))), (.c (.v (.string (bs []))))] [(0, 1, (.t 7))]), none, none⟩,
 ⟨(some 9), (.callp (.k (rF 169)) [(.t 6), (.t 8)]), none, none⟩,
 ⟨(some 10), (.ext (.t 9) 0), none, none⟩,
 ⟨(some 11), (.ext (.t 9) 1), none, none⟩,
 ⟨none, (.store (some 3) (.t 4) (.t 10)), none, none⟩,
 ⟨(some 5), (.move (.t 11)), none, none⟩])
 .ret))
def ir2072 : List IRes := [.cell 4 (some 3), .tmp 5]
theorem ie2072 : cmpFunc Go.Proofs.Tryz.prog ⟨[], []⟩ Go.Proofs.Tryz.f72 [0, 1, 4, 5] = some ic2072 := by kernel_rfl
theorem ig2072 : cmpRes Go.Proofs.Tryz.prog Go.Proofs.Tryz.f72.results.toList = some ir2072 := by kernel_rfl


/-- pedigree/value.Holds -/
def ic2168 : IC :=
 (.seq
 (.region [4, 5] [] [1, 2, 4, 5, 15, 0, 19, 20, 7, 24, 28, 32, 36, 40, 6] [
 ⟨(some 4), (.box 71 (.t 1)), none, none⟩,
 ⟨(some 5), (.box 71 (.t 2)), none, none⟩,
 ⟨(some 6), (.move (.k (rB false))), none, none⟩])
 (.seq
 (.seq
 (.region [] [] [1, 2, 4, 5, 15, 0, 19, 20, 7, 24, 28, 32, 36, 40, 6] [
 ⟨(some 8), (.load (some 3) (.t 4)), none, none⟩,
 ⟨(some 9), (.callp (.k (rF 204)) [(.t 8)]), none, none⟩,
 ⟨(some 10), (.bin .neq (.t 9) (.k (rI .i64 0))), none, none⟩,
 ⟨(some 11), (.move (.t 10)), none, none⟩,
 ⟨(some 12), (.load (some 3) (.t 5)), some (11, false), none⟩,
 ⟨(some 13), (.callp (.k (rF 204)) [(.t 12)]), some (11, false), none⟩,
 ⟨(some 14), (.bin .neq (.t 13) (.k (rI .i64 0))), some (11, false), none⟩,
 ⟨(some 15), (.pick (.t 11) (.k (rB true)) (.t 14)), none, none⟩])
 (.cond (.t 15)
 (.seq
 (.region [] [] [1, 2, 4, 5, 15, 0, 19, 20, 7, 24, 28, 32, 36, 40, 6] [
 ⟨(some 6), (.move (.k (rB false))), none, none⟩])
 .ret)
 .skip))
 (.seq
 (.region [] [] [1, 2, 4, 5, 15, 0, 19, 20, 7, 24, 28, 32, 36, 40, 6] [
 ⟨(some 16), (.load (some 3) (.t 4)), none, none⟩,
 ⟨(some 17), (.load (some 3) (.t 5)), none, none⟩,
 ⟨(some 18), (.callp (.k (rF 246)) [(.t 16), (.t 17)]), none, none⟩,
 ⟨(some 7), (.move (.t 18)), none, none⟩])
 (.seq
 (.seq
 (.region [] [] [1, 2, 4, 5, 15, 0, 19, 20, 7, 24, 28, 32, 36, 40, 6] [
 ⟨(some 19), (.move (.t 0)), none, none⟩])
 (.block 0
 (.seq
 (.region [] [] [1, 2, 4, 5, 15, 0, 19, 20, 7, 24, 28, 32, 36, 40, 6] [
 ⟨(some 21), (.bin .eql (.t 19) (.k (rI .i8 1))), none, none⟩,
 ⟨(some 20), (.move (.t 21)), none, none⟩])
 (.cond (.t 20)
 (.seq
 (.region [] [] [1, 2, 4, 5, 15, 0, 19, 20, 7, 24, 28, 32, 36, 40, 6] [
 ⟨(some 22), (.move (.t 7)), none, none⟩,
 ⟨(some 23), (.bin .eql (.t 22) (.k (rI .i64 0))), none, none⟩,
 ⟨(some 6), (.move (.t 23)), none, none⟩])
 .ret)
 (.seq
 (.region [] [] [1, 2, 4, 5, 15, 0, 19, 20, 7, 24, 28, 32, 36, 40, 6] [
 ⟨(some 25), (.bin .eql (.t 19) (.k (rI .i8 2))), none, none⟩,
 ⟨(some 24), (.move (.t 25)), none, none⟩])
 (.cond (.t 24)
 (.seq
 (.region [] [] [1, 2, 4, 5, 15, 0, 19, 20, 7, 24, 28, 32, 36, 40, 6] [
 ⟨(some 26), (.move (.t 7)), none, none⟩,
 ⟨(some 27), (.bin .neq (.t 26) (.k (rI .i64 0))), none, none⟩,
 ⟨(some 6), (.move (.t 27)), none, none⟩])
 .ret)
 (.seq
 (.region [] [] [1, 2, 4, 5, 15, 0, 19, 20, 7, 24, 28, 32, 36, 40, 6] [
 ⟨(some 29), (.bin .eql (.t 19) (.k (rI .i8 3))), none, none⟩,
 ⟨(some 28), (.move (.t 29)), none, none⟩])
 (.cond (.t 28)
 (.seq
 (.region [] [] [1, 2, 4, 5, 15, 0, 19, 20, 7, 24, 28, 32, 36, 40, 6] [
 ⟨(some 30), (.move (.t 7)), none, none⟩,
 ⟨(some 31), (.bin .lss (.t 30) (.k (rI .i64 0))), none, none⟩,
 ⟨(some 6), (.move (.t 31)), none, none⟩])
 .ret)
 (.seq
 (.region [] [] [1, 2, 4, 5, 15, 0, 19, 20, 7, 24, 28, 32, 36, 40, 6] [
 ⟨(some 33), (.bin .eql (.t 19) (.k (rI .i8 4))), none, none⟩,
 ⟨(some 32), (.move (.t 33)), none, none⟩])
 (.cond (.t 32)
 (.seq
 (.region [] [] [1, 2, 4, 5, 15, 0, 19, 20, 7, 24, 28, 32, 36, 40, 6] [
 ⟨(some 34), (.move (.t 7)), none, none⟩,
 ⟨(some 35), (.bin .leq (.t 34) (.k (rI .i64 0))), none, none⟩,
 ⟨(some 6), (.move (.t 35)), none, none⟩])
 .ret)
 (.seq
 (.region [] [] [1, 2, 4, 5, 15, 0, 19, 20, 7, 24, 28, 32, 36, 40, 6] [
 ⟨(some 37), (.bin .eql (.t 19) (.k (rI .i8 5))), none, none⟩,
 ⟨(some 36), (.move (.t 37)), none, none⟩])
 (.cond (.t 36)
 (.seq
 (.region [] [] [1, 2, 4, 5, 15, 0, 19, 20, 7, 24, 28, 32, 36, 40, 6] [
 ⟨(some 38), (.move (.t 7)), none, none⟩,
 ⟨(some 39), (.bin .gtr (.t 38) (.k (rI .i64 0))), none, none⟩,
 ⟨(some 6), (.move (.t 39)), none, none⟩])
 .ret)
 (.seq
 (.region [] [] [1, 2, 4, 5, 15, 0, 19, 20, 7, 24, 28, 32, 36, 40, 6] [
 ⟨(some 41), (.bin .eql (.t 19) (.k (rI .i8 6))), none, none⟩,
 ⟨(some 40), (.move (.t 41)), none, none⟩])
 (.cond (.t 40)
 (.seq
 (.region [] [] [1, 2, 4, 5, 15, 0, 19, 20, 7, 24, 28, 32, 36, 40, 6] [
 ⟨(some 42), (.move (.t 7)), none, none⟩,
 ⟨(some 43), (.bin .geq (.t 42) (.k (rI .i64 0))), none, none⟩,
 ⟨(some 6), (.move (.t 43)), none, none⟩])
 .ret)
 .skip))))))))))))))
 (.seq
 (.region [] [] [1, 2, 4, 5, 15, 0, 19, 20, 7, 24, 28, 32, 36, 40, 6] [
 ⟨(some 6), (.move (.k (rB false))), none, none⟩])
 .ret)))))
def ir2168 : List IRes := [.tmp 6]
theorem ie2168 : cmpFunc Go.Proofs.Tryz.prog ⟨[], []⟩ Go.Proofs.Tryz.f168 [1, 2, 4, 5, 15, 0, 19, 20, 7, 24, 28, 32, 36, 40, 6] = some ic2168 := by kernel_rfl
theorem ig2168 : cmpRes Go.Proofs.Tryz.prog Go.Proofs.Tryz.f168.results.toList = some ir2168 := by kernel_rfl


/-- pedigree/value.Compare -/
def ic2246 : IC :=
 (.seq
 (.region [2, 3] [] [0, 1, 2, 3, 4] [
 ⟨(some 2), (.box 71 (.t 0)), none, none⟩,
 ⟨(some 3), (.box 71 (.t 1)), none, none⟩,
 ⟨(some 4), (.move (.k (rI .i64 0))), none, none⟩])
 (.seq
 (.region [20] [] [0, 1, 2, 3, 4] [
 ⟨(some 5), (.faddr 0 (.t 2)), none, none⟩,
 ⟨(some 6), (.load none (.t 5)), none, none⟩,
 ⟨(some 7), (.faddr 0 (.t 3)), none, none⟩,
 ⟨(some 8), (.load none (.t 7)), none, none⟩,
 ⟨(some 9), (.callp (.k (rF 293)) [(.t 6), (.t 8)]), none, none⟩,
 ⟨(some 10), (.faddr 1 (.t 2)), none, none⟩,
 ⟨(some 11), (.load none (.t 10)), none, none⟩,
 ⟨(some 12), (.faddr 1 (.t 3)), none, none⟩,
 ⟨(some 13), (.load none (.t 12)), none, none⟩,
 ⟨(some 14), (.callp (.k (rF 294)) [(.t 11), (.t 13)]), none, none⟩,
 ⟨(some 15), (.faddr 2 (.t 2)), none, none⟩,
 ⟨(some 16), (.load none (.t 15)), none, none⟩,
 ⟨(some 17), (.faddr 2 (.t 3)), none, none⟩,
 ⟨(some 18), (.load none (.t 17)), none, none⟩,
 ⟨(some 19), (.callp (.k (rF 295)) [(.t 16), (.t 18)]), none, none⟩,
 ⟨(some 20), (.row 3 1 [(.t 9), (.t 14), (.t 19)]), none, none⟩,
 ⟨(some 21), (.callp (.k (rF 292)) [(.t 20)]), none, none⟩,
 ⟨(some 4), (.move (.t 21)), none, none⟩])
 .ret))
def ir2246 : List IRes := [.tmp 4]
theorem ie2246 : cmpFunc Go.Proofs.Tryz.prog ⟨[], []⟩ Go.Proofs.Tryz.f246 [0, 1, 2, 3, 4] = some ic2246 := by kernel_rfl
theorem ig2246 : cmpRes Go.Proofs.Tryz.prog Go.Proofs.Tryz.f246.results.toList = some ir2246 := by kernel_rfl

def ic2292l0 : IC :=
 (.seq
 (.region [] [] [0, 8, 7, 9, 6, 5, 3, 14, 2] [
 ⟨(some 9), (.bin .lss (.t 8) (.t 7)), none, none⟩])
 (.seq
 (.cond (.t 9)
 .skip
 (.exit 0))
 (.seq
 (.block 1
 (.seq
 (.region [] [] [0, 8, 7, 9, 6, 5, 3, 14, 2] [
 ⟨(some 10), (.iaddr 1 (.t 6) (.t 8)), none, none⟩,
 ⟨(some 11), (.load none (.t 10)), none, none⟩,
 ⟨(some 5), (.move (.t 11)), none, none⟩])
 (.seq
 (.region [] [] [0, 8, 7, 9, 6, 5, 3, 14, 2] [
 ⟨(some 12), (.move (.t 5)), none, none⟩,
 ⟨(some 13), (.move (.t 3)), none, none⟩,
 ⟨(some 14), (.bin .neq (.t 12) (.t 13)), none, none⟩])
 (.cond (.t 14)
 (.seq
 (.region [] [] [0, 8, 7, 9, 6, 5, 3, 14, 2] [
 ⟨(some 15), (.move (.t 5)), none, none⟩,
 ⟨(some 2), (.move (.t 15)), none, none⟩])
 .ret)
 .skip))))
 (.region [] [] [0, 8, 7, 9, 6, 5, 3, 14, 2] [
 ⟨(some 16), (.bin .add (.t 8) (.k (rI .i64 1))), none, none⟩,
 ⟨(some 8), (.move (.t 16)), none, none⟩]))))

/-- cmp.Or[int] -/
def ic2292 : IC :=
 (.seq
 (.region [] [] [0, 8, 7, 9, 6, 5, 3, 14, 2] [
 ⟨(some 2), (.move (.k (rI .i64 0))), none, none⟩])
 (.seq
 (.region [] [] [0, 8, 7, 9, 6, 5, 3, 14, 2] [
 ⟨(some 3), (.move (.k (rI .i64 0))), none, none⟩])
 (.seq
 (.seq
 (.region [] [] [0, 8, 7, 9, 6, 5, 3, 14, 2] [
 ⟨(some 6), (.move (.t 0)), none, none⟩,
 ⟨(some 7), (.len (.t 6)), none, none⟩,
 ⟨(some 8), (.move (.k (rI .i64 0))), none, none⟩])
 (.block 0
 (.loop ic2292l0)))
 (.seq
 (.region [] [] [0, 8, 7, 9, 6, 5, 3, 14, 2] [
 ⟨(some 17), (.move (.t 3)), none, none⟩,
 ⟨(some 2), (.move (.t 17)), none, none⟩])
 .ret))))
def ir2292 : List IRes := [.tmp 2]
theorem ie2292 : cmpFunc Go.Proofs.Tryz.prog ⟨[], []⟩ Go.Proofs.Tryz.f292 [0, 8, 7, 9, 6, 5, 3, 14, 2] = some ic2292 := by kernel_rfl
theorem ig2292 : cmpRes Go.Proofs.Tryz.prog Go.Proofs.Tryz.f292.results.toList = some ir2292 := by kernel_rfl


/-- cmp.Compare[pedigree/api.Kind] -/
def ic2293 : IC :=
 (.seq
 (.region [] [] [0, 1, 5, 11, 6, 12, 13, 16, 19, 4] [
 ⟨(some 4), (.move (.k (rI .i64 0))), none, none⟩])
 (.seq
 (.region [] [] [0, 1, 5, 11, 6, 12, 13, 16, 19, 4] [
 ⟨(some 7), (.move (.t 0)), none, none⟩,
 ⟨(some 8), (.callp (.k (rF 331)) [(.t 7)]), none, none⟩,
 ⟨(some 5), (.move (.t 8)), none, none⟩])
 (.seq
 (.region [] [] [0, 1, 5, 11, 6, 12, 13, 16, 19, 4] [
 ⟨(some 9), (.move (.t 1)), none, none⟩,
 ⟨(some 10), (.callp (.k (rF 331)) [(.t 9)]), none, none⟩,
 ⟨(some 6), (.move (.t 10)), none, none⟩])
 (.seq
 (.seq
 (.region [] [] [0, 1, 5, 11, 6, 12, 13, 16, 19, 4] [
 ⟨(some 11), (.move (.t 5)), none, none⟩])
 (.cond (.t 11)
 (.seq
 (.seq
 (.region [] [] [0, 1, 5, 11, 6, 12, 13, 16, 19, 4] [
 ⟨(some 12), (.move (.t 6)), none, none⟩])
 (.cond (.t 12)
 (.seq
 (.region [] [] [0, 1, 5, 11, 6, 12, 13, 16, 19, 4] [
 ⟨(some 4), (.move (.k (rI .i64 0))), none, none⟩])
 .ret)
 .skip))
 (.seq
 (.region [] [] [0, 1, 5, 11, 6, 12, 13, 16, 19, 4] [
 ⟨(some 4), (.move (.k (rI .i64 (-1)))), none, none⟩])
 .ret))
 .skip))
 (.seq
 (.seq
 (.region [] [] [0, 1, 5, 11, 6, 12, 13, 16, 19, 4] [
 ⟨(some 13), (.move (.t 6)), none, none⟩])
 (.cond (.t 13)
 (.seq
 (.region [] [] [0, 1, 5, 11, 6, 12, 13, 16, 19, 4] [
 ⟨(some 4), (.move (.k (rI .i64 1))), none, none⟩])
 .ret)
 .skip))
 (.seq
 (.seq
 (.region [] [] [0, 1, 5, 11, 6, 12, 13, 16, 19, 4] [
 ⟨(some 14), (.move (.t 0)), none, none⟩,
 ⟨(some 15), (.move (.t 1)), none, none⟩,
 ⟨(some 16), (.bin .lss (.t 14) (.t 15)), none, none⟩])
 (.cond (.t 16)
 (.seq
 (.region [] [] [0, 1, 5, 11, 6, 12, 13, 16, 19, 4] [
 ⟨(some 4), (.move (.k (rI .i64 (-1)))), none, none⟩])
 .ret)
 .skip))
 (.seq
 (.seq
 (.region [] [] [0, 1, 5, 11, 6, 12, 13, 16, 19, 4] [
 ⟨(some 17), (.move (.t 0)), none, none⟩,
 ⟨(some 18), (.move (.t 1)), none, none⟩,
 ⟨(some 19), (.bin .gtr (.t 17) (.t 18)), none, none⟩])
 (.cond (.t 19)
 (.seq
 (.region [] [] [0, 1, 5, 11, 6, 12, 13, 16, 19, 4] [
 ⟨(some 4), (.move (.k (rI .i64 1))), none, none⟩])
 .ret)
 .skip))
 (.seq
 (.region [] [] [0, 1, 5, 11, 6, 12, 13, 16, 19, 4] [
 ⟨(some 4), (.move (.k (rI .i64 0))), none, none⟩])
 .ret))))))))
def ir2293 : List IRes := [.tmp 4]
theorem ie2293 : cmpFunc Go.Proofs.Tryz.prog ⟨[], []⟩ Go.Proofs.Tryz.f293 [0, 1, 5, 11, 6, 12, 13, 16, 19, 4] = some ic2293 := by kernel_rfl
theorem ig2293 : cmpRes Go.Proofs.Tryz.prog Go.Proofs.Tryz.f293.results.toList = some ir2293 := by kernel_rfl


/-- cmp.Compare[int64] -/
def ic2294 : IC :=
 (.seq
 (.region [] [] [0, 1, 5, 11, 6, 12, 13, 16, 19, 4] [
 ⟨(some 4), (.move (.k (rI .i64 0))), none, none⟩])
 (.seq
 (.region [] [] [0, 1, 5, 11, 6, 12, 13, 16, 19, 4] [
 ⟨(some 7), (.move (.t 0)), none, none⟩,
 ⟨(some 8), (.callp (.k (rF 332)) [(.t 7)]), none, none⟩,
 ⟨(some 5), (.move (.t 8)), none, none⟩])
 (.seq
 (.region [] [] [0, 1, 5, 11, 6, 12, 13, 16, 19, 4] [
 ⟨(some 9), (.move (.t 1)), none, none⟩,
 ⟨(some 10), (.callp (.k (rF 332)) [(.t 9)]), none, none⟩,
 ⟨(some 6), (.move (.t 10)), none, none⟩])
 (.seq
 (.seq
 (.region [] [] [0, 1, 5, 11, 6, 12, 13, 16, 19, 4] [
 ⟨(some 11), (.move (.t 5)), none, none⟩])
 (.cond (.t 11)
 (.seq
 (.seq
 (.region [] [] [0, 1, 5, 11, 6, 12, 13, 16, 19, 4] [
 ⟨(some 12), (.move (.t 6)), none, none⟩])
 (.cond (.t 12)
 (.seq
 (.region [] [] [0, 1, 5, 11, 6, 12, 13, 16, 19, 4] [
 ⟨(some 4), (.move (.k (rI .i64 0))), none, none⟩])
 .ret)
 .skip))
 (.seq
 (.region [] [] [0, 1, 5, 11, 6, 12, 13, 16, 19, 4] [
 ⟨(some 4), (.move (.k (rI .i64 (-1)))), none, none⟩])
 .ret))
 .skip))
 (.seq
 (.seq
 (.region [] [] [0, 1, 5, 11, 6, 12, 13, 16, 19, 4] [
 ⟨(some 13), (.move (.t 6)), none, none⟩])
 (.cond (.t 13)
 (.seq
 (.region [] [] [0, 1, 5, 11, 6, 12, 13, 16, 19, 4] [
 ⟨(some 4), (.move (.k (rI .i64 1))), none, none⟩])
 .ret)
 .skip))
 (.seq
 (.seq
 (.region [] [] [0, 1, 5, 11, 6, 12, 13, 16, 19, 4] [
 ⟨(some 14), (.move (.t 0)), none, none⟩,
 ⟨(some 15), (.move (.t 1)), none, none⟩,
 ⟨(some 16), (.bin .lss (.t 14) (.t 15)), none, none⟩])
 (.cond (.t 16)
 (.seq
 (.region [] [] [0, 1, 5, 11, 6, 12, 13, 16, 19, 4] [
 ⟨(some 4), (.move (.k (rI .i64 (-1)))), none, none⟩])
 .ret)
 .skip))
 (.seq
 (.seq
 (.region [] [] [0, 1, 5, 11, 6, 12, 13, 16, 19, 4] [
 ⟨(some 17), (.move (.t 0)), none, none⟩,
 ⟨(some 18), (.move (.t 1)), none, none⟩,
 ⟨(some 19), (.bin .gtr (.t 17) (.t 18)), none, none⟩])
 (.cond (.t 19)
 (.seq
 (.region [] [] [0, 1, 5, 11, 6, 12, 13, 16, 19, 4] [
 ⟨(some 4), (.move (.k (rI .i64 1))), none, none⟩])
 .ret)
 .skip))
 (.seq
 (.region [] [] [0, 1, 5, 11, 6, 12, 13, 16, 19, 4] [
 ⟨(some 4), (.move (.k (rI .i64 0))), none, none⟩])
 .ret))))))))
def ir2294 : List IRes := [.tmp 4]
theorem ie2294 : cmpFunc Go.Proofs.Tryz.prog ⟨[], []⟩ Go.Proofs.Tryz.f294 [0, 1, 5, 11, 6, 12, 13, 16, 19, 4] = some ic2294 := by kernel_rfl
theorem ig2294 : cmpRes Go.Proofs.Tryz.prog Go.Proofs.Tryz.f294.results.toList = some ir2294 := by kernel_rfl


/-- cmp.isNaN[pedigree/api.Kind] -/
def ic2331 : IC :=
 (.seq
 (.region [] [] [0, 2] [
 ⟨(some 2), (.move (.k (rB false))), none, none⟩])
 (.seq
 (.region [] [] [0, 2] [
 ⟨(some 3), (.move (.t 0)), none, none⟩,
 ⟨(some 4), (.move (.t 0)), none, none⟩,
 ⟨(some 5), (.bin .neq (.t 3) (.t 4)), none, none⟩,
 ⟨(some 2), (.move (.t 5)), none, none⟩])
 .ret))
def ir2331 : List IRes := [.tmp 2]
theorem ie2331 : cmpFunc Go.Proofs.Tryz.prog ⟨[], []⟩ Go.Proofs.Tryz.f331 [0, 2] = some ic2331 := by kernel_rfl
theorem ig2331 : cmpRes Go.Proofs.Tryz.prog Go.Proofs.Tryz.f331.results.toList = some ir2331 := by kernel_rfl


/-- cmp.isNaN[int64] -/
def ic2332 : IC :=
 (.seq
 (.region [] [] [0, 2] [
 ⟨(some 2), (.move (.k (rB false))), none, none⟩])
 (.seq
 (.region [] [] [0, 2] [
 ⟨(some 3), (.move (.t 0)), none, none⟩,
 ⟨(some 4), (.move (.t 0)), none, none⟩,
 ⟨(some 5), (.bin .neq (.t 3) (.t 4)), none, none⟩,
 ⟨(some 2), (.move (.t 5)), none, none⟩])
 .ret))
def ir2332 : List IRes := [.tmp 2]
theorem ie2332 : cmpFunc Go.Proofs.Tryz.prog ⟨[], []⟩ Go.Proofs.Tryz.f332 [0, 2] = some ic2332 := by kernel_rfl
theorem ig2332 : cmpRes Go.Proofs.Tryz.prog Go.Proofs.Tryz.f332.results.toList = some ir2332 := by kernel_rfl

end Go.Proofs.YtiomojlcnemnhaaGreatDoor

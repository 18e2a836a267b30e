import Derived.Test.YtiomojlcnemnhaaDoorKFxWb
import Derived.Test.YtiomojlcnemnhaaDoorProg
import Derived.KernelRfl
import Derived.Test.YtiomojlcnemnhaaDoorKDxM8
/- Functions of the seat, as the small language has them. -/
namespace Go.Proofs.YtiomojlcnemnhaaDoor
open Go.Fx

/-- pedigree/pedigreeref04.CheckAtom -/
def ic20 : IC :=
 (.seq
 (.region [1] [] [0, 1, 2] [
 ⟨(some 1), (.box 24 (.t 0)), none, none⟩,
 ⟨(some 2), (.move (.k (rI .i64 0))), none, none⟩])
 (.seq
 (.region [] [] [0, 1, 2] [
 ⟨(some 3), (.load (some 2) (.t 1)), none, none⟩,
 ⟨(some 4), (.callp (.k (rF 91)) [(.t 3)]), none, none⟩,
 ⟨(some 5), (.callp (.k (rF 90)) [(.t 4)]), none, none⟩,
 ⟨(some 2), (.move (.t 5)), none, none⟩])
 .ret))
def ir20 : List IRes := [.tmp 2]
theorem ie20 : cmpFunc Go.Proofs.Tryd.prog ⟨[], []⟩ Go.Proofs.Tryd.f20 [0, 1, 2] = some ic20 := by kernel_rfl
theorem ig20 : cmpRes Go.Proofs.Tryd.prog Go.Proofs.Tryd.f20.results.toList = some ir20 := by kernel_rfl

/-- pedigree/pedigreeref04.said -/
def ic90 : IC :=
 (.seq
 (.region [] [] [0, 3, 2] [
 ⟨(some 2), (.move (.k (rI .i64 0))), none, none⟩])
 (.seq
 (.seq
 (.region [] [] [0, 3, 2] [
 ⟨(some 3), (.move (.t 0)), none, none⟩])
 (.cond (.t 3)
 (.seq
 (.region [] [] [0, 3, 2] [
 ⟨(some 2), (.move (.k (rI .i64 0))), none, none⟩])
 .ret)
 .skip))
 (.seq
 (.region [] [] [0, 3, 2] [
 ⟨(some 2), (.move (.k (rI .i64 40))), none, none⟩])
 .ret)))
def ir90 : List IRes := [.tmp 2]
theorem ie90 : cmpFunc Go.Proofs.Tryd.prog ⟨[], []⟩ Go.Proofs.Tryd.f90 [0, 3, 2] = some ic90 := by kernel_rfl
theorem ig90 : cmpRes Go.Proofs.Tryd.prog Go.Proofs.Tryd.f90.results.toList = some ir90 := by kernel_rfl


def ic126l0 : IC :=
 (.seq
 (.region [] [] [0, 12, 14, 15, 4, 21, 20, 22, 1, 5, 39, 38, 40, 6, 53, 54, 7, 74, 75, 8, 86, 85, 87, 9, 100, 101, 10, 107, 106, 108, 11] [
 ⟨(some 22), (.bin .lss (.t 21) (.t 20)), none, none⟩])
 (.seq
 (.cond (.t 22)
 .skip
 (.exit 1))
 (.seq
 (.block 2
 (.seq
 (.region [] [] [0, 12, 14, 15, 4, 21, 20, 22, 1, 5, 39, 38, 40, 6, 53, 54, 7, 74, 75, 8, 86, 85, 87, 9, 100, 101, 10, 107, 106, 108, 11] [
 ⟨(some 23), (.move (.t 21)), none, none⟩,
 ⟨(some 5), (.move (.t 23)), none, none⟩])
 (.region [] [] [0, 12, 14, 15, 4, 21, 20, 22, 1, 5, 39, 38, 40, 6, 53, 54, 7, 74, 75, 8, 86, 85, 87, 9, 100, 101, 10, 107, 106, 108, 11] [
 ⟨(some 24), (.move (.t 1)), none, none⟩,
 ⟨(some 25), (.move (.t 4)), none, none⟩,
 ⟨(some 26), (.nilchk (.t 25)), none, none⟩,
 ⟨(some 27), (.faddr 1 (.t 26)), none, none⟩,
 ⟨(some 28), (.load none (.t 27)), none, none⟩,
 ⟨(some 29), (.move (.t 5)), none, none⟩,
 ⟨(some 30), (.iaddr 5 (.t 28) (.t 29)), none, none⟩,
 ⟨(some 31), (.faddr 1 (.t 30)), none, none⟩,
 ⟨(some 32), (.call (.t 24) [(.t 31)]), none, none⟩])))
 (.region [] [] [0, 12, 14, 15, 4, 21, 20, 22, 1, 5, 39, 38, 40, 6, 53, 54, 7, 74, 75, 8, 86, 85, 87, 9, 100, 101, 10, 107, 106, 108, 11] [
 ⟨(some 33), (.bin .add (.t 21) (.k (rI .i64 1))), none, none⟩,
 ⟨(some 21), (.move (.t 33)), none, none⟩]))))

def ic126l1 : IC :=
 (.seq
 (.region [] [] [0, 12, 14, 15, 4, 21, 20, 22, 1, 5, 39, 38, 40, 6, 53, 54, 7, 74, 75, 8, 86, 85, 87, 9, 100, 101, 10, 107, 106, 108, 11] [
 ⟨(some 40), (.bin .lss (.t 39) (.t 38)), none, none⟩])
 (.seq
 (.cond (.t 40)
 .skip
 (.exit 3))
 (.seq
 (.block 4
 (.seq
 (.region [] [] [0, 12, 14, 15, 4, 21, 20, 22, 1, 5, 39, 38, 40, 6, 53, 54, 7, 74, 75, 8, 86, 85, 87, 9, 100, 101, 10, 107, 106, 108, 11] [
 ⟨(some 41), (.move (.t 39)), none, none⟩,
 ⟨(some 6), (.move (.t 41)), none, none⟩])
 (.region [] [] [0, 12, 14, 15, 4, 21, 20, 22, 1, 5, 39, 38, 40, 6, 53, 54, 7, 74, 75, 8, 86, 85, 87, 9, 100, 101, 10, 107, 106, 108, 11] [
 ⟨(some 42), (.move (.t 4)), none, none⟩,
 ⟨(some 43), (.nilchk (.t 42)), none, none⟩,
 ⟨(some 44), (.faddr 2 (.t 43)), none, none⟩,
 ⟨(some 45), (.load none (.t 44)), none, none⟩,
 ⟨(some 46), (.move (.t 6)), none, none⟩,
 ⟨(some 47), (.iaddr 16 (.t 45) (.t 46)), none, none⟩,
 ⟨(some 48), (.mki 184 (.t 47)), none, none⟩,
 ⟨(some 49), (.move (.t 1)), none, none⟩,
 ⟨(some 50), (.call (.k (rF 126)) [(.t 48), (.t 49)]), none, none⟩])))
 (.region [] [] [0, 12, 14, 15, 4, 21, 20, 22, 1, 5, 39, 38, 40, 6, 53, 54, 7, 74, 75, 8, 86, 85, 87, 9, 100, 101, 10, 107, 106, 108, 11] [
 ⟨(some 51), (.bin .add (.t 39) (.k (rI .i64 1))), none, none⟩,
 ⟨(some 39), (.move (.t 51)), none, none⟩]))))

def ic126l2 : IC :=
 (.seq
 (.region [] [] [0, 12, 14, 15, 4, 21, 20, 22, 1, 5, 39, 38, 40, 6, 53, 54, 7, 74, 75, 8, 86, 85, 87, 9, 100, 101, 10, 107, 106, 108, 11] [
 ⟨(some 87), (.bin .lss (.t 86) (.t 85)), none, none⟩])
 (.seq
 (.cond (.t 87)
 .skip
 (.exit 5))
 (.seq
 (.block 6
 (.seq
 (.region [] [] [0, 12, 14, 15, 4, 21, 20, 22, 1, 5, 39, 38, 40, 6, 53, 54, 7, 74, 75, 8, 86, 85, 87, 9, 100, 101, 10, 107, 106, 108, 11] [
 ⟨(some 88), (.move (.t 86)), none, none⟩,
 ⟨(some 9), (.move (.t 88)), none, none⟩])
 (.region [] [] [0, 12, 14, 15, 4, 21, 20, 22, 1, 5, 39, 38, 40, 6, 53, 54, 7, 74, 75, 8, 86, 85, 87, 9, 100, 101, 10, 107, 106, 108, 11] [
 ⟨(some 89), (.move (.t 8)), none, none⟩,
 ⟨(some 90), (.nilchk (.t 89)), none, none⟩,
 ⟨(some 91), (.faddr 5 (.t 90)), none, none⟩,
 ⟨(some 92), (.load none (.t 91)), none, none⟩,
 ⟨(some 93), (.move (.t 9)), none, none⟩,
 ⟨(some 94), (.iaddr 6 (.t 92) (.t 93)), none, none⟩,
 ⟨(some 95), (.mki 232 (.t 94)), none, none⟩,
 ⟨(some 96), (.move (.t 1)), none, none⟩,
 ⟨(some 97), (.call (.k (rF 126)) [(.t 95), (.t 96)]), none, none⟩])))
 (.region [] [] [0, 12, 14, 15, 4, 21, 20, 22, 1, 5, 39, 38, 40, 6, 53, 54, 7, 74, 75, 8, 86, 85, 87, 9, 100, 101, 10, 107, 106, 108, 11] [
 ⟨(some 98), (.bin .add (.t 86) (.k (rI .i64 1))), none, none⟩,
 ⟨(some 86), (.move (.t 98)), none, none⟩]))))

def ic126l3 : IC :=
 (.seq
 (.region [] [] [0, 12, 14, 15, 4, 21, 20, 22, 1, 5, 39, 38, 40, 6, 53, 54, 7, 74, 75, 8, 86, 85, 87, 9, 100, 101, 10, 107, 106, 108, 11] [
 ⟨(some 108), (.bin .lss (.t 107) (.t 106)), none, none⟩])
 (.seq
 (.cond (.t 108)
 .skip
 (.exit 7))
 (.seq
 (.block 8
 (.seq
 (.region [] [] [0, 12, 14, 15, 4, 21, 20, 22, 1, 5, 39, 38, 40, 6, 53, 54, 7, 74, 75, 8, 86, 85, 87, 9, 100, 101, 10, 107, 106, 108, 11] [
 ⟨(some 109), (.move (.t 107)), none, none⟩,
 ⟨(some 11), (.move (.t 109)), none, none⟩])
 (.region [] [] [0, 12, 14, 15, 4, 21, 20, 22, 1, 5, 39, 38, 40, 6, 53, 54, 7, 74, 75, 8, 86, 85, 87, 9, 100, 101, 10, 107, 106, 108, 11] [
 ⟨(some 110), (.move (.t 1)), none, none⟩,
 ⟨(some 111), (.move (.t 10)), none, none⟩,
 ⟨(some 112), (.nilchk (.t 111)), none, none⟩,
 ⟨(some 113), (.faddr 1 (.t 112)), none, none⟩,
 ⟨(some 114), (.load none (.t 113)), none, none⟩,
 ⟨(some 115), (.move (.t 11)), none, none⟩,
 ⟨(some 116), (.iaddr 4 (.t 114) (.t 115)), none, none⟩,
 ⟨(some 117), (.call (.t 110) [(.t 116)]), none, none⟩])))
 (.region [] [] [0, 12, 14, 15, 4, 21, 20, 22, 1, 5, 39, 38, 40, 6, 53, 54, 7, 74, 75, 8, 86, 85, 87, 9, 100, 101, 10, 107, 106, 108, 11] [
 ⟨(some 118), (.bin .add (.t 107) (.k (rI .i64 1))), none, none⟩,
 ⟨(some 107), (.move (.t 118)), none, none⟩]))))

/-- pedigree/term.walk -/
def ic126 : IC :=
 (.seq
 (.region [] [] [0, 12, 14, 15, 4, 21, 20, 22, 1, 5, 39, 38, 40, 6, 53, 54, 7, 74, 75, 8, 86, 85, 87, 9, 100, 101, 10, 107, 106, 108, 11] [
 ⟨(some 12), (.move (.t 0)), none, none⟩])
 (.block 0
 (.seq
 (.region [] [] [0, 12, 14, 15, 4, 21, 20, 22, 1, 5, 39, 38, 40, 6, 53, 54, 7, 74, 75, 8, 86, 85, 87, 9, 100, 101, 10, 107, 106, 108, 11] [
 ⟨(some 13), (.asrt 191 true true [(.c (.v (.pointer none)))] (.t 12)), none, none⟩,
 ⟨(some 14), (.ext (.t 13) 1), none, none⟩,
 ⟨(some 15), (.ext (.t 13) 0), none, none⟩])
 (.cond (.t 14)
 (.seq
 (.region [] [] [0, 12, 14, 15, 4, 21, 20, 22, 1, 5, 39, 38, 40, 6, 53, 54, 7, 74, 75, 8, 86, 85, 87, 9, 100, 101, 10, 107, 106, 108, 11] [
 ⟨(some 4), (.move (.t 15)), none, none⟩])
 (.seq
 (.seq
 (.region [] [] [0, 12, 14, 15, 4, 21, 20, 22, 1, 5, 39, 38, 40, 6, 53, 54, 7, 74, 75, 8, 86, 85, 87, 9, 100, 101, 10, 107, 106, 108, 11] [
 ⟨(some 16), (.move (.t 4)), none, none⟩,
 ⟨(some 17), (.nilchk (.t 16)), none, none⟩,
 ⟨(some 18), (.faddr 1 (.t 17)), none, none⟩,
 ⟨(some 19), (.load none (.t 18)), none, none⟩,
 ⟨(some 20), (.len (.t 19)), none, none⟩,
 ⟨(some 21), (.move (.k (rI .i64 0))), none, none⟩])
 (.block 1
 (.loop ic126l0)))
 (.seq
 (.region [] [] [0, 12, 14, 15, 4, 21, 20, 22, 1, 5, 39, 38, 40, 6, 53, 54, 7, 74, 75, 8, 86, 85, 87, 9, 100, 101, 10, 107, 106, 108, 11] [
 ⟨(some 34), (.move (.t 4)), none, none⟩,
 ⟨(some 35), (.nilchk (.t 34)), none, none⟩,
 ⟨(some 36), (.faddr 2 (.t 35)), none, none⟩,
 ⟨(some 37), (.load none (.t 36)), none, none⟩,
 ⟨(some 38), (.len (.t 37)), none, none⟩,
 ⟨(some 39), (.move (.k (rI .i64 0))), none, none⟩])
 (.block 3
 (.loop ic126l1)))))
 (.seq
 (.region [] [] [0, 12, 14, 15, 4, 21, 20, 22, 1, 5, 39, 38, 40, 6, 53, 54, 7, 74, 75, 8, 86, 85, 87, 9, 100, 101, 10, 107, 106, 108, 11] [
 ⟨(some 52), (.asrt 184 true true [(.c (.v (.pointer none)))] (.t 12)), none, none⟩,
 ⟨(some 53), (.ext (.t 52) 1), none, none⟩,
 ⟨(some 54), (.ext (.t 52) 0), none, none⟩])
 (.cond (.t 53)
 (.seq
 (.region [] [] [0, 12, 14, 15, 4, 21, 20, 22, 1, 5, 39, 38, 40, 6, 53, 54, 7, 74, 75, 8, 86, 85, 87, 9, 100, 101, 10, 107, 106, 108, 11] [
 ⟨(some 7), (.move (.t 54)), none, none⟩])
 (.seq
 (.region [] [] [0, 12, 14, 15, 4, 21, 20, 22, 1, 5, 39, 38, 40, 6, 53, 54, 7, 74, 75, 8, 86, 85, 87, 9, 100, 101, 10, 107, 106, 108, 11] [
 ⟨(some 55), (.move (.t 7)), none, none⟩,
 ⟨(some 56), (.nilchk (.t 55)), none, none⟩,
 ⟨(some 57), (.faddr 1 (.t 56)), none, none⟩,
 ⟨(some 58), (.mki 169 (.t 57)), none, none⟩,
 ⟨(some 59), (.move (.t 1)), none, none⟩,
 ⟨(some 60), (.call (.k (rF 126)) [(.t 58), (.t 59)]), none, none⟩])
 (.seq
 (.region [] [] [0, 12, 14, 15, 4, 21, 20, 22, 1, 5, 39, 38, 40, 6, 53, 54, 7, 74, 75, 8, 86, 85, 87, 9, 100, 101, 10, 107, 106, 108, 11] [
 ⟨(some 61), (.move (.t 7)), none, none⟩,
 ⟨(some 62), (.nilchk (.t 61)), none, none⟩,
 ⟨(some 63), (.faddr 4 (.t 62)), none, none⟩,
 ⟨(some 64), (.mki 232 (.t 63)), none, none⟩,
 ⟨(some 65), (.move (.t 1)), none, none⟩,
 ⟨(some 66), (.call (.k (rF 126)) [(.t 64), (.t 65)]), none, none⟩])
 (.region [] [] [0, 12, 14, 15, 4, 21, 20, 22, 1, 5, 39, 38, 40, 6, 53, 54, 7, 74, 75, 8, 86, 85, 87, 9, 100, 101, 10, 107, 106, 108, 11] [
 ⟨(some 67), (.move (.t 7)), none, none⟩,
 ⟨(some 68), (.nilchk (.t 67)), none, none⟩,
 ⟨(some 69), (.faddr 10 (.t 68)), none, none⟩,
 ⟨(some 70), (.mki 232 (.t 69)), none, none⟩,
 ⟨(some 71), (.move (.t 1)), none, none⟩,
 ⟨(some 72), (.call (.k (rF 126)) [(.t 70), (.t 71)]), none, none⟩]))))
 (.seq
 (.region [] [] [0, 12, 14, 15, 4, 21, 20, 22, 1, 5, 39, 38, 40, 6, 53, 54, 7, 74, 75, 8, 86, 85, 87, 9, 100, 101, 10, 107, 106, 108, 11] [
 ⟨(some 73), (.asrt 232 true true [(.c (.v (.pointer none)))] (.t 12)), none, none⟩,
 ⟨(some 74), (.ext (.t 73) 1), none, none⟩,
 ⟨(some 75), (.ext (.t 73) 0), none, none⟩])
 (.cond (.t 74)
 (.seq
 (.region [] [] [0, 12, 14, 15, 4, 21, 20, 22, 1, 5, 39, 38, 40, 6, 53, 54, 7, 74, 75, 8, 86, 85, 87, 9, 100, 101, 10, 107, 106, 108, 11] [
 ⟨(some 8), (.move (.t 75)), none, none⟩])
 (.seq
 (.region [] [] [0, 12, 14, 15, 4, 21, 20, 22, 1, 5, 39, 38, 40, 6, 53, 54, 7, 74, 75, 8, 86, 85, 87, 9, 100, 101, 10, 107, 106, 108, 11] [
 ⟨(some 76), (.move (.t 1)), none, none⟩,
 ⟨(some 77), (.move (.t 8)), none, none⟩,
 ⟨(some 78), (.nilchk (.t 77)), none, none⟩,
 ⟨(some 79), (.faddr 1 (.t 78)), none, none⟩,
 ⟨(some 80), (.call (.t 76) [(.t 79)]), none, none⟩])
 (.seq
 (.region [] [] [0, 12, 14, 15, 4, 21, 20, 22, 1, 5, 39, 38, 40, 6, 53, 54, 7, 74, 75, 8, 86, 85, 87, 9, 100, 101, 10, 107, 106, 108, 11] [
 ⟨(some 81), (.move (.t 8)), none, none⟩,
 ⟨(some 82), (.nilchk (.t 81)), none, none⟩,
 ⟨(some 83), (.faddr 5 (.t 82)), none, none⟩,
 ⟨(some 84), (.load none (.t 83)), none, none⟩,
 ⟨(some 85), (.len (.t 84)), none, none⟩,
 ⟨(some 86), (.move (.k (rI .i64 0))), none, none⟩])
 (.block 5
 (.loop ic126l2)))))
 (.seq
 (.region [] [] [0, 12, 14, 15, 4, 21, 20, 22, 1, 5, 39, 38, 40, 6, 53, 54, 7, 74, 75, 8, 86, 85, 87, 9, 100, 101, 10, 107, 106, 108, 11] [
 ⟨(some 99), (.asrt 169 true true [(.c (.v (.pointer none)))] (.t 12)), none, none⟩,
 ⟨(some 100), (.ext (.t 99) 1), none, none⟩,
 ⟨(some 101), (.ext (.t 99) 0), none, none⟩])
 (.cond (.t 100)
 (.seq
 (.region [] [] [0, 12, 14, 15, 4, 21, 20, 22, 1, 5, 39, 38, 40, 6, 53, 54, 7, 74, 75, 8, 86, 85, 87, 9, 100, 101, 10, 107, 106, 108, 11] [
 ⟨(some 10), (.move (.t 101)), none, none⟩])
 (.seq
 (.region [] [] [0, 12, 14, 15, 4, 21, 20, 22, 1, 5, 39, 38, 40, 6, 53, 54, 7, 74, 75, 8, 86, 85, 87, 9, 100, 101, 10, 107, 106, 108, 11] [
 ⟨(some 102), (.move (.t 10)), none, none⟩,
 ⟨(some 103), (.nilchk (.t 102)), none, none⟩,
 ⟨(some 104), (.faddr 1 (.t 103)), none, none⟩,
 ⟨(some 105), (.load none (.t 104)), none, none⟩,
 ⟨(some 106), (.len (.t 105)), none, none⟩,
 ⟨(some 107), (.move (.k (rI .i64 0))), none, none⟩])
 (.block 7
 (.loop ic126l3))))
 .skip))))))))))
def ir126 : List IRes := []
theorem ie126 : cmpFunc Go.Proofs.Tryd.prog ⟨[(32, none), (50, none), (60, none), (66, none), (72, none), (80, none), (97, none), (117, none)], []⟩ Go.Proofs.Tryd.f126 [0, 12, 14, 15, 4, 21, 20, 22, 1, 5, 39, 38, 40, 6, 53, 54, 7, 74, 75, 8, 86, 85, 87, 9, 100, 101, 10, 107, 106, 108, 11] = some ic126 := by kernel_rfl
theorem ig126 : cmpRes Go.Proofs.Tryd.prog Go.Proofs.Tryd.f126.results.toList = some ir126 := by kernel_rfl


end Go.Proofs.YtiomojlcnemnhaaDoor

/- Contracts, on: the program's variables. -/
namespace Go.Proofs.YtiomojlcnemnhaaDoor
open Go.Fx Go.RowKit Go.Ped
variable {G : World → Prop}

/-- What stands where a pointer points: a term. -/
def PtTo (es : List (List C)) (i off : Nat) (t : Tm) : Prop := ∃ r, es[i]? = some r ∧ (r.drop off).take 4 = t.row
theorem PtTo.at {es : List (List C)} {i off : Nat} {t : Tm} (h : PtTo es i off t) (j : Nat) (hj : j < 4) : (es[i]?.getD [])[off + j]? = t.row[j]? := by
  obtain ⟨r, h1, h2⟩ := h
  rw [h1, ← h2]
  simp [hj]
theorem PtTo.len {es : List (List C)} {i off : Nat} {t : Tm} (h : PtTo es i off t) : off + 4 ≤ (es[i]?.getD []).length := by
  obtain ⟨r, h1, h2⟩ := h
  have := congrArg List.length h2
  simp [Tm.row] at this
  rw [h1]; simp; omega

end Go.Proofs.YtiomojlcnemnhaaDoor

/- Contracts, on: the program's walk over the terms of a thing. -/
namespace Go.Proofs.YtiomojlcnemnhaaDoor
open Go.Fx Go.RowKit Go.Ped
variable {G : World → Prop}

theorem sameKeys_trans {H1 H2 H3 : FHp} (h : sameKeys H1 H2) (h' : sameKeys H2 H3) : sameKeys H1 H3 :=
  ⟨fun k => ⟨(h.1 k).1.trans (h'.1 k).1, (h.1 k).2.trans (h'.1 k).2⟩, h'.2.trans h.2⟩

/-- What a function does, handed the terms of a list one behind the other, to what it holds. -/
inductive Ch (G : World → Prop) (fv : A) : List Tm → FHp → FHp → Prop
  | nil (H : FHp) : Ch G fv [] H H
  | cons {t : Tm} {l : List Tm} {H H1 H2 : FHp} (h : ∀ es sp i off, PtTo es i off t → MeetsV Tryd.prog G fv [.one (.elem es sp i off)] (hp [] [] H) (.tup []) (hp [] [] H1)) (hs : sameKeys H H1) (hl : Ch G fv l H1 H2) : Ch G fv (t :: l) H H2
theorem Ch.same {fv : A} {l : List Tm} {H H' : FHp} (h : Ch G fv l H H') : sameKeys H H' := by
  induction h with
  | nil H => exact sameKeys_refl H
  | cons _ hs _ ih => exact sameKeys_trans hs ih
theorem Ch.app {fv : A} {l m : List Tm} {H H1 H2 : FHp} (h : Ch G fv l H H1) (h2 : Ch G fv m H1 H2) : Ch G fv (l ++ m) H H2 := by
  induction h with
  | nil H => exact h2
  | cons h hs _ ih => exact .cons h hs (ih h2)
theorem Ch.split {fv : A} : ∀ {l m : List Tm} {H H2 : FHp}, Ch G fv (l ++ m) H H2 → ∃ H1, Ch G fv l H H1 ∧ Ch G fv m H1 H2
  | [], _, H, _, h => ⟨H, .nil H, h⟩
  | _ :: l, m, _, _, h => by
    cases h with
    | cons h hs hl =>
      obtain ⟨H1, h1, h2⟩ := Ch.split hl
      exact ⟨H1, .cons h hs h1, h2⟩
theorem Ch.step {fv : A} {l : List Tm} {H H2 : FHp} {i : Nat} {t : Tm} (ht : l[i]? = some t) (h : Ch G fv (l.drop i) H H2) :
    ∃ H1, (∀ es sp j off, PtTo es j off t → MeetsV Tryd.prog G fv [.one (.elem es sp j off)] (hp [] [] H) (.tup []) (hp [] [] H1)) ∧ sameKeys H H1 ∧ Ch G fv (l.drop (i + 1)) H1 H2 := by
  obtain ⟨hi, rfl⟩ := List.getElem?_eq_some_iff.1 ht
  rw [List.drop_eq_getElem_cons hi] at h
  cases h with
  | cons h hs hl => exact ⟨_, h, hs, hl⟩

/-- A pointer to some cells. -/
def PtAt (es : List (List C)) (i off : Nat) (cs : List C) : Prop := ∃ r, es[i]? = some r ∧ (r.drop off).take cs.length = cs
theorem PtAt.len {es : List (List C)} {i off : Nat} {cs : List C} (h : PtAt es i off cs) : off + cs.length ≤ (es[i]?.getD []).length ∨ cs = [] := by
  obtain ⟨r, h1, h2⟩ := h
  have := congrArg List.length h2
  simp at this
  rw [h1]; simp
  by_cases hc : cs = []
  · exact .inr hc
  · left; have : 0 < cs.length := List.length_pos_iff.2 hc; omega
theorem PtAt.at {es : List (List C)} {i off : Nat} {cs : List C} (h : PtAt es i off cs) (j : Nat) (hj : j < cs.length) : (es[i]?.getD [])[off + j]? = some cs[j] := by
  obtain ⟨r, h1, h2⟩ := h
  rw [h1, ← List.getElem?_eq_getElem hj, ← h2]
  simp [hj]

section
variable {fv : A} {H H' : FHp} {Q : Exit → S → Prop} {t0 t12 t14 t15 t4 t21 t20 t22 t1 t5 t39 t38 t40 t6 t53 t54 t7 t74 t75 t8 t86 t85 t87 t9 t100 t101 t10 t107 t106 t108 t11 : T}

end

end Go.Proofs.YtiomojlcnemnhaaDoor

/- Contracts, on: the program's variables of a thing. -/
namespace Go.Proofs.YtiomojlcnemnhaaDoor
open Go.Fx Go.RowKit Go.Ped
variable {G : World → Prop}

end Go.Proofs.YtiomojlcnemnhaaDoor

/- Contracts, on: an atom's variables; the law on atoms. -/
namespace Go.Proofs.YtiomojlcnemnhaaDoor
open Go.Fx Go.RowKit Go.Ped
variable {G : World → Prop}

theorem m90 (b : Bool) : Meets Tryd.prog G 90 [.one (cB b)] (.x (.one (cI .i64 (if b then 0 else 40)))) := by
  refine meets Tryd.func90 ie90 ig90 (Nat.le_of_ble_eq_true rfl) ?_
  simp [ic90, ir90]

theorem m20 (p : Name) (l : List Tm) (sp : List (List C)) :
    Meets Tryd.prog G 20 [.agg [cS (bs p), .sl (l.map Tm.row) sp]] (.x (.one (cI .i64 (if atomOk p l then 0 else 40)))) := by
  refine meets Tryd.func20 ie20 ig20 (Nat.le_of_ble_eq_true rfl) ?_
  simp [ic20, ir20]
  refine r_call 91 true _ _ (m91 p l sp) rfl rfl rfl rfl ?_
  simp
  refine r_call 90 true _ _ (m90 _) rfl rfl rfl rfl ?_
  simp

end Go.Proofs.YtiomojlcnemnhaaDoor

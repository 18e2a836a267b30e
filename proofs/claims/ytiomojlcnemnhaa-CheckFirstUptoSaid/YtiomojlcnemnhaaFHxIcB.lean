/- Functions of the seat, as the small language has them. -/
import Derived.Test.YtiomojlcnemnhaaFFxWb
import Derived.Test.YtiomojlcnemnhaaProg
import Derived.KernelRfl
namespace Go.Proofs.Ytiomojlcnemnhaa
open Go.Fx

/-- pedigree/term.AtomVars -/
def ic46 : IC :=
 (.seq
 (.region [1] [] [0, 1, 2] [
 ⟨(some 1), (.box 122 (.t 0)), none, none⟩,
 ⟨(some 2), (.move (.k (.x (.one .nil)))), none, none⟩])
 (.seq
 (.region [] [.fz [1]] [0, 1, 2] [
 ⟨(some 3), (.mki 253 (.t 1)), none, none⟩,
 ⟨(some 4), (.call (.k (rF 120)) [(.t 3)]), none, none⟩,
 ⟨(some 2), (.move (.t 4)), none, none⟩])
 .ret))
def ir46 : List IRes := [.tmp 2]
theorem ie46 : cmpFunc Go.Proofs.Try.prog ⟨[(4, none)], [(3, .fz [1])]⟩ Go.Proofs.Try.f83 [0, 1, 2] = some ic46 := by kernel_rfl
theorem ig46 : cmpRes Go.Proofs.Try.prog Go.Proofs.Try.f83.results.toList = some ir46 := by kernel_rfl


/-- pedigree/term.vars -/
def ic118 : IC :=
 (.seq
 (.region [] [] [0, 4, 3, 2] [
 ⟨(some 2), (.move (.k (.x (.one .nil)))), none, none⟩])
 (.seq
 (.region [3] [] [0, 4, 3, 2] [
 ⟨(some 3), (.zero 117 [.nil]), none, none⟩])
 (.seq
 (.region [5, 4] [] [0, 4, 3, 2] [
 ⟨(some 5), (.mkmap .string 2 true), none, none⟩,
 ⟨(some 4), (.zero 191 [(.c (.v (.map none)))]), none, none⟩,
 ⟨none, (.store (some 1) (.t 4) (.t 5)), none, none⟩])
 (.seq
 (.region [] [.pm 30 3 9 1] [0, 4, 3, 2] [
 ⟨(some 6), (.move (.t 0)), none, none⟩,
 ⟨(some 7), (.clo 140 [] [(.t 4), (.t 3)]), none, none⟩,
 ⟨(some 8), (.call (.k (rF 139)) [(.t 6), (.t 7)]), none, none⟩])
 (.seq
 (.region [] [] [0, 4, 3, 2] [
 ⟨(some 9), (.load none (.t 3)), none, none⟩,
 ⟨(some 2), (.move (.t 9)), none, none⟩])
 .ret)))))
def ir118 : List IRes := [.tmp 2]
theorem ie118 : cmpFunc Go.Proofs.Try.prog ⟨[(8, none)], [(6, .pm 30 3 9 1)]⟩ Go.Proofs.Try.f120 [0, 4, 3, 2] = some ic118 := by kernel_rfl
theorem ig118 : cmpRes Go.Proofs.Try.prog Go.Proofs.Try.f120.results.toList = some ir118 := by kernel_rfl

abbrev ks126 (t0 t12 t14 t15 t4 t21 t20 t22 t1 t5 t39 t38 t40 t6 t53 t54 t7 t74 t75 t8 t86 t85 t87 t9 t100 t101 t10 t107 t106 t108 t11 : T) (O : List (Nat × Box)) (U : List (Nat × Tok)) (H : FHp) : S := st [(0, t0), (12, t12), (14, t14), (15, t15), (4, t4), (21, t21), (20, t20), (22, t22), (1, t1), (5, t5), (39, t39), (38, t38), (40, t40), (6, t6), (53, t53), (54, t54), (7, t7), (74, t74), (75, t75), (8, t8), (86, t86), (85, t85), (87, t87), (9, t9), (100, t100), (101, t101), (10, t10), (107, t107), (106, t106), (108, t108), (11, t11)] O U H
def ic126l0 : IC :=
 (.seq
 (.region [] [] [0, 12, 14, 15, 4, 21, 20, 22, 1, 5, 39, 38, 40, 6, 53, 54, 7, 74, 75, 8, 86, 85, 87, 9, 100, 101, 10, 107, 106, 108, 11] [
 ⟨(some 22), (.bin .lss (.t 21) (.t 20)), none, none⟩])
 (.seq
 (.cond (.t 22)
 .skip
 (.exit 1))
 (.seq
 (.block 2
 (.seq
 (.region [] [] [0, 12, 14, 15, 4, 21, 20, 22, 1, 5, 39, 38, 40, 6, 53, 54, 7, 74, 75, 8, 86, 85, 87, 9, 100, 101, 10, 107, 106, 108, 11] [
 ⟨(some 23), (.move (.t 21)), none, none⟩,
 ⟨(some 5), (.move (.t 23)), none, none⟩])
 (.region [] [] [0, 12, 14, 15, 4, 21, 20, 22, 1, 5, 39, 38, 40, 6, 53, 54, 7, 74, 75, 8, 86, 85, 87, 9, 100, 101, 10, 107, 106, 108, 11] [
 ⟨(some 24), (.move (.t 1)), none, none⟩,
 ⟨(some 25), (.move (.t 4)), none, none⟩,
 ⟨(some 26), (.nilchk (.t 25)), none, none⟩,
 ⟨(some 27), (.faddr 1 (.t 26)), none, none⟩,
 ⟨(some 28), (.load none (.t 27)), none, none⟩,
 ⟨(some 29), (.move (.t 5)), none, none⟩,
 ⟨(some 30), (.iaddr 5 (.t 28) (.t 29)), none, none⟩,
 ⟨(some 31), (.faddr 1 (.t 30)), none, none⟩,
 ⟨(some 32), (.call (.t 24) [(.t 31)]), none, none⟩])))
 (.region [] [] [0, 12, 14, 15, 4, 21, 20, 22, 1, 5, 39, 38, 40, 6, 53, 54, 7, 74, 75, 8, 86, 85, 87, 9, 100, 101, 10, 107, 106, 108, 11] [
 ⟨(some 33), (.bin .add (.t 21) (.k (rI .i64 1))), none, none⟩,
 ⟨(some 21), (.move (.t 33)), none, none⟩]))))

def ic126l1 : IC :=
 (.seq
 (.region [] [] [0, 12, 14, 15, 4, 21, 20, 22, 1, 5, 39, 38, 40, 6, 53, 54, 7, 74, 75, 8, 86, 85, 87, 9, 100, 101, 10, 107, 106, 108, 11] [
 ⟨(some 40), (.bin .lss (.t 39) (.t 38)), none, none⟩])
 (.seq
 (.cond (.t 40)
 .skip
 (.exit 3))
 (.seq
 (.block 4
 (.seq
 (.region [] [] [0, 12, 14, 15, 4, 21, 20, 22, 1, 5, 39, 38, 40, 6, 53, 54, 7, 74, 75, 8, 86, 85, 87, 9, 100, 101, 10, 107, 106, 108, 11] [
 ⟨(some 41), (.move (.t 39)), none, none⟩,
 ⟨(some 6), (.move (.t 41)), none, none⟩])
 (.region [] [] [0, 12, 14, 15, 4, 21, 20, 22, 1, 5, 39, 38, 40, 6, 53, 54, 7, 74, 75, 8, 86, 85, 87, 9, 100, 101, 10, 107, 106, 108, 11] [
 ⟨(some 42), (.move (.t 4)), none, none⟩,
 ⟨(some 43), (.nilchk (.t 42)), none, none⟩,
 ⟨(some 44), (.faddr 2 (.t 43)), none, none⟩,
 ⟨(some 45), (.load none (.t 44)), none, none⟩,
 ⟨(some 46), (.move (.t 6)), none, none⟩,
 ⟨(some 47), (.iaddr 16 (.t 45) (.t 46)), none, none⟩,
 ⟨(some 48), (.mki 294 (.t 47)), none, none⟩,
 ⟨(some 49), (.move (.t 1)), none, none⟩,
 ⟨(some 50), (.call (.k (rF 139)) [(.t 48), (.t 49)]), none, none⟩])))
 (.region [] [] [0, 12, 14, 15, 4, 21, 20, 22, 1, 5, 39, 38, 40, 6, 53, 54, 7, 74, 75, 8, 86, 85, 87, 9, 100, 101, 10, 107, 106, 108, 11] [
 ⟨(some 51), (.bin .add (.t 39) (.k (rI .i64 1))), none, none⟩,
 ⟨(some 39), (.move (.t 51)), none, none⟩]))))

def ic126l2 : IC :=
 (.seq
 (.region [] [] [0, 12, 14, 15, 4, 21, 20, 22, 1, 5, 39, 38, 40, 6, 53, 54, 7, 74, 75, 8, 86, 85, 87, 9, 100, 101, 10, 107, 106, 108, 11] [
 ⟨(some 87), (.bin .lss (.t 86) (.t 85)), none, none⟩])
 (.seq
 (.cond (.t 87)
 .skip
 (.exit 5))
 (.seq
 (.block 6
 (.seq
 (.region [] [] [0, 12, 14, 15, 4, 21, 20, 22, 1, 5, 39, 38, 40, 6, 53, 54, 7, 74, 75, 8, 86, 85, 87, 9, 100, 101, 10, 107, 106, 108, 11] [
 ⟨(some 88), (.move (.t 86)), none, none⟩,
 ⟨(some 9), (.move (.t 88)), none, none⟩])
 (.region [] [] [0, 12, 14, 15, 4, 21, 20, 22, 1, 5, 39, 38, 40, 6, 53, 54, 7, 74, 75, 8, 86, 85, 87, 9, 100, 101, 10, 107, 106, 108, 11] [
 ⟨(some 89), (.move (.t 8)), none, none⟩,
 ⟨(some 90), (.nilchk (.t 89)), none, none⟩,
 ⟨(some 91), (.faddr 5 (.t 90)), none, none⟩,
 ⟨(some 92), (.load none (.t 91)), none, none⟩,
 ⟨(some 93), (.move (.t 9)), none, none⟩,
 ⟨(some 94), (.iaddr 6 (.t 92) (.t 93)), none, none⟩,
 ⟨(some 95), (.mki 272 (.t 94)), none, none⟩,
 ⟨(some 96), (.move (.t 1)), none, none⟩,
 ⟨(some 97), (.call (.k (rF 139)) [(.t 95), (.t 96)]), none, none⟩])))
 (.region [] [] [0, 12, 14, 15, 4, 21, 20, 22, 1, 5, 39, 38, 40, 6, 53, 54, 7, 74, 75, 8, 86, 85, 87, 9, 100, 101, 10, 107, 106, 108, 11] [
 ⟨(some 98), (.bin .add (.t 86) (.k (rI .i64 1))), none, none⟩,
 ⟨(some 86), (.move (.t 98)), none, none⟩]))))

def ic126l3 : IC :=
 (.seq
 (.region [] [] [0, 12, 14, 15, 4, 21, 20, 22, 1, 5, 39, 38, 40, 6, 53, 54, 7, 74, 75, 8, 86, 85, 87, 9, 100, 101, 10, 107, 106, 108, 11] [
 ⟨(some 108), (.bin .lss (.t 107) (.t 106)), none, none⟩])
 (.seq
 (.cond (.t 108)
 .skip
 (.exit 7))
 (.seq
 (.block 8
 (.seq
 (.region [] [] [0, 12, 14, 15, 4, 21, 20, 22, 1, 5, 39, 38, 40, 6, 53, 54, 7, 74, 75, 8, 86, 85, 87, 9, 100, 101, 10, 107, 106, 108, 11] [
 ⟨(some 109), (.move (.t 107)), none, none⟩,
 ⟨(some 11), (.move (.t 109)), none, none⟩])
 (.region [] [] [0, 12, 14, 15, 4, 21, 20, 22, 1, 5, 39, 38, 40, 6, 53, 54, 7, 74, 75, 8, 86, 85, 87, 9, 100, 101, 10, 107, 106, 108, 11] [
 ⟨(some 110), (.move (.t 1)), none, none⟩,
 ⟨(some 111), (.move (.t 10)), none, none⟩,
 ⟨(some 112), (.nilchk (.t 111)), none, none⟩,
 ⟨(some 113), (.faddr 1 (.t 112)), none, none⟩,
 ⟨(some 114), (.load none (.t 113)), none, none⟩,
 ⟨(some 115), (.move (.t 11)), none, none⟩,
 ⟨(some 116), (.iaddr 4 (.t 114) (.t 115)), none, none⟩,
 ⟨(some 117), (.call (.t 110) [(.t 116)]), none, none⟩])))
 (.region [] [] [0, 12, 14, 15, 4, 21, 20, 22, 1, 5, 39, 38, 40, 6, 53, 54, 7, 74, 75, 8, 86, 85, 87, 9, 100, 101, 10, 107, 106, 108, 11] [
 ⟨(some 118), (.bin .add (.t 107) (.k (rI .i64 1))), none, none⟩,
 ⟨(some 107), (.move (.t 118)), none, none⟩]))))

/-- pedigree/term.walk -/
def ic126 : IC :=
 (.seq
 (.region [] [] [0, 12, 14, 15, 4, 21, 20, 22, 1, 5, 39, 38, 40, 6, 53, 54, 7, 74, 75, 8, 86, 85, 87, 9, 100, 101, 10, 107, 106, 108, 11] [
 ⟨(some 12), (.move (.t 0)), none, none⟩])
 (.block 0
 (.seq
 (.region [] [] [0, 12, 14, 15, 4, 21, 20, 22, 1, 5, 39, 38, 40, 6, 53, 54, 7, 74, 75, 8, 86, 85, 87, 9, 100, 101, 10, 107, 106, 108, 11] [
 ⟨(some 13), (.asrt 271 true true [(.c (.v (.pointer none)))] (.t 12)), none, none⟩,
 ⟨(some 14), (.ext (.t 13) 1), none, none⟩,
 ⟨(some 15), (.ext (.t 13) 0), none, none⟩])
 (.cond (.t 14)
 (.seq
 (.region [] [] [0, 12, 14, 15, 4, 21, 20, 22, 1, 5, 39, 38, 40, 6, 53, 54, 7, 74, 75, 8, 86, 85, 87, 9, 100, 101, 10, 107, 106, 108, 11] [
 ⟨(some 4), (.move (.t 15)), none, none⟩])
 (.seq
 (.seq
 (.region [] [] [0, 12, 14, 15, 4, 21, 20, 22, 1, 5, 39, 38, 40, 6, 53, 54, 7, 74, 75, 8, 86, 85, 87, 9, 100, 101, 10, 107, 106, 108, 11] [
 ⟨(some 16), (.move (.t 4)), none, none⟩,
 ⟨(some 17), (.nilchk (.t 16)), none, none⟩,
 ⟨(some 18), (.faddr 1 (.t 17)), none, none⟩,
 ⟨(some 19), (.load none (.t 18)), none, none⟩,
 ⟨(some 20), (.len (.t 19)), none, none⟩,
 ⟨(some 21), (.move (.k (rI .i64 0))), none, none⟩])
 (.block 1
 (.loop ic126l0)))
 (.seq
 (.region [] [] [0, 12, 14, 15, 4, 21, 20, 22, 1, 5, 39, 38, 40, 6, 53, 54, 7, 74, 75, 8, 86, 85, 87, 9, 100, 101, 10, 107, 106, 108, 11] [
 ⟨(some 34), (.move (.t 4)), none, none⟩,
 ⟨(some 35), (.nilchk (.t 34)), none, none⟩,
 ⟨(some 36), (.faddr 2 (.t 35)), none, none⟩,
 ⟨(some 37), (.load none (.t 36)), none, none⟩,
 ⟨(some 38), (.len (.t 37)), none, none⟩,
 ⟨(some 39), (.move (.k (rI .i64 0))), none, none⟩])
 (.block 3
 (.loop ic126l1)))))
 (.seq
 (.region [] [] [0, 12, 14, 15, 4, 21, 20, 22, 1, 5, 39, 38, 40, 6, 53, 54, 7, 74, 75, 8, 86, 85, 87, 9, 100, 101, 10, 107, 106, 108, 11] [
 ⟨(some 52), (.asrt 294 true true [(.c (.v (.pointer none)))] (.t 12)), none, none⟩,
 ⟨(some 53), (.ext (.t 52) 1), none, none⟩,
 ⟨(some 54), (.ext (.t 52) 0), none, none⟩])
 (.cond (.t 53)
 (.seq
 (.region [] [] [0, 12, 14, 15, 4, 21, 20, 22, 1, 5, 39, 38, 40, 6, 53, 54, 7, 74, 75, 8, 86, 85, 87, 9, 100, 101, 10, 107, 106, 108, 11] [
 ⟨(some 7), (.move (.t 54)), none, none⟩])
 (.seq
 (.region [] [] [0, 12, 14, 15, 4, 21, 20, 22, 1, 5, 39, 38, 40, 6, 53, 54, 7, 74, 75, 8, 86, 85, 87, 9, 100, 101, 10, 107, 106, 108, 11] [
 ⟨(some 55), (.move (.t 7)), none, none⟩,
 ⟨(some 56), (.nilchk (.t 55)), none, none⟩,
 ⟨(some 57), (.faddr 1 (.t 56)), none, none⟩,
 ⟨(some 58), (.mki 253 (.t 57)), none, none⟩,
 ⟨(some 59), (.move (.t 1)), none, none⟩,
 ⟨(some 60), (.call (.k (rF 139)) [(.t 58), (.t 59)]), none, none⟩])
 (.seq
 (.region [] [] [0, 12, 14, 15, 4, 21, 20, 22, 1, 5, 39, 38, 40, 6, 53, 54, 7, 74, 75, 8, 86, 85, 87, 9, 100, 101, 10, 107, 106, 108, 11] [
 ⟨(some 61), (.move (.t 7)), none, none⟩,
 ⟨(some 62), (.nilchk (.t 61)), none, none⟩,
 ⟨(some 63), (.faddr 4 (.t 62)), none, none⟩,
 ⟨(some 64), (.mki 272 (.t 63)), none, none⟩,
 ⟨(some 65), (.move (.t 1)), none, none⟩,
 ⟨(some 66), (.call (.k (rF 139)) [(.t 64), (.t 65)]), none, none⟩])
 (.region [] [] [0, 12, 14, 15, 4, 21, 20, 22, 1, 5, 39, 38, 40, 6, 53, 54, 7, 74, 75, 8, 86, 85, 87, 9, 100, 101, 10, 107, 106, 108, 11] [
 ⟨(some 67), (.move (.t 7)), none, none⟩,
 ⟨(some 68), (.nilchk (.t 67)), none, none⟩,
 ⟨(some 69), (.faddr 10 (.t 68)), none, none⟩,
 ⟨(some 70), (.mki 272 (.t 69)), none, none⟩,
 ⟨(some 71), (.move (.t 1)), none, none⟩,
 ⟨(some 72), (.call (.k (rF 139)) [(.t 70), (.t 71)]), none, none⟩]))))
 (.seq
 (.region [] [] [0, 12, 14, 15, 4, 21, 20, 22, 1, 5, 39, 38, 40, 6, 53, 54, 7, 74, 75, 8, 86, 85, 87, 9, 100, 101, 10, 107, 106, 108, 11] [
 ⟨(some 73), (.asrt 272 true true [(.c (.v (.pointer none)))] (.t 12)), none, none⟩,
 ⟨(some 74), (.ext (.t 73) 1), none, none⟩,
 ⟨(some 75), (.ext (.t 73) 0), none, none⟩])
 (.cond (.t 74)
 (.seq
 (.region [] [] [0, 12, 14, 15, 4, 21, 20, 22, 1, 5, 39, 38, 40, 6, 53, 54, 7, 74, 75, 8, 86, 85, 87, 9, 100, 101, 10, 107, 106, 108, 11] [
 ⟨(some 8), (.move (.t 75)), none, none⟩])
 (.seq
 (.region [] [] [0, 12, 14, 15, 4, 21, 20, 22, 1, 5, 39, 38, 40, 6, 53, 54, 7, 74, 75, 8, 86, 85, 87, 9, 100, 101, 10, 107, 106, 108, 11] [
 ⟨(some 76), (.move (.t 1)), none, none⟩,
 ⟨(some 77), (.move (.t 8)), none, none⟩,
 ⟨(some 78), (.nilchk (.t 77)), none, none⟩,
 ⟨(some 79), (.faddr 1 (.t 78)), none, none⟩,
 ⟨(some 80), (.call (.t 76) [(.t 79)]), none, none⟩])
 (.seq
 (.region [] [] [0, 12, 14, 15, 4, 21, 20, 22, 1, 5, 39, 38, 40, 6, 53, 54, 7, 74, 75, 8, 86, 85, 87, 9, 100, 101, 10, 107, 106, 108, 11] [
 ⟨(some 81), (.move (.t 8)), none, none⟩,
 ⟨(some 82), (.nilchk (.t 81)), none, none⟩,
 ⟨(some 83), (.faddr 5 (.t 82)), none, none⟩,
 ⟨(some 84), (.load none (.t 83)), none, none⟩,
 ⟨(some 85), (.len (.t 84)), none, none⟩,
 ⟨(some 86), (.move (.k (rI .i64 0))), none, none⟩])
 (.block 5
 (.loop ic126l2)))))
 (.seq
 (.region [] [] [0, 12, 14, 15, 4, 21, 20, 22, 1, 5, 39, 38, 40, 6, 53, 54, 7, 74, 75, 8, 86, 85, 87, 9, 100, 101, 10, 107, 106, 108, 11] [
 ⟨(some 99), (.asrt 253 true true [(.c (.v (.pointer none)))] (.t 12)), none, none⟩,
 ⟨(some 100), (.ext (.t 99) 1), none, none⟩,
 ⟨(some 101), (.ext (.t 99) 0), none, none⟩])
 (.cond (.t 100)
 (.seq
 (.region [] [] [0, 12, 14, 15, 4, 21, 20, 22, 1, 5, 39, 38, 40, 6, 53, 54, 7, 74, 75, 8, 86, 85, 87, 9, 100, 101, 10, 107, 106, 108, 11] [
 ⟨(some 10), (.move (.t 101)), none, none⟩])
 (.seq
 (.region [] [] [0, 12, 14, 15, 4, 21, 20, 22, 1, 5, 39, 38, 40, 6, 53, 54, 7, 74, 75, 8, 86, 85, 87, 9, 100, 101, 10, 107, 106, 108, 11] [
 ⟨(some 102), (.move (.t 10)), none, none⟩,
 ⟨(some 103), (.nilchk (.t 102)), none, none⟩,
 ⟨(some 104), (.faddr 1 (.t 103)), none, none⟩,
 ⟨(some 105), (.load none (.t 104)), none, none⟩,
 ⟨(some 106), (.len (.t 105)), none, none⟩,
 ⟨(some 107), (.move (.k (rI .i64 0))), none, none⟩])
 (.block 7
 (.loop ic126l3))))
 .skip))))))))))
def ir126 : List IRes := []
theorem ie126 : cmpFunc Go.Proofs.Try.prog ⟨[(32, none), (50, none), (60, none), (66, none), (72, none), (80, none), (97, none), (117, none)], []⟩ Go.Proofs.Try.f139 [0, 12, 14, 15, 4, 21, 20, 22, 1, 5, 39, 38, 40, 6, 53, 54, 7, 74, 75, 8, 86, 85, 87, 9, 100, 101, 10, 107, 106, 108, 11] = some ic126 := by kernel_rfl
theorem ig126 : cmpRes Go.Proofs.Try.prog Go.Proofs.Try.f139.results.toList = some ir126 := by kernel_rfl


/-- pedigree/term.vars$1 -/
def ic170 : IC :=
 (.seq
 (.seq
 (.region [] [] [0, 1, 24, 2] [
 ⟨(some 4), (.move (.t 0)), none, none⟩,
 ⟨(some 5), (.nilchk (.t 4)), none, none⟩,
 ⟨(some 6), (.faddr 0 (.t 5)), none, none⟩,
 ⟨(some 7), (.load none (.t 6)), none, none⟩,
 ⟨(some 8), (.bin .eql (.t 7) (.k (rS (bs [])))), none, none⟩,
 ⟨(some 9), (.move (.t 8)), none, none⟩,
 ⟨(some 10), (.move (.t 0)), some (9, false), none⟩,
 ⟨(some 11), (.nilchk (.t 10)), some (9, false), none⟩,
 ⟨(some 12), (.faddr 0 (.t 11)), some (9, false), none⟩,
 ⟨(some 13), (.load none (.t 12)), some (9, false), none⟩,
 ⟨(some 14), (.bin .eql (.t 13) (.k (rS (bs [95])))), some (9, false), none⟩,
 ⟨(some 15), (.pick (.t 9) (.k (rB true)) (.t 14)), none, none⟩,
 ⟨(some 16), (.move (.t 15)), none, none⟩,
 ⟨(some 17), (.load none (.t 1)), some (16, false), none⟩,
 ⟨(some 18), (.move (.t 0)), some (16, false), none⟩,
 ⟨(some 19), (.nilchk (.t 18)), some (16, false), none⟩,
 ⟨(some 20), (.faddr 0 (.t 19)), some (16, false), none⟩,
 ⟨(some 21), (.load none (.t 20)), some (16, false), none⟩,
 ⟨(some 22), (.mlook .string true false [(.c (.v (.int .i64 0)))] (.t 17) (.t 21)), some (16, false), none⟩,
 ⟨(some 23), (.bin .gtr (.t 22) (.k (rI .i64 0))), some (16, false), none⟩,
 ⟨(some 24), (.pick (.t 16) (.k (rB true)) (.t 23)), none, none⟩])
 (.cond (.t 24)
 .ret
 .skip))
 (.seq
 (.region [30] [] [0, 1, 24, 2] [
 ⟨(some 25), (.load none (.t 2)), none, none⟩,
 ⟨(some 26), (.move (.t 0)), none, none⟩,
 ⟨(some 27), (.nilchk (.t 26)), none, none⟩,
 ⟨(some 28), (.faddr 0 (.t 27)), none, none⟩,
 ⟨(some 29), (.load none (.t 28)), none, none⟩,
 ⟨(some 30), (.row 9 1 [(.t 29)]), none, none⟩,
 ⟨(some 31), (.app 9 1 16 (.t 25) (.t 30)), none, none⟩,
 ⟨none, (.store (some 1) (.t 2) (.t 31)), none, none⟩])
 (.region [] [] [0, 1, 24, 2] [
 ⟨(some 32), (.load none (.t 1)), none, none⟩,
 ⟨(some 33), (.move (.t 0)), none, none⟩,
 ⟨(some 34), (.nilchk (.t 33)), none, none⟩,
 ⟨(some 35), (.faddr 0 (.t 34)), none, none⟩,
 ⟨(some 36), (.load none (.t 35)), none, none⟩,
 ⟨(some 37), (.load none (.t 2)), none, none⟩,
 ⟨(some 38), (.len (.t 37)), none, none⟩,
 ⟨none, (.mapup .string true (.t 32) (.t 36) (.t 38)), none, none⟩])))
def ir170 : List IRes := []
theorem ie170 : cmpFunc Go.Proofs.Try.prog ⟨[], []⟩ Go.Proofs.Try.f140 [0, 1, 24, 2] = some ic170 := by kernel_rfl
theorem ig170 : cmpRes Go.Proofs.Try.prog Go.Proofs.Try.f140.results.toList = some ir170 := by kernel_rfl

end Go.Proofs.Ytiomojlcnemnhaa

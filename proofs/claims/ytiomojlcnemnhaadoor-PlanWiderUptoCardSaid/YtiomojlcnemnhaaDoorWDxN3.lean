import Derived.Test.YtiomojlcnemnhaaDoorWFxZ
import Derived.Test.YtiomojlcnemnhaaDoorProg
import Derived.KernelRfl
import Derived.Test.YtiomojlcnemnhaaDoorWDxM8
namespace Go.Proofs.YtiomojlcnemnhaaDoor
open Go.Fx
def ic46 : IC :=
 (.seq
 (.region [1] [] [0, 1, 2] [⟨some 1, (.box 24 (.t 0)), none, none⟩,⟨some 2, (.move (.k (.x (.one .nil)))), none, none⟩])
 (.seq
 (.region [] [.fz [1]] [0, 1, 2] [⟨some 3, (.mki 169 (.t 1)), none, none⟩,⟨some 4, (.call (.k (rF 118)) [(.t 3)]), none, none⟩,⟨some 2, (.move (.t 4)), none, none⟩])
 .ret))
def ir46 : List IRes := [.tmp 2]
theorem ie46 : cmpFunc Go.Proofs.Tryd.prog ⟨[(4, none)], [(3, .fz [1])]⟩ Go.Proofs.Tryd.f46 [0, 1, 2] = some ic46 := by kernel_rfl
theorem ig46 : cmpRes Go.Proofs.Tryd.prog Go.Proofs.Tryd.f46.results.toList = some ir46 := by kernel_rfl
def ic118 : IC :=
 (.seq
 (.region [] [] [0, 4, 3, 2] [⟨some 2, (.move (.k (.x (.one .nil)))), none, none⟩])
 (.seq
 (.region [3] [] [0, 4, 3, 2] [⟨some 3, (.zero 52 [.nil]), none, none⟩])
 (.seq
 (.region [5, 4] [] [0, 4, 3, 2] [⟨some 5, (.mkmap .string 2 true), none, none⟩,⟨some 4, (.zero 172 [(.c (.v (.map none)))]), none, none⟩,⟨none, (.store (some 1) (.t 4) (.t 5)), none, none⟩])
 (.seq
 (.region [] [.pm 30 3 9 1] [0, 4, 3, 2] [⟨some 6, (.move (.t 0)), none, none⟩,⟨some 7, (.clo 170 [] [(.t 4), (.t 3)]), none, none⟩,⟨some 8, (.call (.k (rF 126)) [(.t 6), (.t 7)]), none, none⟩])
 (.seq
 (.region [] [] [0, 4, 3, 2] [⟨some 9, (.load none (.t 3)), none, none⟩,⟨some 2, (.move (.t 9)), none, none⟩])
 .ret)))))
def ir118 : List IRes := [.tmp 2]
theorem ie118 : cmpFunc Go.Proofs.Tryd.prog ⟨[(8, none)], [(6, .pm 30 3 9 1)]⟩ Go.Proofs.Tryd.f118 [0, 4, 3, 2] = some ic118 := by kernel_rfl
theorem ig118 : cmpRes Go.Proofs.Tryd.prog Go.Proofs.Tryd.f118.results.toList = some ir118 := by kernel_rfl
abbrev ks126 (t0 t12 t14 t15 t4 t21 t20 t22 t1 t5 t39 t38 t40 t6 t53 t54 t7 t74 t75 t8 t86 t85 t87 t9 t100 t101 t10 t107 t106 t108 t11 : T) (O : List (Nat × Box)) (U : List (Nat × Fx.Tok)) (H : FHp) : S := st [(0, t0), (12, t12), (14, t14), (15, t15), (4, t4), (21, t21), (20, t20), (22, t22), (1, t1), (5, t5), (39, t39), (38, t38), (40, t40), (6, t6), (53, t53), (54, t54), (7, t7), (74, t74), (75, t75), (8, t8), (86, t86), (85, t85), (87, t87), (9, t9), (100, t100), (101, t101), (10, t10), (107, t107), (106, t106), (108, t108), (11, t11)] O U H
def ic126l0 : IC :=
 (.seq
 (.region [] [] [0, 12, 14, 15, 4, 21, 20, 22, 1, 5, 39, 38, 40, 6, 53, 54, 7, 74, 75, 8, 86, 85, 87, 9, 100, 101, 10, 107, 106, 108, 11] [⟨some 22, (.bin .lss (.t 21) (.t 20)), none, none⟩])
 (.seq
 (.cond (.t 22)
 .skip
 (.exit 1))
 (.seq
 (.block 2
 (.seq
 (.region [] [] [0, 12, 14, 15, 4, 21, 20, 22, 1, 5, 39, 38, 40, 6, 53, 54, 7, 74, 75, 8, 86, 85, 87, 9, 100, 101, 10, 107, 106, 108, 11] [⟨some 23, (.move (.t 21)), none, none⟩,⟨some 5, (.move (.t 23)), none, none⟩])
 (.region [] [] [0, 12, 14, 15, 4, 21, 20, 22, 1, 5, 39, 38, 40, 6, 53, 54, 7, 74, 75, 8, 86, 85, 87, 9, 100, 101, 10, 107, 106, 108, 11] [⟨some 24, (.move (.t 1)), none, none⟩,⟨some 25, (.move (.t 4)), none, none⟩,⟨some 26, (.nilchk (.t 25)), none, none⟩,⟨some 27, (.faddr 1 (.t 26)), none, none⟩,⟨some 28, (.load none (.t 27)), none, none⟩,⟨some 29, (.move (.t 5)), none, none⟩,⟨some 30, (.iaddr 5 (.t 28) (.t 29)), none, none⟩,⟨some 31, (.faddr 1 (.t 30)), none, none⟩,⟨some 32, (.call (.t 24) [(.t 31)]), none, none⟩])))
 (.region [] [] [0, 12, 14, 15, 4, 21, 20, 22, 1, 5, 39, 38, 40, 6, 53, 54, 7, 74, 75, 8, 86, 85, 87, 9, 100, 101, 10, 107, 106, 108, 11] [⟨some 33, (.bin .add (.t 21) (.k (rI .i64 1))), none, none⟩,⟨some 21, (.move (.t 33)), none, none⟩]))))
def ic126l1 : IC :=
 (.seq
 (.region [] [] [0, 12, 14, 15, 4, 21, 20, 22, 1, 5, 39, 38, 40, 6, 53, 54, 7, 74, 75, 8, 86, 85, 87, 9, 100, 101, 10, 107, 106, 108, 11] [⟨some 40, (.bin .lss (.t 39) (.t 38)), none, none⟩])
 (.seq
 (.cond (.t 40)
 .skip
 (.exit 3))
 (.seq
 (.block 4
 (.seq
 (.region [] [] [0, 12, 14, 15, 4, 21, 20, 22, 1, 5, 39, 38, 40, 6, 53, 54, 7, 74, 75, 8, 86, 85, 87, 9, 100, 101, 10, 107, 106, 108, 11] [⟨some 41, (.move (.t 39)), none, none⟩,⟨some 6, (.move (.t 41)), none, none⟩])
 (.region [] [] [0, 12, 14, 15, 4, 21, 20, 22, 1, 5, 39, 38, 40, 6, 53, 54, 7, 74, 75, 8, 86, 85, 87, 9, 100, 101, 10, 107, 106, 108, 11] [⟨some 42, (.move (.t 4)), none, none⟩,⟨some 43, (.nilchk (.t 42)), none, none⟩,⟨some 44, (.faddr 2 (.t 43)), none, none⟩,⟨some 45, (.load none (.t 44)), none, none⟩,⟨some 46, (.move (.t 6)), none, none⟩,⟨some 47, (.iaddr 16 (.t 45) (.t 46)), none, none⟩,⟨some 48, (.mki 184 (.t 47)), none, none⟩,⟨some 49, (.move (.t 1)), none, none⟩,⟨some 50, (.call (.k (rF 126)) [(.t 48), (.t 49)]), none, none⟩])))
 (.region [] [] [0, 12, 14, 15, 4, 21, 20, 22, 1, 5, 39, 38, 40, 6, 53, 54, 7, 74, 75, 8, 86, 85, 87, 9, 100, 101, 10, 107, 106, 108, 11] [⟨some 51, (.bin .add (.t 39) (.k (rI .i64 1))), none, none⟩,⟨some 39, (.move (.t 51)), none, none⟩]))))
def ic126l2 : IC :=
 (.seq
 (.region [] [] [0, 12, 14, 15, 4, 21, 20, 22, 1, 5, 39, 38, 40, 6, 53, 54, 7, 74, 75, 8, 86, 85, 87, 9, 100, 101, 10, 107, 106, 108, 11] [⟨some 87, (.bin .lss (.t 86) (.t 85)), none, none⟩])
 (.seq
 (.cond (.t 87)
 .skip
 (.exit 5))
 (.seq
 (.block 6
 (.seq
 (.region [] [] [0, 12, 14, 15, 4, 21, 20, 22, 1, 5, 39, 38, 40, 6, 53, 54, 7, 74, 75, 8, 86, 85, 87, 9, 100, 101, 10, 107, 106, 108, 11] [⟨some 88, (.move (.t 86)), none, none⟩,⟨some 9, (.move (.t 88)), none, none⟩])
 (.region [] [] [0, 12, 14, 15, 4, 21, 20, 22, 1, 5, 39, 38, 40, 6, 53, 54, 7, 74, 75, 8, 86, 85, 87, 9, 100, 101, 10, 107, 106, 108, 11] [⟨some 89, (.move (.t 8)), none, none⟩,⟨some 90, (.nilchk (.t 89)), none, none⟩,⟨some 91, (.faddr 5 (.t 90)), none, none⟩,⟨some 92, (.load none (.t 91)), none, none⟩,⟨some 93, (.move (.t 9)), none, none⟩,⟨some 94, (.iaddr 6 (.t 92) (.t 93)), none, none⟩,⟨some 95, (.mki 232 (.t 94)), none, none⟩,⟨some 96, (.move (.t 1)), none, none⟩,⟨some 97, (.call (.k (rF 126)) [(.t 95), (.t 96)]), none, none⟩])))
 (.region [] [] [0, 12, 14, 15, 4, 21, 20, 22, 1, 5, 39, 38, 40, 6, 53, 54, 7, 74, 75, 8, 86, 85, 87, 9, 100, 101, 10, 107, 106, 108, 11] [⟨some 98, (.bin .add (.t 86) (.k (rI .i64 1))), none, none⟩,⟨some 86, (.move (.t 98)), none, none⟩]))))
def ic126l3 : IC :=
 (.seq
 (.region [] [] [0, 12, 14, 15, 4, 21, 20, 22, 1, 5, 39, 38, 40, 6, 53, 54, 7, 74, 75, 8, 86, 85, 87, 9, 100, 101, 10, 107, 106, 108, 11] [⟨some 108, (.bin .lss (.t 107) (.t 106)), none, none⟩])
 (.seq
 (.cond (.t 108)
 .skip
 (.exit 7))
 (.seq
 (.block 8
 (.seq
 (.region [] [] [0, 12, 14, 15, 4, 21, 20, 22, 1, 5, 39, 38, 40, 6, 53, 54, 7, 74, 75, 8, 86, 85, 87, 9, 100, 101, 10, 107, 106, 108, 11] [⟨some 109, (.move (.t 107)), none, none⟩,⟨some 11, (.move (.t 109)), none, none⟩])
 (.region [] [] [0, 12, 14, 15, 4, 21, 20, 22, 1, 5, 39, 38, 40, 6, 53, 54, 7, 74, 75, 8, 86, 85, 87, 9, 100, 101, 10, 107, 106, 108, 11] [⟨some 110, (.move (.t 1)), none, none⟩,⟨some 111, (.move (.t 10)), none, none⟩,⟨some 112, (.nilchk (.t 111)), none, none⟩,⟨some 113, (.faddr 1 (.t 112)), none, none⟩,⟨some 114, (.load none (.t 113)), none, none⟩,⟨some 115, (.move (.t 11)), none, none⟩,⟨some 116, (.iaddr 4 (.t 114) (.t 115)), none, none⟩,⟨some 117, (.call (.t 110) [(.t 116)]), none, none⟩])))
 (.region [] [] [0, 12, 14, 15, 4, 21, 20, 22, 1, 5, 39, 38, 40, 6, 53, 54, 7, 74, 75, 8, 86, 85, 87, 9, 100, 101, 10, 107, 106, 108, 11] [⟨some 118, (.bin .add (.t 107) (.k (rI .i64 1))), none, none⟩,⟨some 107, (.move (.t 118)), none, none⟩]))))
def ic126 : IC :=
 (.seq
 (.region [] [] [0, 12, 14, 15, 4, 21, 20, 22, 1, 5, 39, 38, 40, 6, 53, 54, 7, 74, 75, 8, 86, 85, 87, 9, 100, 101, 10, 107, 106, 108, 11] [⟨some 12, (.move (.t 0)), none, none⟩])
 (.block 0
 (.seq
 (.region [] [] [0, 12, 14, 15, 4, 21, 20, 22, 1, 5, 39, 38, 40, 6, 53, 54, 7, 74, 75, 8, 86, 85, 87, 9, 100, 101, 10, 107, 106, 108, 11] [⟨some 13, (.asrt 191 true true [(.c (.v (.pointer none)))] (.t 12)), none, none⟩,⟨some 14, (.ext (.t 13) 1), none, none⟩,⟨some 15, (.ext (.t 13) 0), none, none⟩])
 (.cond (.t 14)
 (.seq
 (.region [] [] [0, 12, 14, 15, 4, 21, 20, 22, 1, 5, 39, 38, 40, 6, 53, 54, 7, 74, 75, 8, 86, 85, 87, 9, 100, 101, 10, 107, 106, 108, 11] [⟨some 4, (.move (.t 15)), none, none⟩])
 (.seq
 (.seq
 (.region [] [] [0, 12, 14, 15, 4, 21, 20, 22, 1, 5, 39, 38, 40, 6, 53, 54, 7, 74, 75, 8, 86, 85, 87, 9, 100, 101, 10, 107, 106, 108, 11] [⟨some 16, (.move (.t 4)), none, none⟩,⟨some 17, (.nilchk (.t 16)), none, none⟩,⟨some 18, (.faddr 1 (.t 17)), none, none⟩,⟨some 19, (.load none (.t 18)), none, none⟩,⟨some 20, (.len (.t 19)), none, none⟩,⟨some 21, (.move (.k (rI .i64 0))), none, none⟩])
 (.block 1
 (.loop ic126l0)))
 (.seq
 (.region [] [] [0, 12, 14, 15, 4, 21, 20, 22, 1, 5, 39, 38, 40, 6, 53, 54, 7, 74, 75, 8, 86, 85, 87, 9, 100, 101, 10, 107, 106, 108, 11] [⟨some 34, (.move (.t 4)), none, none⟩,⟨some 35, (.nilchk (.t 34)), none, none⟩,⟨some 36, (.faddr 2 (.t 35)), none, none⟩,⟨some 37, (.load none (.t 36)), none, none⟩,⟨some 38, (.len (.t 37)), none, none⟩,⟨some 39, (.move (.k (rI .i64 0))), none, none⟩])
 (.block 3
 (.loop ic126l1)))))
 (.seq
 (.region [] [] [0, 12, 14, 15, 4, 21, 20, 22, 1, 5, 39, 38, 40, 6, 53, 54, 7, 74, 75, 8, 86, 85, 87, 9, 100, 101, 10, 107, 106, 108, 11] [⟨some 52, (.asrt 184 true true [(.c (.v (.pointer none)))] (.t 12)), none, none⟩,⟨some 53, (.ext (.t 52) 1), none, none⟩,⟨some 54, (.ext (.t 52) 0), none, none⟩])
 (.cond (.t 53)
 (.seq
 (.region [] [] [0, 12, 14, 15, 4, 21, 20, 22, 1, 5, 39, 38, 40, 6, 53, 54, 7, 74, 75, 8, 86, 85, 87, 9, 100, 101, 10, 107, 106, 108, 11] [⟨some 7, (.move (.t 54)), none, none⟩])
 (.seq
 (.region [] [] [0, 12, 14, 15, 4, 21, 20, 22, 1, 5, 39, 38, 40, 6, 53, 54, 7, 74, 75, 8, 86, 85, 87, 9, 100, 101, 10, 107, 106, 108, 11] [⟨some 55, (.move (.t 7)), none, none⟩,⟨some 56, (.nilchk (.t 55)), none, none⟩,⟨some 57, (.faddr 1 (.t 56)), none, none⟩,⟨some 58, (.mki 169 (.t 57)), none, none⟩,⟨some 59, (.move (.t 1)), none, none⟩,⟨some 60, (.call (.k (rF 126)) [(.t 58), (.t 59)]), none, none⟩])
 (.seq
 (.region [] [] [0, 12, 14, 15, 4, 21, 20, 22, 1, 5, 39, 38, 40, 6, 53, 54, 7, 74, 75, 8, 86, 85, 87, 9, 100, 101, 10, 107, 106, 108, 11] [⟨some 61, (.move (.t 7)), none, none⟩,⟨some 62, (.nilchk (.t 61)), none, none⟩,⟨some 63, (.faddr 4 (.t 62)), none, none⟩,⟨some 64, (.mki 232 (.t 63)), none, none⟩,⟨some 65, (.move (.t 1)), none, none⟩,⟨some 66, (.call (.k (rF 126)) [(.t 64), (.t 65)]), none, none⟩])
 (.region [] [] [0, 12, 14, 15, 4, 21, 20, 22, 1, 5, 39, 38, 40, 6, 53, 54, 7, 74, 75, 8, 86, 85, 87, 9, 100, 101, 10, 107, 106, 108, 11] [⟨some 67, (.move (.t 7)), none, none⟩,⟨some 68, (.nilchk (.t 67)), none, none⟩,⟨some 69, (.faddr 10 (.t 68)), none, none⟩,⟨some 70, (.mki 232 (.t 69)), none, none⟩,⟨some 71, (.move (.t 1)), none, none⟩,⟨some 72, (.call (.k (rF 126)) [(.t 70), (.t 71)]), none, none⟩]))))
 (.seq
 (.region [] [] [0, 12, 14, 15, 4, 21, 20, 22, 1, 5, 39, 38, 40, 6, 53, 54, 7, 74, 75, 8, 86, 85, 87, 9, 100, 101, 10, 107, 106, 108, 11] [⟨some 73, (.asrt 232 true true [(.c (.v (.pointer none)))] (.t 12)), none, none⟩,⟨some 74, (.ext (.t 73) 1), none, none⟩,⟨some 75, (.ext (.t 73) 0), none, none⟩])
 (.cond (.t 74)
 (.seq
 (.region [] [] [0, 12, 14, 15, 4, 21, 20, 22, 1, 5, 39, 38, 40, 6, 53, 54, 7, 74, 75, 8, 86, 85, 87, 9, 100, 101, 10, 107, 106, 108, 11] [⟨some 8, (.move (.t 75)), none, none⟩])
 (.seq
 (.region [] [] [0, 12, 14, 15, 4, 21, 20, 22, 1, 5, 39, 38, 40, 6, 53, 54, 7, 74, 75, 8, 86, 85, 87, 9, 100, 101, 10, 107, 106, 108, 11] [⟨some 76, (.move (.t 1)), none, none⟩,⟨some 77, (.move (.t 8)), none, none⟩,⟨some 78, (.nilchk (.t 77)), none, none⟩,⟨some 79, (.faddr 1 (.t 78)), none, none⟩,⟨some 80, (.call (.t 76) [(.t 79)]), none, none⟩])
 (.seq
 (.region [] [] [0, 12, 14, 15, 4, 21, 20, 22, 1, 5, 39, 38, 40, 6, 53, 54, 7, 74, 75, 8, 86, 85, 87, 9, 100, 101, 10, 107, 106, 108, 11] [⟨some 81, (.move (.t 8)), none, none⟩,⟨some 82, (.nilchk (.t 81)), none, none⟩,⟨some 83, (.faddr 5 (.t 82)), none, none⟩,⟨some 84, (.load none (.t 83)), none, none⟩,⟨some 85, (.len (.t 84)), none, none⟩,⟨some 86, (.move (.k (rI .i64 0))), none, none⟩])
 (.block 5
 (.loop ic126l2)))))
 (.seq
 (.region [] [] [0, 12, 14, 15, 4, 21, 20, 22, 1, 5, 39, 38, 40, 6, 53, 54, 7, 74, 75, 8, 86, 85, 87, 9, 100, 101, 10, 107, 106, 108, 11] [⟨some 99, (.asrt 169 true true [(.c (.v (.pointer none)))] (.t 12)), none, none⟩,⟨some 100, (.ext (.t 99) 1), none, none⟩,⟨some 101, (.ext (.t 99) 0), none, none⟩])
 (.cond (.t 100)
 (.seq
 (.region [] [] [0, 12, 14, 15, 4, 21, 20, 22, 1, 5, 39, 38, 40, 6, 53, 54, 7, 74, 75, 8, 86, 85, 87, 9, 100, 101, 10, 107, 106, 108, 11] [⟨some 10, (.move (.t 101)), none, none⟩])
 (.seq
 (.region [] [] [0, 12, 14, 15, 4, 21, 20, 22, 1, 5, 39, 38, 40, 6, 53, 54, 7, 74, 75, 8, 86, 85, 87, 9, 100, 101, 10, 107, 106, 108, 11] [⟨some 102, (.move (.t 10)), none, none⟩,⟨some 103, (.nilchk (.t 102)), none, none⟩,⟨some 104, (.faddr 1 (.t 103)), none, none⟩,⟨some 105, (.load none (.t 104)), none, none⟩,⟨some 106, (.len (.t 105)), none, none⟩,⟨some 107, (.move (.k (rI .i64 0))), none, none⟩])
 (.block 7
 (.loop ic126l3))))
 .skip))))))))))
def ir126 : List IRes := []
theorem ie126 : cmpFunc Go.Proofs.Tryd.prog ⟨[(32, none), (50, none), (60, none), (66, none), (72, none), (80, none), (97, none), (117, none)], []⟩ Go.Proofs.Tryd.f126 [0, 12, 14, 15, 4, 21, 20, 22, 1, 5, 39, 38, 40, 6, 53, 54, 7, 74, 75, 8, 86, 85, 87, 9, 100, 101, 10, 107, 106, 108, 11] = some ic126 := by kernel_rfl
theorem ig126 : cmpRes Go.Proofs.Tryd.prog Go.Proofs.Tryd.f126.results.toList = some ir126 := by kernel_rfl
def ic170 : IC :=
 (.seq
 (.seq
 (.region [] [] [0, 1, 24, 2] [⟨some 4, (.move (.t 0)), none, none⟩,⟨some 5, (.nilchk (.t 4)), none, none⟩,⟨some 6, (.faddr 0 (.t 5)), none, none⟩,⟨some 7, (.load none (.t 6)), none, none⟩,⟨some 8, (.bin .eql (.t 7) (.k (rS (bs [])))), none, none⟩,⟨some 9, (.move (.t 8)), none, none⟩,⟨some 10, (.move (.t 0)), some (9, false), none⟩,⟨some 11, (.nilchk (.t 10)), some (9, false), none⟩,⟨some 12, (.faddr 0 (.t 11)), some (9, false), none⟩,⟨some 13, (.load none (.t 12)), some (9, false), none⟩,⟨some 14, (.bin .eql (.t 13) (.k (rS (bs [95])))), some (9, false), none⟩,⟨some 15, (.pick (.t 9) (.k (rB true)) (.t 14)), none, none⟩,⟨some 16, (.move (.t 15)), none, none⟩,⟨some 17, (.load none (.t 1)), some (16, false), none⟩,⟨some 18, (.move (.t 0)), some (16, false), none⟩,⟨some 19, (.nilchk (.t 18)), some (16, false), none⟩,⟨some 20, (.faddr 0 (.t 19)), some (16, false), none⟩,⟨some 21, (.load none (.t 20)), some (16, false), none⟩,⟨some 22, (.mlook .string true false [(.c (.v (.int .i64 0)))] (.t 17) (.t 21)), some (16, false), none⟩,⟨some 23, (.bin .gtr (.t 22) (.k (rI .i64 0))), some (16, false), none⟩,⟨some 24, (.pick (.t 16) (.k (rB true)) (.t 23)), none, none⟩])
 (.cond (.t 24)
 .ret
 .skip))
 (.seq
 (.region [30] [] [0, 1, 24, 2] [⟨some 25, (.load none (.t 2)), none, none⟩,⟨some 26, (.move (.t 0)), none, none⟩,⟨some 27, (.nilchk (.t 26)), none, none⟩,⟨some 28, (.faddr 0 (.t 27)), none, none⟩,⟨some 29, (.load none (.t 28)), none, none⟩,⟨some 30, (.row 9 1 [(.t 29)]), none, none⟩,⟨some 31, (.app 9 1 16 (.t 25) (.t 30)), none, none⟩,⟨none, (.store (some 1) (.t 2) (.t 31)), none, none⟩])
 (.region [] [] [0, 1, 24, 2] [⟨some 32, (.load none (.t 1)), none, none⟩,⟨some 33, (.move (.t 0)), none, none⟩,⟨some 34, (.nilchk (.t 33)), none, none⟩,⟨some 35, (.faddr 0 (.t 34)), none, none⟩,⟨some 36, (.load none (.t 35)), none, none⟩,⟨some 37, (.load none (.t 2)), none, none⟩,⟨some 38, (.len (.t 37)), none, none⟩,⟨none, (.mapup .string true (.t 32) (.t 36) (.t 38)), none, none⟩])))
def ir170 : List IRes := []
theorem ie170 : cmpFunc Go.Proofs.Tryd.prog ⟨[], []⟩ Go.Proofs.Tryd.f170 [0, 1, 24, 2] = some ic170 := by kernel_rfl
theorem ig170 : cmpRes Go.Proofs.Tryd.prog Go.Proofs.Tryd.f170.results.toList = some ir170 := by kernel_rfl
end Go.Proofs.YtiomojlcnemnhaaDoor

namespace Go.Proofs.YtiomojlcnemnhaaDoor
open Go.Fx Go.RowKit Go.Ped
variable {G : World → Prop}
def PtTo (es : List (List C)) (i off : Nat) (t : Tm) : Prop := ∃ r, es[i]? = some r ∧ (r.drop off).take 4 = t.row
theorem PtTo.at {es : List (List C)} {i off : Nat} {t : Tm} (h : PtTo es i off t) (j : Nat) (hj : j < 4) : (es[i]?.getD [])[off + j]? = t.row[j]? := by
  obtain ⟨r, h1, h2⟩ := h
  rw [h1, ← h2]
  simp [hj]
theorem PtTo.len {es : List (List C)} {i off : Nat} {t : Tm} (h : PtTo es i off t) : off + 4 ≤ (es[i]?.getD []).length := by
  obtain ⟨r, h1, h2⟩ := h
  have := congrArg List.length h2
  simp [Tm.row] at this
  rw [h1]; simp; omega
def thr : Nat → List Name → List (List A)
  | _, [] => []
  | n, v :: l => [.c (cS (bs v)), .c (cI .i64 (n + 1))] :: thr (n + 1) l
theorem thr_only {p q : Nat → Prop} : ∀ (l : List Name) (n : Nat), ∀ r ∈ thr n l, onlyL p q r
  | v :: l, n, r, hr => by
    simp only [thr, List.mem_cons] at hr
    rcases hr with rfl | hr
    · simp
    · exact thr_only l _ r hr
def thrAt : Nat → List Name → Name → Int
  | _, [], _ => 0
  | n, u :: l, v => if u = v then n + 1 else thrAt (n + 1) l v
theorem thrAt_pos : ∀ (l : List Name) (n : Nat) (v : Name), (0 < thrAt n l v ↔ v ∈ l)
  | [], n, v => by simp [thrAt]
  | u :: l, n, v => by
    unfold thrAt
    by_cases h : u = v
    · subst h; simp
    · rw [if_neg h, thrAt_pos l]; simp [Ne.symm h]
theorem thr_get0 (v : Name) : ∀ (l : List Name) (n : Nat), mapGet (thr n l) (.string (bs v)) [.c (cI .i64 0)] = [.c (cI .i64 (thrAt n l v))]
  | [], n => by simp [thr, mapGet, thrAt]
  | u :: l, n => by
    have ih := thr_get0 v l (n + 1)
    unfold mapGet at ih ⊢
    unfold thr thrAt
    by_cases h : u = v
    · subst h; simp [keyEq]
    · simp [keyEq, h] at ih ⊢
      exact ih
theorem thr_get (v : Name) (l : List Name) : mapGet (thr 0 l) (.string (bs v)) [.c (cI .i64 0)] = [.c (cI .i64 (thrAt 0 l v))] := thr_get0 v l 0
theorem thr_put0 (v : Name) (m : Int) : ∀ (l : List Name) (n : Nat), v ∉ l → (thr n l).any (keyEq (.string (bs v))) = false
  | [], n, _ => rfl
  | u :: l, n, h => by
    simp only [List.mem_cons, not_or] at h
    simp [thr, keyEq, thr_put0 v m l (n + 1) h.2, Ne.symm h.1]
theorem thr_app (v : Name) : ∀ (l : List Name) (n : Nat), thr n (l ++ [v]) = thr n l ++ [[.c (cS (bs v)), .c (cI .i64 (n + l.length + 1))]]
  | [], n => by simp [thr]
  | u :: l, n => by simp [thr, thr_app v l (n + 1)]; omega
theorem thr_put (v : Name) (l : List Name) (h : v ∉ l) : mapPut (thr 0 l) (.string (bs v)) [.c (cI .i64 (l.length + 1))] = thr 0 (l ++ [v]) := by
  unfold mapPut
  rw [thr_put0 v 0 l 0 h, thr_app]
  simp
theorem thr_strike (ks : List Nat) : ∀ (l : List Name) (n : Nat), (thr n l).map (strikeL ks) = thr n l
  | [], _ => rfl
  | v :: l, n => by simp [thr, thr_strike ks l (n + 1)]
abbrev O170 (acc : List Name) : List (Nat × Box) := [(10003, ⟨52, 1, [[.own 10030 (acc.map nmRow)]], none⟩), (10004, ⟨172, 1, [[.mapr 10005]], none⟩), (10005, ⟨0, 2, thr 0 acc, some (.string, true)⟩)]
abbrev U170 (acc : List Name) : List (Nat × Fx.Tok) := [(10030, ⟨9, 1, acc.length⟩)]
set_option maxHeartbeats 2000000 in
theorem m170 (es sp : List (List C)) (i off : Nat) (t : Tm) (h : PtTo es i off t) (acc : List Name) (hl : acc.length ≤ 2000000) :
    MeetsH Tryd.prog G 170 [.one (.elem es sp i off), .one (.ref 10004 0 0), .one (.ref 10003 0 0)] (hp (O170 acc) (U170 acc) F0) (.tup []) (hp (O170 (varsOn acc [t.v])) (U170 (varsOn acc [t.v])) F0) := by
  refine meetsH [] Tryd.func170 ie170 ig170 (Nat.le_of_ble_eq_true rfl) ?_ ?_ ?_ ?_ ?_ (sameKeys_refl F0) ?_ ?_ ?_
  · intro p hp
    simp only [List.mem_cons, List.not_mem_nil, or_false] at hp
    rcases hp with rfl | rfl | rfl
    · exact ⟨by unfold midKey; omega, by simp [ownKey]⟩
    · exact ⟨by unfold midKey; omega, by simp [ownKey]⟩
    · exact ⟨by unfold midKey; omega, fun r hr => thr_only _ _ r hr⟩
  · intro p hp
    simp only [List.mem_cons, List.not_mem_nil, or_false] at hp
    subst hp; unfold midKey; omega
  · simp [ownKey]
  · simp
  · simp
  · intro p hp
    simp only [List.mem_cons, List.not_mem_nil, or_false] at hp
    rcases hp with rfl | rfl | rfl
    · simp
    · simp [ownKey]
    · exact fun r hr => thr_only _ _ r hr
  · simp
  have hat := h.at 0 (by omega)
  have hlen : off < (es[i]?.getD []).length := by have := h.len; omega
  simp only [Nat.add_zero, Tm.row, List.getElem?_cons_zero] at hat
  have hval : (es[i]?.getD [])[off]'hlen = cS (bs t.v) := (List.getElem?_eq_some_iff.1 hat).2
  clear hat
  have hv1 : varsOn acc [t.v] = if Ped.isVar t.v && !acc.contains t.v then acc ++ [t.v] else acc := rfl
  by_cases h0 : t.v = []
  · have e : varsOn acc [[]] = acc := by rw [← h0, hv1, h0]; simp [Ped.isVar]
    simp [ic170, ir170, hval, hlen, h0, thr_get, e]
    exact ret_st (by simp) (by simp) (by simp) (by simp) (by simp) (by simp)
  by_cases h1 : t.v = [95]
  · have e : varsOn acc [[95]] = acc := by rw [← h1, hv1, h1]; simp [Ped.isVar, us]
    simp [ic170, ir170, hval, hlen, h1, thr_get, e]
    exact ret_st (by simp) (by simp) (by simp) (by simp) (by simp) (by simp)
  by_cases h2 : t.v ∈ acc
  · have e : varsOn acc [t.v] = acc := by rw [hv1]; simp [h2]
    simp [ic170, ir170, hval, hlen, h0, h1, thr_get, (thrAt_pos acc 0 t.v).2 h2, e]
    exact ret_st (by simp) (by simp) (by simp) (by simp) (by simp) (by simp)
  · have e : varsOn acc [t.v] = acc ++ [t.v] := by rw [hv1]; simp [h2, Ped.isVar, us, h0, h1]
    simp [ic170, ir170, hval, hlen, h0, h1, thr_get, mt (thrAt_pos acc 0 t.v).1 h2, thr_strike, e]
    refine k_row rfl rfl (by simp) (by simp) ?_
    refine k_app (k := 10030) (es := acc.map nmRow) (q := ⟨9, 1, acc.length⟩) (by simp) rfl rfl (by simp) (by simp) rfl rfl (by simp) (by simp [maxLen]; omega) (by simp [maxBytes]; omega) trivial ?_
    simp [hval, hlen, thr_put t.v acc h2]
    exact ret_st (by simp) (by simp) (by simp) (by simp) (by simp) (by simp)
end Go.Proofs.YtiomojlcnemnhaaDoor

namespace Go.Proofs.YtiomojlcnemnhaaDoor
open Go.Fx Go.RowKit Go.Ped
variable {G : World → Prop}
theorem sameKeys_trans {H1 H2 H3 : FHp} (h : sameKeys H1 H2) (h' : sameKeys H2 H3) : sameKeys H1 H3 :=
  ⟨fun k => ⟨(h.1 k).1.trans (h'.1 k).1, (h.1 k).2.trans (h'.1 k).2⟩, h'.2.trans h.2⟩
inductive Ch (G : World → Prop) (fv : A) : List Tm → FHp → FHp → Prop
  | nil (H : FHp) : Ch G fv [] H H
  | cons {t : Tm} {l : List Tm} {H H1 H2 : FHp} (h : ∀ es sp i off, PtTo es i off t → MeetsV Tryd.prog G fv [.one (.elem es sp i off)] (hp [] [] H) (.tup []) (hp [] [] H1)) (hs : sameKeys H H1) (hl : Ch G fv l H1 H2) : Ch G fv (t :: l) H H2
theorem Ch.same {fv : A} {l : List Tm} {H H' : FHp} (h : Ch G fv l H H') : sameKeys H H' := by
  induction h with
  | nil H => exact sameKeys_refl H
  | cons _ hs _ ih => exact sameKeys_trans hs ih
theorem Ch.split {fv : A} : ∀ {l m : List Tm} {H H2 : FHp}, Ch G fv (l ++ m) H H2 → ∃ H1, Ch G fv l H H1 ∧ Ch G fv m H1 H2
  | [], _, H, _, h => ⟨H, .nil H, h⟩
  | _ :: l, m, _, _, h => by
    cases h with
    | cons h hs hl =>
      obtain ⟨H1, h1, h2⟩ := Ch.split hl
      exact ⟨H1, .cons h hs h1, h2⟩
theorem Ch.step {fv : A} {l : List Tm} {H H2 : FHp} {i : Nat} {t : Tm} (ht : l[i]? = some t) (h : Ch G fv (l.drop i) H H2) :
    ∃ H1, (∀ es sp j off, PtTo es j off t → MeetsV Tryd.prog G fv [.one (.elem es sp j off)] (hp [] [] H) (.tup []) (hp [] [] H1)) ∧ sameKeys H H1 ∧ Ch G fv (l.drop (i + 1)) H1 H2 := by
  obtain ⟨hi, rfl⟩ := List.getElem?_eq_some_iff.1 ht
  rw [List.drop_eq_getElem_cons hi] at h
  cases h with
  | cons h hs hl => exact ⟨_, h, hs, hl⟩
theorem r_callC {P : Program} {L : List (Nat × T)} {O : List (Nat × Box)} {U : List (Nat × Fx.Tok)} {H H2 : FHp} {l : List IOper} {K : S → Prop} {d : Nat} {f : D} {args : List D} {gd : Option (Nat × Bool)} {fv : A} {xs : List X} {res : R} (hm : MeetsV P G fv xs (hp [] [] H) res (hp [] [] H2))
    (hs : sameKeys H H2) (hg : guardO (st L O U H) gd = some true) (hf : f.val (st L O U H) = .k true (.x (.one fv))) (ha : (args.all fun d => (d.val (st L O U H)).g) = true) (hx : fitsR (args.map fun d => (d.val (st L O U H)).r) xs)
    (hO : ∀ p ∈ O, p.1 < 15000) (hU : ∀ p ∈ U, p.1 < 15000) (h : runK P G l (st ((d, .k true res) :: L) O U H2) K) : runK P G (⟨some d, .call f args, gd, none⟩ :: l) (st L O U H) K :=
  r_callV fv xs [] [] res [] [] H2 hm hg hf ha hx (fun _ h => by cases h) (fun _ h => by cases h) hO hU (fun _ h => by cases h) (fun _ h => by cases h) (fun _ h => by cases h) (fun _ h => by cases h) hs rfl h
def PtAt (es : List (List C)) (i off : Nat) (cs : List C) : Prop := ∃ r, es[i]? = some r ∧ (r.drop off).take cs.length = cs
theorem PtAt.len {es : List (List C)} {i off : Nat} {cs : List C} (h : PtAt es i off cs) : off + cs.length ≤ (es[i]?.getD []).length ∨ cs = [] := by
  obtain ⟨r, h1, h2⟩ := h
  have := congrArg List.length h2
  simp at this
  rw [h1]; simp
  by_cases hc : cs = []
  · exact .inr hc
  · left; have : 0 < cs.length := List.length_pos_iff.2 hc; omega
theorem PtAt.at {es : List (List C)} {i off : Nat} {cs : List C} (h : PtAt es i off cs) (j : Nat) (hj : j < cs.length) : (es[i]?.getD [])[off + j]? = some cs[j] := by
  obtain ⟨r, h1, h2⟩ := h
  rw [h1, ← List.getElem?_eq_getElem hj, ← h2]
  simp [hj]
section
variable {fv : A} {H H' : FHp} {Q : Exit → S → Prop} {t0 t12 t14 t15 t4 t21 t20 t22 t1 t5 t39 t38 t40 t6 t53 t54 t7 t74 t75 t8 t86 t85 t87 t9 t100 t101 t10 t107 t106 t108 t11 : T}
theorem walk_l3 (es sq : List (List C)) (i off : Nat) (l : List Tm) (sp : List (List C)) (hl : l.length ≤ maxLen) (hlen : off + 1 < (es[i]?.getD []).length) (hval : (es[i]?.getD [])[off + 1]'hlen = .sl (l.map Tm.row) sp)
    (hc : Ch G fv l H H') (hQ : ∀ t107 t108 t11, Q (.exit 7) (ks126 t0 t12 t14 t15 t4 t21 t20 t22 (.k true (.x (.one fv))) t5 t39 t38 t40 t6 t53 t54 t7 t74 t75 t8 t86 t85 t87 t9 t100 t101 (.k true (.x (.one (.elem es sq i off)))) t107 (tI .i64 l.length) t108 t11 [] [] H')) :
    wpI Tryd.prog G (.loop ic126l3) Q (ks126 t0 t12 t14 t15 t4 t21 t20 t22 (.k true (.x (.one fv))) t5 t39 t38 t40 t6 t53 t54 t7 t74 t75 t8 t86 t85 t87 t9 t100 t101 (.k true (.x (.one (.elem es sq i off)))) (tI .i64 0) (tI .i64 l.length) t108 t11 [] [] H) := by
  refine w_loopK (fun n σ => ∃ (j : Nat) (H1 : FHp) (t108 t11 : T), j + n = l.length ∧ Ch G fv (l.drop j) H1 H' ∧ σ = ks126 t0 t12 t14 t15 t4 t21 t20 t22 (.k true (.x (.one fv))) t5 t39 t38 t40 t6 t53 t54 t7 t74 t75 t8 t86 t85 t87 t9 t100 t101 (.k true (.x (.one (.elem es sq i off)))) (tI .i64 j) (tI .i64 l.length) t108 t11 [] [] H1)
    l.length ⟨0, H, _, _, by simp, by simpa using hc, rfl⟩ ?_
  rintro n σ1 K hK ⟨j, H1, t108, t11, hj, hd, rfl⟩
  obtain hlt | hge := Nat.lt_or_ge j l.length
  · obtain ⟨H2, hm, hs, hd2⟩ := hd.step (List.getElem?_eq_getElem hlt)
    have hpt : PtTo (l.map Tm.row) j 0 l[j] := ⟨l[j].row, by simp [hlt], by simp [Tm.row]⟩
    simp [ic126l3, hlt, hlen, hval]
    refine r_callC (hm _ sp _ _ hpt) hs rfl rfl rfl (by simp) (by simp) (by simp) ?_
    simp [wrap_next hlt (by unfold maxLen at hl; omega)]
    exact hK _ (n - 1) (by omega) ⟨j + 1, H2, _, _, by omega, hd2, rfl⟩
  · rw [List.drop_eq_nil_of_le hge] at hd
    cases hd
    simp [ic126l3, Nat.not_lt.mpr hge]
    exact hQ _ _ _
end
theorem m126_atom {fv : A} {H H' : FHp} (hfv : fv.only farKey (fun _ => False)) (es sq : List (List C)) (i off : Nat) (p : Name) (l : List Tm) (sp : List (List C)) (hl : l.length ≤ maxLen)
    (hp1 : PtAt es i off [cS (bs p), .sl (l.map Tm.row) sp]) (hc : Ch G fv l H H') :
    MeetsH Tryd.prog G 126 [.one (.ifc 169 (.elem es sq i off)), .one fv] (hp [] [] H) (.tup []) (hp [] [] H') := by
  refine meetsH [] Tryd.func126 ie126 ig126 (Nat.le_of_ble_eq_true rfl) (by simp) (by simp) ?_ (by simp) (by simp) hc.same (by simp) (by simp) ?_
  · simp
    exact A.only_mono (fun _ => far_not_own) (fun _ h => h.elim) hfv
  have hlen : off + 1 < (es[i]?.getD []).length := by rcases hp1.len with h | h <;> simp at h; omega
  have hval : (es[i]?.getD [])[off + 1]'hlen = .sl (l.map Tm.row) sp := (List.getElem?_eq_some_iff.1 (hp1.at 1 (by simp))).2
  simp [ic126, ir126, hlen, hval]
  refine walk_l3 es sq i off l sp hl hlen hval hc ?_
  intro t107 t108 t11
  simp
  exact ret_st (by simp) (by simp) (by simp) (by simp) (by simp) (by simp)
end Go.Proofs.YtiomojlcnemnhaaDoor

namespace Go.Proofs.YtiomojlcnemnhaaDoor
open Go.Fx Go.RowKit Go.Ped
variable {G : World → Prop}
abbrev O15 (acc : List Name) : List (Nat × Box) := [(15003, ⟨52, 1, [[.own 15030 (acc.map nmRow)]], none⟩), (15004, ⟨172, 1, [[.mapr 15005]], none⟩), (15005, ⟨0, 2, thr 0 acc, some (.string, true)⟩)]
abbrev U15 (acc : List Name) : List (Nat × Fx.Tok) := [(15030, ⟨9, 1, acc.length⟩)]
theorem hO15 (acc : List Name) : ∀ p ∈ O15 acc, farKey p.1 ∧ ∀ r ∈ p.2.rows, onlyL farKey (fun k => lookT (U15 acc) k ≠ none) r := by
  intro p hp
  simp only [List.mem_cons, List.not_mem_nil, or_false] at hp
  rcases hp with rfl | rfl | rfl
  · exact ⟨by unfold farKey; omega, by simp⟩
  · exact ⟨by unfold farKey; omega, by simp [farKey]⟩
  · exact ⟨by unfold farKey; omega, fun r hr => thr_only _ _ r hr⟩
theorem hU15 (acc : List Name) : ∀ p ∈ U15 acc, farKey p.1 := by
  intro p hp
  simp only [List.mem_cons, List.not_mem_nil, or_false] at hp
  subst hp; unfold farKey; omega
def Hv (acc : List Name) : FHp := FHp.of (O15 acc) (U15 acc) (hO15 acc) (hU15 acc)
abbrev fv15 : A := .clo 170 [] [.ref 15004 0 0, .ref 15003 0 0]
theorem thr_ren (f : Nat → Nat) : ∀ (l : List Name) (n : Nat), (thr n l).map (renL f) = thr n l
  | [], _ => rfl
  | v :: l, n => by simp [thr, thr_ren f l (n + 1)]
theorem Hv_same (a b : List Name) : sameKeys (Hv a) (Hv b) := by
  refine ⟨fun k => ⟨?_, ?_⟩, rfl⟩
  · show lookO (O15 a) k = none ↔ lookO (O15 b) k = none
    simp only [lookO_cons]
    split <;> (try split) <;> (try split) <;> simp
  · show lookT (U15 a) k = none ↔ lookT (U15 b) k = none
    simp only [lookT_cons]
    split <;> simp
theorem c170 (es sp : List (List C)) (i off : Nat) (t : Tm) (h : PtTo es i off t) (acc : List Name) (hl : acc.length ≤ 2000000) :
    MeetsV Tryd.prog G fv15 [.one (.elem es sp i off)] (hp [] [] (Hv acc)) (.tup []) (hp [] [] (Hv (varsOn acc [t.v]))) := by
  have h1 := (clo_of (f := 170) (fs := []) (args := [.one (.elem es sp i off)]) (cs := [.ref 10004 0 0, .ref 10003 0 0]) rfl (m170 (G := G) es sp i off t h acc hl)).ren (π := midFar)
  simp [mfF, thr_ren] at h1
  unfold Hv
  rw [hp_of, hp_of]
  exact h1
theorem ch170 : ∀ (l : List Tm) (acc : List Name), acc.length + l.length ≤ 2000000 → Ch G fv15 l (Hv acc) (Hv (varsOn acc (l.map Tm.v)))
  | [], acc, _ => .nil _
  | t :: l, acc, h => by
    have e : varsOn acc ((t :: l).map Tm.v) = varsOn (varsOn acc [t.v]) (l.map Tm.v) := by
      rw [← varsOn_append]; rfl
    have hlen : (varsOn acc [t.v]).length ≤ acc.length + 1 := by simpa using varsOn_length [t.v] acc
    rw [e]
    simp only [List.length_cons] at h
    exact .cons (fun es sp i off hp => c170 es sp i off t hp acc (by omega)) (Hv_same _ _) (ch170 l _ (by omega))
def Walks (G : World → Prop) (x : A) (l : List Tm) : Prop :=
  ∀ (fv : A) (H H' : FHp), fv.only farKey (fun _ => False) → Ch G fv l H H' → MeetsH Tryd.prog G 126 [.one x, .one fv] (hp [] [] H) (.tup []) (hp [] [] H')
set_option maxRecDepth 20000 in
theorem m118 (x : A) (l : List Tm) (hx : x.only (fun _ => False) (fun _ => False)) (hxr : ∀ f, x.ren f = x) (hxs : ∀ ks, x.strike ks = x) (_hxf : ∀ B, x.freeze B = x) (hl : l.length ≤ 2000000) (hw : Walks G x l) :
    MeetsH Tryd.prog G 118 [.one x] (hp [] [] F0) (.x (.one (.c (.sl ((tmVars l).map nmRow) [])))) (hp [] [] F0) := by
  have h1 := (MeetsV.of_fun (hw fv15 _ _ ⟨trivial, by simp [farKey]⟩ (ch170 (G := G) l [] (by simpa using hl)))).ren (π := nearFar)
  unfold Hv at h1
  rw [hp_of, hp_of] at h1
  simp [nfF, thr_ren, hxr] at h1
  refine meetsH [] Tryd.func118 ie118 ig118 (Nat.le_of_ble_eq_true rfl) (by simp) (by simp) ?_ (by simp) (by simp) (sameKeys_refl F0) (by simp) (by simp) ?_
  · simp
    exact A.only_mono (fun _ h => h.elim) (fun _ h => h.elim) hx
  have e0 : thr 0 [] = [] := rfl
  rw [e0] at h1
  simp [ic118, ir118, hxs]
  refine r_callV _ _ _ _ _ _ _ _ h1 rfl rfl rfl (by simp) (by simp) (by simp) (by simp) (by simp) (by simp) (by simp) (by simp) (by simp) (sameKeys_refl F0) rfl ?_
  simp
  refine ret_st (by simp) ?_ (by simp) (by simp) (by simp) (by simp)
  exact ⟨rfl, rfl⟩
end Go.Proofs.YtiomojlcnemnhaaDoor

namespace Go.Proofs.YtiomojlcnemnhaaDoor
open Go.Fx Go.RowKit Go.Ped
variable {G : World → Prop}
theorem walks_atom (es sq : List (List C)) (i off : Nat) (p : Name) (l : List Tm) (sp : List (List C)) (hl : l.length ≤ maxLen)
    (h : PtAt es i off [cS (bs p), .sl (l.map Tm.row) sp]) : Walks G (.ifc 169 (.elem es sq i off)) l :=
  fun _ _ _ hfv hc => m126_atom hfv es sq i off p l sp hl h hc
theorem m46 (p : Name) (l : List Tm) (sp : List (List C)) (hl : l.length ≤ 1048576) :
    Meets Tryd.prog G 46 [.agg [cS (bs p), .sl (l.map Tm.row) sp]] (.x (.one (.sl ((tmVars l).map nmRow) []))) := by
  refine meets Tryd.func46 ie46 ig46 (Nat.le_of_ble_eq_true rfl) ?_
  have hw := walks_atom (G := G) [[cS (bs p), .sl (l.map Tm.row) sp]] [] 0 0 p l sp (by unfold maxLen; omega) ⟨_, rfl, rfl⟩
  simp [ic46, ir46, freeze_st, fzL, freezeO, maxLen, closeL, A.close]
  refine r_call0 (MeetsV.of_fun (m118 _ l (by simp) (fun _ => rfl) (fun _ => rfl) (fun _ => rfl) (by omega) hw)) rfl rfl rfl (by simp) (by simp) (by simp) ?_
  simp
end Go.Proofs.YtiomojlcnemnhaaDoor

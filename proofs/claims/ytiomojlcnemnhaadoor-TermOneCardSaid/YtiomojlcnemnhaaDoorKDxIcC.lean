/- Functions of the seat, as the small language has them. -/
import Derived.Test.YtiomojlcnemnhaaDoorKFxWb
import Derived.Test.YtiomojlcnemnhaaDoorProg
import Derived.KernelRfl
namespace Go.Proofs.YtiomojlcnemnhaaDoor
open Go.Fx

abbrev ks34 (t0 t1 t2 t3 t38 t6 t44 t43 t45 t7 t9 t10 t11 t73 t76 t81 t8 t94 t93 t95 t92 t12 t14 t4 t5 : T) (O : List (Nat × Box)) (U : List (Nat × Tok)) (H : FHp) : S := st [(0, t0), (1, t1), (2, t2), (3, t3), (38, t38), (6, t6), (44, t44), (43, t43), (45, t45), (7, t7), (9, t9), (10, t10), (11, t11), (73, t73), (76, t76), (81, t81), (8, t8), (94, t94), (93, t93), (95, t95), (92, t92), (12, t12), (14, t14), (4, t4), (5, t5)] O U H
def ic34l0 : IC :=
 (.seq
 (.region [] [] [0, 1, 2, 3, 38, 6, 44, 43, 45, 7, 9, 10, 11, 73, 76, 81, 8, 94, 93, 95, 92, 12, 14, 4, 5] [
 ⟨(some 45), (.bin .lss (.t 44) (.t 43)), none, none⟩])
 (.seq
 (.cond (.t 45)
 .skip
 (.exit 0))
 (.seq
 (.block 1
 (.seq
 (.region [] [] [0, 1, 2, 3, 38, 6, 44, 43, 45, 7, 9, 10, 11, 73, 76, 81, 8, 94, 93, 95, 92, 12, 14, 4, 5] [
 ⟨(some 46), (.move (.t 44)), none, none⟩,
 ⟨(some 9), (.move (.t 46)), none, none⟩])
 (.seq
 (.region [10, 11] [] [0, 1, 2, 3, 38, 6, 44, 43, 45, 7, 9, 10, 11, 73, 76, 81, 8, 94, 93, 95, 92, 12, 14, 4, 5] [
 ⟨(some 47), (.move (.t 7)), none, none⟩,
 ⟨(some 48), (.faddr 1 (.t 2)), none, none⟩,
 ⟨(some 49), (.load none (.t 48)), none, (some [2])⟩,
 ⟨(some 50), (.move (.t 9)), none, none⟩,
 ⟨(some 51), (.iaddr 4 (.t 49) (.t 50)), none, (some [])⟩,
 ⟨(some 52), (.load (some 4) (.t 51)), none, (some [])⟩,
 ⟨(some 53), (.call (.t 47) [(.t 52)]), none, (some [6, 39])⟩,
 ⟨(some 54), (.move (.t 7)), none, none⟩,
 ⟨(some 55), (.faddr 1 (.t 3)), none, none⟩,
 ⟨(some 56), (.load none (.t 55)), none, (some [3])⟩,
 ⟨(some 57), (.move (.t 9)), none, none⟩,
 ⟨(some 58), (.iaddr 4 (.t 56) (.t 57)), none, (some [])⟩,
 ⟨(some 59), (.load (some 4) (.t 58)), none, (some [])⟩,
 ⟨(some 60), (.call (.t 54) [(.t 59)]), none, (some [6, 39])⟩,
 ⟨(some 10), (.zero 41 [(.c (.v (.string (bs [])))), (.c (.v (.int .i8 0))), (.c (.v (.int .i64 0))), (.c (.v (.string (bs []))))]), none, none⟩,
 ⟨(some 11), (.zero 41 [(.c (.v (.string (bs [])))), (.c (.v (.int .i8 0))), (.c (.v (.int .i64 0))), (.c (.v (.string (bs []))))]), none, none⟩,
 ⟨none, (.store (some 4) (.t 10) (.t 53)), none, none⟩,
 ⟨none, (.store (some 4) (.t 11) (.t 60)), none, none⟩])
 (.seq
 (.seq
 (.region [] [] [0, 1, 2, 3, 38, 6, 44, 43, 45, 7, 9, 10, 11, 73, 76, 81, 8, 94, 93, 95, 92, 12, 14, 4, 5] [
 ⟨(some 61), (.faddr 0 (.t 10)), none, none⟩,
 ⟨(some 62), (.load none (.t 61)), none, none⟩,
 ⟨(some 63), (.bin .eql (.t 62) (.k (rS (bs [95])))), none, none⟩,
 ⟨(some 64), (.move (.t 63)), none, none⟩,
 ⟨(some 65), (.faddr 0 (.t 11)), some (64, false), none⟩,
 ⟨(some 66), (.load none (.t 65)), some (64, false), none⟩,
 ⟨(some 67), (.bin .eql (.t 66) (.k (rS (bs [95])))), some (64, false), none⟩,
 ⟨(some 68), (.pick (.t 64) (.k (rB true)) (.t 67)), none, none⟩,
 ⟨(some 69), (.move (.t 68)), none, none⟩,
 ⟨(some 70), (.load (some 4) (.t 10)), some (69, false), none⟩,
 ⟨(some 71), (.load (some 4) (.t 11)), some (69, false), none⟩,
 ⟨(some 72), (.eqs false [.s, .i .i8, .i .i64, .s] (.t 70) (.t 71)), some (69, false), none⟩,
 ⟨(some 73), (.pick (.t 69) (.k (rB true)) (.t 72)), none, none⟩])
 (.cond (.t 73)
 (.exit 1)
 .skip))
 (.seq
 (.seq
 (.region [] [] [0, 1, 2, 3, 38, 6, 44, 43, 45, 7, 9, 10, 11, 73, 76, 81, 8, 94, 93, 95, 92, 12, 14, 4, 5] [
 ⟨(some 74), (.faddr 0 (.t 10)), none, none⟩,
 ⟨(some 75), (.load none (.t 74)), none, none⟩,
 ⟨(some 76), (.bin .eql (.t 75) (.k (rS (bs [])))), none, none⟩])
 (.cond (.t 76)
 (.region [] [] [0, 1, 2, 3, 38, 6, 44, 43, 45, 7, 9, 10, 11, 73, 76, 81, 8, 94, 93, 95, 92, 12, 14, 4, 5] [
 ⟨(some 77), (.load (some 4) (.t 11)), none, none⟩,
 ⟨(some 78), (.load (some 4) (.t 10)), none, none⟩,
 ⟨none, (.store (some 4) (.t 10) (.t 77)), none, none⟩,
 ⟨none, (.store (some 4) (.t 11) (.t 78)), none, none⟩])
 .skip))
 (.seq
 (.seq
 (.region [] [] [0, 1, 2, 3, 38, 6, 44, 43, 45, 7, 9, 10, 11, 73, 76, 81, 8, 94, 93, 95, 92, 12, 14, 4, 5] [
 ⟨(some 79), (.faddr 0 (.t 10)), none, none⟩,
 ⟨(some 80), (.load none (.t 79)), none, none⟩,
 ⟨(some 81), (.bin .eql (.t 80) (.k (rS (bs [])))), none, none⟩])
 (.cond (.t 81)
 (.seq
 (.region [] [] [0, 1, 2, 3, 38, 6, 44, 43, 45, 7, 9, 10, 11, 73, 76, 81, 8, 94, 93, 95, 92, 12, 14, 4, 5] [
 ⟨(some 4), (.move (.k (.x (.one .nil)))), none, none⟩,
 ⟨(some 5), (.move (.k (rB false))), none, none⟩])
 .ret)
 .skip))
 (.seq
 (.region [] [] [0, 1, 2, 3, 38, 6, 44, 43, 45, 7, 9, 10, 11, 73, 76, 81, 8, 94, 93, 95, 92, 12, 14, 4, 5] [
 ⟨(some 82), (.load none (.t 6)), none, none⟩,
 ⟨(some 83), (.faddr 0 (.t 10)), none, none⟩,
 ⟨(some 84), (.load none (.t 83)), none, none⟩,
 ⟨(some 85), (.load (some 4) (.t 11)), none, none⟩,
 ⟨none, (.mapup .string false (.t 82) (.t 84) (.t 85)), none, none⟩])
 (.region [89] [] [0, 1, 2, 3, 38, 6, 44, 43, 45, 7, 9, 10, 11, 73, 76, 81, 8, 94, 93, 95, 92, 12, 14, 4, 5] [
 ⟨(some 86), (.move (.t 8)), none, none⟩,
 ⟨(some 87), (.faddr 0 (.t 10)), none, none⟩,
 ⟨(some 88), (.load none (.t 87)), none, none⟩,
 ⟨(some 89), (.row 9 1 [(.t 88)]), none, none⟩,
 ⟨(some 90), (.app 9 1 16 (.t 86) (.t 89)), none, none⟩,
 ⟨(some 8), (.move (.t 90)), none, none⟩]))))))))
 (.region [] [] [0, 1, 2, 3, 38, 6, 44, 43, 45, 7, 9, 10, 11, 73, 76, 81, 8, 94, 93, 95, 92, 12, 14, 4, 5] [
 ⟨(some 91), (.bin .add (.t 44) (.k (rI .i64 1))), none, none⟩,
 ⟨(some 44), (.move (.t 91)), none, none⟩]))))

def ic34l1 : IC :=
 (.seq
 (.region [] [] [0, 1, 2, 3, 38, 6, 44, 43, 45, 7, 9, 10, 11, 73, 76, 81, 8, 94, 93, 95, 92, 12, 14, 4, 5] [
 ⟨(some 95), (.bin .lss (.t 94) (.t 93)), none, none⟩])
 (.seq
 (.cond (.t 95)
 .skip
 (.exit 2))
 (.seq
 (.block 3
 (.seq
 (.region [] [] [0, 1, 2, 3, 38, 6, 44, 43, 45, 7, 9, 10, 11, 73, 76, 81, 8, 94, 93, 95, 92, 12, 14, 4, 5] [
 ⟨(some 96), (.iaddr 1 (.t 92) (.t 94)), none, none⟩,
 ⟨(some 97), (.load none (.t 96)), none, none⟩,
 ⟨(some 14), (.move (.t 97)), none, none⟩])
 (.region [105] [] [0, 1, 2, 3, 38, 6, 44, 43, 45, 7, 9, 10, 11, 73, 76, 81, 8, 94, 93, 95, 92, 12, 14, 4, 5] [
 ⟨(some 98), (.move (.t 12)), none, none⟩,
 ⟨(some 99), (.move (.t 14)), none, none⟩,
 ⟨(some 100), (.move (.t 7)), none, none⟩,
 ⟨(some 101), (.move (.t 14)), none, none⟩,
 ⟨(some 102), (.build [(.c (.v (.string (bs [])))), (.c (.v (.int .i8 0))), (.c (.v (.int .i64 0))), (.c (.v (.string (bs []))))] [(0, 1, (.t 101))]), none, none⟩,
 ⟨(some 103), (.call (.t 100) [(.t 102)]), none, none⟩,
 ⟨(some 104), (.build [(.c (.v (.string (bs [])))), (.c (.v (.string (bs [])))), (.c (.v (.int .i8 0))), (.c (.v (.int .i64 0))), (.c (.v (.string (bs []))))] [(0, 1, (.t 99)), (1, 4, (.t 103))]), none, none⟩,
 ⟨(some 105), (.row 65 5 [(.t 104)]), none, none⟩,
 ⟨(some 106), (.app 65 5 64 (.t 98) (.t 105)), none, none⟩,
 ⟨(some 12), (.move (.t 106)), none, none⟩])))
 (.region [] [] [0, 1, 2, 3, 38, 6, 44, 43, 45, 7, 9, 10, 11, 73, 76, 81, 8, 94, 93, 95, 92, 12, 14, 4, 5] [
 ⟨(some 107), (.bin .add (.t 94) (.k (rI .i64 1))), none, none⟩,
 ⟨(some 94), (.move (.t 107)), none, none⟩]))))

/-- pedigree/term.Unify -/
def ic34 : IC :=
 (.seq
 (.region [2, 3] [] [0, 1, 2, 3, 38, 6, 44, 43, 45, 7, 9, 10, 11, 73, 76, 81, 8, 94, 93, 95, 92, 12, 14, 4, 5] [
 ⟨(some 2), (.box 24 (.t 0)), none, none⟩,
 ⟨(some 3), (.box 24 (.t 1)), none, none⟩,
 ⟨(some 4), (.move (.k (.x (.one .nil)))), none, none⟩,
 ⟨(some 5), (.move (.k (rB false))), none, none⟩])
 (.seq
 (.seq
 (.region [] [] [0, 1, 2, 3, 38, 6, 44, 43, 45, 7, 9, 10, 11, 73, 76, 81, 8, 94, 93, 95, 92, 12, 14, 4, 5] [
 ⟨(some 15), (.load (some 2) (.t 2)), none, none⟩,
 ⟨(some 16), (.callp (.k (rF 44)) [(.t 15)]), none, none⟩,
 ⟨(some 17), (.bin .neq (.t 16) (.k (rI .i64 0))), none, none⟩,
 ⟨(some 18), (.move (.t 17)), none, none⟩,
 ⟨(some 19), (.load (some 2) (.t 3)), some (18, false), none⟩,
 ⟨(some 20), (.callp (.k (rF 44)) [(.t 19)]), some (18, false), none⟩,
 ⟨(some 21), (.bin .neq (.t 20) (.k (rI .i64 0))), some (18, false), none⟩,
 ⟨(some 22), (.pick (.t 18) (.k (rB true)) (.t 21)), none, none⟩,
 ⟨(some 23), (.move (.t 22)), none, none⟩,
 ⟨(some 24), (.faddr 0 (.t 2)), some (23, false), none⟩,
 ⟨(some 25), (.load none (.t 24)), some (23, false), none⟩,
 ⟨(some 26), (.faddr 0 (.t 3)), some (23, false), none⟩,
 ⟨(some 27), (.load none (.t 26)), some (23, false), none⟩,
 ⟨(some 28), (.bin .neq (.t 25) (.t 27)), some (23, false), none⟩,
 ⟨(some 29), (.pick (.t 23) (.k (rB true)) (.t 28)), none, none⟩,
 ⟨(some 30), (.move (.t 29)), none, none⟩,
 ⟨(some 31), (.faddr 1 (.t 2)), some (30, false), none⟩,
 ⟨(some 32), (.load none (.t 31)), some (30, false), none⟩,
 ⟨(some 33), (.len (.t 32)), some (30, false), none⟩,
 ⟨(some 34), (.faddr 1 (.t 3)), some (30, false), none⟩,
 ⟨(some 35), (.load none (.t 34)), some (30, false), none⟩,
 ⟨(some 36), (.len (.t 35)), some (30, false), none⟩,
 ⟨(some 37), (.bin .neq (.t 33) (.t 36)), some (30, false), none⟩,
 ⟨(some 38), (.pick (.t 30) (.k (rB true)) (.t 37)), none, none⟩])
 (.cond (.t 38)
 (.seq
 (.region [] [] [0, 1, 2, 3, 38, 6, 44, 43, 45, 7, 9, 10, 11, 73, 76, 81, 8, 94, 93, 95, 92, 12, 14, 4, 5] [
 ⟨(some 4), (.move (.k (.x (.one .nil)))), none, none⟩,
 ⟨(some 5), (.move (.k (rB false))), none, none⟩])
 .ret)
 .skip))
 (.seq
 (.region [39, 6] [] [0, 1, 2, 3, 38, 6, 44, 43, 45, 7, 9, 10, 11, 73, 76, 81, 8, 94, 93, 95, 92, 12, 14, 4, 5] [
 ⟨(some 39), (.mkmap .string 5 false), none, none⟩,
 ⟨(some 6), (.zero 155 [(.c (.v (.map none)))]), none, none⟩,
 ⟨none, (.store (some 1) (.t 6) (.t 39)), none, none⟩])
 (.seq
 (.region [] [] [0, 1, 2, 3, 38, 6, 44, 43, 45, 7, 9, 10, 11, 73, 76, 81, 8, 94, 93, 95, 92, 12, 14, 4, 5] [
 ⟨(some 40), (.clo 106 [] [(.t 6)]), none, none⟩,
 ⟨(some 7), (.move (.t 40)), none, none⟩])
 (.seq
 (.region [] [] [0, 1, 2, 3, 38, 6, 44, 43, 45, 7, 9, 10, 11, 73, 76, 81, 8, 94, 93, 95, 92, 12, 14, 4, 5] [
 ⟨(some 8), (.move (.k (.x (.one .nil)))), none, none⟩])
 (.seq
 (.seq
 (.region [] [] [0, 1, 2, 3, 38, 6, 44, 43, 45, 7, 9, 10, 11, 73, 76, 81, 8, 94, 93, 95, 92, 12, 14, 4, 5] [
 ⟨(some 41), (.faddr 1 (.t 2)), none, none⟩,
 ⟨(some 42), (.load none (.t 41)), none, none⟩,
 ⟨(some 43), (.len (.t 42)), none, none⟩,
 ⟨(some 44), (.move (.k (rI .i64 0))), none, none⟩])
 (.block 0
 (.loop ic34l0)))
 (.seq
 (.region [] [] [0, 1, 2, 3, 38, 6, 44, 43, 45, 7, 9, 10, 11, 73, 76, 81, 8, 94, 93, 95, 92, 12, 14, 4, 5] [
 ⟨(some 12), (.move (.k (.x (.one .nil)))), none, none⟩])
 (.seq
 (.seq
 (.region [] [] [0, 1, 2, 3, 38, 6, 44, 43, 45, 7, 9, 10, 11, 73, 76, 81, 8, 94, 93, 95, 92, 12, 14, 4, 5] [
 ⟨(some 92), (.move (.t 8)), none, none⟩,
 ⟨(some 93), (.len (.t 92)), none, none⟩,
 ⟨(some 94), (.move (.k (rI .i64 0))), none, none⟩])
 (.block 2
 (.loop ic34l1)))
 (.seq
 (.region [] [] [0, 1, 2, 3, 38, 6, 44, 43, 45, 7, 9, 10, 11, 73, 76, 81, 8, 94, 93, 95, 92, 12, 14, 4, 5] [
 ⟨(some 108), (.move (.t 12)), none, none⟩,
 ⟨(some 4), (.move (.t 108)), none, none⟩,
 ⟨(some 5), (.move (.k (rB true))), none, none⟩])
 .ret)))))))))
def ir34 : List IRes := [.tmp 4, .tmp 5]
theorem ie34 : cmpFunc Go.Proofs.Tryd.prog ⟨[(49, (some [2])), (52, (some [])), (53, (some [6, 39])), (56, (some [3])), (59, (some [])), (60, (some [6, 39])), (51, (some [])), (58, (some [])), (53, none), (60, none), (103, none)], []⟩ Go.Proofs.Tryd.f34 [0, 1, 2, 3, 38, 6, 44, 43, 45, 7, 9, 10, 11, 73, 76, 81, 8, 94, 93, 95, 92, 12, 14, 4, 5] = some ic34 := by kernel_rfl
theorem ig34 : cmpRes Go.Proofs.Tryd.prog Go.Proofs.Tryd.f34.results.toList = some ir34 := by kernel_rfl

abbrev ks106 (t0 t1 t2 t5 t13 t4 t22 t3 : T) (O : List (Nat × Box)) (U : List (Nat × Tok)) (H : FHp) : S := st [(0, t0), (1, t1), (2, t2), (5, t5), (13, t13), (4, t4), (22, t22), (3, t3)] O U H
def ic106l0 : IC :=
 (.seq
 (.seq
 (.region [] [] [0, 1, 2, 5, 13, 4, 22, 3] [
 ⟨(some 13), (.move (.t 5)), none, none⟩])
 (.cond (.t 13)
 .skip
 (.exit 0)))
 (.seq
 (.block 1
 (.region [] [] [0, 1, 2, 5, 13, 4, 22, 3] [
 ⟨(some 21), (.load (some 4) (.t 4)), none, none⟩,
 ⟨none, (.store (some 4) (.t 2) (.t 21)), none, none⟩]))
 (.seq
 (.seq
 (.region [] [] [0, 1, 2, 5, 13, 4, 22, 3] [
 ⟨(some 22), (.load (some 4) (.t 4)), none, none⟩])
 (.region [4] [] [0, 1, 2, 5, 13, 4, 22, 3] [
 ⟨(some 4), (.zero 41 [(.c (.v (.string (bs [])))), (.c (.v (.int .i8 0))), (.c (.v (.int .i64 0))), (.c (.v (.string (bs []))))]), none, none⟩,
 ⟨none, (.store (some 4) (.t 4) (.t 22)), none, none⟩]))
 (.region [] [] [0, 1, 2, 5, 13, 4, 22, 3] [
 ⟨(some 15), (.load none (.t 1)), none, none⟩,
 ⟨(some 16), (.faddr 0 (.t 2)), none, none⟩,
 ⟨(some 17), (.load none (.t 16)), none, none⟩,
 ⟨(some 18), (.mlook .string false true [(.c (.v (.string (bs [])))), (.c (.v (.int .i8 0))), (.c (.v (.int .i64 0))), (.c (.v (.string (bs []))))] (.t 15) (.t 17)), none, none⟩,
 ⟨(some 14), (.move (.t 18)), none, none⟩,
 ⟨(some 19), (.ext (.t 14) 0), none, none⟩,
 ⟨(some 20), (.ext (.t 14) 1), none, none⟩,
 ⟨none, (.store (some 4) (.t 4) (.t 19)), none, none⟩,
 ⟨(some 5), (.move (.t 20)), none, none⟩]))))

/-- pedigree/term.Unify$1 -/
def ic106 : IC :=
 (.seq
 (.region [2, 3] [] [0, 1, 2, 5, 13, 4, 22, 3] [
 ⟨(some 2), (.box 41 (.t 0)), none, none⟩,
 ⟨(some 3), (.zero 41 [(.c (.v (.string (bs [])))), (.c (.v (.int .i8 0))), (.c (.v (.int .i64 0))), (.c (.v (.string (bs []))))]), none, none⟩])
 (.seq
 (.seq
 (.region [4] [] [0, 1, 2, 5, 13, 4, 22, 3] [
 ⟨(some 7), (.load none (.t 1)), none, none⟩,
 ⟨(some 8), (.faddr 0 (.t 2)), none, none⟩,
 ⟨(some 9), (.load none (.t 8)), none, none⟩,
 ⟨(some 10), (.mlook .string false true [(.c (.v (.string (bs [])))), (.c (.v (.int .i8 0))), (.c (.v (.int .i64 0))), (.c (.v (.string (bs []))))] (.t 7) (.t 9)), none, none⟩,
 ⟨(some 6), (.move (.t 10)), none, none⟩,
 ⟨(some 11), (.ext (.t 6) 0), none, none⟩,
 ⟨(some 12), (.ext (.t 6) 1), none, none⟩,
 ⟨(some 4), (.zero 41 [(.c (.v (.string (bs [])))), (.c (.v (.int .i8 0))), (.c (.v (.int .i64 0))), (.c (.v (.string (bs []))))]), none, none⟩,
 ⟨none, (.store (some 4) (.t 4) (.t 11)), none, none⟩,
 ⟨(some 5), (.move (.t 12)), none, none⟩])
 (.block 0
 (.loop ic106l0)))
 (.seq
 (.region [] [] [0, 1, 2, 5, 13, 4, 22, 3] [
 ⟨(some 23), (.load (some 4) (.t 2)), none, none⟩,
 ⟨none, (.store (some 4) (.t 3) (.t 23)), none, none⟩])
 .ret)))
def ir106 : List IRes := [.cell 3 (some 4)]
theorem ie106 : cmpFunc Go.Proofs.Tryd.prog ⟨[], []⟩ Go.Proofs.Tryd.f106 [0, 1, 2, 5, 13, 4, 22, 3] = some ic106 := by kernel_rfl
theorem ig106 : cmpRes Go.Proofs.Tryd.prog Go.Proofs.Tryd.f106.results.toList = some ir106 := by kernel_rfl

end Go.Proofs.YtiomojlcnemnhaaDoor

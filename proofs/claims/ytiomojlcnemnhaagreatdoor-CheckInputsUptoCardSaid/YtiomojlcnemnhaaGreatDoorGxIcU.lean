/- Functions of the seat, as the small language has them. -/
import Derived.Test.YtiomojlcnemnhaaGreatDoorFxWb
import Derived.Test.YtiomojlcnemnhaaGreatDoorProg
import Derived.KernelRfl
namespace Go.Proofs.YtiomojlcnemnhaaGreatDoor
open Go.Fx
def ic2039l0 : IC :=
 (.seq
 (.seq
 (.region [] [] [0, 2, 3, 8, 23, 6, 1, 27, 9, 32, 10, 41, 7, 12, 64, 11, 5, 13, 71, 15, 87] [
 ⟨(some 29), (.move (.t 9)), none, none⟩,
 ⟨(some 30), (.move (.t 1)), none, none⟩,
 ⟨(some 31), (.len (.t 30)), none, none⟩,
 ⟨(some 32), (.bin .lss (.t 29) (.t 31)), none, none⟩])
 (.cond (.t 32)
 .skip
 (.exit 0)))
 (.seq
 (.block 1
 (.seq
 (.seq
 (.region [] [] [0, 2, 3, 8, 23, 6, 1, 27, 9, 32, 10, 41, 7, 12, 64, 11, 5, 13, 71, 15, 87] [
 ⟨(some 35), (.move (.t 1)), none, none⟩,
 ⟨(some 36), (.move (.t 9)), none, none⟩,
 ⟨(some 37), (.iaddr 2 (.t 35) (.t 36)), none, none⟩,
 ⟨(some 38), (.load (some 2) (.t 37)), none, none⟩,
 ⟨(some 39), (.callp (.k (rF 126)) [(.t 38)]), none, none⟩,
 ⟨(some 10), (.move (.t 39)), none, none⟩])
 (.seq
 (.region [] [] [0, 2, 3, 8, 23, 6, 1, 27, 9, 32, 10, 41, 7, 12, 64, 11, 5, 13, 71, 15, 87] [
 ⟨(some 40), (.move (.t 10)), none, none⟩,
 ⟨(some 41), (.bin .neq (.t 40) (.k (rI .i64 0))), none, none⟩])
 (.cond (.t 41)
 (.seq
 (.region [] [] [0, 2, 3, 8, 23, 6, 1, 27, 9, 32, 10, 41, 7, 12, 64, 11, 5, 13, 71, 15, 87] [
 ⟨(some 42), (.move (.t 10)), none, none⟩,
 ⟨(some 43), (.move (.t 9)), none, none⟩,
 ⟨(some 44), (.build [(.c (.v (.int .i8 0))), (.c (.v (.int .i64 0))), (.c (.v (.int .i64 0)))] [(0, 1, (.k (rI .i8 2))), (1, 1, (.t 42)), (2, 1, (.t 43))]), none, none⟩,
 ⟨none, (.store (some 3) (.t 6) (.t 44)), none, none⟩])
 .ret)
 .skip)))
 (.seq
 (.region [59] [] [0, 2, 3, 8, 23, 6, 1, 27, 9, 32, 10, 41, 7, 12, 64, 11, 5, 13, 71, 15, 87] [
 ⟨(some 46), (.move (.t 7)), none, none⟩,
 ⟨(some 47), (.move (.t 1)), none, none⟩,
 ⟨(some 48), (.move (.t 9)), none, none⟩,
 ⟨(some 49), (.iaddr 2 (.t 47) (.t 48)), none, none⟩,
 ⟨(some 50), (.faddr 0 (.t 49)), none, none⟩,
 ⟨(some 51), (.load none (.t 50)), none, none⟩,
 ⟨(some 52), (.move (.t 1)), none, none⟩,
 ⟨(some 53), (.move (.t 9)), none, none⟩,
 ⟨(some 54), (.iaddr 2 (.t 52) (.t 53)), none, none⟩,
 ⟨(some 55), (.faddr 1 (.t 54)), none, none⟩,
 ⟨(some 56), (.load none (.t 55)), none, none⟩,
 ⟨(some 57), (.len (.t 56)), none, none⟩,
 ⟨(some 58), (.build [(.c (.v (.string (bs [])))), (.c (.v (.int .i64 0)))] [(0, 1, (.t 51)), (1, 1, (.t 57))]), none, none⟩,
 ⟨(some 59), (.row 168 2 [(.t 58)]), none, none⟩,
 ⟨(some 60), (.callp (.k (rF 127)) [(.t 46), (.t 59)]), none, none⟩,
 ⟨(some 45), (.move (.t 60)), none, none⟩,
 ⟨(some 61), (.ext (.t 45) 0), none, none⟩,
 ⟨(some 62), (.ext (.t 45) 1), none, none⟩,
 ⟨(some 11), (.move (.t 61)), none, none⟩,
 ⟨(some 12), (.move (.t 62)), none, none⟩])
 (.seq
 (.seq
 (.region [] [] [0, 2, 3, 8, 23, 6, 1, 27, 9, 32, 10, 41, 7, 12, 64, 11, 5, 13, 71, 15, 87] [
 ⟨(some 63), (.move (.t 12)), none, none⟩,
 ⟨(some 64), (.un .not (.t 63)), none, none⟩])
 (.cond (.t 64)
 (.seq
 (.region [] [] [0, 2, 3, 8, 23, 6, 1, 27, 9, 32, 10, 41, 7, 12, 64, 11, 5, 13, 71, 15, 87] [
 ⟨(some 65), (.move (.t 9)), none, none⟩,
 ⟨(some 66), (.build [(.c (.v (.int .i8 0))), (.c (.v (.int .i64 0))), (.c (.v (.int .i64 0)))] [(0, 1, (.k (rI .i8 2))), (1, 1, (.k (rI .i64 72))), (2, 1, (.t 65))]), none, none⟩,
 ⟨none, (.store (some 3) (.t 6) (.t 66)), none, none⟩])
 .ret)
 .skip))
 (.region [] [] [0, 2, 3, 8, 23, 6, 1, 27, 9, 32, 10, 41, 7, 12, 64, 11, 5, 13, 71, 15, 87] [
 ⟨(some 67), (.move (.t 11)), none, none⟩,
 ⟨(some 7), (.move (.t 67)), none, none⟩])))))
 (.region [] [] [0, 2, 3, 8, 23, 6, 1, 27, 9, 32, 10, 41, 7, 12, 64, 11, 5, 13, 71, 15, 87] [
 ⟨(some 33), (.move (.t 9)), none, none⟩,
 ⟨(some 34), (.bin .add (.t 33) (.k (rI .i64 1))), none, none⟩,
 ⟨(some 9), (.move (.t 34)), none, none⟩])))

/-- pedigree/pedigreeref07.Input -/
def ic2039 : IC :=
 (.seq
 (.region [3, 5, 6] [] [0, 2, 3, 8, 23, 6, 1, 27, 9, 32, 10, 41, 7, 12, 64, 11, 5, 13, 71, 15, 87] [
 ⟨(some 3), (.box 47 (.t 0)), none, none⟩,
 ⟨(some 5), (.box 25 (.t 2)), none, none⟩,
 ⟨(some 6), (.zero 55 [(.c (.v (.int .i8 0))), (.c (.v (.int .i64 0))), (.c (.v (.int .i64 0)))]), none, none⟩])
 (.seq
 (.region [8] [] [0, 2, 3, 8, 23, 6, 1, 27, 9, 32, 10, 41, 7, 12, 64, 11, 5, 13, 71, 15, 87] [
 ⟨(some 17), (.load (some 1) (.t 3)), none, none⟩,
 ⟨(some 18), (.callp (.k (rF 125)) [(.t 17)]), none, none⟩,
 ⟨(some 16), (.move (.t 18)), none, none⟩,
 ⟨(some 19), (.ext (.t 16) 0), none, none⟩,
 ⟨(some 20), (.ext (.t 16) 1), none, none⟩,
 ⟨(some 8), (.zero 55 [(.c (.v (.int .i8 0))), (.c (.v (.int .i64 0))), (.c (.v (.int .i64 0)))]), none, none⟩,
 ⟨(some 7), (.move (.t 19)), none, none⟩,
 ⟨none, (.store (some 3) (.t 8) (.t 20)), none, none⟩])
 (.seq
 (.seq
 (.region [] [] [0, 2, 3, 8, 23, 6, 1, 27, 9, 32, 10, 41, 7, 12, 64, 11, 5, 13, 71, 15, 87] [
 ⟨(some 21), (.faddr 1 (.t 8)), none, none⟩,
 ⟨(some 22), (.load none (.t 21)), none, none⟩,
 ⟨(some 23), (.bin .neq (.t 22) (.k (rI .i64 0))), none, none⟩])
 (.cond (.t 23)
 (.seq
 (.region [] [] [0, 2, 3, 8, 23, 6, 1, 27, 9, 32, 10, 41, 7, 12, 64, 11, 5, 13, 71, 15, 87] [
 ⟨(some 24), (.load (some 3) (.t 8)), none, none⟩,
 ⟨none, (.store (some 3) (.t 6) (.t 24)), none, none⟩])
 .ret)
 .skip))
 (.seq
 (.seq
 (.region [] [] [0, 2, 3, 8, 23, 6, 1, 27, 9, 32, 10, 41, 7, 12, 64, 11, 5, 13, 71, 15, 87] [
 ⟨(some 25), (.move (.t 1)), none, none⟩,
 ⟨(some 26), (.len (.t 25)), none, none⟩,
 ⟨(some 27), (.bin .gtr (.t 26) (.k (rI .i64 65536))), none, none⟩])
 (.cond (.t 27)
 (.seq
 (.region [] [] [0, 2, 3, 8, 23, 6, 1, 27, 9, 32, 10, 41, 7, 12, 64, 11, 5, 13, 71, 15, 87] [
 ⟨(some 28), (.build [(.c (.v (.int .i8 0))), (.c (.v (.int .i64 0))), (.c (.v (.int .i64 0)))] [(0, 1, (.k (rI .i8 2))), (1, 1, (.k (rI .i64 70)))]), none, none⟩,
 ⟨none, (.store (some 3) (.t 6) (.t 28)), none, none⟩])
 .ret)
 .skip))
 (.seq
 (.seq
 (.region [] [] [0, 2, 3, 8, 23, 6, 1, 27, 9, 32, 10, 41, 7, 12, 64, 11, 5, 13, 71, 15, 87] [
 ⟨(some 9), (.move (.k (rI .i64 0))), none, none⟩])
 (.block 0
 (.loop ic2039l0)))
 (.seq
 (.seq
 (.region [] [] [0, 2, 3, 8, 23, 6, 1, 27, 9, 32, 10, 41, 7, 12, 64, 11, 5, 13, 71, 15, 87] [
 ⟨(some 68), (.load (some 2) (.t 5)), none, none⟩,
 ⟨(some 69), (.callp (.k (rF 128)) [(.t 68)]), none, none⟩,
 ⟨(some 13), (.move (.t 69)), none, none⟩])
 (.seq
 (.region [] [] [0, 2, 3, 8, 23, 6, 1, 27, 9, 32, 10, 41, 7, 12, 64, 11, 5, 13, 71, 15, 87] [
 ⟨(some 70), (.move (.t 13)), none, none⟩,
 ⟨(some 71), (.bin .neq (.t 70) (.k (rI .i64 0))), none, none⟩])
 (.cond (.t 71)
 (.seq
 (.region [] [] [0, 2, 3, 8, 23, 6, 1, 27, 9, 32, 10, 41, 7, 12, 64, 11, 5, 13, 71, 15, 87] [
 ⟨(some 72), (.move (.t 13)), none, none⟩,
 ⟨(some 73), (.build [(.c (.v (.int .i8 0))), (.c (.v (.int .i64 0))), (.c (.v (.int .i64 0)))] [(0, 1, (.k (rI .i8 3))), (1, 1, (.t 72))]), none, none⟩,
 ⟨none, (.store (some 3) (.t 6) (.t 73)), none, none⟩])
 .ret)
 .skip)))
 (.seq
 (.seq
 (.region [82] [] [0, 2, 3, 8, 23, 6, 1, 27, 9, 32, 10, 41, 7, 12, 64, 11, 5, 13, 71, 15, 87] [
 ⟨(some 75), (.move (.t 7)), none, none⟩,
 ⟨(some 76), (.faddr 0 (.t 5)), none, none⟩,
 ⟨(some 77), (.load none (.t 76)), none, none⟩,
 ⟨(some 78), (.faddr 1 (.t 5)), none, none⟩,
 ⟨(some 79), (.load none (.t 78)), none, none⟩,
 ⟨(some 80), (.len (.t 79)), none, none⟩,
 ⟨(some 81), (.build [(.c (.v (.string (bs [])))), (.c (.v (.int .i64 0)))] [(0, 1, (.t 77)), (1, 1, (.t 80))]), none, none⟩,
 ⟨(some 82), (.row 168 2 [(.t 81)]), none, none⟩,
 ⟨(some 83), (.callp (.k (rF 127)) [(.t 75), (.t 82)]), none, none⟩,
 ⟨(some 74), (.move (.t 83)), none, none⟩,
 ⟨(some 84), (.ext (.t 74) 0), none, none⟩,
 ⟨(some 85), (.ext (.t 74) 1), none, none⟩,
 ⟨(some 14), (.move (.t 84)), none, none⟩,
 ⟨(some 15), (.move (.t 85)), none, none⟩])
 (.seq
 (.region [] [] [0, 2, 3, 8, 23, 6, 1, 27, 9, 32, 10, 41, 7, 12, 64, 11, 5, 13, 71, 15, 87] [
 ⟨(some 86), (.move (.t 15)), none, none⟩,
 ⟨(some 87), (.un .not (.t 86)), none, none⟩])
 (.cond (.t 87)
 (.seq
 (.region [] [] [0, 2, 3, 8, 23, 6, 1, 27, 9, 32, 10, 41, 7, 12, 64, 11, 5, 13, 71, 15, 87] [
 ⟨(some 88), (.build [(.c (.v (.int .i8 0))), (.c (.v (.int .i64 0))), (.c (.v (.int .i64 0)))] [(0, 1, (.k (rI .i8 3))), (1, 1, (.k (rI .i64 72)))]), none, none⟩,
 ⟨none, (.store (some 3) (.t 6) (.t 88)), none, none⟩])
 .ret)
 .skip)))
 (.seq
 (.region [] [] [0, 2, 3, 8, 23, 6, 1, 27, 9, 32, 10, 41, 7, 12, 64, 11, 5, 13, 71, 15, 87] [
 ⟨(some 89), (.build [(.c (.v (.int .i8 0))), (.c (.v (.int .i64 0))), (.c (.v (.int .i64 0)))] []), none, none⟩,
 ⟨none, (.store (some 3) (.t 6) (.t 89)), none, none⟩])
 .ret))))))))
def ir2039 : List IRes := [.cell 6 (some 3)]
theorem ie2039 : cmpFunc Go.Proofs.Tryz.prog ⟨[], []⟩ Go.Proofs.Tryz.f39 [0, 2, 3, 8, 23, 6, 1, 27, 9, 32, 10, 41, 7, 12, 64, 11, 5, 13, 71, 15, 87] = some ic2039 := by kernel_rfl
theorem ig2039 : cmpRes Go.Proofs.Tryz.prog Go.Proofs.Tryz.f39.results.toList = some ir2039 := by kernel_rfl

def ic2125l0 : IC :=
 (.seq
 (.seq
 (.region [] [] [0, 1, 13, 3, 4, 19, 5, 29, 7, 37, 6, 9, 52, 8, 2] [
 ⟨(some 15), (.move (.t 4)), none, none⟩,
 ⟨(some 16), (.faddr 0 (.t 1)), none, none⟩,
 ⟨(some 17), (.load none (.t 16)), none, none⟩,
 ⟨(some 18), (.len (.t 17)), none, none⟩,
 ⟨(some 19), (.bin .lss (.t 15) (.t 18)), none, none⟩])
 (.cond (.t 19)
 .skip
 (.exit 0)))
 (.seq
 (.block 1
 (.seq
 (.region [] [] [0, 1, 13, 3, 4, 19, 5, 29, 7, 37, 6, 9, 52, 8, 2] [
 ⟨(some 22), (.faddr 0 (.t 1)), none, none⟩,
 ⟨(some 23), (.load none (.t 22)), none, none⟩,
 ⟨(some 24), (.move (.t 4)), none, none⟩,
 ⟨(some 25), (.iaddr 3 (.t 23) (.t 24)), none, none⟩,
 ⟨(some 26), (.load (some 3) (.t 25)), none, none⟩,
 ⟨(some 27), (.callp (.k (rF 211)) [(.t 26)]), none, none⟩,
 ⟨(some 5), (.move (.t 27)), none, none⟩])
 (.seq
 (.region [] [] [0, 1, 13, 3, 4, 19, 5, 29, 7, 37, 6, 9, 52, 8, 2] [
 ⟨(some 28), (.move (.t 5)), none, none⟩,
 ⟨(some 29), (.bin .neq (.t 28) (.k (rI .i64 0))), none, none⟩])
 (.cond (.t 29)
 (.seq
 (.region [] [] [0, 1, 13, 3, 4, 19, 5, 29, 7, 37, 6, 9, 52, 8, 2] [
 ⟨(some 30), (.move (.t 5)), none, none⟩,
 ⟨(some 31), (.move (.t 4)), none, none⟩,
 ⟨(some 32), (.build [(.c (.v (.int .i8 0))), (.c (.v (.int .i64 0))), (.c (.v (.int .i64 0)))] [(0, 1, (.k (rI .i8 1))), (1, 1, (.t 30)), (2, 1, (.t 31))]), none, none⟩,
 ⟨(some 2), (.move (.k (.x (.one .nil)))), none, none⟩,
 ⟨none, (.store (some 3) (.t 3) (.t 32)), none, none⟩])
 .ret)
 .skip))))
 (.region [] [] [0, 1, 13, 3, 4, 19, 5, 29, 7, 37, 6, 9, 52, 8, 2] [
 ⟨(some 20), (.move (.t 4)), none, none⟩,
 ⟨(some 21), (.bin .add (.t 20) (.k (rI .i64 1))), none, none⟩,
 ⟨(some 4), (.move (.t 21)), none, none⟩])))

def ic2125l1 : IC :=
 (.seq
 (.seq
 (.region [] [] [0, 1, 13, 3, 4, 19, 5, 29, 7, 37, 6, 9, 52, 8, 2] [
 ⟨(some 33), (.move (.t 7)), none, none⟩,
 ⟨(some 34), (.faddr 0 (.t 1)), none, none⟩,
 ⟨(some 35), (.load none (.t 34)), none, none⟩,
 ⟨(some 36), (.len (.t 35)), none, none⟩,
 ⟨(some 37), (.bin .lss (.t 33) (.t 36)), none, none⟩])
 (.cond (.t 37)
 .skip
 (.exit 2)))
 (.seq
 (.block 3
 (.seq
 (.region [] [] [0, 1, 13, 3, 4, 19, 5, 29, 7, 37, 6, 9, 52, 8, 2] [
 ⟨(some 41), (.move (.t 6)), none, none⟩,
 ⟨(some 42), (.faddr 0 (.t 1)), none, none⟩,
 ⟨(some 43), (.load none (.t 42)), none, none⟩,
 ⟨(some 44), (.move (.t 7)), none, none⟩,
 ⟨(some 45), (.iaddr 3 (.t 43) (.t 44)), none, none⟩,
 ⟨(some 46), (.load (some 3) (.t 45)), none, none⟩,
 ⟨(some 47), (.callp (.k (rF 131)) [(.t 46)]), none, none⟩,
 ⟨(some 48), (.callp (.k (rF 127)) [(.t 41), (.t 47)]), none, none⟩,
 ⟨(some 40), (.move (.t 48)), none, none⟩,
 ⟨(some 49), (.ext (.t 40) 0), none, none⟩,
 ⟨(some 50), (.ext (.t 40) 1), none, none⟩,
 ⟨(some 8), (.move (.t 49)), none, none⟩,
 ⟨(some 9), (.move (.t 50)), none, none⟩])
 (.seq
 (.seq
 (.region [] [] [0, 1, 13, 3, 4, 19, 5, 29, 7, 37, 6, 9, 52, 8, 2] [
 ⟨(some 51), (.move (.t 9)), none, none⟩,
 ⟨(some 52), (.un .not (.t 51)), none, none⟩])
 (.cond (.t 52)
 (.seq
 (.region [] [] [0, 1, 13, 3, 4, 19, 5, 29, 7, 37, 6, 9, 52, 8, 2] [
 ⟨(some 53), (.move (.t 7)), none, none⟩,
 ⟨(some 54), (.build [(.c (.v (.int .i8 0))), (.c (.v (.int .i64 0))), (.c (.v (.int .i64 0)))] [(0, 1, (.k (rI .i8 1))), (1, 1, (.k (rI .i64 72))), (2, 1, (.t 53))]), none, none⟩,
 ⟨(some 2), (.move (.k (.x (.one .nil)))), none, none⟩,
 ⟨none, (.store (some 3) (.t 3) (.t 54)), none, none⟩])
 .ret)
 .skip))
 (.region [] [] [0, 1, 13, 3, 4, 19, 5, 29, 7, 37, 6, 9, 52, 8, 2] [
 ⟨(some 55), (.move (.t 8)), none, none⟩,
 ⟨(some 6), (.move (.t 55)), none, none⟩]))))
 (.region [] [] [0, 1, 13, 3, 4, 19, 5, 29, 7, 37, 6, 9, 52, 8, 2] [
 ⟨(some 38), (.move (.t 7)), none, none⟩,
 ⟨(some 39), (.bin .add (.t 38) (.k (rI .i64 1))), none, none⟩,
 ⟨(some 7), (.move (.t 39)), none, none⟩])))

/-- pedigree/pedigreeref07.Program -/
def ic2125 : IC :=
 (.seq
 (.region [1, 3] [] [0, 1, 13, 3, 4, 19, 5, 29, 7, 37, 6, 9, 52, 8, 2] [
 ⟨(some 1), (.box 47 (.t 0)), none, none⟩,
 ⟨(some 2), (.move (.k (.x (.one .nil)))), none, none⟩,
 ⟨(some 3), (.zero 55 [(.c (.v (.int .i8 0))), (.c (.v (.int .i64 0))), (.c (.v (.int .i64 0)))]), none, none⟩])
 (.seq
 (.seq
 (.region [] [] [0, 1, 13, 3, 4, 19, 5, 29, 7, 37, 6, 9, 52, 8, 2] [
 ⟨(some 10), (.faddr 0 (.t 1)), none, none⟩,
 ⟨(some 11), (.load none (.t 10)), none, none⟩,
 ⟨(some 12), (.len (.t 11)), none, none⟩,
 ⟨(some 13), (.bin .gtr (.t 12) (.k (rI .i64 500))), none, none⟩])
 (.cond (.t 13)
 (.seq
 (.region [] [] [0, 1, 13, 3, 4, 19, 5, 29, 7, 37, 6, 9, 52, 8, 2] [
 ⟨(some 14), (.build [(.c (.v (.int .i8 0))), (.c (.v (.int .i64 0))), (.c (.v (.int .i64 0)))] [(0, 1, (.k (rI .i8 1))), (1, 1, (.k (rI .i64 70)))]), none, none⟩,
 ⟨(some 2), (.move (.k (.x (.one .nil)))), none, none⟩,
 ⟨none, (.store (some 3) (.t 3) (.t 14)), none, none⟩])
 .ret)
 .skip))
 (.seq
 (.seq
 (.region [] [] [0, 1, 13, 3, 4, 19, 5, 29, 7, 37, 6, 9, 52, 8, 2] [
 ⟨(some 4), (.move (.k (rI .i64 0))), none, none⟩])
 (.block 0
 (.loop ic2125l0)))
 (.seq
 (.region [] [] [0, 1, 13, 3, 4, 19, 5, 29, 7, 37, 6, 9, 52, 8, 2] [
 ⟨(some 6), (.move (.k (.x (.one .nil)))), none, none⟩])
 (.seq
 (.seq
 (.region [] [] [0, 1, 13, 3, 4, 19, 5, 29, 7, 37, 6, 9, 52, 8, 2] [
 ⟨(some 7), (.move (.k (rI .i64 0))), none, none⟩])
 (.block 2
 (.loop ic2125l1)))
 (.seq
 (.region [] [] [0, 1, 13, 3, 4, 19, 5, 29, 7, 37, 6, 9, 52, 8, 2] [
 ⟨(some 56), (.move (.t 6)), none, none⟩,
 ⟨(some 57), (.build [(.c (.v (.int .i8 0))), (.c (.v (.int .i64 0))), (.c (.v (.int .i64 0)))] []), none, none⟩,
 ⟨(some 2), (.move (.t 56)), none, none⟩,
 ⟨none, (.store (some 3) (.t 3) (.t 57)), none, none⟩])
 .ret))))))
def ir2125 : List IRes := [.tmp 2, .cell 3 (some 3)]
theorem ie2125 : cmpFunc Go.Proofs.Tryz.prog ⟨[], []⟩ Go.Proofs.Tryz.f125 [0, 1, 13, 3, 4, 19, 5, 29, 7, 37, 6, 9, 52, 8, 2] = some ic2125 := by kernel_rfl
theorem ig2125 : cmpRes Go.Proofs.Tryz.prog Go.Proofs.Tryz.f125.results.toList = some ir2125 := by kernel_rfl


/-- pedigree/pedigreeref07.OfFact -/
def ic2126 : IC :=
 (.seq
 (.region [1] [] [0, 1, 3, 7, 18, 2] [
 ⟨(some 1), (.box 147 (.t 0)), none, none⟩,
 ⟨(some 2), (.move (.k (rI .i64 0))), none, none⟩])
 (.seq
 (.block 0
 (.seq
 (.region [] [] [0, 1, 3, 7, 18, 2] [
 ⟨(some 4), (.load (some 2) (.t 1)), none, none⟩,
 ⟨(some 5), (.callp (.k (rF 160)) [(.t 4)]), none, none⟩,
 ⟨(some 6), (.un .not (.t 5)), none, none⟩,
 ⟨(some 3), (.move (.t 6)), none, none⟩])
 (.cond (.t 3)
 (.seq
 (.region [] [] [0, 1, 3, 7, 18, 2] [
 ⟨(some 2), (.move (.k (rI .i64 10))), none, none⟩])
 .ret)
 (.seq
 (.region [] [] [0, 1, 3, 7, 18, 2] [
 ⟨(some 8), (.faddr 0 (.t 1)), none, none⟩,
 ⟨(some 9), (.load none (.t 8)), none, none⟩,
 ⟨(some 10), (.slen (.t 9)), none, none⟩,
 ⟨(some 11), (.bin .gtr (.t 10) (.k (rI .i64 24))), none, none⟩,
 ⟨(some 12), (.move (.t 11)), none, none⟩,
 ⟨(some 13), (.faddr 1 (.t 1)), some (12, false), none⟩,
 ⟨(some 14), (.load none (.t 13)), some (12, false), none⟩,
 ⟨(some 15), (.len (.t 14)), some (12, false), none⟩,
 ⟨(some 16), (.bin .gtr (.t 15) (.k (rI .i64 8))), some (12, false), none⟩,
 ⟨(some 17), (.pick (.t 12) (.k (rB true)) (.t 16)), none, none⟩,
 ⟨(some 7), (.move (.t 17)), none, none⟩])
 (.cond (.t 7)
 (.seq
 (.region [] [] [0, 1, 3, 7, 18, 2] [
 ⟨(some 2), (.move (.k (rI .i64 70))), none, none⟩])
 .ret)
 (.seq
 (.region [] [] [0, 1, 3, 7, 18, 2] [
 ⟨(some 19), (.faddr 0 (.t 1)), none, none⟩,
 ⟨(some 20), (.load none (.t 19)), none, none⟩,
 ⟨(some 21), (.callp (.k (rF 212)) [(.t 20)]), none, none⟩,
 ⟨(some 18), (.move (.t 21)), none, none⟩])
 (.cond (.t 18)
 (.seq
 (.region [] [] [0, 1, 3, 7, 18, 2] [
 ⟨(some 2), (.move (.k (rI .i64 71))), none, none⟩])
 .ret)
 .skip)))))))
 (.seq
 (.region [] [] [0, 1, 3, 7, 18, 2] [
 ⟨(some 2), (.move (.k (rI .i64 0))), none, none⟩])
 .ret)))
def ir2126 : List IRes := [.tmp 2]
theorem ie2126 : cmpFunc Go.Proofs.Tryz.prog ⟨[], []⟩ Go.Proofs.Tryz.f126 [0, 1, 3, 7, 18, 2] = some ic2126 := by kernel_rfl
theorem ig2126 : cmpRes Go.Proofs.Tryz.prog Go.Proofs.Tryz.f126.results.toList = some ir2126 := by kernel_rfl


/-- pedigree/pedigreeref07.OfQuery -/
def ic2128 : IC :=
 (.seq
 (.region [1] [] [0, 1, 3, 7, 23, 2] [
 ⟨(some 1), (.box 25 (.t 0)), none, none⟩,
 ⟨(some 2), (.move (.k (rI .i64 0))), none, none⟩])
 (.seq
 (.block 0
 (.seq
 (.region [] [] [0, 1, 3, 7, 23, 2] [
 ⟨(some 4), (.load (some 2) (.t 1)), none, none⟩,
 ⟨(some 5), (.callp (.k (rF 214)) [(.t 4)]), none, none⟩,
 ⟨(some 6), (.bin .neq (.t 5) (.k (rI .i64 0))), none, none⟩,
 ⟨(some 3), (.move (.t 6)), none, none⟩])
 (.cond (.t 3)
 (.seq
 (.region [] [] [0, 1, 3, 7, 23, 2] [
 ⟨(some 2), (.move (.k (rI .i64 40))), none, none⟩])
 .ret)
 (.seq
 (.region [] [] [0, 1, 3, 7, 23, 2] [
 ⟨(some 8), (.faddr 0 (.t 1)), none, none⟩,
 ⟨(some 9), (.load none (.t 8)), none, none⟩,
 ⟨(some 10), (.slen (.t 9)), none, none⟩,
 ⟨(some 11), (.bin .gtr (.t 10) (.k (rI .i64 24))), none, none⟩,
 ⟨(some 12), (.move (.t 11)), none, none⟩,
 ⟨(some 13), (.faddr 1 (.t 1)), some (12, false), none⟩,
 ⟨(some 14), (.load none (.t 13)), some (12, false), none⟩,
 ⟨(some 15), (.len (.t 14)), some (12, false), none⟩,
 ⟨(some 16), (.bin .gtr (.t 15) (.k (rI .i64 8))), some (12, false), none⟩,
 ⟨(some 17), (.pick (.t 12) (.k (rB true)) (.t 16)), none, none⟩,
 ⟨(some 18), (.move (.t 17)), none, none⟩,
 ⟨(some 19), (.load (some 2) (.t 1)), some (18, false), none⟩,
 ⟨(some 20), (.callp (.k (rF 164)) [(.t 19)]), some (18, false), none⟩,
 ⟨(some 21), (.callp (.k (rF 215)) [(.t 20)]), some (18, false), none⟩,
 ⟨(some 22), (.pick (.t 18) (.k (rB true)) (.t 21)), none, none⟩,
 ⟨(some 7), (.move (.t 22)), none, none⟩])
 (.cond (.t 7)
 (.seq
 (.region [] [] [0, 1, 3, 7, 23, 2] [
 ⟨(some 2), (.move (.k (rI .i64 70))), none, none⟩])
 .ret)
 (.seq
 (.region [] [] [0, 1, 3, 7, 23, 2] [
 ⟨(some 24), (.faddr 0 (.t 1)), none, none⟩,
 ⟨(some 25), (.load none (.t 24)), none, none⟩,
 ⟨(some 26), (.callp (.k (rF 212)) [(.t 25)]), none, none⟩,
 ⟨(some 23), (.move (.t 26)), none, none⟩])
 (.cond (.t 23)
 (.seq
 (.region [] [] [0, 1, 3, 7, 23, 2] [
 ⟨(some 2), (.move (.k (rI .i64 71))), none, none⟩])
 .ret)
 .skip)))))))
 (.seq
 (.region [] [] [0, 1, 3, 7, 23, 2] [
 ⟨(some 2), (.move (.k (rI .i64 0))), none, none⟩])
 .ret)))
def ir2128 : List IRes := [.tmp 2]
theorem ie2128 : cmpFunc Go.Proofs.Tryz.prog ⟨[], []⟩ Go.Proofs.Tryz.f128 [0, 1, 3, 7, 23, 2] = some ic2128 := by kernel_rfl
theorem ig2128 : cmpRes Go.Proofs.Tryz.prog Go.Proofs.Tryz.f128.results.toList = some ir2128 := by kernel_rfl

def ic2160l0 : IC :=
 (.seq
 (.seq
 (.region [] [] [0, 1, 13, 3, 18, 27, 2] [
 ⟨(some 14), (.move (.t 3)), none, none⟩,
 ⟨(some 15), (.faddr 1 (.t 1)), none, none⟩,
 ⟨(some 16), (.load none (.t 15)), none, none⟩,
 ⟨(some 17), (.len (.t 16)), none, none⟩,
 ⟨(some 18), (.bin .lss (.t 14) (.t 17)), none, none⟩])
 (.cond (.t 18)
 .skip
 (.exit 0)))
 (.seq
 (.block 1
 (.seq
 (.region [] [] [0, 1, 13, 3, 18, 27, 2] [
 ⟨(some 21), (.faddr 1 (.t 1)), none, none⟩,
 ⟨(some 22), (.load none (.t 21)), none, none⟩,
 ⟨(some 23), (.move (.t 3)), none, none⟩,
 ⟨(some 24), (.iaddr 3 (.t 22) (.t 23)), none, none⟩,
 ⟨(some 25), (.load (some 3) (.t 24)), none, none⟩,
 ⟨(some 26), (.callp (.k (rF 243)) [(.t 25)]), none, none⟩,
 ⟨(some 27), (.bin .neq (.t 26) (.k (rI .i64 0))), none, none⟩])
 (.cond (.t 27)
 (.seq
 (.region [] [] [0, 1, 13, 3, 18, 27, 2] [
 ⟨(some 2), (.move (.k (rB false))), none, none⟩])
 .ret)
 .skip)))
 (.region [] [] [0, 1, 13, 3, 18, 27, 2] [
 ⟨(some 19), (.move (.t 3)), none, none⟩,
 ⟨(some 20), (.bin .add (.t 19) (.k (rI .i64 1))), none, none⟩,
 ⟨(some 3), (.move (.t 20)), none, none⟩])))

/-- pedigree/pedigreeref07.Fact -/
def ic2160 : IC :=
 (.seq
 (.region [1] [] [0, 1, 13, 3, 18, 27, 2] [
 ⟨(some 1), (.box 147 (.t 0)), none, none⟩,
 ⟨(some 2), (.move (.k (rB false))), none, none⟩])
 (.seq
 (.seq
 (.region [] [] [0, 1, 13, 3, 18, 27, 2] [
 ⟨(some 4), (.faddr 0 (.t 1)), none, none⟩,
 ⟨(some 5), (.load none (.t 4)), none, none⟩,
 ⟨(some 6), (.callp (.k (rF 174)) [(.t 5)]), none, none⟩,
 ⟨(some 7), (.un .not (.t 6)), none, none⟩,
 ⟨(some 8), (.move (.t 7)), none, none⟩,
 ⟨(some 9), (.faddr 1 (.t 1)), some (8, false), none⟩,
 ⟨(some 10), (.load none (.t 9)), some (8, false), none⟩,
 ⟨(some 11), (.len (.t 10)), some (8, false), none⟩,
 ⟨(some 12), (.bin .gtr (.t 11) (.k (rI .i64 24))), some (8, false), none⟩,
 ⟨(some 13), (.pick (.t 8) (.k (rB true)) (.t 12)), none, none⟩])
 (.cond (.t 13)
 (.seq
 (.region [] [] [0, 1, 13, 3, 18, 27, 2] [
 ⟨(some 2), (.move (.k (rB false))), none, none⟩])
 .ret)
 .skip))
 (.seq
 (.seq
 (.region [] [] [0, 1, 13, 3, 18, 27, 2] [
 ⟨(some 3), (.move (.k (rI .i64 0))), none, none⟩])
 (.block 0
 (.loop ic2160l0)))
 (.seq
 (.region [] [] [0, 1, 13, 3, 18, 27, 2] [
 ⟨(some 2), (.move (.k (rB true))), none, none⟩])
 .ret))))
def ir2160 : List IRes := [.tmp 2]
theorem ie2160 : cmpFunc Go.Proofs.Tryz.prog ⟨[], []⟩ Go.Proofs.Tryz.f160 [0, 1, 13, 3, 18, 27, 2] = some ic2160 := by kernel_rfl
theorem ig2160 : cmpRes Go.Proofs.Tryz.prog Go.Proofs.Tryz.f160.results.toList = some ir2160 := by kernel_rfl

/-- pedigree/pedigreeref01.Reserved -/
def ic2212 : IC :=
 (.seq
 (.region [] [] [0, 2] [
 ⟨(some 2), (.move (.k (rB false))), none, none⟩])
 (.seq
 (.region [] [] [0, 2] [
 ⟨(some 3), (.move (.t 0)), none, none⟩,
 ⟨(some 4), (.slen (.t 3)), none, none⟩,
 ⟨(some 5), (.bin .geq (.t 4) (.k (rI .i64 2))), none, none⟩,
 ⟨(some 6), (.move (.t 5)), none, none⟩,
 ⟨(some 7), (.move (.t 0)), some (6, true), none⟩,
 ⟨(some 8), (.ssl (.t 7) none (some (.k (rI .i64 2)))), some (6, true), none⟩,
 ⟨(some 9), (.bin .eql (.t 8) (.k (rS (bs [113, 95])))), some (6, true), none⟩,
 ⟨(some 10), (.pick (.t 6) (.t 9) (.k (rB false))), none, none⟩,
 ⟨(some 2), (.move (.t 10)), none, none⟩])
 .ret))
def ir2212 : List IRes := [.tmp 2]
theorem ie2212 : cmpFunc Go.Proofs.Tryz.prog ⟨[], []⟩ Go.Proofs.Tryz.f212 [0, 2] = some ic2212 := by kernel_rfl
theorem ig2212 : cmpRes Go.Proofs.Tryz.prog Go.Proofs.Tryz.f212.results.toList = some ir2212 := by kernel_rfl

def ic2215l0 : IC :=
 (.seq
 (.seq
 (.region [] [] [3, 0, 7, 15, 2] [
 ⟨(some 4), (.move (.t 3)), none, none⟩,
 ⟨(some 5), (.move (.t 0)), none, none⟩,
 ⟨(some 6), (.len (.t 5)), none, none⟩,
 ⟨(some 7), (.bin .lss (.t 4) (.t 6)), none, none⟩])
 (.cond (.t 7)
 .skip
 (.exit 0)))
 (.seq
 (.block 1
 (.seq
 (.region [] [] [3, 0, 7, 15, 2] [
 ⟨(some 10), (.move (.t 0)), none, none⟩,
 ⟨(some 11), (.move (.t 3)), none, none⟩,
 ⟨(some 12), (.iaddr 1 (.t 10) (.t 11)), none, none⟩,
 ⟨(some 13), (.load none (.t 12)), none, none⟩,
 ⟨(some 14), (.slen (.t 13)), none, none⟩,
 ⟨(some 15), (.bin .gtr (.t 14) (.k (rI .i64 24))), none, none⟩])
 (.cond (.t 15)
 (.seq
 (.region [] [] [3, 0, 7, 15, 2] [
 ⟨(some 2), (.move (.k (rB true))), none, none⟩])
 .ret)
 .skip)))
 (.region [] [] [3, 0, 7, 15, 2] [
 ⟨(some 8), (.move (.t 3)), none, none⟩,
 ⟨(some 9), (.bin .add (.t 8) (.k (rI .i64 1))), none, none⟩,
 ⟨(some 3), (.move (.t 9)), none, none⟩])))

/-- pedigree/pedigreeref07.large -/
def ic2215 : IC :=
 (.seq
 (.region [] [] [3, 0, 7, 15, 2] [
 ⟨(some 2), (.move (.k (rB false))), none, none⟩])
 (.seq
 (.seq
 (.region [] [] [3, 0, 7, 15, 2] [
 ⟨(some 3), (.move (.k (rI .i64 0))), none, none⟩])
 (.block 0
 (.loop ic2215l0)))
 (.seq
 (.region [] [] [3, 0, 7, 15, 2] [
 ⟨(some 2), (.move (.k (rB false))), none, none⟩])
 .ret)))
def ir2215 : List IRes := [.tmp 2]
theorem ie2215 : cmpFunc Go.Proofs.Tryz.prog ⟨[], []⟩ Go.Proofs.Tryz.f215 [3, 0, 7, 15, 2] = some ic2215 := by kernel_rfl
theorem ig2215 : cmpRes Go.Proofs.Tryz.prog Go.Proofs.Tryz.f215.results.toList = some ir2215 := by kernel_rfl

end Go.Proofs.YtiomojlcnemnhaaGreatDoor

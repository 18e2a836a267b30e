/- Functions of the seat, as the small language has them. -/
import Derived.Test.YtiomojlcnemnhaaGreatDoorFxWb
import Derived.Test.YtiomojlcnemnhaaGreatDoorProg
import Derived.KernelRfl
namespace Go.Proofs.YtiomojlcnemnhaaGreatDoor
open Go.Fx

/-- pedigree/check.Input -/
def ic2038 : IC :=
 (.seq
 (.region [3, 5, 6] [] [0, 2, 3, 13, 6, 8, 20, 7, 27, 1, 31, 38, 5] [
 ⟨(some 3), (.box 47 (.t 0)), none, none⟩,
 ⟨(some 5), (.box 25 (.t 2)), none, none⟩,
 ⟨(some 6), (.zero 55 [(.c (.v (.int .i8 0))), (.c (.v (.int .i64 0))), (.c (.v (.int .i64 0)))]), none, none⟩])
 (.seq
 (.region [9, 7] [] [0, 2, 3, 13, 6, 8, 20, 7, 27, 1, 31, 38, 5] [
 ⟨(some 9), (.mkmap .string 2 true), none, none⟩,
 ⟨(some 7), (.zero 151 [(.c (.v (.map none)))]), none, none⟩,
 ⟨none, (.store (some 1) (.t 7) (.t 9)), none, none⟩])
 (.seq
 (.seq
 (.region [] [] [0, 2, 3, 13, 6, 8, 20, 7, 27, 1, 31, 38, 5] [
 ⟨(some 10), (.faddr 0 (.t 3)), none, none⟩,
 ⟨(some 11), (.load none (.t 10)), none, none⟩,
 ⟨(some 12), (.len (.t 11)), none, none⟩,
 ⟨(some 13), (.bin .gtr (.t 12) (.k (rI .i64 500))), none, none⟩])
 (.cond (.t 13)
 (.seq
 (.region [] [] [0, 2, 3, 13, 6, 8, 20, 7, 27, 1, 31, 38, 5] [
 ⟨(some 14), (.build [(.c (.v (.int .i8 0))), (.c (.v (.int .i64 0))), (.c (.v (.int .i64 0)))] [(0, 1, (.k (rI .i8 1))), (1, 1, (.k (rI .i64 70)))]), none, none⟩,
 ⟨none, (.store (some 3) (.t 6) (.t 14)), none, none⟩])
 .ret)
 .skip))
 (.seq
 (.region [8] [] [0, 2, 3, 13, 6, 8, 20, 7, 27, 1, 31, 38, 5] [
 ⟨(some 15), (.faddr 0 (.t 3)), none, none⟩,
 ⟨(some 16), (.load none (.t 15)), none, none⟩,
 ⟨(some 17), (.call (.k (rF 109)) [(.k (rI .i8 1)), (.t 16), (.k (rF 110))]), none, none⟩,
 ⟨(some 8), (.zero 55 [(.c (.v (.int .i8 0))), (.c (.v (.int .i64 0))), (.c (.v (.int .i64 0)))]), none, none⟩,
 ⟨none, (.store (some 3) (.t 8) (.t 17)), none, none⟩])
 (.seq
 (.seq
 (.region [] [] [0, 2, 3, 13, 6, 8, 20, 7, 27, 1, 31, 38, 5] [
 ⟨(some 18), (.faddr 1 (.t 8)), none, none⟩,
 ⟨(some 19), (.load none (.t 18)), none, none⟩,
 ⟨(some 20), (.bin .eql (.t 19) (.k (rI .i64 0))), none, none⟩])
 (.cond (.t 20)
 (.region [] [] [0, 2, 3, 13, 6, 8, 20, 7, 27, 1, 31, 38, 5] [
 ⟨(some 21), (.faddr 0 (.t 3)), none, none⟩,
 ⟨(some 22), (.load none (.t 21)), none, none⟩,
 ⟨(some 23), (.clo 111 [] [(.t 7)]), none, none⟩,
 ⟨(some 24), (.call (.k (rF 109)) [(.k (rI .i8 1)), (.t 22), (.t 23)]), none, none⟩,
 ⟨none, (.store (some 3) (.t 8) (.t 24)), none, none⟩])
 .skip))
 (.seq
 (.seq
 (.region [] [] [0, 2, 3, 13, 6, 8, 20, 7, 27, 1, 31, 38, 5] [
 ⟨(some 25), (.faddr 1 (.t 8)), none, none⟩,
 ⟨(some 26), (.load none (.t 25)), none, none⟩,
 ⟨(some 27), (.bin .neq (.t 26) (.k (rI .i64 0))), none, none⟩])
 (.cond (.t 27)
 (.seq
 (.region [] [] [0, 2, 3, 13, 6, 8, 20, 7, 27, 1, 31, 38, 5] [
 ⟨(some 28), (.load (some 3) (.t 8)), none, none⟩,
 ⟨none, (.store (some 3) (.t 6) (.t 28)), none, none⟩])
 .ret)
 .skip))
 (.seq
 (.seq
 (.region [] [] [0, 2, 3, 13, 6, 8, 20, 7, 27, 1, 31, 38, 5] [
 ⟨(some 29), (.move (.t 1)), none, none⟩,
 ⟨(some 30), (.len (.t 29)), none, none⟩,
 ⟨(some 31), (.bin .gtr (.t 30) (.k (rI .i64 65536))), none, none⟩])
 (.cond (.t 31)
 (.seq
 (.region [] [] [0, 2, 3, 13, 6, 8, 20, 7, 27, 1, 31, 38, 5] [
 ⟨(some 32), (.build [(.c (.v (.int .i8 0))), (.c (.v (.int .i64 0))), (.c (.v (.int .i64 0)))] [(0, 1, (.k (rI .i8 2))), (1, 1, (.k (rI .i64 70)))]), none, none⟩,
 ⟨none, (.store (some 3) (.t 6) (.t 32)), none, none⟩])
 .ret)
 .skip))
 (.seq
 (.region [] [] [0, 2, 3, 13, 6, 8, 20, 7, 27, 1, 31, 38, 5] [
 ⟨(some 33), (.move (.t 1)), none, none⟩,
 ⟨(some 34), (.clo 115 [] [(.t 7)]), none, none⟩,
 ⟨(some 35), (.call (.k (rF 114)) [(.k (rI .i8 2)), (.t 33), (.t 34)]), none, none⟩,
 ⟨none, (.store (some 3) (.t 8) (.t 35)), none, none⟩])
 (.seq
 (.seq
 (.region [] [] [0, 2, 3, 13, 6, 8, 20, 7, 27, 1, 31, 38, 5] [
 ⟨(some 36), (.faddr 1 (.t 8)), none, none⟩,
 ⟨(some 37), (.load none (.t 36)), none, none⟩,
 ⟨(some 38), (.bin .neq (.t 37) (.k (rI .i64 0))), none, none⟩])
 (.cond (.t 38)
 (.seq
 (.region [] [] [0, 2, 3, 13, 6, 8, 20, 7, 27, 1, 31, 38, 5] [
 ⟨(some 39), (.load (some 3) (.t 8)), none, none⟩,
 ⟨none, (.store (some 3) (.t 6) (.t 39)), none, none⟩])
 .ret)
 .skip))
 (.seq
 (.region [41] [] [0, 2, 3, 13, 6, 8, 20, 7, 27, 1, 31, 38, 5] [
 ⟨(some 40), (.load (some 2) (.t 5)), none, none⟩,
 ⟨(some 41), (.row 25 2 [(.t 40)]), none, none⟩,
 ⟨(some 42), (.clo 120 [] [(.t 7)]), none, none⟩,
 ⟨(some 43), (.call (.k (rF 119)) [(.k (rI .i8 3)), (.t 41), (.t 42)]), none, none⟩,
 ⟨none, (.store (some 3) (.t 6) (.t 43)), none, none⟩])
 .ret))))))))))
def ir2038 : List IRes := [.cell 6 (some 3)]
theorem ie2038 : cmpFunc Go.Proofs.Tryz.prog ⟨[(17, none), (24, none), (35, none), (43, none)], []⟩ Go.Proofs.Tryz.f38 [0, 2, 3, 13, 6, 8, 20, 7, 27, 1, 31, 38, 5] = some ic2038 := by kernel_rfl
theorem ig2038 : cmpRes Go.Proofs.Tryz.prog Go.Proofs.Tryz.f38.results.toList = some ir2038 := by kernel_rfl

def ic2109l0 : IC :=
 (.seq
 (.region [] [] [1, 12, 11, 13, 10, 2, 8, 9, 21, 0, 7, 6] [
 ⟨(some 13), (.bin .lss (.t 12) (.t 11)), none, none⟩])
 (.seq
 (.cond (.t 13)
 .skip
 (.exit 0))
 (.seq
 (.block 1
 (.seq
 (.region [8] [] [1, 12, 11, 13, 10, 2, 8, 9, 21, 0, 7, 6] [
 ⟨(some 14), (.move (.t 12)), none, none⟩,
 ⟨(some 15), (.iaddr 3 (.t 10) (.t 12)), none, none⟩,
 ⟨(some 16), (.load (some 3) (.t 15)), none, none⟩,
 ⟨(some 8), (.zero 29 [(.c (.v (.string (bs [])))), .nil, .nil]), none, none⟩,
 ⟨(some 7), (.move (.t 14)), none, none⟩,
 ⟨none, (.store (some 3) (.t 8) (.t 16)), none, none⟩])
 (.seq
 (.region [] [] [1, 12, 11, 13, 10, 2, 8, 9, 21, 0, 7, 6] [
 ⟨(some 17), (.move (.t 2)), none, none⟩,
 ⟨(some 18), (.load (some 3) (.t 8)), none, none⟩,
 ⟨(some 19), (.call (.t 17) [(.t 18)]), none, none⟩,
 ⟨(some 9), (.move (.t 19)), none, none⟩])
 (.seq
 (.region [] [] [1, 12, 11, 13, 10, 2, 8, 9, 21, 0, 7, 6] [
 ⟨(some 20), (.move (.t 9)), none, none⟩,
 ⟨(some 21), (.bin .neq (.t 20) (.k (rI .i64 0))), none, none⟩])
 (.cond (.t 21)
 (.seq
 (.region [] [] [1, 12, 11, 13, 10, 2, 8, 9, 21, 0, 7, 6] [
 ⟨(some 22), (.move (.t 0)), none, none⟩,
 ⟨(some 23), (.move (.t 9)), none, none⟩,
 ⟨(some 24), (.move (.t 7)), none, none⟩,
 ⟨(some 25), (.build [(.c (.v (.int .i8 0))), (.c (.v (.int .i64 0))), (.c (.v (.int .i64 0)))] [(0, 1, (.t 22)), (1, 1, (.t 23)), (2, 1, (.t 24))]), none, none⟩,
 ⟨none, (.store (some 3) (.t 6) (.t 25)), none, none⟩])
 .ret)
 .skip)))))
 (.region [] [] [1, 12, 11, 13, 10, 2, 8, 9, 21, 0, 7, 6] [
 ⟨(some 26), (.bin .add (.t 12) (.k (rI .i64 1))), none, none⟩,
 ⟨(some 12), (.move (.t 26)), none, none⟩]))))

/-- pedigree/check.first[pedigree/api.Rule] -/
def ic2109 : IC :=
 (.seq
 (.region [6] [] [1, 12, 11, 13, 10, 2, 8, 9, 21, 0, 7, 6] [
 ⟨(some 6), (.zero 55 [(.c (.v (.int .i8 0))), (.c (.v (.int .i64 0))), (.c (.v (.int .i64 0)))]), none, none⟩])
 (.seq
 (.seq
 (.region [] [] [1, 12, 11, 13, 10, 2, 8, 9, 21, 0, 7, 6] [
 ⟨(some 10), (.move (.t 1)), none, none⟩,
 ⟨(some 11), (.len (.t 10)), none, none⟩,
 ⟨(some 12), (.move (.k (rI .i64 0))), none, none⟩])
 (.block 0
 (.loop ic2109l0)))
 (.seq
 (.region [] [] [1, 12, 11, 13, 10, 2, 8, 9, 21, 0, 7, 6] [
 ⟨(some 27), (.build [(.c (.v (.int .i8 0))), (.c (.v (.int .i64 0))), (.c (.v (.int .i64 0)))] []), none, none⟩,
 ⟨none, (.store (some 3) (.t 6) (.t 27)), none, none⟩])
 .ret)))
def ir2109 : List IRes := [.cell 6 (some 3)]
theorem ie2109 : cmpFunc Go.Proofs.Tryz.prog ⟨[(19, none)], []⟩ Go.Proofs.Tryz.f109 [1, 12, 11, 13, 10, 2, 8, 9, 21, 0, 7, 6] = some ic2109 := by kernel_rfl
theorem ig2109 : cmpRes Go.Proofs.Tryz.prog Go.Proofs.Tryz.f109.results.toList = some ir2109 := by kernel_rfl

def ic2110l0 : IC :=
 (.seq
 (.region [] [] [0, 1, 3, 11, 27, 31, 30, 32, 29, 6, 37, 7, 4, 51, 55, 2] [
 ⟨(some 32), (.bin .lss (.t 31) (.t 30)), none, none⟩])
 (.seq
 (.cond (.t 32)
 .skip
 (.exit 0))
 (.seq
 (.block 1
 (.seq
 (.region [6] [] [0, 1, 3, 11, 27, 31, 30, 32, 29, 6, 37, 7, 4, 51, 55, 2] [
 ⟨(some 33), (.iaddr 16 (.t 29) (.t 31)), none, none⟩,
 ⟨(some 34), (.load (some 16) (.t 33)), none, none⟩,
 ⟨(some 6), (.zero 107 [(.c (.v (.int .i8 0))), (.c (.v (.string (bs [])))), .nil, (.c (.v (.int .i8 0))), (.c (.v (.int .i8 0))), (.c (.v (.string (bs [])))), (.c (.v (.int .i8 0))), (.c (.v (.int .i64 0))), (.c (.v (.string (bs [])))), .nil, (.c (.v (.int .i8 0))), (.c (.v (.string (bs [])))), (.c (.v (.int .i8 0))), (.c (.v (.int .i64 0))), (.c (.v (.string (bs [])))), .nil]), none, none⟩,
 ⟨none, (.store (some 16) (.t 6) (.t 34)), none, none⟩])
 (.seq
 (.seq
 (.region [] [] [0, 1, 3, 11, 27, 31, 30, 32, 29, 6, 37, 7, 4, 51, 55, 2] [
 ⟨(some 35), (.faddr 0 (.t 6)), none, none⟩,
 ⟨(some 36), (.load none (.t 35)), none, none⟩,
 ⟨(some 37), (.bin .eql (.t 36) (.k (rI .i8 3))), none, none⟩])
 (.cond (.t 37)
 (.exit 1)
 .skip))
 (.seq
 (.region [] [] [0, 1, 3, 11, 27, 31, 30, 32, 29, 6, 37, 7, 4, 51, 55, 2] [
 ⟨(some 38), (.faddr 1 (.t 6)), none, none⟩,
 ⟨(some 39), (.faddr 0 (.t 38)), none, none⟩,
 ⟨(some 40), (.load none (.t 39)), none, none⟩,
 ⟨(some 41), (.faddr 1 (.t 6)), none, none⟩,
 ⟨(some 42), (.faddr 1 (.t 41)), none, none⟩,
 ⟨(some 43), (.load none (.t 42)), none, none⟩,
 ⟨(some 44), (.len (.t 43)), none, none⟩,
 ⟨(some 45), (.callp (.k (rF 117)) [(.t 40), (.t 44)]), none, none⟩,
 ⟨(some 7), (.move (.t 45)), none, none⟩])
 (.seq
 (.region [] [] [0, 1, 3, 11, 27, 31, 30, 32, 29, 6, 37, 7, 4, 51, 55, 2] [
 ⟨(some 46), (.move (.t 7)), none, none⟩,
 ⟨(some 47), (.bin .eql (.t 46) (.k (rI .i64 70))), none, none⟩,
 ⟨(some 48), (.move (.t 47)), none, none⟩,
 ⟨(some 49), (.move (.t 4)), some (48, false), none⟩,
 ⟨(some 50), (.bin .eql (.t 49) (.k (rI .i64 0))), some (48, false), none⟩,
 ⟨(some 51), (.pick (.t 48) (.k (rB true)) (.t 50)), none, none⟩])
 (.cond (.t 51)
 (.region [] [] [0, 1, 3, 11, 27, 31, 30, 32, 29, 6, 37, 7, 4, 51, 55, 2] [
 ⟨(some 52), (.move (.t 7)), none, none⟩,
 ⟨(some 4), (.move (.t 52)), none, none⟩])
 .skip))))))
 (.region [] [] [0, 1, 3, 11, 27, 31, 30, 32, 29, 6, 37, 7, 4, 51, 55, 2] [
 ⟨(some 53), (.bin .add (.t 31) (.k (rI .i64 1))), none, none⟩,
 ⟨(some 31), (.move (.t 53)), none, none⟩]))))

/-- pedigree/check.userRule -/
def ic2110 : IC :=
 (.seq
 (.region [1] [] [0, 1, 3, 11, 27, 31, 30, 32, 29, 6, 37, 7, 4, 51, 55, 2] [
 ⟨(some 1), (.box 29 (.t 0)), none, none⟩,
 ⟨(some 2), (.move (.k (rI .i64 0))), none, none⟩])
 (.seq
 (.seq
 (.region [] [] [0, 1, 3, 11, 27, 31, 30, 32, 29, 6, 37, 7, 4, 51, 55, 2] [
 ⟨(some 8), (.load (some 3) (.t 1)), none, none⟩,
 ⟨(some 9), (.callp (.k (rF 93)) [(.t 8)]), none, none⟩,
 ⟨(some 3), (.move (.t 9)), none, none⟩])
 (.seq
 (.region [] [] [0, 1, 3, 11, 27, 31, 30, 32, 29, 6, 37, 7, 4, 51, 55, 2] [
 ⟨(some 10), (.move (.t 3)), none, none⟩,
 ⟨(some 11), (.bin .neq (.t 10) (.k (rI .i64 0))), none, none⟩])
 (.cond (.t 11)
 (.seq
 (.region [] [] [0, 1, 3, 11, 27, 31, 30, 32, 29, 6, 37, 7, 4, 51, 55, 2] [
 ⟨(some 12), (.move (.t 3)), none, none⟩,
 ⟨(some 2), (.move (.t 12)), none, none⟩])
 .ret)
 .skip)))
 (.seq
 (.region [] [] [0, 1, 3, 11, 27, 31, 30, 32, 29, 6, 37, 7, 4, 51, 55, 2] [
 ⟨(some 13), (.faddr 0 (.t 1)), none, none⟩,
 ⟨(some 14), (.load none (.t 13)), none, none⟩,
 ⟨(some 15), (.faddr 1 (.t 1)), none, none⟩,
 ⟨(some 16), (.load none (.t 15)), none, none⟩,
 ⟨(some 17), (.len (.t 16)), none, none⟩,
 ⟨(some 18), (.callp (.k (rF 117)) [(.t 14), (.t 17)]), none, none⟩,
 ⟨(some 4), (.move (.t 18)), none, none⟩])
 (.seq
 (.seq
 (.region [] [] [0, 1, 3, 11, 27, 31, 30, 32, 29, 6, 37, 7, 4, 51, 55, 2] [
 ⟨(some 19), (.faddr 2 (.t 1)), none, none⟩,
 ⟨(some 20), (.load none (.t 19)), none, none⟩,
 ⟨(some 21), (.len (.t 20)), none, none⟩,
 ⟨(some 22), (.bin .gtr (.t 21) (.k (rI .i64 12))), none, none⟩,
 ⟨(some 23), (.move (.t 22)), none, none⟩,
 ⟨(some 24), (.load (some 3) (.t 1)), some (23, false), none⟩,
 ⟨(some 25), (.callp (.k (rF 96)) [(.t 24)]), some (23, false), none⟩,
 ⟨(some 26), (.callp (.k (rF 122)) [(.t 25)]), some (23, false), none⟩,
 ⟨(some 27), (.pick (.t 23) (.k (rB true)) (.t 26)), none, none⟩])
 (.cond (.t 27)
 (.region [] [] [0, 1, 3, 11, 27, 31, 30, 32, 29, 6, 37, 7, 4, 51, 55, 2] [
 ⟨(some 4), (.move (.k (rI .i64 70))), none, none⟩])
 .skip))
 (.seq
 (.seq
 (.region [] [] [0, 1, 3, 11, 27, 31, 30, 32, 29, 6, 37, 7, 4, 51, 55, 2] [
 ⟨(some 28), (.faddr 2 (.t 1)), none, none⟩,
 ⟨(some 29), (.load none (.t 28)), none, none⟩,
 ⟨(some 30), (.len (.t 29)), none, none⟩,
 ⟨(some 31), (.move (.k (rI .i64 0))), none, none⟩])
 (.block 0
 (.loop ic2110l0)))
 (.seq
 (.seq
 (.region [] [] [0, 1, 3, 11, 27, 31, 30, 32, 29, 6, 37, 7, 4, 51, 55, 2] [
 ⟨(some 54), (.move (.t 4)), none, none⟩,
 ⟨(some 55), (.bin .eql (.t 54) (.k (rI .i64 0))), none, none⟩])
 (.cond (.t 55)
 (.region [] [] [0, 1, 3, 11, 27, 31, 30, 32, 29, 6, 37, 7, 4, 51, 55, 2] [
 ⟨(some 56), (.load (some 3) (.t 1)), none, none⟩,
 ⟨(some 57), (.callp (.k (rF 26)) [(.t 56)]), none, none⟩,
 ⟨(some 4), (.move (.t 57)), none, none⟩])
 .skip))
 (.seq
 (.region [] [] [0, 1, 3, 11, 27, 31, 30, 32, 29, 6, 37, 7, 4, 51, 55, 2] [
 ⟨(some 58), (.move (.t 4)), none, none⟩,
 ⟨(some 2), (.move (.t 58)), none, none⟩])
 .ret)))))))
def ir2110 : List IRes := [.tmp 2]
theorem ie2110 : cmpFunc Go.Proofs.Tryz.prog ⟨[], []⟩ Go.Proofs.Tryz.f110 [0, 1, 3, 11, 27, 31, 30, 32, 29, 6, 37, 7, 4, 51, 55, 2] = some ic2110 := by kernel_rfl
theorem ig2110 : cmpRes Go.Proofs.Tryz.prog Go.Proofs.Tryz.f110.results.toList = some ir2110 := by kernel_rfl


/-- pedigree/check.Input$1 -/
def ic2111 : IC :=
 (.seq
 (.region [2] [] [0, 1, 2, 3] [
 ⟨(some 2), (.box 29 (.t 0)), none, none⟩,
 ⟨(some 3), (.move (.k (rI .i64 0))), none, none⟩])
 (.seq
 (.region [] [] [0, 1, 2, 3] [
 ⟨(some 4), (.load none (.t 1)), none, none⟩,
 ⟨(some 5), (.load (some 3) (.t 2)), none, none⟩,
 ⟨(some 6), (.call (.k (rF 113)) [(.t 4), (.t 5)]), none, none⟩,
 ⟨(some 7), (.callp (.k (rF 112)) [(.t 6), (.k (rI .i64 72))]), none, none⟩,
 ⟨(some 3), (.move (.t 7)), none, none⟩])
 .ret))
def ir2111 : List IRes := [.tmp 3]
theorem ie2111 : cmpFunc Go.Proofs.Tryz.prog ⟨[(6, none)], []⟩ Go.Proofs.Tryz.f111 [0, 1, 2, 3] = some ic2111 := by kernel_rfl
theorem ig2111 : cmpRes Go.Proofs.Tryz.prog Go.Proofs.Tryz.f111.results.toList = some ir2111 := by kernel_rfl


/-- pedigree/check.code -/
def ic2112 : IC :=
 (.seq
 (.region [] [] [0, 5, 1, 4] [
 ⟨(some 4), (.move (.k (rI .i64 0))), none, none⟩])
 (.seq
 (.seq
 (.region [] [] [0, 5, 1, 4] [
 ⟨(some 5), (.move (.t 0)), none, none⟩])
 (.cond (.t 5)
 (.seq
 (.region [] [] [0, 5, 1, 4] [
 ⟨(some 4), (.move (.k (rI .i64 0))), none, none⟩])
 .ret)
 .skip))
 (.seq
 (.region [] [] [0, 5, 1, 4] [
 ⟨(some 6), (.move (.t 1)), none, none⟩,
 ⟨(some 4), (.move (.t 6)), none, none⟩])
 .ret)))
def ir2112 : List IRes := [.tmp 4]
theorem ie2112 : cmpFunc Go.Proofs.Tryz.prog ⟨[], []⟩ Go.Proofs.Tryz.f112 [0, 5, 1, 4] = some ic2112 := by kernel_rfl
theorem ig2112 : cmpRes Go.Proofs.Tryz.prog Go.Proofs.Tryz.f112.results.toList = some ir2112 := by kernel_rfl

def ic2113l0 : IC :=
 (.seq
 (.region [] [] [1, 0, 3, 14, 18, 17, 19, 16, 6, 41, 4] [
 ⟨(some 19), (.bin .lss (.t 18) (.t 17)), none, none⟩])
 (.seq
 (.cond (.t 19)
 .skip
 (.exit 0))
 (.seq
 (.block 1
 (.seq
 (.region [6] [] [1, 0, 3, 14, 18, 17, 19, 16, 6, 41, 4] [
 ⟨(some 20), (.iaddr 16 (.t 16) (.t 18)), none, none⟩,
 ⟨(some 21), (.load (some 16) (.t 20)), none, none⟩,
 ⟨(some 6), (.zero 107 [(.c (.v (.int .i8 0))), (.c (.v (.string (bs [])))), .nil, (.c (.v (.int .i8 0))), (.c (.v (.int .i8 0))), (.c (.v (.string (bs [])))), (.c (.v (.int .i8 0))), (.c (.v (.int .i64 0))), (.c (.v (.string (bs [])))), .nil, (.c (.v (.int .i8 0))), (.c (.v (.string (bs [])))), (.c (.v (.int .i8 0))), (.c (.v (.int .i64 0))), (.c (.v (.string (bs [])))), .nil]), none, none⟩,
 ⟨none, (.store (some 16) (.t 6) (.t 21)), none, none⟩])
 (.seq
 (.region [] [] [1, 0, 3, 14, 18, 17, 19, 16, 6, 41, 4] [
 ⟨(some 22), (.faddr 0 (.t 6)), none, none⟩,
 ⟨(some 23), (.load none (.t 22)), none, none⟩,
 ⟨(some 24), (.bin .eql (.t 23) (.k (rI .i8 1))), none, none⟩,
 ⟨(some 25), (.move (.t 24)), none, none⟩,
 ⟨(some 26), (.faddr 0 (.t 6)), some (25, false), none⟩,
 ⟨(some 27), (.load none (.t 26)), some (25, false), none⟩,
 ⟨(some 28), (.bin .eql (.t 27) (.k (rI .i8 2))), some (25, false), none⟩,
 ⟨(some 29), (.pick (.t 25) (.k (rB true)) (.t 28)), none, none⟩,
 ⟨(some 30), (.move (.t 29)), none, none⟩,
 ⟨(some 31), (.move (.t 0)), some (30, true), none⟩,
 ⟨(some 32), (.faddr 1 (.t 6)), some (30, true), none⟩,
 ⟨(some 33), (.faddr 0 (.t 32)), some (30, true), none⟩,
 ⟨(some 34), (.load none (.t 33)), some (30, true), none⟩,
 ⟨(some 35), (.faddr 1 (.t 6)), some (30, true), none⟩,
 ⟨(some 36), (.faddr 1 (.t 35)), some (30, true), none⟩,
 ⟨(some 37), (.load none (.t 36)), some (30, true), none⟩,
 ⟨(some 38), (.len (.t 37)), some (30, true), none⟩,
 ⟨(some 39), (.call (.k (rF 124)) [(.t 31), (.t 34), (.t 38)]), some (30, true), none⟩,
 ⟨(some 40), (.un .not (.t 39)), some (30, true), none⟩,
 ⟨(some 41), (.pick (.t 30) (.t 40) (.k (rB false))), none, none⟩])
 (.cond (.t 41)
 (.seq
 (.region [] [] [1, 0, 3, 14, 18, 17, 19, 16, 6, 41, 4] [
 ⟨(some 4), (.move (.k (rB false))), none, none⟩])
 .ret)
 .skip))))
 (.region [] [] [1, 0, 3, 14, 18, 17, 19, 16, 6, 41, 4] [
 ⟨(some 42), (.bin .add (.t 18) (.k (rI .i64 1))), none, none⟩,
 ⟨(some 18), (.move (.t 42)), none, none⟩]))))

/-- (pedigree/check.arities).rule -/
def ic2113 : IC :=
 (.seq
 (.region [3] [] [1, 0, 3, 14, 18, 17, 19, 16, 6, 41, 4] [
 ⟨(some 3), (.box 29 (.t 1)), none, none⟩,
 ⟨(some 4), (.move (.k (rB false))), none, none⟩])
 (.seq
 (.seq
 (.region [] [] [1, 0, 3, 14, 18, 17, 19, 16, 6, 41, 4] [
 ⟨(some 7), (.move (.t 0)), none, none⟩,
 ⟨(some 8), (.faddr 0 (.t 3)), none, none⟩,
 ⟨(some 9), (.load none (.t 8)), none, none⟩,
 ⟨(some 10), (.faddr 1 (.t 3)), none, none⟩,
 ⟨(some 11), (.load none (.t 10)), none, none⟩,
 ⟨(some 12), (.len (.t 11)), none, none⟩,
 ⟨(some 13), (.call (.k (rF 124)) [(.t 7), (.t 9), (.t 12)]), none, none⟩,
 ⟨(some 14), (.un .not (.t 13)), none, none⟩])
 (.cond (.t 14)
 (.seq
 (.region [] [] [1, 0, 3, 14, 18, 17, 19, 16, 6, 41, 4] [
 ⟨(some 4), (.move (.k (rB false))), none, none⟩])
 .ret)
 .skip))
 (.seq
 (.seq
 (.region [] [] [1, 0, 3, 14, 18, 17, 19, 16, 6, 41, 4] [
 ⟨(some 15), (.faddr 2 (.t 3)), none, none⟩,
 ⟨(some 16), (.load none (.t 15)), none, none⟩,
 ⟨(some 17), (.len (.t 16)), none, none⟩,
 ⟨(some 18), (.move (.k (rI .i64 0))), none, none⟩])
 (.block 0
 (.loop ic2113l0)))
 (.seq
 (.region [] [] [1, 0, 3, 14, 18, 17, 19, 16, 6, 41, 4] [
 ⟨(some 4), (.move (.k (rB true))), none, none⟩])
 .ret))))
def ir2113 : List IRes := [.tmp 4]
theorem ie2113 : cmpFunc Go.Proofs.Tryz.prog ⟨[(13, none), (39, none)], []⟩ Go.Proofs.Tryz.f113 [1, 0, 3, 14, 18, 17, 19, 16, 6, 41, 4] = some ic2113 := by kernel_rfl
theorem ig2113 : cmpRes Go.Proofs.Tryz.prog Go.Proofs.Tryz.f113.results.toList = some ir2113 := by kernel_rfl

def ic2114l0 : IC :=
 (.seq
 (.region [] [] [1, 12, 11, 13, 10, 2, 8, 9, 21, 0, 7, 6] [
 ⟨(some 13), (.bin .lss (.t 12) (.t 11)), none, none⟩])
 (.seq
 (.cond (.t 13)
 .skip
 (.exit 0))
 (.seq
 (.block 1
 (.seq
 (.region [8] [] [1, 12, 11, 13, 10, 2, 8, 9, 21, 0, 7, 6] [
 ⟨(some 14), (.move (.t 12)), none, none⟩,
 ⟨(some 15), (.iaddr 2 (.t 10) (.t 12)), none, none⟩,
 ⟨(some 16), (.load (some 2) (.t 15)), none, none⟩,
 ⟨(some 8), (.zero 147 [(.c (.v (.string (bs [])))), .nil]), none, none⟩,
 ⟨(some 7), (.move (.t 14)), none, none⟩,
 ⟨none, (.store (some 2) (.t 8) (.t 16)), none, none⟩])
 (.seq
 (.region [] [] [1, 12, 11, 13, 10, 2, 8, 9, 21, 0, 7, 6] [
 ⟨(some 17), (.move (.t 2)), none, none⟩,
 ⟨(some 18), (.load (some 2) (.t 8)), none, none⟩,
 ⟨(some 19), (.call (.t 17) [(.t 18)]), none, none⟩,
 ⟨(some 9), (.move (.t 19)), none, none⟩])
 (.seq
 (.region [] [] [1, 12, 11, 13, 10, 2, 8, 9, 21, 0, 7, 6] [
 ⟨(some 20), (.move (.t 9)), none, none⟩,
 ⟨(some 21), (.bin .neq (.t 20) (.k (rI .i64 0))), none, none⟩])
 (.cond (.t 21)
 (.seq
 (.region [] [] [1, 12, 11, 13, 10, 2, 8, 9, 21, 0, 7, 6] [
 ⟨(some 22), (.move (.t 0)), none, none⟩,
 ⟨(some 23), (.move (.t 9)), none, none⟩,
 ⟨(some 24), (.move (.t 7)), none, none⟩,
 ⟨(some 25), (.build [(.c (.v (.int .i8 0))), (.c (.v (.int .i64 0))), (.c (.v (.int .i64 0)))] [(0, 1, (.t 22)), (1, 1, (.t 23)), (2, 1, (.t 24))]), none, none⟩,
 ⟨none, (.store (some 3) (.t 6) (.t 25)), none, none⟩])
 .ret)
 .skip)))))
 (.region [] [] [1, 12, 11, 13, 10, 2, 8, 9, 21, 0, 7, 6] [
 ⟨(some 26), (.bin .add (.t 12) (.k (rI .i64 1))), none, none⟩,
 ⟨(some 12), (.move (.t 26)), none, none⟩]))))

/-- pedigree/check.first[pedigree/api.Fact] -/
def ic2114 : IC :=
 (.seq
 (.region [6] [] [1, 12, 11, 13, 10, 2, 8, 9, 21, 0, 7, 6] [
 ⟨(some 6), (.zero 55 [(.c (.v (.int .i8 0))), (.c (.v (.int .i64 0))), (.c (.v (.int .i64 0)))]), none, none⟩])
 (.seq
 (.seq
 (.region [] [] [1, 12, 11, 13, 10, 2, 8, 9, 21, 0, 7, 6] [
 ⟨(some 10), (.move (.t 1)), none, none⟩,
 ⟨(some 11), (.len (.t 10)), none, none⟩,
 ⟨(some 12), (.move (.k (rI .i64 0))), none, none⟩])
 (.block 0
 (.loop ic2114l0)))
 (.seq
 (.region [] [] [1, 12, 11, 13, 10, 2, 8, 9, 21, 0, 7, 6] [
 ⟨(some 27), (.build [(.c (.v (.int .i8 0))), (.c (.v (.int .i64 0))), (.c (.v (.int .i64 0)))] []), none, none⟩,
 ⟨none, (.store (some 3) (.t 6) (.t 27)), none, none⟩])
 .ret)))
def ir2114 : List IRes := [.cell 6 (some 3)]
theorem ie2114 : cmpFunc Go.Proofs.Tryz.prog ⟨[(19, none)], []⟩ Go.Proofs.Tryz.f114 [1, 12, 11, 13, 10, 2, 8, 9, 21, 0, 7, 6] = some ic2114 := by kernel_rfl
theorem ig2114 : cmpRes Go.Proofs.Tryz.prog Go.Proofs.Tryz.f114.results.toList = some ir2114 := by kernel_rfl


/-- pedigree/check.Input$2 -/
def ic2115 : IC :=
 (.seq
 (.region [2] [] [0, 2, 4, 9, 5, 18, 1, 3] [
 ⟨(some 2), (.box 147 (.t 0)), none, none⟩,
 ⟨(some 3), (.move (.k (rI .i64 0))), none, none⟩])
 (.seq
 (.seq
 (.region [] [] [0, 2, 4, 9, 5, 18, 1, 3] [
 ⟨(some 6), (.load (some 2) (.t 2)), none, none⟩,
 ⟨(some 7), (.callp (.k (rF 116)) [(.t 6)]), none, none⟩,
 ⟨(some 4), (.move (.t 7)), none, none⟩])
 (.seq
 (.region [] [] [0, 2, 4, 9, 5, 18, 1, 3] [
 ⟨(some 8), (.move (.t 4)), none, none⟩,
 ⟨(some 9), (.bin .neq (.t 8) (.k (rI .i64 0))), none, none⟩])
 (.cond (.t 9)
 (.seq
 (.region [] [] [0, 2, 4, 9, 5, 18, 1, 3] [
 ⟨(some 10), (.move (.t 4)), none, none⟩,
 ⟨(some 3), (.move (.t 10)), none, none⟩])
 .ret)
 .skip)))
 (.seq
 (.seq
 (.region [] [] [0, 2, 4, 9, 5, 18, 1, 3] [
 ⟨(some 11), (.faddr 0 (.t 2)), none, none⟩,
 ⟨(some 12), (.load none (.t 11)), none, none⟩,
 ⟨(some 13), (.faddr 1 (.t 2)), none, none⟩,
 ⟨(some 14), (.load none (.t 13)), none, none⟩,
 ⟨(some 15), (.len (.t 14)), none, none⟩,
 ⟨(some 16), (.callp (.k (rF 117)) [(.t 12), (.t 15)]), none, none⟩,
 ⟨(some 5), (.move (.t 16)), none, none⟩])
 (.seq
 (.region [] [] [0, 2, 4, 9, 5, 18, 1, 3] [
 ⟨(some 17), (.move (.t 5)), none, none⟩,
 ⟨(some 18), (.bin .neq (.t 17) (.k (rI .i64 0))), none, none⟩])
 (.cond (.t 18)
 (.seq
 (.region [] [] [0, 2, 4, 9, 5, 18, 1, 3] [
 ⟨(some 19), (.move (.t 5)), none, none⟩,
 ⟨(some 3), (.move (.t 19)), none, none⟩])
 .ret)
 .skip)))
 (.seq
 (.region [] [] [0, 2, 4, 9, 5, 18, 1, 3] [
 ⟨(some 20), (.load none (.t 1)), none, none⟩,
 ⟨(some 21), (.load (some 2) (.t 2)), none, none⟩,
 ⟨(some 22), (.call (.k (rF 118)) [(.t 20), (.t 21)]), none, none⟩,
 ⟨(some 23), (.callp (.k (rF 112)) [(.t 22), (.k (rI .i64 72))]), none, none⟩,
 ⟨(some 3), (.move (.t 23)), none, none⟩])
 .ret))))
def ir2115 : List IRes := [.tmp 3]
theorem ie2115 : cmpFunc Go.Proofs.Tryz.prog ⟨[(22, none)], []⟩ Go.Proofs.Tryz.f115 [0, 2, 4, 9, 5, 18, 1, 3] = some ic2115 := by kernel_rfl
theorem ig2115 : cmpRes Go.Proofs.Tryz.prog Go.Proofs.Tryz.f115.results.toList = some ir2115 := by kernel_rfl

def ic2116l0 : IC :=
 (.seq
 (.region [] [] [0, 1, 16, 20, 19, 21, 18, 4, 5, 27, 2] [
 ⟨(some 21), (.bin .lss (.t 20) (.t 19)), none, none⟩])
 (.seq
 (.cond (.t 21)
 .skip
 (.exit 0))
 (.seq
 (.block 1
 (.seq
 (.region [4] [] [0, 1, 16, 20, 19, 21, 18, 4, 5, 27, 2] [
 ⟨(some 22), (.iaddr 3 (.t 18) (.t 20)), none, none⟩,
 ⟨(some 23), (.load (some 3) (.t 22)), none, none⟩,
 ⟨(some 4), (.zero 71 [(.c (.v (.int .i8 0))), (.c (.v (.int .i64 0))), (.c (.v (.string (bs []))))]), none, none⟩,
 ⟨none, (.store (some 3) (.t 4) (.t 23)), none, none⟩])
 (.seq
 (.region [] [] [0, 1, 16, 20, 19, 21, 18, 4, 5, 27, 2] [
 ⟨(some 24), (.load (some 3) (.t 4)), none, none⟩,
 ⟨(some 25), (.callp (.k (rF 204)) [(.t 24)]), none, none⟩,
 ⟨(some 5), (.move (.t 25)), none, none⟩])
 (.seq
 (.region [] [] [0, 1, 16, 20, 19, 21, 18, 4, 5, 27, 2] [
 ⟨(some 26), (.move (.t 5)), none, none⟩,
 ⟨(some 27), (.bin .neq (.t 26) (.k (rI .i64 0))), none, none⟩])
 (.cond (.t 27)
 (.seq
 (.region [] [] [0, 1, 16, 20, 19, 21, 18, 4, 5, 27, 2] [
 ⟨(some 28), (.move (.t 5)), none, none⟩,
 ⟨(some 2), (.move (.t 28)), none, none⟩])
 .ret)
 .skip)))))
 (.region [] [] [0, 1, 16, 20, 19, 21, 18, 4, 5, 27, 2] [
 ⟨(some 29), (.bin .add (.t 20) (.k (rI .i64 1))), none, none⟩,
 ⟨(some 20), (.move (.t 29)), none, none⟩]))))

/-- pedigree/check.fact -/
def ic2116 : IC :=
 (.seq
 (.region [1] [] [0, 1, 16, 20, 19, 21, 18, 4, 5, 27, 2] [
 ⟨(some 1), (.box 147 (.t 0)), none, none⟩,
 ⟨(some 2), (.move (.k (rI .i64 0))), none, none⟩])
 (.seq
 (.seq
 (.region [] [] [0, 1, 16, 20, 19, 21, 18, 4, 5, 27, 2] [
 ⟨(some 6), (.faddr 0 (.t 1)), none, none⟩,
 ⟨(some 7), (.load none (.t 6)), none, none⟩,
 ⟨(some 8), (.build [(.c (.v (.string (bs [])))), .nil] [(0, 1, (.t 7))]), none, none⟩,
 ⟨(some 9), (.callp (.k (rF 121)) [(.t 8)]), none, none⟩,
 ⟨(some 10), (.bin .neq (.t 9) (.k (rI .i64 0))), none, none⟩,
 ⟨(some 11), (.move (.t 10)), none, none⟩,
 ⟨(some 12), (.faddr 1 (.t 1)), some (11, false), none⟩,
 ⟨(some 13), (.load none (.t 12)), some (11, false), none⟩,
 ⟨(some 14), (.len (.t 13)), some (11, false), none⟩,
 ⟨(some 15), (.bin .gtr (.t 14) (.k (rI .i64 24))), some (11, false), none⟩,
 ⟨(some 16), (.pick (.t 11) (.k (rB true)) (.t 15)), none, none⟩])
 (.cond (.t 16)
 (.seq
 (.region [] [] [0, 1, 16, 20, 19, 21, 18, 4, 5, 27, 2] [
 ⟨(some 2), (.move (.k (rI .i64 10))), none, none⟩])
 .ret)
 .skip))
 (.seq
 (.seq
 (.region [] [] [0, 1, 16, 20, 19, 21, 18, 4, 5, 27, 2] [
 ⟨(some 17), (.faddr 1 (.t 1)), none, none⟩,
 ⟨(some 18), (.load none (.t 17)), none, none⟩,
 ⟨(some 19), (.len (.t 18)), none, none⟩,
 ⟨(some 20), (.move (.k (rI .i64 0))), none, none⟩])
 (.block 0
 (.loop ic2116l0)))
 (.seq
 (.region [] [] [0, 1, 16, 20, 19, 21, 18, 4, 5, 27, 2] [
 ⟨(some 2), (.move (.k (rI .i64 0))), none, none⟩])
 .ret))))
def ir2116 : List IRes := [.tmp 2]
theorem ie2116 : cmpFunc Go.Proofs.Tryz.prog ⟨[], []⟩ Go.Proofs.Tryz.f116 [0, 1, 16, 20, 19, 21, 18, 4, 5, 27, 2] = some ic2116 := by kernel_rfl
theorem ig2116 : cmpRes Go.Proofs.Tryz.prog Go.Proofs.Tryz.f116.results.toList = some ir2116 := by kernel_rfl


/-- pedigree/check.size -/
def ic2117 : IC :=
 (.seq
 (.region [] [] [0, 1, 5, 13, 4] [
 ⟨(some 4), (.move (.k (rI .i64 0))), none, none⟩])
 (.seq
 (.block 0
 (.seq
 (.region [] [] [0, 1, 5, 13, 4] [
 ⟨(some 6), (.move (.t 0)), none, none⟩,
 ⟨(some 7), (.slen (.t 6)), none, none⟩,
 ⟨(some 8), (.bin .gtr (.t 7) (.k (rI .i64 24))), none, none⟩,
 ⟨(some 9), (.move (.t 8)), none, none⟩,
 ⟨(some 10), (.move (.t 1)), some (9, false), none⟩,
 ⟨(some 11), (.bin .gtr (.t 10) (.k (rI .i64 8))), some (9, false), none⟩,
 ⟨(some 12), (.pick (.t 9) (.k (rB true)) (.t 11)), none, none⟩,
 ⟨(some 5), (.move (.t 12)), none, none⟩])
 (.cond (.t 5)
 (.seq
 (.region [] [] [0, 1, 5, 13, 4] [
 ⟨(some 4), (.move (.k (rI .i64 70))), none, none⟩])
 .ret)
 (.seq
 (.region [] [] [0, 1, 5, 13, 4] [
 ⟨(some 14), (.move (.t 0)), none, none⟩,
 ⟨(some 15), (.callp (.k (rF 205)) [(.t 14), (.k (rS (bs [113, 95])))]), none, none⟩,
 ⟨(some 13), (.move (.t 15)), none, none⟩])
 (.cond (.t 13)
 (.seq
 (.region [] [] [0, 1, 5, 13, 4] [
 ⟨(some 4), (.move (.k (rI .i64 71))), none, none⟩])
 .ret)
 .skip)))))
 (.seq
 (.region [] [] [0, 1, 5, 13, 4] [
 ⟨(some 4), (.move (.k (rI .i64 0))), none, none⟩])
 .ret)))
def ir2117 : List IRes := [.tmp 4]
theorem ie2117 : cmpFunc Go.Proofs.Tryz.prog ⟨[], []⟩ Go.Proofs.Tryz.f117 [0, 1, 5, 13, 4] = some ic2117 := by kernel_rfl
theorem ig2117 : cmpRes Go.Proofs.Tryz.prog Go.Proofs.Tryz.f117.results.toList = some ir2117 := by kernel_rfl


/-- (pedigree/check.arities).fact -/
def ic2118 : IC :=
 (.seq
 (.region [3] [] [1, 0, 3, 4] [
 ⟨(some 3), (.box 147 (.t 1)), none, none⟩,
 ⟨(some 4), (.move (.k (rB false))), none, none⟩])
 (.seq
 (.region [] [] [1, 0, 3, 4] [
 ⟨(some 5), (.move (.t 0)), none, none⟩,
 ⟨(some 6), (.faddr 0 (.t 3)), none, none⟩,
 ⟨(some 7), (.load none (.t 6)), none, none⟩,
 ⟨(some 8), (.faddr 1 (.t 3)), none, none⟩,
 ⟨(some 9), (.load none (.t 8)), none, none⟩,
 ⟨(some 10), (.len (.t 9)), none, none⟩,
 ⟨(some 11), (.call (.k (rF 124)) [(.t 5), (.t 7), (.t 10)]), none, none⟩,
 ⟨(some 4), (.move (.t 11)), none, none⟩])
 .ret))
def ir2118 : List IRes := [.tmp 4]
theorem ie2118 : cmpFunc Go.Proofs.Tryz.prog ⟨[(11, none)], []⟩ Go.Proofs.Tryz.f118 [1, 0, 3, 4] = some ic2118 := by kernel_rfl
theorem ig2118 : cmpRes Go.Proofs.Tryz.prog Go.Proofs.Tryz.f118.results.toList = some ir2118 := by kernel_rfl

def ic2119l0 : IC :=
 (.seq
 (.region [] [] [1, 12, 11, 13, 10, 2, 8, 9, 21, 0, 7, 6] [
 ⟨(some 13), (.bin .lss (.t 12) (.t 11)), none, none⟩])
 (.seq
 (.cond (.t 13)
 .skip
 (.exit 0))
 (.seq
 (.block 1
 (.seq
 (.region [8] [] [1, 12, 11, 13, 10, 2, 8, 9, 21, 0, 7, 6] [
 ⟨(some 14), (.move (.t 12)), none, none⟩,
 ⟨(some 15), (.iaddr 2 (.t 10) (.t 12)), none, none⟩,
 ⟨(some 16), (.load (some 2) (.t 15)), none, none⟩,
 ⟨(some 8), (.zero 25 [(.c (.v (.string (bs [])))), .nil]), none, none⟩,
 ⟨(some 7), (.move (.t 14)), none, none⟩,
 ⟨none, (.store (some 2) (.t 8) (.t 16)), none, none⟩])
 (.seq
 (.region [] [] [1, 12, 11, 13, 10, 2, 8, 9, 21, 0, 7, 6] [
 ⟨(some 17), (.move (.t 2)), none, none⟩,
 ⟨(some 18), (.load (some 2) (.t 8)), none, none⟩,
 ⟨(some 19), (.call (.t 17) [(.t 18)]), none, none⟩,
 ⟨(some 9), (.move (.t 19)), none, none⟩])
 (.seq
 (.region [] [] [1, 12, 11, 13, 10, 2, 8, 9, 21, 0, 7, 6] [
 ⟨(some 20), (.move (.t 9)), none, none⟩,
 ⟨(some 21), (.bin .neq (.t 20) (.k (rI .i64 0))), none, none⟩])
 (.cond (.t 21)
 (.seq
 (.region [] [] [1, 12, 11, 13, 10, 2, 8, 9, 21, 0, 7, 6] [
 ⟨(some 22), (.move (.t 0)), none, none⟩,
 ⟨(some 23), (.move (.t 9)), none, none⟩,
 ⟨(some 24), (.move (.t 7)), none, none⟩,
 ⟨(some 25), (.build [(.c (.v (.int .i8 0))), (.c (.v (.int .i64 0))), (.c (.v (.int .i64 0)))] [(0, 1, (.t 22)), (1, 1, (.t 23)), (2, 1, (.t 24))]), none, none⟩,
 ⟨none, (.store (some 3) (.t 6) (.t 25)), none, none⟩])
 .ret)
 .skip)))))
 (.region [] [] [1, 12, 11, 13, 10, 2, 8, 9, 21, 0, 7, 6] [
 ⟨(some 26), (.bin .add (.t 12) (.k (rI .i64 1))), none, none⟩,
 ⟨(some 12), (.move (.t 26)), none, none⟩]))))

/-- pedigree/check.first[pedigree/api.Atom] -/
def ic2119 : IC :=
 (.seq
 (.region [6] [] [1, 12, 11, 13, 10, 2, 8, 9, 21, 0, 7, 6] [
 ⟨(some 6), (.zero 55 [(.c (.v (.int .i8 0))), (.c (.v (.int .i64 0))), (.c (.v (.int .i64 0)))]), none, none⟩])
 (.seq
 (.seq
 (.region [] [] [1, 12, 11, 13, 10, 2, 8, 9, 21, 0, 7, 6] [
 ⟨(some 10), (.move (.t 1)), none, none⟩,
 ⟨(some 11), (.len (.t 10)), none, none⟩,
 ⟨(some 12), (.move (.k (rI .i64 0))), none, none⟩])
 (.block 0
 (.loop ic2119l0)))
 (.seq
 (.region [] [] [1, 12, 11, 13, 10, 2, 8, 9, 21, 0, 7, 6] [
 ⟨(some 27), (.build [(.c (.v (.int .i8 0))), (.c (.v (.int .i64 0))), (.c (.v (.int .i64 0)))] []), none, none⟩,
 ⟨none, (.store (some 3) (.t 6) (.t 27)), none, none⟩])
 .ret)))
def ir2119 : List IRes := [.cell 6 (some 3)]
theorem ie2119 : cmpFunc Go.Proofs.Tryz.prog ⟨[(19, none)], []⟩ Go.Proofs.Tryz.f119 [1, 12, 11, 13, 10, 2, 8, 9, 21, 0, 7, 6] = some ic2119 := by kernel_rfl
theorem ig2119 : cmpRes Go.Proofs.Tryz.prog Go.Proofs.Tryz.f119.results.toList = some ir2119 := by kernel_rfl


/-- pedigree/check.Input$3 -/
def ic2120 : IC :=
 (.seq
 (.region [2] [] [0, 2, 4, 9, 13, 5, 21, 1, 3] [
 ⟨(some 2), (.box 25 (.t 0)), none, none⟩,
 ⟨(some 3), (.move (.k (rI .i64 0))), none, none⟩])
 (.seq
 (.seq
 (.region [] [] [0, 2, 4, 9, 13, 5, 21, 1, 3] [
 ⟨(some 6), (.load (some 2) (.t 2)), none, none⟩,
 ⟨(some 7), (.callp (.k (rF 121)) [(.t 6)]), none, none⟩,
 ⟨(some 4), (.move (.t 7)), none, none⟩])
 (.seq
 (.region [] [] [0, 2, 4, 9, 13, 5, 21, 1, 3] [
 ⟨(some 8), (.move (.t 4)), none, none⟩,
 ⟨(some 9), (.bin .neq (.t 8) (.k (rI .i64 0))), none, none⟩])
 (.cond (.t 9)
 (.seq
 (.region [] [] [0, 2, 4, 9, 13, 5, 21, 1, 3] [
 ⟨(some 10), (.move (.t 4)), none, none⟩,
 ⟨(some 3), (.move (.t 10)), none, none⟩])
 .ret)
 .skip)))
 (.seq
 (.seq
 (.region [] [] [0, 2, 4, 9, 13, 5, 21, 1, 3] [
 ⟨(some 11), (.load (some 2) (.t 2)), none, none⟩,
 ⟨(some 12), (.callp (.k (rF 123)) [(.t 11)]), none, none⟩,
 ⟨(some 13), (.callp (.k (rF 122)) [(.t 12)]), none, none⟩])
 (.cond (.t 13)
 (.seq
 (.region [] [] [0, 2, 4, 9, 13, 5, 21, 1, 3] [
 ⟨(some 3), (.move (.k (rI .i64 70))), none, none⟩])
 .ret)
 .skip))
 (.seq
 (.seq
 (.region [] [] [0, 2, 4, 9, 13, 5, 21, 1, 3] [
 ⟨(some 14), (.faddr 0 (.t 2)), none, none⟩,
 ⟨(some 15), (.load none (.t 14)), none, none⟩,
 ⟨(some 16), (.faddr 1 (.t 2)), none, none⟩,
 ⟨(some 17), (.load none (.t 16)), none, none⟩,
 ⟨(some 18), (.len (.t 17)), none, none⟩,
 ⟨(some 19), (.callp (.k (rF 117)) [(.t 15), (.t 18)]), none, none⟩,
 ⟨(some 5), (.move (.t 19)), none, none⟩])
 (.seq
 (.region [] [] [0, 2, 4, 9, 13, 5, 21, 1, 3] [
 ⟨(some 20), (.move (.t 5)), none, none⟩,
 ⟨(some 21), (.bin .neq (.t 20) (.k (rI .i64 0))), none, none⟩])
 (.cond (.t 21)
 (.seq
 (.region [] [] [0, 2, 4, 9, 13, 5, 21, 1, 3] [
 ⟨(some 22), (.move (.t 5)), none, none⟩,
 ⟨(some 3), (.move (.t 22)), none, none⟩])
 .ret)
 .skip)))
 (.seq
 (.region [] [] [0, 2, 4, 9, 13, 5, 21, 1, 3] [
 ⟨(some 23), (.load none (.t 1)), none, none⟩,
 ⟨(some 24), (.faddr 0 (.t 2)), none, none⟩,
 ⟨(some 25), (.load none (.t 24)), none, none⟩,
 ⟨(some 26), (.faddr 1 (.t 2)), none, none⟩,
 ⟨(some 27), (.load none (.t 26)), none, none⟩,
 ⟨(some 28), (.len (.t 27)), none, none⟩,
 ⟨(some 29), (.call (.k (rF 124)) [(.t 23), (.t 25), (.t 28)]), none, none⟩,
 ⟨(some 30), (.callp (.k (rF 112)) [(.t 29), (.k (rI .i64 72))]), none, none⟩,
 ⟨(some 3), (.move (.t 30)), none, none⟩])
 .ret)))))
def ir2120 : List IRes := [.tmp 3]
theorem ie2120 : cmpFunc Go.Proofs.Tryz.prog ⟨[(29, none)], []⟩ Go.Proofs.Tryz.f120 [0, 2, 4, 9, 13, 5, 21, 1, 3] = some ic2120 := by kernel_rfl
theorem ig2120 : cmpRes Go.Proofs.Tryz.prog Go.Proofs.Tryz.f120.results.toList = some ir2120 := by kernel_rfl


/-- pedigree/check.long -/
def ic2122 : IC :=
 (.seq
 (.region [] [] [0, 2] [
 ⟨(some 2), (.move (.k (rB false))), none, none⟩])
 (.seq
 (.region [] [] [0, 2] [
 ⟨(some 3), (.move (.t 0)), none, none⟩,
 ⟨(some 4), (.callp (.k (rF 209)) [(.t 3), (.k (rF 210))]), none, none⟩,
 ⟨(some 2), (.move (.t 4)), none, none⟩])
 .ret))
def ir2122 : List IRes := [.tmp 2]
theorem ie2122 : cmpFunc Go.Proofs.Tryz.prog ⟨[], []⟩ Go.Proofs.Tryz.f122 [0, 2] = some ic2122 := by kernel_rfl
theorem ig2122 : cmpRes Go.Proofs.Tryz.prog Go.Proofs.Tryz.f122.results.toList = some ir2122 := by kernel_rfl


/-- (pedigree/check.arities).meet -/
def ic2124 : IC :=
 (.seq
 (.region [] [] [0, 1, 8, 16, 2, 7, 6] [
 ⟨(some 6), (.move (.k (rB false))), none, none⟩])
 (.seq
 (.region [] [] [0, 1, 8, 16, 2, 7, 6] [
 ⟨(some 10), (.move (.t 0)), none, none⟩,
 ⟨(some 11), (.move (.t 1)), none, none⟩,
 ⟨(some 12), (.mlook .string true true [(.c (.v (.int .i64 0)))] (.t 10) (.t 11)), none, none⟩,
 ⟨(some 9), (.move (.t 12)), none, none⟩,
 ⟨(some 13), (.ext (.t 9) 0), none, none⟩,
 ⟨(some 14), (.ext (.t 9) 1), none, none⟩,
 ⟨(some 7), (.move (.t 13)), none, none⟩,
 ⟨(some 8), (.move (.t 14)), none, none⟩])
 (.seq
 (.seq
 (.region [] [] [0, 1, 8, 16, 2, 7, 6] [
 ⟨(some 15), (.move (.t 8)), none, none⟩,
 ⟨(some 16), (.un .not (.t 15)), none, none⟩])
 (.cond (.t 16)
 (.region [] [] [0, 1, 8, 16, 2, 7, 6] [
 ⟨(some 17), (.move (.t 0)), none, none⟩,
 ⟨(some 18), (.move (.t 1)), none, none⟩,
 ⟨(some 19), (.move (.t 2)), none, none⟩,
 ⟨none, (.mapup .string true (.t 17) (.t 18) (.t 19)), none, none⟩])
 .skip))
 (.seq
 (.region [] [] [0, 1, 8, 16, 2, 7, 6] [
 ⟨(some 20), (.move (.t 8)), none, none⟩,
 ⟨(some 21), (.un .not (.t 20)), none, none⟩,
 ⟨(some 22), (.move (.t 21)), none, none⟩,
 ⟨(some 23), (.move (.t 7)), some (22, false), none⟩,
 ⟨(some 24), (.move (.t 2)), some (22, false), none⟩,
 ⟨(some 25), (.bin .eql (.t 23) (.t 24)), some (22, false), none⟩,
 ⟨(some 26), (.pick (.t 22) (.k (rB true)) (.t 25)), none, none⟩,
 ⟨(some 6), (.move (.t 26)), none, none⟩])
 .ret))))
def ir2124 : List IRes := [.tmp 6]
theorem ie2124 : cmpFunc Go.Proofs.Tryz.prog ⟨[], []⟩ Go.Proofs.Tryz.f124 [0, 1, 8, 16, 2, 7, 6] = some ic2124 := by kernel_rfl
theorem ig2124 : cmpRes Go.Proofs.Tryz.prog Go.Proofs.Tryz.f124.results.toList = some ir2124 := by kernel_rfl

def ic2127l0 : IC :=
 (.seq
 (.seq
 (.region [] [] [6, 1, 14, 0, 8, 7, 37, 38, 10, 55, 9, 75, 4, 5] [
 ⟨(some 39), (.move (.t 10)), none, none⟩,
 ⟨(some 40), (.move (.t 0)), none, none⟩,
 ⟨(some 41), (.len (.t 40)), none, none⟩,
 ⟨(some 42), (.bin .lss (.t 39) (.t 41)), none, none⟩,
 ⟨(some 43), (.move (.t 42)), none, none⟩,
 ⟨(some 44), (.move (.t 0)), some (43, true), none⟩,
 ⟨(some 45), (.move (.t 10)), some (43, true), none⟩,
 ⟨(some 46), (.iaddr 2 (.t 44) (.t 45)), some (43, true), none⟩,
 ⟨(some 47), (.faddr 0 (.t 46)), some (43, true), none⟩,
 ⟨(some 48), (.load none (.t 47)), some (43, true), none⟩,
 ⟨(some 49), (.move (.t 1)), some (43, true), none⟩,
 ⟨(some 50), (.move (.t 6)), some (43, true), none⟩,
 ⟨(some 51), (.iaddr 2 (.t 49) (.t 50)), some (43, true), none⟩,
 ⟨(some 52), (.faddr 0 (.t 51)), some (43, true), none⟩,
 ⟨(some 53), (.load none (.t 52)), some (43, true), none⟩,
 ⟨(some 54), (.bin .lss (.t 48) (.t 53)), some (43, true), none⟩,
 ⟨(some 55), (.pick (.t 43) (.t 54) (.k (rB false))), none, none⟩])
 (.cond (.t 55)
 .skip
 (.exit 2)))
 (.block 3
 (.seq
 (.region [61] [] [6, 1, 14, 0, 8, 7, 37, 38, 10, 55, 9, 75, 4, 5] [
 ⟨(some 56), (.move (.t 9)), none, none⟩,
 ⟨(some 57), (.move (.t 0)), none, none⟩,
 ⟨(some 58), (.move (.t 10)), none, none⟩,
 ⟨(some 59), (.iaddr 2 (.t 57) (.t 58)), none, none⟩,
 ⟨(some 60), (.load (some 2) (.t 59)), none, none⟩,
 ⟨(some 61), (.row 168 2 [(.t 60)]), none, none⟩,
 ⟨(some 62), (.app 168 2 24 (.t 56) (.t 61)), none, none⟩,
 ⟨(some 9), (.move (.t 62)), none, none⟩])
 (.region [] [] [6, 1, 14, 0, 8, 7, 37, 38, 10, 55, 9, 75, 4, 5] [
 ⟨(some 63), (.move (.t 10)), none, none⟩,
 ⟨(some 64), (.bin .add (.t 63) (.k (rI .i64 1))), none, none⟩,
 ⟨(some 10), (.move (.t 64)), none, none⟩]))))

def ic2127l1 : IC :=
 (.seq
 (.seq
 (.region [] [] [6, 1, 14, 0, 8, 7, 37, 38, 10, 55, 9, 75, 4, 5] [
 ⟨(some 72), (.move (.t 10)), none, none⟩,
 ⟨(some 73), (.move (.t 0)), none, none⟩,
 ⟨(some 74), (.len (.t 73)), none, none⟩,
 ⟨(some 75), (.bin .lss (.t 72) (.t 74)), none, none⟩])
 (.cond (.t 75)
 .skip
 (.exit 4)))
 (.block 5
 (.seq
 (.region [81] [] [6, 1, 14, 0, 8, 7, 37, 38, 10, 55, 9, 75, 4, 5] [
 ⟨(some 76), (.move (.t 9)), none, none⟩,
 ⟨(some 77), (.move (.t 0)), none, none⟩,
 ⟨(some 78), (.move (.t 10)), none, none⟩,
 ⟨(some 79), (.iaddr 2 (.t 77) (.t 78)), none, none⟩,
 ⟨(some 80), (.load (some 2) (.t 79)), none, none⟩,
 ⟨(some 81), (.row 168 2 [(.t 80)]), none, none⟩,
 ⟨(some 82), (.app 168 2 24 (.t 76) (.t 81)), none, none⟩,
 ⟨(some 9), (.move (.t 82)), none, none⟩])
 (.region [] [] [6, 1, 14, 0, 8, 7, 37, 38, 10, 55, 9, 75, 4, 5] [
 ⟨(some 83), (.move (.t 10)), none, none⟩,
 ⟨(some 84), (.bin .add (.t 83) (.k (rI .i64 1))), none, none⟩,
 ⟨(some 10), (.move (.t 84)), none, none⟩]))))

def ic2127l2 : IC :=
 (.seq
 (.seq
 (.region [] [] [6, 1, 14, 0, 8, 7, 37, 38, 10, 55, 9, 75, 4, 5] [
 ⟨(some 11), (.move (.t 6)), none, none⟩,
 ⟨(some 12), (.move (.t 1)), none, none⟩,
 ⟨(some 13), (.len (.t 12)), none, none⟩,
 ⟨(some 14), (.bin .lss (.t 11) (.t 13)), none, none⟩])
 (.cond (.t 14)
 .skip
 (.exit 0)))
 (.seq
 (.block 1
 (.seq
 (.region [7] [] [6, 1, 14, 0, 8, 7, 37, 38, 10, 55, 9, 75, 4, 5] [
 ⟨(some 18), (.move (.t 1)), none, none⟩,
 ⟨(some 19), (.move (.t 6)), none, none⟩,
 ⟨(some 20), (.iaddr 2 (.t 18) (.t 19)), none, none⟩,
 ⟨(some 21), (.faddr 0 (.t 20)), none, none⟩,
 ⟨(some 22), (.load none (.t 21)), none, none⟩,
 ⟨(some 23), (.move (.t 0)), none, none⟩,
 ⟨(some 24), (.callp (.k (rF 213)) [(.t 22), (.t 23)]), none, none⟩,
 ⟨(some 17), (.move (.t 24)), none, none⟩,
 ⟨(some 25), (.ext (.t 17) 0), none, none⟩,
 ⟨(some 26), (.ext (.t 17) 1), none, none⟩,
 ⟨(some 7), (.zero 168 [(.c (.v (.string (bs [])))), (.c (.v (.int .i64 0)))]), none, none⟩,
 ⟨none, (.store (some 2) (.t 7) (.t 25)), none, none⟩,
 ⟨(some 8), (.move (.t 26)), none, none⟩])
 (.seq
 (.seq
 (.region [] [] [6, 1, 14, 0, 8, 7, 37, 38, 10, 55, 9, 75, 4, 5] [
 ⟨(some 27), (.move (.t 8)), none, none⟩,
 ⟨(some 28), (.move (.t 27)), none, none⟩,
 ⟨(some 29), (.faddr 1 (.t 7)), some (28, true), none⟩,
 ⟨(some 30), (.load none (.t 29)), some (28, true), none⟩,
 ⟨(some 31), (.move (.t 1)), some (28, true), none⟩,
 ⟨(some 32), (.move (.t 6)), some (28, true), none⟩,
 ⟨(some 33), (.iaddr 2 (.t 31) (.t 32)), some (28, true), none⟩,
 ⟨(some 34), (.faddr 1 (.t 33)), some (28, true), none⟩,
 ⟨(some 35), (.load none (.t 34)), some (28, true), none⟩,
 ⟨(some 36), (.bin .neq (.t 30) (.t 35)), some (28, true), none⟩,
 ⟨(some 37), (.pick (.t 28) (.t 36) (.k (rB false))), none, none⟩])
 (.cond (.t 37)
 (.seq
 (.region [] [] [6, 1, 14, 0, 8, 7, 37, 38, 10, 55, 9, 75, 4, 5] [
 ⟨(some 4), (.move (.k (.x (.one .nil)))), none, none⟩,
 ⟨(some 5), (.move (.k (rB false))), none, none⟩])
 .ret)
 .skip))
 (.seq
 (.seq
 (.region [] [] [6, 1, 14, 0, 8, 7, 37, 38, 10, 55, 9, 75, 4, 5] [
 ⟨(some 38), (.move (.t 8)), none, none⟩])
 (.cond (.t 38)
 (.exit 1)
 .skip))
 (.seq
 (.region [] [] [6, 1, 14, 0, 8, 7, 37, 38, 10, 55, 9, 75, 4, 5] [
 ⟨(some 9), (.move (.k (.x (.one .nil)))), none, none⟩])
 (.seq
 (.region [] [] [6, 1, 14, 0, 8, 7, 37, 38, 10, 55, 9, 75, 4, 5] [
 ⟨(some 10), (.move (.k (rI .i64 0))), none, none⟩])
 (.seq
 (.block 2
 (.loop ic2127l0))
 (.seq
 (.region [70] [] [6, 1, 14, 0, 8, 7, 37, 38, 10, 55, 9, 75, 4, 5] [
 ⟨(some 65), (.move (.t 9)), none, none⟩,
 ⟨(some 66), (.move (.t 1)), none, none⟩,
 ⟨(some 67), (.move (.t 6)), none, none⟩,
 ⟨(some 68), (.iaddr 2 (.t 66) (.t 67)), none, none⟩,
 ⟨(some 69), (.load (some 2) (.t 68)), none, none⟩,
 ⟨(some 70), (.row 168 2 [(.t 69)]), none, none⟩,
 ⟨(some 71), (.app 168 2 24 (.t 65) (.t 70)), none, none⟩,
 ⟨(some 9), (.move (.t 71)), none, none⟩])
 (.seq
 (.block 4
 (.loop ic2127l1))
 (.region [] [] [6, 1, 14, 0, 8, 7, 37, 38, 10, 55, 9, 75, 4, 5] [
 ⟨(some 85), (.move (.t 9)), none, none⟩,
 ⟨(some 0), (.move (.t 85)), none, none⟩]))))))))))
 (.region [] [] [6, 1, 14, 0, 8, 7, 37, 38, 10, 55, 9, 75, 4, 5] [
 ⟨(some 15), (.move (.t 6)), none, none⟩,
 ⟨(some 16), (.bin .add (.t 15) (.k (rI .i64 1))), none, none⟩,
 ⟨(some 6), (.move (.t 16)), none, none⟩])))

/-- pedigree/pedigreeref07.Meet -/
def ic2127 : IC :=
 (.seq
 (.region [] [] [6, 1, 14, 0, 8, 7, 37, 38, 10, 55, 9, 75, 4, 5] [
 ⟨(some 4), (.move (.k (.x (.one .nil)))), none, none⟩,
 ⟨(some 5), (.move (.k (rB false))), none, none⟩])
 (.seq
 (.seq
 (.region [] [] [6, 1, 14, 0, 8, 7, 37, 38, 10, 55, 9, 75, 4, 5] [
 ⟨(some 6), (.move (.k (rI .i64 0))), none, none⟩])
 (.block 0
 (.loop ic2127l2)))
 (.seq
 (.region [] [] [6, 1, 14, 0, 8, 7, 37, 38, 10, 55, 9, 75, 4, 5] [
 ⟨(some 86), (.move (.t 0)), none, none⟩,
 ⟨(some 4), (.move (.t 86)), none, none⟩,
 ⟨(some 5), (.move (.k (rB true))), none, none⟩])
 .ret)))
def ir2127 : List IRes := [.tmp 4, .tmp 5]
theorem ie2127 : cmpFunc Go.Proofs.Tryz.prog ⟨[], []⟩ Go.Proofs.Tryz.f127 [6, 1, 14, 0, 8, 7, 37, 38, 10, 55, 9, 75, 4, 5] = some ic2127 := by kernel_rfl
theorem ig2127 : cmpRes Go.Proofs.Tryz.prog Go.Proofs.Tryz.f127.results.toList = some ir2127 := by kernel_rfl

def ic2131l0 : IC :=
 (.seq
 (.seq
 (.region [] [] [0, 1, 4, 16, 34, 3, 2] [
 ⟨(some 12), (.move (.t 4)), none, none⟩,
 ⟨(some 13), (.faddr 2 (.t 1)), none, none⟩,
 ⟨(some 14), (.load none (.t 13)), none, none⟩,
 ⟨(some 15), (.len (.t 14)), none, none⟩,
 ⟨(some 16), (.bin .lss (.t 12) (.t 15)), none, none⟩])
 (.cond (.t 16)
 .skip
 (.exit 0)))
 (.seq
 (.block 1
 (.seq
 (.region [] [] [0, 1, 4, 16, 34, 3, 2] [
 ⟨(some 19), (.faddr 2 (.t 1)), none, none⟩,
 ⟨(some 20), (.load none (.t 19)), none, none⟩,
 ⟨(some 21), (.move (.t 4)), none, none⟩,
 ⟨(some 22), (.iaddr 16 (.t 20) (.t 21)), none, none⟩,
 ⟨(some 23), (.faddr 0 (.t 22)), none, none⟩,
 ⟨(some 24), (.load none (.t 23)), none, none⟩,
 ⟨(some 25), (.bin .eql (.t 24) (.k (rI .i8 1))), none, none⟩,
 ⟨(some 26), (.move (.t 25)), none, none⟩,
 ⟨(some 27), (.faddr 2 (.t 1)), some (26, false), none⟩,
 ⟨(some 28), (.load none (.t 27)), some (26, false), none⟩,
 ⟨(some 29), (.move (.t 4)), some (26, false), none⟩,
 ⟨(some 30), (.iaddr 16 (.t 28) (.t 29)), some (26, false), none⟩,
 ⟨(some 31), (.faddr 0 (.t 30)), some (26, false), none⟩,
 ⟨(some 32), (.load none (.t 31)), some (26, false), none⟩,
 ⟨(some 33), (.bin .eql (.t 32) (.k (rI .i8 2))), some (26, false), none⟩,
 ⟨(some 34), (.pick (.t 26) (.k (rB true)) (.t 33)), none, none⟩])
 (.cond (.t 34)
 (.region [52] [] [0, 1, 4, 16, 34, 3, 2] [
 ⟨(some 35), (.move (.t 3)), none, none⟩,
 ⟨(some 36), (.faddr 2 (.t 1)), none, none⟩,
 ⟨(some 37), (.load none (.t 36)), none, none⟩,
 ⟨(some 38), (.move (.t 4)), none, none⟩,
 ⟨(some 39), (.iaddr 16 (.t 37) (.t 38)), none, none⟩,
 ⟨(some 40), (.faddr 1 (.t 39)), none, none⟩,
 ⟨(some 41), (.faddr 0 (.t 40)), none, none⟩,
 ⟨(some 42), (.load none (.t 41)), none, none⟩,
 ⟨(some 43), (.faddr 2 (.t 1)), none, none⟩,
 ⟨(some 44), (.load none (.t 43)), none, none⟩,
 ⟨(some 45), (.move (.t 4)), none, none⟩,
 ⟨(some 46), (.iaddr 16 (.t 44) (.t 45)), none, none⟩,
 ⟨(some 47), (.faddr 1 (.t 46)), none, none⟩,
 ⟨(some 48), (.faddr 1 (.t 47)), none, none⟩,
 ⟨(some 49), (.load none (.t 48)), none, none⟩,
 ⟨(some 50), (.len (.t 49)), none, none⟩,
 ⟨(some 51), (.build [(.c (.v (.string (bs [])))), (.c (.v (.int .i64 0)))] [(0, 1, (.t 42)), (1, 1, (.t 50))]), none, none⟩,
 ⟨(some 52), (.row 168 2 [(.t 51)]), none, none⟩,
 ⟨(some 53), (.app 168 2 24 (.t 35) (.t 52)), none, none⟩,
 ⟨(some 3), (.move (.t 53)), none, none⟩])
 .skip)))
 (.region [] [] [0, 1, 4, 16, 34, 3, 2] [
 ⟨(some 17), (.move (.t 4)), none, none⟩,
 ⟨(some 18), (.bin .add (.t 17) (.k (rI .i64 1))), none, none⟩,
 ⟨(some 4), (.move (.t 18)), none, none⟩])))

/-- pedigree/pedigreeref07.Stand -/
def ic2131 : IC :=
 (.seq
 (.region [1] [] [0, 1, 4, 16, 34, 3, 2] [
 ⟨(some 1), (.box 29 (.t 0)), none, none⟩,
 ⟨(some 2), (.move (.k (.x (.one .nil)))), none, none⟩])
 (.seq
 (.region [11] [] [0, 1, 4, 16, 34, 3, 2] [
 ⟨(some 5), (.faddr 0 (.t 1)), none, none⟩,
 ⟨(some 6), (.load none (.t 5)), none, none⟩,
 ⟨(some 7), (.faddr 1 (.t 1)), none, none⟩,
 ⟨(some 8), (.load none (.t 7)), none, none⟩,
 ⟨(some 9), (.len (.t 8)), none, none⟩,
 ⟨(some 10), (.build [(.c (.v (.string (bs [])))), (.c (.v (.int .i64 0)))] [(0, 1, (.t 6)), (1, 1, (.t 9))]), none, none⟩,
 ⟨(some 11), (.row 168 2 [(.t 10)]), none, none⟩,
 ⟨(some 3), (.move (.t 11)), none, none⟩])
 (.seq
 (.seq
 (.region [] [] [0, 1, 4, 16, 34, 3, 2] [
 ⟨(some 4), (.move (.k (rI .i64 0))), none, none⟩])
 (.block 0
 (.loop ic2131l0)))
 (.seq
 (.region [] [] [0, 1, 4, 16, 34, 3, 2] [
 ⟨(some 54), (.move (.t 3)), none, none⟩,
 ⟨(some 2), (.move (.t 54)), none, none⟩])
 .ret))))
def ir2131 : List IRes := [.tmp 2]
theorem ie2131 : cmpFunc Go.Proofs.Tryz.prog ⟨[], []⟩ Go.Proofs.Tryz.f131 [0, 1, 4, 16, 34, 3, 2] = some ic2131 := by kernel_rfl
theorem ig2131 : cmpRes Go.Proofs.Tryz.prog Go.Proofs.Tryz.f131.results.toList = some ir2131 := by kernel_rfl

/-- strings.HasPrefix -/
def ic2205 : IC :=
 (.seq
 (.region [] [] [0, 1, 4] [
 ⟨(some 4), (.move (.k (rB false))), none, none⟩])
 (.seq
 (.region [] [] [0, 1, 4] [
 ⟨(some 5), (.move (.t 0)), none, none⟩,
 ⟨(some 6), (.move (.t 1)), none, none⟩,
 ⟨(some 7), (.callp (.k (rF 270)) [(.t 5), (.t 6)]), none, none⟩,
 ⟨(some 4), (.move (.t 7)), none, none⟩])
 .ret))
def ir2205 : List IRes := [.tmp 4]
theorem ie2205 : cmpFunc Go.Proofs.Tryz.prog ⟨[], []⟩ Go.Proofs.Tryz.f205 [0, 1, 4] = some ic2205 := by kernel_rfl
theorem ig2205 : cmpRes Go.Proofs.Tryz.prog Go.Proofs.Tryz.f205.results.toList = some ir2205 := by kernel_rfl


/-- slices.ContainsFunc[[]string,string] -/
def ic2209 : IC :=
 (.seq
 (.region [] [] [0, 1, 4] [
 ⟨(some 4), (.move (.k (rB false))), none, none⟩])
 (.seq
 (.region [] [] [0, 1, 4] [
 ⟨(some 5), (.move (.t 0)), none, none⟩,
 ⟨(some 6), (.move (.t 1)), none, none⟩,
 ⟨(some 7), (.callp (.k (rF 272)) [(.t 5), (.t 6)]), none, none⟩,
 ⟨(some 8), (.bin .geq (.t 7) (.k (rI .i64 0))), none, none⟩,
 ⟨(some 4), (.move (.t 8)), none, none⟩])
 .ret))
def ir2209 : List IRes := [.tmp 4]
theorem ie2209 : cmpFunc Go.Proofs.Tryz.prog ⟨[], []⟩ Go.Proofs.Tryz.f209 [0, 1, 4] = some ic2209 := by kernel_rfl
theorem ig2209 : cmpRes Go.Proofs.Tryz.prog Go.Proofs.Tryz.f209.results.toList = some ir2209 := by kernel_rfl


/-- pedigree/check.long$1 -/
def ic2210 : IC :=
 (.seq
 (.region [] [] [0, 2] [
 ⟨(some 2), (.move (.k (rB false))), none, none⟩])
 (.seq
 (.region [] [] [0, 2] [
 ⟨(some 3), (.move (.t 0)), none, none⟩,
 ⟨(some 4), (.slen (.t 3)), none, none⟩,
 ⟨(some 5), (.bin .gtr (.t 4) (.k (rI .i64 24))), none, none⟩,
 ⟨(some 2), (.move (.t 5)), none, none⟩])
 .ret))
def ir2210 : List IRes := [.tmp 2]
theorem ie2210 : cmpFunc Go.Proofs.Tryz.prog ⟨[], []⟩ Go.Proofs.Tryz.f210 [0, 2] = some ic2210 := by kernel_rfl
theorem ig2210 : cmpRes Go.Proofs.Tryz.prog Go.Proofs.Tryz.f210.results.toList = some ir2210 := by kernel_rfl

def ic2213l0 : IC :=
 (.seq
 (.seq
 (.region [] [] [6, 1, 10, 0, 19, 4, 5] [
 ⟨(some 7), (.move (.t 6)), none, none⟩,
 ⟨(some 8), (.move (.t 1)), none, none⟩,
 ⟨(some 9), (.len (.t 8)), none, none⟩,
 ⟨(some 10), (.bin .lss (.t 7) (.t 9)), none, none⟩])
 (.cond (.t 10)
 .skip
 (.exit 0)))
 (.seq
 (.block 1
 (.seq
 (.region [] [] [6, 1, 10, 0, 19, 4, 5] [
 ⟨(some 13), (.move (.t 1)), none, none⟩,
 ⟨(some 14), (.move (.t 6)), none, none⟩,
 ⟨(some 15), (.iaddr 2 (.t 13) (.t 14)), none, none⟩,
 ⟨(some 16), (.faddr 0 (.t 15)), none, none⟩,
 ⟨(some 17), (.load none (.t 16)), none, none⟩,
 ⟨(some 18), (.move (.t 0)), none, none⟩,
 ⟨(some 19), (.bin .eql (.t 17) (.t 18)), none, none⟩])
 (.cond (.t 19)
 (.seq
 (.region [] [] [6, 1, 10, 0, 19, 4, 5] [
 ⟨(some 20), (.move (.t 1)), none, none⟩,
 ⟨(some 21), (.move (.t 6)), none, none⟩,
 ⟨(some 22), (.iaddr 2 (.t 20) (.t 21)), none, none⟩,
 ⟨(some 23), (.load (some 2) (.t 22)), none, none⟩,
 ⟨none, (.store (some 2) (.t 4) (.t 23)), none, none⟩,
 ⟨(some 5), (.move (.k (rB true))), none, none⟩])
 .ret)
 .skip)))
 (.region [] [] [6, 1, 10, 0, 19, 4, 5] [
 ⟨(some 11), (.move (.t 6)), none, none⟩,
 ⟨(some 12), (.bin .add (.t 11) (.k (rI .i64 1))), none, none⟩,
 ⟨(some 6), (.move (.t 12)), none, none⟩])))

/-- pedigree/pedigreeref07.among -/
def ic2213 : IC :=
 (.seq
 (.region [4] [] [6, 1, 10, 0, 19, 4, 5] [
 ⟨(some 4), (.zero 168 [(.c (.v (.string (bs [])))), (.c (.v (.int .i64 0)))]), none, none⟩,
 ⟨(some 5), (.move (.k (rB false))), none, none⟩])
 (.seq
 (.seq
 (.region [] [] [6, 1, 10, 0, 19, 4, 5] [
 ⟨(some 6), (.move (.k (rI .i64 0))), none, none⟩])
 (.block 0
 (.loop ic2213l0)))
 (.seq
 (.region [] [] [6, 1, 10, 0, 19, 4, 5] [
 ⟨(some 24), (.build [(.c (.v (.string (bs [])))), (.c (.v (.int .i64 0)))] []), none, none⟩,
 ⟨none, (.store (some 2) (.t 4) (.t 24)), none, none⟩,
 ⟨(some 5), (.move (.k (rB false))), none, none⟩])
 .ret)))
def ir2213 : List IRes := [.cell 4 (some 2), .tmp 5]
theorem ie2213 : cmpFunc Go.Proofs.Tryz.prog ⟨[], []⟩ Go.Proofs.Tryz.f213 [6, 1, 10, 0, 19, 4, 5] = some ic2213 := by kernel_rfl
theorem ig2213 : cmpRes Go.Proofs.Tryz.prog Go.Proofs.Tryz.f213.results.toList = some ir2213 := by kernel_rfl


/-- internal/stringslite.HasPrefix -/
def ic2270 : IC :=
 (.seq
 (.region [] [] [0, 1, 4] [
 ⟨(some 4), (.move (.k (rB false))), none, none⟩])
 (.seq
 (.region [] [] [0, 1, 4] [
 ⟨(some 5), (.move (.t 0)), none, none⟩,
 ⟨(some 6), (.slen (.t 5)), none, none⟩,
 ⟨(some 7), (.move (.t 1)), none, none⟩,
 ⟨(some 8), (.slen (.t 7)), none, none⟩,
 ⟨(some 9), (.bin .geq (.t 6) (.t 8)), none, none⟩,
 ⟨(some 10), (.move (.t 9)), none, none⟩,
 ⟨(some 11), (.move (.t 0)), some (10, true), none⟩,
 ⟨(some 12), (.move (.t 1)), some (10, true), none⟩,
 ⟨(some 13), (.slen (.t 12)), some (10, true), none⟩,
 ⟨(some 14), (.ssl (.t 11) none (some (.t 13))), some (10, true), none⟩,
 ⟨(some 15), (.move (.t 1)), some (10, true), none⟩,
 ⟨(some 16), (.bin .eql (.t 14) (.t 15)), some (10, true), none⟩,
 ⟨(some 17), (.pick (.t 10) (.t 16) (.k (rB false))), none, none⟩,
 ⟨(some 4), (.move (.t 17)), none, none⟩])
 .ret))
def ir2270 : List IRes := [.tmp 4]
theorem ie2270 : cmpFunc Go.Proofs.Tryz.prog ⟨[], []⟩ Go.Proofs.Tryz.f270 [0, 1, 4] = some ic2270 := by kernel_rfl
theorem ig2270 : cmpRes Go.Proofs.Tryz.prog Go.Proofs.Tryz.f270.results.toList = some ir2270 := by kernel_rfl

def ic229l0 : IC :=
 (.seq
 (.region [] [] [0, 8, 7, 9, 1, 5, 16, 4] [
 ⟨(some 9), (.bin .lss (.t 8) (.t 7)), none, none⟩])
 (.seq
 (.cond (.t 9)
 .skip
 (.exit 0))
 (.seq
 (.block 1
 (.seq
 (.region [] [] [0, 8, 7, 9, 1, 5, 16, 4] [
 ⟨(some 10), (.move (.t 8)), none, none⟩,
 ⟨(some 5), (.move (.t 10)), none, none⟩])
 (.seq
 (.region [] [] [0, 8, 7, 9, 1, 5, 16, 4] [
 ⟨(some 11), (.move (.t 1)), none, none⟩,
 ⟨(some 12), (.move (.t 0)), none, none⟩,
 ⟨(some 13), (.move (.t 5)), none, none⟩,
 ⟨(some 14), (.iaddr 1 (.t 12) (.t 13)), none, none⟩,
 ⟨(some 15), (.load none (.t 14)), none, none⟩,
 ⟨(some 16), (.call (.t 11) [(.t 15)]), none, none⟩])
 (.cond (.t 16)
 (.seq
 (.region [] [] [0, 8, 7, 9, 1, 5, 16, 4] [
 ⟨(some 17), (.move (.t 5)), none, none⟩,
 ⟨(some 4), (.move (.t 17)), none, none⟩])
 .ret)
 .skip))))
 (.region [] [] [0, 8, 7, 9, 1, 5, 16, 4] [
 ⟨(some 18), (.bin .add (.t 8) (.k (rI .i64 1))), none, none⟩,
 ⟨(some 8), (.move (.t 18)), none, none⟩]))))

/-- slices.IndexFunc[[]string,string] -/
def ic229 : IC :=
 (.seq
 (.region [] [] [0, 8, 7, 9, 1, 5, 16, 4] [
 ⟨(some 4), (.move (.k (rI .i64 0))), none, none⟩])
 (.seq
 (.seq
 (.region [] [] [0, 8, 7, 9, 1, 5, 16, 4] [
 ⟨(some 6), (.move (.t 0)), none, none⟩,
 ⟨(some 7), (.len (.t 6)), none, none⟩,
 ⟨(some 8), (.move (.k (rI .i64 0))), none, none⟩])
 (.block 0
 (.loop ic229l0)))
 (.seq
 (.region [] [] [0, 8, 7, 9, 1, 5, 16, 4] [
 ⟨(some 4), (.move (.k (rI .i64 (-1)))), none, none⟩])
 .ret)))
def ir229 : List IRes := [.tmp 4]
theorem ie229 : cmpFunc Go.Proofs.Tryz.prog ⟨[(16, none)], []⟩ Go.Proofs.Tryz.f272 [0, 8, 7, 9, 1, 5, 16, 4] = some ic229 := by kernel_rfl
theorem ig229 : cmpRes Go.Proofs.Tryz.prog Go.Proofs.Tryz.f272.results.toList = some ir229 := by kernel_rfl

end Go.Proofs.YtiomojlcnemnhaaGreatDoor

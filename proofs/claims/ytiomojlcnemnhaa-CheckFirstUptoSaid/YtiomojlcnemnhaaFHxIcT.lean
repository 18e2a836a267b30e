/- Functions of the seat, as the small language has them. -/
import Derived.Test.YtiomojlcnemnhaaFFxWb
import Derived.Test.YtiomojlcnemnhaaProg
import Derived.KernelRfl
namespace Go.Proofs.Ytiomojlcnemnhaa
open Go.Fx

/-- pedigree/check.Input -/
def ic2038 : IC :=
 (.seq
 (.region [3, 5, 6] [] [0, 2, 3, 13, 6, 8, 20, 7, 27, 1, 31, 38, 5] [
 ⟨(some 3), (.box 145 (.t 0)), none, none⟩,
 ⟨(some 5), (.box 122 (.t 2)), none, none⟩,
 ⟨(some 6), (.zero 142 [(.c (.v (.int .i8 0))), (.c (.v (.int .i64 0))), (.c (.v (.int .i64 0)))]), none, none⟩])
 (.seq
 (.region [9, 7] [] [0, 2, 3, 13, 6, 8, 20, 7, 27, 1, 31, 38, 5] [
 ⟨(some 9), (.mkmap .string 2 true), none, none⟩,
 ⟨(some 7), (.zero 203 [(.c (.v (.map none)))]), none, none⟩,
 ⟨none, (.store (some 1) (.t 7) (.t 9)), none, none⟩])
 (.seq
 (.seq
 (.region [] [] [0, 2, 3, 13, 6, 8, 20, 7, 27, 1, 31, 38, 5] [
 ⟨(some 10), (.faddr 0 (.t 3)), none, none⟩,
 ⟨(some 11), (.load none (.t 10)), none, none⟩,
 ⟨(some 12), (.len (.t 11)), none, none⟩,
 ⟨(some 13), (.bin .gtr (.t 12) (.k (rI .i64 500))), none, none⟩])
 (.cond (.t 13)
 (.seq
 (.region [] [] [0, 2, 3, 13, 6, 8, 20, 7, 27, 1, 31, 38, 5] [
 ⟨(some 14), (.build [(.c (.v (.int .i8 0))), (.c (.v (.int .i64 0))), (.c (.v (.int .i64 0)))] [(0, 1, (.k (rI .i8 1))), (1, 1, (.k (rI .i64 70)))]), none, none⟩,
 ⟨none, (.store (some 3) (.t 6) (.t 14)), none, none⟩])
 .ret)
 .skip))
 (.seq
 (.region [8] [] [0, 2, 3, 13, 6, 8, 20, 7, 27, 1, 31, 38, 5] [
 ⟨(some 15), (.faddr 0 (.t 3)), none, none⟩,
 ⟨(some 16), (.load none (.t 15)), none, none⟩,
 ⟨(some 17), (.call (.k (rF 71)) [(.k (rI .i8 1)), (.t 16), (.k (rF 72))]), none, none⟩,
 ⟨(some 8), (.zero 142 [(.c (.v (.int .i8 0))), (.c (.v (.int .i64 0))), (.c (.v (.int .i64 0)))]), none, none⟩,
 ⟨none, (.store (some 3) (.t 8) (.t 17)), none, none⟩])
 (.seq
 (.seq
 (.region [] [] [0, 2, 3, 13, 6, 8, 20, 7, 27, 1, 31, 38, 5] [
 ⟨(some 18), (.faddr 1 (.t 8)), none, none⟩,
 ⟨(some 19), (.load none (.t 18)), none, none⟩,
 ⟨(some 20), (.bin .eql (.t 19) (.k (rI .i64 0))), none, none⟩])
 (.cond (.t 20)
 (.region [] [] [0, 2, 3, 13, 6, 8, 20, 7, 27, 1, 31, 38, 5] [
 ⟨(some 21), (.faddr 0 (.t 3)), none, none⟩,
 ⟨(some 22), (.load none (.t 21)), none, none⟩,
 ⟨(some 23), (.clo 73 [] [(.t 7)]), none, none⟩,
 ⟨(some 24), (.call (.k (rF 71)) [(.k (rI .i8 1)), (.t 22), (.t 23)]), none, none⟩,
 ⟨none, (.store (some 3) (.t 8) (.t 24)), none, none⟩])
 .skip))
 (.seq
 (.seq
 (.region [] [] [0, 2, 3, 13, 6, 8, 20, 7, 27, 1, 31, 38, 5] [
 ⟨(some 25), (.faddr 1 (.t 8)), none, none⟩,
 ⟨(some 26), (.load none (.t 25)), none, none⟩,
 ⟨(some 27), (.bin .neq (.t 26) (.k (rI .i64 0))), none, none⟩])
 (.cond (.t 27)
 (.seq
 (.region [] [] [0, 2, 3, 13, 6, 8, 20, 7, 27, 1, 31, 38, 5] [
 ⟨(some 28), (.load (some 3) (.t 8)), none, none⟩,
 ⟨none, (.store (some 3) (.t 6) (.t 28)), none, none⟩])
 .ret)
 .skip))
 (.seq
 (.seq
 (.region [] [] [0, 2, 3, 13, 6, 8, 20, 7, 27, 1, 31, 38, 5] [
 ⟨(some 29), (.move (.t 1)), none, none⟩,
 ⟨(some 30), (.len (.t 29)), none, none⟩,
 ⟨(some 31), (.bin .gtr (.t 30) (.k (rI .i64 65536))), none, none⟩])
 (.cond (.t 31)
 (.seq
 (.region [] [] [0, 2, 3, 13, 6, 8, 20, 7, 27, 1, 31, 38, 5] [
 ⟨(some 32), (.build [(.c (.v (.int .i8 0))), (.c (.v (.int .i64 0))), (.c (.v (.int .i64 0)))] [(0, 1, (.k (rI .i8 2))), (1, 1, (.k (rI .i64 70)))]), none, none⟩,
 ⟨none, (.store (some 3) (.t 6) (.t 32)), none, none⟩])
 .ret)
 .skip))
 (.seq
 (.region [] [] [0, 2, 3, 13, 6, 8, 20, 7, 27, 1, 31, 38, 5] [
 ⟨(some 33), (.move (.t 1)), none, none⟩,
 ⟨(some 34), (.clo 77 [] [(.t 7)]), none, none⟩,
 ⟨(some 35), (.call (.k (rF 76)) [(.k (rI .i8 2)), (.t 33), (.t 34)]), none, none⟩,
 ⟨none, (.store (some 3) (.t 8) (.t 35)), none, none⟩])
 (.seq
 (.seq
 (.region [] [] [0, 2, 3, 13, 6, 8, 20, 7, 27, 1, 31, 38, 5] [
 ⟨(some 36), (.faddr 1 (.t 8)), none, none⟩,
 ⟨(some 37), (.load none (.t 36)), none, none⟩,
 ⟨(some 38), (.bin .neq (.t 37) (.k (rI .i64 0))), none, none⟩])
 (.cond (.t 38)
 (.seq
 (.region [] [] [0, 2, 3, 13, 6, 8, 20, 7, 27, 1, 31, 38, 5] [
 ⟨(some 39), (.load (some 3) (.t 8)), none, none⟩,
 ⟨none, (.store (some 3) (.t 6) (.t 39)), none, none⟩])
 .ret)
 .skip))
 (.seq
 (.region [41] [] [0, 2, 3, 13, 6, 8, 20, 7, 27, 1, 31, 38, 5] [
 ⟨(some 40), (.load (some 2) (.t 5)), none, none⟩,
 ⟨(some 41), (.row 122 2 [(.t 40)]), none, none⟩,
 ⟨(some 42), (.clo 81 [] [(.t 7)]), none, none⟩,
 ⟨(some 43), (.call (.k (rF 80)) [(.k (rI .i8 3)), (.t 41), (.t 42)]), none, none⟩,
 ⟨none, (.store (some 3) (.t 6) (.t 43)), none, none⟩])
 .ret))))))))))
def ir2038 : List IRes := [.cell 6 (some 3)]
theorem ie2038 : cmpFunc Go.Proofs.Try.prog ⟨[(17, none), (24, none), (35, none), (43, none)], []⟩ Go.Proofs.Try.f36 [0, 2, 3, 13, 6, 8, 20, 7, 27, 1, 31, 38, 5] = some ic2038 := by kernel_rfl
theorem ig2038 : cmpRes Go.Proofs.Try.prog Go.Proofs.Try.f36.results.toList = some ir2038 := by kernel_rfl

def ic2043l0 : IC :=
 (.seq
 (.region [] [] [0, 2, 6, 1, 23, 28, 27, 29, 26, 7, 9, 4, 5] [
 ⟨(some 29), (.bin .lss (.t 28) (.t 27)), none, none⟩])
 (.seq
 (.cond (.t 29)
 .skip
 (.exit 0))
 (.seq
 (.block 1
 (.seq
 (.region [] [] [0, 2, 6, 1, 23, 28, 27, 29, 26, 7, 9, 4, 5] [
 ⟨(some 30), (.iaddr 1 (.t 26) (.t 28)), none, none⟩,
 ⟨(some 31), (.load none (.t 30)), none, none⟩,
 ⟨(some 9), (.move (.t 31)), none, none⟩])
 (.region [38] [] [0, 2, 6, 1, 23, 28, 27, 29, 26, 7, 9, 4, 5] [
 ⟨(some 32), (.move (.t 7)), none, none⟩,
 ⟨(some 33), (.move (.t 9)), none, none⟩,
 ⟨(some 34), (.move (.t 6)), none, none⟩,
 ⟨(some 35), (.move (.t 9)), none, none⟩,
 ⟨(some 36), (.mlook .string true false [(.c (.v (.int .i64 0)))] (.t 34) (.t 35)), none, none⟩,
 ⟨(some 37), (.build [(.c (.v (.string (bs [])))), (.c (.v (.int .i64 0)))] [(0, 1, (.t 33)), (1, 1, (.t 36))]), none, none⟩,
 ⟨(some 38), (.row 153 2 [(.t 37)]), none, none⟩,
 ⟨(some 39), (.app 153 2 24 (.t 32) (.t 38)), none, none⟩,
 ⟨(some 7), (.move (.t 39)), none, none⟩])))
 (.region [] [] [0, 2, 6, 1, 23, 28, 27, 29, 26, 7, 9, 4, 5] [
 ⟨(some 40), (.bin .add (.t 28) (.k (rI .i64 1))), none, none⟩,
 ⟨(some 28), (.move (.t 40)), none, none⟩]))))

/-- pedigree/check.Preds -/
def ic2043 : IC :=
 (.seq
 (.region [2] [] [0, 2, 6, 1, 23, 28, 27, 29, 26, 7, 9, 4, 5] [
 ⟨(some 2), (.box 145 (.t 0)), none, none⟩,
 ⟨(some 4), (.move (.k (.x (.one .nil)))), none, none⟩,
 ⟨(some 5), (.move (.k (rI .i64 0))), none, none⟩])
 (.seq
 (.region [10] [] [0, 2, 6, 1, 23, 28, 27, 29, 26, 7, 9, 4, 5] [
 ⟨(some 10), (.mkmap .string 2 true), none, none⟩,
 ⟨(some 6), (.move (.t 10)), none, none⟩])
 (.seq
 (.seq
 (.region [] [] [0, 2, 6, 1, 23, 28, 27, 29, 26, 7, 9, 4, 5] [
 ⟨(some 11), (.faddr 0 (.t 2)), none, none⟩,
 ⟨(some 12), (.load none (.t 11)), none, none⟩,
 ⟨(some 13), (.move (.t 6)), none, none⟩,
 ⟨(some 14), (.clo 75 [(.t 13)] []), none, none⟩,
 ⟨(some 15), (.call (.k (rF 88)) [(.t 12), (.t 14)]), none, none⟩,
 ⟨(some 16), (.un .not (.t 15)), none, none⟩,
 ⟨(some 17), (.move (.t 16)), none, none⟩,
 ⟨(some 18), (.move (.t 1)), some (17, false), none⟩,
 ⟨(some 19), (.move (.t 6)), some (17, false), none⟩,
 ⟨(some 20), (.clo 79 [(.t 19)] []), some (17, false), none⟩,
 ⟨(some 21), (.call (.k (rF 89)) [(.t 18), (.t 20)]), some (17, false), none⟩,
 ⟨(some 22), (.un .not (.t 21)), some (17, false), none⟩,
 ⟨(some 23), (.pick (.t 17) (.k (rB true)) (.t 22)), none, none⟩])
 (.cond (.t 23)
 (.seq
 (.region [] [] [0, 2, 6, 1, 23, 28, 27, 29, 26, 7, 9, 4, 5] [
 ⟨(some 4), (.move (.k (.x (.one .nil)))), none, none⟩,
 ⟨(some 5), (.move (.k (rI .i64 72))), none, none⟩])
 .ret)
 .skip))
 (.seq
 (.region [] [] [0, 2, 6, 1, 23, 28, 27, 29, 26, 7, 9, 4, 5] [
 ⟨(some 7), (.move (.k (.x (.one .nil)))), none, none⟩])
 (.seq
 (.seq
 (.region [] [] [0, 2, 6, 1, 23, 28, 27, 29, 26, 7, 9, 4, 5] [
 ⟨(some 24), (.move (.t 6)), none, none⟩,
 ⟨(some 25), (.call (.k (rF 91)) [(.t 24)]), none, none⟩,
 ⟨(some 26), (.call (.k (rF 90)) [(.t 25)]), none, none⟩,
 ⟨(some 27), (.len (.t 26)), none, none⟩,
 ⟨(some 28), (.move (.k (rI .i64 0))), none, none⟩])
 (.block 0
 (.loop ic2043l0)))
 (.seq
 (.region [] [] [0, 2, 6, 1, 23, 28, 27, 29, 26, 7, 9, 4, 5] [
 ⟨(some 41), (.move (.t 7)), none, none⟩,
 ⟨(some 4), (.move (.t 41)), none, none⟩,
 ⟨(some 5), (.move (.k (rI .i64 0))), none, none⟩])
 .ret))))))
def ir2043 : List IRes := [.tmp 4, .tmp 5]
theorem ie2043 : cmpFunc Go.Proofs.Try.prog ⟨[(15, none), (21, none), (25, none), (26, none)], []⟩ Go.Proofs.Try.f39 [0, 2, 6, 1, 23, 28, 27, 29, 26, 7, 9, 4, 5] = some ic2043 := by kernel_rfl
theorem ig2043 : cmpRes Go.Proofs.Try.prog Go.Proofs.Try.f39.results.toList = some ir2043 := by kernel_rfl

def ic2116l0 : IC :=
 (.seq
 (.region [] [] [0, 1, 16, 20, 19, 21, 18, 4, 5, 27, 2] [
 ⟨(some 21), (.bin .lss (.t 20) (.t 19)), none, none⟩])
 (.seq
 (.cond (.t 21)
 .skip
 (.exit 0))
 (.seq
 (.block 1
 (.seq
 (.region [4] [] [0, 1, 16, 20, 19, 21, 18, 4, 5, 27, 2] [
 ⟨(some 22), (.iaddr 3 (.t 18) (.t 20)), none, none⟩,
 ⟨(some 23), (.load (some 3) (.t 22)), none, none⟩,
 ⟨(some 4), (.zero 25 [(.c (.v (.int .i8 0))), (.c (.v (.int .i64 0))), (.c (.v (.string (bs []))))]), none, none⟩,
 ⟨none, (.store (some 3) (.t 4) (.t 23)), none, none⟩])
 (.seq
 (.region [] [] [0, 1, 16, 20, 19, 21, 18, 4, 5, 27, 2] [
 ⟨(some 24), (.load (some 3) (.t 4)), none, none⟩,
 ⟨(some 25), (.callp (.k (rF 41)) [(.t 24)]), none, none⟩,
 ⟨(some 5), (.move (.t 25)), none, none⟩])
 (.seq
 (.region [] [] [0, 1, 16, 20, 19, 21, 18, 4, 5, 27, 2] [
 ⟨(some 26), (.move (.t 5)), none, none⟩,
 ⟨(some 27), (.bin .neq (.t 26) (.k (rI .i64 0))), none, none⟩])
 (.cond (.t 27)
 (.seq
 (.region [] [] [0, 1, 16, 20, 19, 21, 18, 4, 5, 27, 2] [
 ⟨(some 28), (.move (.t 5)), none, none⟩,
 ⟨(some 2), (.move (.t 28)), none, none⟩])
 .ret)
 .skip)))))
 (.region [] [] [0, 1, 16, 20, 19, 21, 18, 4, 5, 27, 2] [
 ⟨(some 29), (.bin .add (.t 20) (.k (rI .i64 1))), none, none⟩,
 ⟨(some 20), (.move (.t 29)), none, none⟩]))))

/-- pedigree/check.fact -/
def ic2116 : IC :=
 (.seq
 (.region [1] [] [0, 1, 16, 20, 19, 21, 18, 4, 5, 27, 2] [
 ⟨(some 1), (.box 201 (.t 0)), none, none⟩,
 ⟨(some 2), (.move (.k (rI .i64 0))), none, none⟩])
 (.seq
 (.seq
 (.region [] [] [0, 1, 16, 20, 19, 21, 18, 4, 5, 27, 2] [
 ⟨(some 6), (.faddr 0 (.t 1)), none, none⟩,
 ⟨(some 7), (.load none (.t 6)), none, none⟩,
 ⟨(some 8), (.build [(.c (.v (.string (bs [])))), .nil] [(0, 1, (.t 7))]), none, none⟩,
 ⟨(some 9), (.callp (.k (rF 37)) [(.t 8)]), none, none⟩,
 ⟨(some 10), (.bin .neq (.t 9) (.k (rI .i64 0))), none, none⟩,
 ⟨(some 11), (.move (.t 10)), none, none⟩,
 ⟨(some 12), (.faddr 1 (.t 1)), some (11, false), none⟩,
 ⟨(some 13), (.load none (.t 12)), some (11, false), none⟩,
 ⟨(some 14), (.len (.t 13)), some (11, false), none⟩,
 ⟨(some 15), (.bin .gtr (.t 14) (.k (rI .i64 24))), some (11, false), none⟩,
 ⟨(some 16), (.pick (.t 11) (.k (rB true)) (.t 15)), none, none⟩])
 (.cond (.t 16)
 (.seq
 (.region [] [] [0, 1, 16, 20, 19, 21, 18, 4, 5, 27, 2] [
 ⟨(some 2), (.move (.k (rI .i64 10))), none, none⟩])
 .ret)
 .skip))
 (.seq
 (.seq
 (.region [] [] [0, 1, 16, 20, 19, 21, 18, 4, 5, 27, 2] [
 ⟨(some 17), (.faddr 1 (.t 1)), none, none⟩,
 ⟨(some 18), (.load none (.t 17)), none, none⟩,
 ⟨(some 19), (.len (.t 18)), none, none⟩,
 ⟨(some 20), (.move (.k (rI .i64 0))), none, none⟩])
 (.block 0
 (.loop ic2116l0)))
 (.seq
 (.region [] [] [0, 1, 16, 20, 19, 21, 18, 4, 5, 27, 2] [
 ⟨(some 2), (.move (.k (rI .i64 0))), none, none⟩])
 .ret))))
def ir2116 : List IRes := [.tmp 2]
theorem ie2116 : cmpFunc Go.Proofs.Try.prog ⟨[], []⟩ Go.Proofs.Try.f70 [0, 1, 16, 20, 19, 21, 18, 4, 5, 27, 2] = some ic2116 := by kernel_rfl
theorem ig2116 : cmpRes Go.Proofs.Try.prog Go.Proofs.Try.f70.results.toList = some ir2116 := by kernel_rfl

def ic2109l0 : IC :=
 (.seq
 (.region [] [] [1, 12, 11, 13, 10, 2, 8, 9, 21, 0, 7, 6] [
 ⟨(some 13), (.bin .lss (.t 12) (.t 11)), none, none⟩])
 (.seq
 (.cond (.t 13)
 .skip
 (.exit 0))
 (.seq
 (.block 1
 (.seq
 (.region [8] [] [1, 12, 11, 13, 10, 2, 8, 9, 21, 0, 7, 6] [
 ⟨(some 14), (.move (.t 12)), none, none⟩,
 ⟨(some 15), (.iaddr 3 (.t 10) (.t 12)), none, none⟩,
 ⟨(some 16), (.load (some 3) (.t 15)), none, none⟩,
 ⟨(some 8), (.zero 186 [(.c (.v (.string (bs [])))), .nil, .nil]), none, none⟩,
 ⟨(some 7), (.move (.t 14)), none, none⟩,
 ⟨none, (.store (some 3) (.t 8) (.t 16)), none, none⟩])
 (.seq
 (.region [] [] [1, 12, 11, 13, 10, 2, 8, 9, 21, 0, 7, 6] [
 ⟨(some 17), (.move (.t 2)), none, none⟩,
 ⟨(some 18), (.load (some 3) (.t 8)), none, none⟩,
 ⟨(some 19), (.call (.t 17) [(.t 18)]), none, none⟩,
 ⟨(some 9), (.move (.t 19)), none, none⟩])
 (.seq
 (.region [] [] [1, 12, 11, 13, 10, 2, 8, 9, 21, 0, 7, 6] [
 ⟨(some 20), (.move (.t 9)), none, none⟩,
 ⟨(some 21), (.bin .neq (.t 20) (.k (rI .i64 0))), none, none⟩])
 (.cond (.t 21)
 (.seq
 (.region [] [] [1, 12, 11, 13, 10, 2, 8, 9, 21, 0, 7, 6] [
 ⟨(some 22), (.move (.t 0)), none, none⟩,
 ⟨(some 23), (.move (.t 9)), none, none⟩,
 ⟨(some 24), (.move (.t 7)), none, none⟩,
 ⟨(some 25), (.build [(.c (.v (.int .i8 0))), (.c (.v (.int .i64 0))), (.c (.v (.int .i64 0)))] [(0, 1, (.t 22)), (1, 1, (.t 23)), (2, 1, (.t 24))]), none, none⟩,
 ⟨none, (.store (some 3) (.t 6) (.t 25)), none, none⟩])
 .ret)
 .skip)))))
 (.region [] [] [1, 12, 11, 13, 10, 2, 8, 9, 21, 0, 7, 6] [
 ⟨(some 26), (.bin .add (.t 12) (.k (rI .i64 1))), none, none⟩,
 ⟨(some 12), (.move (.t 26)), none, none⟩]))))

/-- pedigree/check.first[pedigree/api.Rule] -/
def ic2109 : IC :=
 (.seq
 (.region [6] [] [1, 12, 11, 13, 10, 2, 8, 9, 21, 0, 7, 6] [
 ⟨(some 6), (.zero 142 [(.c (.v (.int .i8 0))), (.c (.v (.int .i64 0))), (.c (.v (.int .i64 0)))]), none, none⟩])
 (.seq
 (.seq
 (.region [] [] [1, 12, 11, 13, 10, 2, 8, 9, 21, 0, 7, 6] [
 ⟨(some 10), (.move (.t 1)), none, none⟩,
 ⟨(some 11), (.len (.t 10)), none, none⟩,
 ⟨(some 12), (.move (.k (rI .i64 0))), none, none⟩])
 (.block 0
 (.loop ic2109l0)))
 (.seq
 (.region [] [] [1, 12, 11, 13, 10, 2, 8, 9, 21, 0, 7, 6] [
 ⟨(some 27), (.build [(.c (.v (.int .i8 0))), (.c (.v (.int .i64 0))), (.c (.v (.int .i64 0)))] []), none, none⟩,
 ⟨none, (.store (some 3) (.t 6) (.t 27)), none, none⟩])
 .ret)))
def ir2109 : List IRes := [.cell 6 (some 3)]
theorem ie2109 : cmpFunc Go.Proofs.Try.prog ⟨[(19, none)], []⟩ Go.Proofs.Try.f71 [1, 12, 11, 13, 10, 2, 8, 9, 21, 0, 7, 6] = some ic2109 := by kernel_rfl
theorem ig2109 : cmpRes Go.Proofs.Try.prog Go.Proofs.Try.f71.results.toList = some ir2109 := by kernel_rfl

def ic2110l0 : IC :=
 (.seq
 (.region [] [] [0, 1, 3, 11, 27, 31, 30, 32, 29, 6, 37, 7, 4, 51, 55, 2] [
 ⟨(some 32), (.bin .lss (.t 31) (.t 30)), none, none⟩])
 (.seq
 (.cond (.t 32)
 .skip
 (.exit 0))
 (.seq
 (.block 1
 (.seq
 (.region [6] [] [0, 1, 3, 11, 27, 31, 30, 32, 29, 6, 37, 7, 4, 51, 55, 2] [
 ⟨(some 33), (.iaddr 16 (.t 29) (.t 31)), none, none⟩,
 ⟨(some 34), (.load (some 16) (.t 33)), none, none⟩,
 ⟨(some 6), (.zero 129 [(.c (.v (.int .i8 0))), (.c (.v (.string (bs [])))), .nil, (.c (.v (.int .i8 0))), (.c (.v (.int .i8 0))), (.c (.v (.string (bs [])))), (.c (.v (.int .i8 0))), (.c (.v (.int .i64 0))), (.c (.v (.string (bs [])))), .nil, (.c (.v (.int .i8 0))), (.c (.v (.string (bs [])))), (.c (.v (.int .i8 0))), (.c (.v (.int .i64 0))), (.c (.v (.string (bs [])))), .nil]), none, none⟩,
 ⟨none, (.store (some 16) (.t 6) (.t 34)), none, none⟩])
 (.seq
 (.seq
 (.region [] [] [0, 1, 3, 11, 27, 31, 30, 32, 29, 6, 37, 7, 4, 51, 55, 2] [
 ⟨(some 35), (.faddr 0 (.t 6)), none, none⟩,
 ⟨(some 36), (.load none (.t 35)), none, none⟩,
 ⟨(some 37), (.bin .eql (.t 36) (.k (rI .i8 3))), none, none⟩])
 (.cond (.t 37)
 (.exit 1)
 .skip))
 (.seq
 (.region [] [] [0, 1, 3, 11, 27, 31, 30, 32, 29, 6, 37, 7, 4, 51, 55, 2] [
 ⟨(some 38), (.faddr 1 (.t 6)), none, none⟩,
 ⟨(some 39), (.faddr 0 (.t 38)), none, none⟩,
 ⟨(some 40), (.load none (.t 39)), none, none⟩,
 ⟨(some 41), (.faddr 1 (.t 6)), none, none⟩,
 ⟨(some 42), (.faddr 1 (.t 41)), none, none⟩,
 ⟨(some 43), (.load none (.t 42)), none, none⟩,
 ⟨(some 44), (.len (.t 43)), none, none⟩,
 ⟨(some 45), (.callp (.k (rF 78)) [(.t 40), (.t 44)]), none, none⟩,
 ⟨(some 7), (.move (.t 45)), none, none⟩])
 (.seq
 (.region [] [] [0, 1, 3, 11, 27, 31, 30, 32, 29, 6, 37, 7, 4, 51, 55, 2] [
 ⟨(some 46), (.move (.t 7)), none, none⟩,
 ⟨(some 47), (.bin .eql (.t 46) (.k (rI .i64 70))), none, none⟩,
 ⟨(some 48), (.move (.t 47)), none, none⟩,
 ⟨(some 49), (.move (.t 4)), some (48, false), none⟩,
 ⟨(some 50), (.bin .eql (.t 49) (.k (rI .i64 0))), some (48, false), none⟩,
 ⟨(some 51), (.pick (.t 48) (.k (rB true)) (.t 50)), none, none⟩])
 (.cond (.t 51)
 (.region [] [] [0, 1, 3, 11, 27, 31, 30, 32, 29, 6, 37, 7, 4, 51, 55, 2] [
 ⟨(some 52), (.move (.t 7)), none, none⟩,
 ⟨(some 4), (.move (.t 52)), none, none⟩])
 .skip))))))
 (.region [] [] [0, 1, 3, 11, 27, 31, 30, 32, 29, 6, 37, 7, 4, 51, 55, 2] [
 ⟨(some 53), (.bin .add (.t 31) (.k (rI .i64 1))), none, none⟩,
 ⟨(some 31), (.move (.t 53)), none, none⟩]))))

/-- pedigree/check.userRule -/
def ic2110 : IC :=
 (.seq
 (.region [1] [] [0, 1, 3, 11, 27, 31, 30, 32, 29, 6, 37, 7, 4, 51, 55, 2] [
 ⟨(some 1), (.box 186 (.t 0)), none, none⟩,
 ⟨(some 2), (.move (.k (rI .i64 0))), none, none⟩])
 (.seq
 (.seq
 (.region [] [] [0, 1, 3, 11, 27, 31, 30, 32, 29, 6, 37, 7, 4, 51, 55, 2] [
 ⟨(some 8), (.load (some 3) (.t 1)), none, none⟩,
 ⟨(some 9), (.callp (.k (rF 109)) [(.t 8)]), none, none⟩,
 ⟨(some 3), (.move (.t 9)), none, none⟩])
 (.seq
 (.region [] [] [0, 1, 3, 11, 27, 31, 30, 32, 29, 6, 37, 7, 4, 51, 55, 2] [
 ⟨(some 10), (.move (.t 3)), none, none⟩,
 ⟨(some 11), (.bin .neq (.t 10) (.k (rI .i64 0))), none, none⟩])
 (.cond (.t 11)
 (.seq
 (.region [] [] [0, 1, 3, 11, 27, 31, 30, 32, 29, 6, 37, 7, 4, 51, 55, 2] [
 ⟨(some 12), (.move (.t 3)), none, none⟩,
 ⟨(some 2), (.move (.t 12)), none, none⟩])
 .ret)
 .skip)))
 (.seq
 (.region [] [] [0, 1, 3, 11, 27, 31, 30, 32, 29, 6, 37, 7, 4, 51, 55, 2] [
 ⟨(some 13), (.faddr 0 (.t 1)), none, none⟩,
 ⟨(some 14), (.load none (.t 13)), none, none⟩,
 ⟨(some 15), (.faddr 1 (.t 1)), none, none⟩,
 ⟨(some 16), (.load none (.t 15)), none, none⟩,
 ⟨(some 17), (.len (.t 16)), none, none⟩,
 ⟨(some 18), (.callp (.k (rF 78)) [(.t 14), (.t 17)]), none, none⟩,
 ⟨(some 4), (.move (.t 18)), none, none⟩])
 (.seq
 (.seq
 (.region [] [] [0, 1, 3, 11, 27, 31, 30, 32, 29, 6, 37, 7, 4, 51, 55, 2] [
 ⟨(some 19), (.faddr 2 (.t 1)), none, none⟩,
 ⟨(some 20), (.load none (.t 19)), none, none⟩,
 ⟨(some 21), (.len (.t 20)), none, none⟩,
 ⟨(some 22), (.bin .gtr (.t 21) (.k (rI .i64 12))), none, none⟩,
 ⟨(some 23), (.move (.t 22)), none, none⟩,
 ⟨(some 24), (.load (some 3) (.t 1)), some (23, false), none⟩,
 ⟨(some 25), (.callp (.k (rF 111)) [(.t 24)]), some (23, false), none⟩,
 ⟨(some 26), (.callp (.k (rF 82)) [(.t 25)]), some (23, false), none⟩,
 ⟨(some 27), (.pick (.t 23) (.k (rB true)) (.t 26)), none, none⟩])
 (.cond (.t 27)
 (.region [] [] [0, 1, 3, 11, 27, 31, 30, 32, 29, 6, 37, 7, 4, 51, 55, 2] [
 ⟨(some 4), (.move (.k (rI .i64 70))), none, none⟩])
 .skip))
 (.seq
 (.seq
 (.region [] [] [0, 1, 3, 11, 27, 31, 30, 32, 29, 6, 37, 7, 4, 51, 55, 2] [
 ⟨(some 28), (.faddr 2 (.t 1)), none, none⟩,
 ⟨(some 29), (.load none (.t 28)), none, none⟩,
 ⟨(some 30), (.len (.t 29)), none, none⟩,
 ⟨(some 31), (.move (.k (rI .i64 0))), none, none⟩])
 (.block 0
 (.loop ic2110l0)))
 (.seq
 (.seq
 (.region [] [] [0, 1, 3, 11, 27, 31, 30, 32, 29, 6, 37, 7, 4, 51, 55, 2] [
 ⟨(some 54), (.move (.t 4)), none, none⟩,
 ⟨(some 55), (.bin .eql (.t 54) (.k (rI .i64 0))), none, none⟩])
 (.cond (.t 55)
 (.region [] [] [0, 1, 3, 11, 27, 31, 30, 32, 29, 6, 37, 7, 4, 51, 55, 2] [
 ⟨(some 56), (.load (some 3) (.t 1)), none, none⟩,
 ⟨(some 57), (.callp (.k (rF 65)) [(.t 56)]), none, none⟩,
 ⟨(some 4), (.move (.t 57)), none, none⟩])
 .skip))
 (.seq
 (.region [] [] [0, 1, 3, 11, 27, 31, 30, 32, 29, 6, 37, 7, 4, 51, 55, 2] [
 ⟨(some 58), (.move (.t 4)), none, none⟩,
 ⟨(some 2), (.move (.t 58)), none, none⟩])
 .ret)))))))
def ir2110 : List IRes := [.tmp 2]
theorem ie2110 : cmpFunc Go.Proofs.Try.prog ⟨[], []⟩ Go.Proofs.Try.f72 [0, 1, 3, 11, 27, 31, 30, 32, 29, 6, 37, 7, 4, 51, 55, 2] = some ic2110 := by kernel_rfl
theorem ig2110 : cmpRes Go.Proofs.Try.prog Go.Proofs.Try.f72.results.toList = some ir2110 := by kernel_rfl


/-- pedigree/check.Input$1 -/
def ic2111 : IC :=
 (.seq
 (.region [2] [] [0, 1, 2, 3] [
 ⟨(some 2), (.box 186 (.t 0)), none, none⟩,
 ⟨(some 3), (.move (.k (rI .i64 0))), none, none⟩])
 (.seq
 (.region [] [] [0, 1, 2, 3] [
 ⟨(some 4), (.load none (.t 1)), none, none⟩,
 ⟨(some 5), (.load (some 3) (.t 2)), none, none⟩,
 ⟨(some 6), (.call (.k (rF 75)) [(.t 4), (.t 5)]), none, none⟩,
 ⟨(some 7), (.callp (.k (rF 74)) [(.t 6), (.k (rI .i64 72))]), none, none⟩,
 ⟨(some 3), (.move (.t 7)), none, none⟩])
 .ret))
def ir2111 : List IRes := [.tmp 3]
theorem ie2111 : cmpFunc Go.Proofs.Try.prog ⟨[(6, none)], []⟩ Go.Proofs.Try.f73 [0, 1, 2, 3] = some ic2111 := by kernel_rfl
theorem ig2111 : cmpRes Go.Proofs.Try.prog Go.Proofs.Try.f73.results.toList = some ir2111 := by kernel_rfl


/-- pedigree/check.code -/
def ic2112 : IC :=
 (.seq
 (.region [] [] [0, 5, 1, 4] [
 ⟨(some 4), (.move (.k (rI .i64 0))), none, none⟩])
 (.seq
 (.seq
 (.region [] [] [0, 5, 1, 4] [
 ⟨(some 5), (.move (.t 0)), none, none⟩])
 (.cond (.t 5)
 (.seq
 (.region [] [] [0, 5, 1, 4] [
 ⟨(some 4), (.move (.k (rI .i64 0))), none, none⟩])
 .ret)
 .skip))
 (.seq
 (.region [] [] [0, 5, 1, 4] [
 ⟨(some 6), (.move (.t 1)), none, none⟩,
 ⟨(some 4), (.move (.t 6)), none, none⟩])
 .ret)))
def ir2112 : List IRes := [.tmp 4]
theorem ie2112 : cmpFunc Go.Proofs.Try.prog ⟨[], []⟩ Go.Proofs.Try.f74 [0, 5, 1, 4] = some ic2112 := by kernel_rfl
theorem ig2112 : cmpRes Go.Proofs.Try.prog Go.Proofs.Try.f74.results.toList = some ir2112 := by kernel_rfl

def ic2113l0 : IC :=
 (.seq
 (.region [] [] [1, 0, 3, 14, 18, 17, 19, 16, 6, 41, 4] [
 ⟨(some 19), (.bin .lss (.t 18) (.t 17)), none, none⟩])
 (.seq
 (.cond (.t 19)
 .skip
 (.exit 0))
 (.seq
 (.block 1
 (.seq
 (.region [6] [] [1, 0, 3, 14, 18, 17, 19, 16, 6, 41, 4] [
 ⟨(some 20), (.iaddr 16 (.t 16) (.t 18)), none, none⟩,
 ⟨(some 21), (.load (some 16) (.t 20)), none, none⟩,
 ⟨(some 6), (.zero 129 [(.c (.v (.int .i8 0))), (.c (.v (.string (bs [])))), .nil, (.c (.v (.int .i8 0))), (.c (.v (.int .i8 0))), (.c (.v (.string (bs [])))), (.c (.v (.int .i8 0))), (.c (.v (.int .i64 0))), (.c (.v (.string (bs [])))), .nil, (.c (.v (.int .i8 0))), (.c (.v (.string (bs [])))), (.c (.v (.int .i8 0))), (.c (.v (.int .i64 0))), (.c (.v (.string (bs [])))), .nil]), none, none⟩,
 ⟨none, (.store (some 16) (.t 6) (.t 21)), none, none⟩])
 (.seq
 (.region [] [] [1, 0, 3, 14, 18, 17, 19, 16, 6, 41, 4] [
 ⟨(some 22), (.faddr 0 (.t 6)), none, none⟩,
 ⟨(some 23), (.load none (.t 22)), none, none⟩,
 ⟨(some 24), (.bin .eql (.t 23) (.k (rI .i8 1))), none, none⟩,
 ⟨(some 25), (.move (.t 24)), none, none⟩,
 ⟨(some 26), (.faddr 0 (.t 6)), some (25, false), none⟩,
 ⟨(some 27), (.load none (.t 26)), some (25, false), none⟩,
 ⟨(some 28), (.bin .eql (.t 27) (.k (rI .i8 2))), some (25, false), none⟩,
 ⟨(some 29), (.pick (.t 25) (.k (rB true)) (.t 28)), none, none⟩,
 ⟨(some 30), (.move (.t 29)), none, none⟩,
 ⟨(some 31), (.move (.t 0)), some (30, true), none⟩,
 ⟨(some 32), (.faddr 1 (.t 6)), some (30, true), none⟩,
 ⟨(some 33), (.faddr 0 (.t 32)), some (30, true), none⟩,
 ⟨(some 34), (.load none (.t 33)), some (30, true), none⟩,
 ⟨(some 35), (.faddr 1 (.t 6)), some (30, true), none⟩,
 ⟨(some 36), (.faddr 1 (.t 35)), some (30, true), none⟩,
 ⟨(some 37), (.load none (.t 36)), some (30, true), none⟩,
 ⟨(some 38), (.len (.t 37)), some (30, true), none⟩,
 ⟨(some 39), (.call (.k (rF 84)) [(.t 31), (.t 34), (.t 38)]), some (30, true), none⟩,
 ⟨(some 40), (.un .not (.t 39)), some (30, true), none⟩,
 ⟨(some 41), (.pick (.t 30) (.t 40) (.k (rB false))), none, none⟩])
 (.cond (.t 41)
 (.seq
 (.region [] [] [1, 0, 3, 14, 18, 17, 19, 16, 6, 41, 4] [
 ⟨(some 4), (.move (.k (rB false))), none, none⟩])
 .ret)
 .skip))))
 (.region [] [] [1, 0, 3, 14, 18, 17, 19, 16, 6, 41, 4] [
 ⟨(some 42), (.bin .add (.t 18) (.k (rI .i64 1))), none, none⟩,
 ⟨(some 18), (.move (.t 42)), none, none⟩]))))

/-- (pedigree/check.arities).rule -/
def ic2113 : IC :=
 (.seq
 (.region [3] [] [1, 0, 3, 14, 18, 17, 19, 16, 6, 41, 4] [
 ⟨(some 3), (.box 186 (.t 1)), none, none⟩,
 ⟨(some 4), (.move (.k (rB false))), none, none⟩])
 (.seq
 (.seq
 (.region [] [] [1, 0, 3, 14, 18, 17, 19, 16, 6, 41, 4] [
 ⟨(some 7), (.move (.t 0)), none, none⟩,
 ⟨(some 8), (.faddr 0 (.t 3)), none, none⟩,
 ⟨(some 9), (.load none (.t 8)), none, none⟩,
 ⟨(some 10), (.faddr 1 (.t 3)), none, none⟩,
 ⟨(some 11), (.load none (.t 10)), none, none⟩,
 ⟨(some 12), (.len (.t 11)), none, none⟩,
 ⟨(some 13), (.call (.k (rF 84)) [(.t 7), (.t 9), (.t 12)]), none, none⟩,
 ⟨(some 14), (.un .not (.t 13)), none, none⟩])
 (.cond (.t 14)
 (.seq
 (.region [] [] [1, 0, 3, 14, 18, 17, 19, 16, 6, 41, 4] [
 ⟨(some 4), (.move (.k (rB false))), none, none⟩])
 .ret)
 .skip))
 (.seq
 (.seq
 (.region [] [] [1, 0, 3, 14, 18, 17, 19, 16, 6, 41, 4] [
 ⟨(some 15), (.faddr 2 (.t 3)), none, none⟩,
 ⟨(some 16), (.load none (.t 15)), none, none⟩,
 ⟨(some 17), (.len (.t 16)), none, none⟩,
 ⟨(some 18), (.move (.k (rI .i64 0))), none, none⟩])
 (.block 0
 (.loop ic2113l0)))
 (.seq
 (.region [] [] [1, 0, 3, 14, 18, 17, 19, 16, 6, 41, 4] [
 ⟨(some 4), (.move (.k (rB true))), none, none⟩])
 .ret))))
def ir2113 : List IRes := [.tmp 4]
theorem ie2113 : cmpFunc Go.Proofs.Try.prog ⟨[(13, none), (39, none)], []⟩ Go.Proofs.Try.f75 [1, 0, 3, 14, 18, 17, 19, 16, 6, 41, 4] = some ic2113 := by kernel_rfl
theorem ig2113 : cmpRes Go.Proofs.Try.prog Go.Proofs.Try.f75.results.toList = some ir2113 := by kernel_rfl

def ic2114l0 : IC :=
 (.seq
 (.region [] [] [1, 12, 11, 13, 10, 2, 8, 9, 21, 0, 7, 6] [
 ⟨(some 13), (.bin .lss (.t 12) (.t 11)), none, none⟩])
 (.seq
 (.cond (.t 13)
 .skip
 (.exit 0))
 (.seq
 (.block 1
 (.seq
 (.region [8] [] [1, 12, 11, 13, 10, 2, 8, 9, 21, 0, 7, 6] [
 ⟨(some 14), (.move (.t 12)), none, none⟩,
 ⟨(some 15), (.iaddr 2 (.t 10) (.t 12)), none, none⟩,
 ⟨(some 16), (.load (some 2) (.t 15)), none, none⟩,
 ⟨(some 8), (.zero 201 [(.c (.v (.string (bs [])))), .nil]), none, none⟩,
 ⟨(some 7), (.move (.t 14)), none, none⟩,
 ⟨none, (.store (some 2) (.t 8) (.t 16)), none, none⟩])
 (.seq
 (.region [] [] [1, 12, 11, 13, 10, 2, 8, 9, 21, 0, 7, 6] [
 ⟨(some 17), (.move (.t 2)), none, none⟩,
 ⟨(some 18), (.load (some 2) (.t 8)), none, none⟩,
 ⟨(some 19), (.call (.t 17) [(.t 18)]), none, none⟩,
 ⟨(some 9), (.move (.t 19)), none, none⟩])
 (.seq
 (.region [] [] [1, 12, 11, 13, 10, 2, 8, 9, 21, 0, 7, 6] [
 ⟨(some 20), (.move (.t 9)), none, none⟩,
 ⟨(some 21), (.bin .neq (.t 20) (.k (rI .i64 0))), none, none⟩])
 (.cond (.t 21)
 (.seq
 (.region [] [] [1, 12, 11, 13, 10, 2, 8, 9, 21, 0, 7, 6] [
 ⟨(some 22), (.move (.t 0)), none, none⟩,
 ⟨(some 23), (.move (.t 9)), none, none⟩,
 ⟨(some 24), (.move (.t 7)), none, none⟩,
 ⟨(some 25), (.build [(.c (.v (.int .i8 0))), (.c (.v (.int .i64 0))), (.c (.v (.int .i64 0)))] [(0, 1, (.t 22)), (1, 1, (.t 23)), (2, 1, (.t 24))]), none, none⟩,
 ⟨none, (.store (some 3) (.t 6) (.t 25)), none, none⟩])
 .ret)
 .skip)))))
 (.region [] [] [1, 12, 11, 13, 10, 2, 8, 9, 21, 0, 7, 6] [
 ⟨(some 26), (.bin .add (.t 12) (.k (rI .i64 1))), none, none⟩,
 ⟨(some 12), (.move (.t 26)), none, none⟩]))))

/-- pedigree/check.first[pedigree/api.Fact] -/
def ic2114 : IC :=
 (.seq
 (.region [6] [] [1, 12, 11, 13, 10, 2, 8, 9, 21, 0, 7, 6] [
 ⟨(some 6), (.zero 142 [(.c (.v (.int .i8 0))), (.c (.v (.int .i64 0))), (.c (.v (.int .i64 0)))]), none, none⟩])
 (.seq
 (.seq
 (.region [] [] [1, 12, 11, 13, 10, 2, 8, 9, 21, 0, 7, 6] [
 ⟨(some 10), (.move (.t 1)), none, none⟩,
 ⟨(some 11), (.len (.t 10)), none, none⟩,
 ⟨(some 12), (.move (.k (rI .i64 0))), none, none⟩])
 (.block 0
 (.loop ic2114l0)))
 (.seq
 (.region [] [] [1, 12, 11, 13, 10, 2, 8, 9, 21, 0, 7, 6] [
 ⟨(some 27), (.build [(.c (.v (.int .i8 0))), (.c (.v (.int .i64 0))), (.c (.v (.int .i64 0)))] []), none, none⟩,
 ⟨none, (.store (some 3) (.t 6) (.t 27)), none, none⟩])
 .ret)))
def ir2114 : List IRes := [.cell 6 (some 3)]
theorem ie2114 : cmpFunc Go.Proofs.Try.prog ⟨[(19, none)], []⟩ Go.Proofs.Try.f76 [1, 12, 11, 13, 10, 2, 8, 9, 21, 0, 7, 6] = some ic2114 := by kernel_rfl
theorem ig2114 : cmpRes Go.Proofs.Try.prog Go.Proofs.Try.f76.results.toList = some ir2114 := by kernel_rfl


/-- pedigree/check.Input$2 -/
def ic2115 : IC :=
 (.seq
 (.region [2] [] [0, 2, 4, 9, 5, 18, 1, 3] [
 ⟨(some 2), (.box 201 (.t 0)), none, none⟩,
 ⟨(some 3), (.move (.k (rI .i64 0))), none, none⟩])
 (.seq
 (.seq
 (.region [] [] [0, 2, 4, 9, 5, 18, 1, 3] [
 ⟨(some 6), (.load (some 2) (.t 2)), none, none⟩,
 ⟨(some 7), (.callp (.k (rF 70)) [(.t 6)]), none, none⟩,
 ⟨(some 4), (.move (.t 7)), none, none⟩])
 (.seq
 (.region [] [] [0, 2, 4, 9, 5, 18, 1, 3] [
 ⟨(some 8), (.move (.t 4)), none, none⟩,
 ⟨(some 9), (.bin .neq (.t 8) (.k (rI .i64 0))), none, none⟩])
 (.cond (.t 9)
 (.seq
 (.region [] [] [0, 2, 4, 9, 5, 18, 1, 3] [
 ⟨(some 10), (.move (.t 4)), none, none⟩,
 ⟨(some 3), (.move (.t 10)), none, none⟩])
 .ret)
 .skip)))
 (.seq
 (.seq
 (.region [] [] [0, 2, 4, 9, 5, 18, 1, 3] [
 ⟨(some 11), (.faddr 0 (.t 2)), none, none⟩,
 ⟨(some 12), (.load none (.t 11)), none, none⟩,
 ⟨(some 13), (.faddr 1 (.t 2)), none, none⟩,
 ⟨(some 14), (.load none (.t 13)), none, none⟩,
 ⟨(some 15), (.len (.t 14)), none, none⟩,
 ⟨(some 16), (.callp (.k (rF 78)) [(.t 12), (.t 15)]), none, none⟩,
 ⟨(some 5), (.move (.t 16)), none, none⟩])
 (.seq
 (.region [] [] [0, 2, 4, 9, 5, 18, 1, 3] [
 ⟨(some 17), (.move (.t 5)), none, none⟩,
 ⟨(some 18), (.bin .neq (.t 17) (.k (rI .i64 0))), none, none⟩])
 (.cond (.t 18)
 (.seq
 (.region [] [] [0, 2, 4, 9, 5, 18, 1, 3] [
 ⟨(some 19), (.move (.t 5)), none, none⟩,
 ⟨(some 3), (.move (.t 19)), none, none⟩])
 .ret)
 .skip)))
 (.seq
 (.region [] [] [0, 2, 4, 9, 5, 18, 1, 3] [
 ⟨(some 20), (.load none (.t 1)), none, none⟩,
 ⟨(some 21), (.load (some 2) (.t 2)), none, none⟩,
 ⟨(some 22), (.call (.k (rF 79)) [(.t 20), (.t 21)]), none, none⟩,
 ⟨(some 23), (.callp (.k (rF 74)) [(.t 22), (.k (rI .i64 72))]), none, none⟩,
 ⟨(some 3), (.move (.t 23)), none, none⟩])
 .ret))))
def ir2115 : List IRes := [.tmp 3]
theorem ie2115 : cmpFunc Go.Proofs.Try.prog ⟨[(22, none)], []⟩ Go.Proofs.Try.f77 [0, 2, 4, 9, 5, 18, 1, 3] = some ic2115 := by kernel_rfl
theorem ig2115 : cmpRes Go.Proofs.Try.prog Go.Proofs.Try.f77.results.toList = some ir2115 := by kernel_rfl


/-- pedigree/check.size -/
def ic2117 : IC :=
 (.seq
 (.region [] [] [0, 1, 5, 13, 4] [
 ⟨(some 4), (.move (.k (rI .i64 0))), none, none⟩])
 (.seq
 (.block 0
 (.seq
 (.region [] [] [0, 1, 5, 13, 4] [
 ⟨(some 6), (.move (.t 0)), none, none⟩,
 ⟨(some 7), (.slen (.t 6)), none, none⟩,
 ⟨(some 8), (.bin .gtr (.t 7) (.k (rI .i64 24))), none, none⟩,
 ⟨(some 9), (.move (.t 8)), none, none⟩,
 ⟨(some 10), (.move (.t 1)), some (9, false), none⟩,
 ⟨(some 11), (.bin .gtr (.t 10) (.k (rI .i64 8))), some (9, false), none⟩,
 ⟨(some 12), (.pick (.t 9) (.k (rB true)) (.t 11)), none, none⟩,
 ⟨(some 5), (.move (.t 12)), none, none⟩])
 (.cond (.t 5)
 (.seq
 (.region [] [] [0, 1, 5, 13, 4] [
 ⟨(some 4), (.move (.k (rI .i64 70))), none, none⟩])
 .ret)
 (.seq
 (.region [] [] [0, 1, 5, 13, 4] [
 ⟨(some 14), (.move (.t 0)), none, none⟩,
 ⟨(some 15), (.callp (.k (rF 117)) [(.t 14), (.k (rS (bs [113, 95])))]), none, none⟩,
 ⟨(some 13), (.move (.t 15)), none, none⟩])
 (.cond (.t 13)
 (.seq
 (.region [] [] [0, 1, 5, 13, 4] [
 ⟨(some 4), (.move (.k (rI .i64 71))), none, none⟩])
 .ret)
 .skip)))))
 (.seq
 (.region [] [] [0, 1, 5, 13, 4] [
 ⟨(some 4), (.move (.k (rI .i64 0))), none, none⟩])
 .ret)))
def ir2117 : List IRes := [.tmp 4]
theorem ie2117 : cmpFunc Go.Proofs.Try.prog ⟨[], []⟩ Go.Proofs.Try.f78 [0, 1, 5, 13, 4] = some ic2117 := by kernel_rfl
theorem ig2117 : cmpRes Go.Proofs.Try.prog Go.Proofs.Try.f78.results.toList = some ir2117 := by kernel_rfl


/-- (pedigree/check.arities).fact -/
def ic2118 : IC :=
 (.seq
 (.region [3] [] [1, 0, 3, 4] [
 ⟨(some 3), (.box 201 (.t 1)), none, none⟩,
 ⟨(some 4), (.move (.k (rB false))), none, none⟩])
 (.seq
 (.region [] [] [1, 0, 3, 4] [
 ⟨(some 5), (.move (.t 0)), none, none⟩,
 ⟨(some 6), (.faddr 0 (.t 3)), none, none⟩,
 ⟨(some 7), (.load none (.t 6)), none, none⟩,
 ⟨(some 8), (.faddr 1 (.t 3)), none, none⟩,
 ⟨(some 9), (.load none (.t 8)), none, none⟩,
 ⟨(some 10), (.len (.t 9)), none, none⟩,
 ⟨(some 11), (.call (.k (rF 84)) [(.t 5), (.t 7), (.t 10)]), none, none⟩,
 ⟨(some 4), (.move (.t 11)), none, none⟩])
 .ret))
def ir2118 : List IRes := [.tmp 4]
theorem ie2118 : cmpFunc Go.Proofs.Try.prog ⟨[(11, none)], []⟩ Go.Proofs.Try.f79 [1, 0, 3, 4] = some ic2118 := by kernel_rfl
theorem ig2118 : cmpRes Go.Proofs.Try.prog Go.Proofs.Try.f79.results.toList = some ir2118 := by kernel_rfl

def ic2119l0 : IC :=
 (.seq
 (.region [] [] [1, 12, 11, 13, 10, 2, 8, 9, 21, 0, 7, 6] [
 ⟨(some 13), (.bin .lss (.t 12) (.t 11)), none, none⟩])
 (.seq
 (.cond (.t 13)
 .skip
 (.exit 0))
 (.seq
 (.block 1
 (.seq
 (.region [8] [] [1, 12, 11, 13, 10, 2, 8, 9, 21, 0, 7, 6] [
 ⟨(some 14), (.move (.t 12)), none, none⟩,
 ⟨(some 15), (.iaddr 2 (.t 10) (.t 12)), none, none⟩,
 ⟨(some 16), (.load (some 2) (.t 15)), none, none⟩,
 ⟨(some 8), (.zero 122 [(.c (.v (.string (bs [])))), .nil]), none, none⟩,
 ⟨(some 7), (.move (.t 14)), none, none⟩,
 ⟨none, (.store (some 2) (.t 8) (.t 16)), none, none⟩])
 (.seq
 (.region [] [] [1, 12, 11, 13, 10, 2, 8, 9, 21, 0, 7, 6] [
 ⟨(some 17), (.move (.t 2)), none, none⟩,
 ⟨(some 18), (.load (some 2) (.t 8)), none, none⟩,
 ⟨(some 19), (.call (.t 17) [(.t 18)]), none, none⟩,
 ⟨(some 9), (.move (.t 19)), none, none⟩])
 (.seq
 (.region [] [] [1, 12, 11, 13, 10, 2, 8, 9, 21, 0, 7, 6] [
 ⟨(some 20), (.move (.t 9)), none, none⟩,
 ⟨(some 21), (.bin .neq (.t 20) (.k (rI .i64 0))), none, none⟩])
 (.cond (.t 21)
 (.seq
 (.region [] [] [1, 12, 11, 13, 10, 2, 8, 9, 21, 0, 7, 6] [
 ⟨(some 22), (.move (.t 0)), none, none⟩,
 ⟨(some 23), (.move (.t 9)), none, none⟩,
 ⟨(some 24), (.move (.t 7)), none, none⟩,
 ⟨(some 25), (.build [(.c (.v (.int .i8 0))), (.c (.v (.int .i64 0))), (.c (.v (.int .i64 0)))] [(0, 1, (.t 22)), (1, 1, (.t 23)), (2, 1, (.t 24))]), none, none⟩,
 ⟨none, (.store (some 3) (.t 6) (.t 25)), none, none⟩])
 .ret)
 .skip)))))
 (.region [] [] [1, 12, 11, 13, 10, 2, 8, 9, 21, 0, 7, 6] [
 ⟨(some 26), (.bin .add (.t 12) (.k (rI .i64 1))), none, none⟩,
 ⟨(some 12), (.move (.t 26)), none, none⟩]))))

/-- pedigree/check.first[pedigree/api.Atom] -/
def ic2119 : IC :=
 (.seq
 (.region [6] [] [1, 12, 11, 13, 10, 2, 8, 9, 21, 0, 7, 6] [
 ⟨(some 6), (.zero 142 [(.c (.v (.int .i8 0))), (.c (.v (.int .i64 0))), (.c (.v (.int .i64 0)))]), none, none⟩])
 (.seq
 (.seq
 (.region [] [] [1, 12, 11, 13, 10, 2, 8, 9, 21, 0, 7, 6] [
 ⟨(some 10), (.move (.t 1)), none, none⟩,
 ⟨(some 11), (.len (.t 10)), none, none⟩,
 ⟨(some 12), (.move (.k (rI .i64 0))), none, none⟩])
 (.block 0
 (.loop ic2119l0)))
 (.seq
 (.region [] [] [1, 12, 11, 13, 10, 2, 8, 9, 21, 0, 7, 6] [
 ⟨(some 27), (.build [(.c (.v (.int .i8 0))), (.c (.v (.int .i64 0))), (.c (.v (.int .i64 0)))] []), none, none⟩,
 ⟨none, (.store (some 3) (.t 6) (.t 27)), none, none⟩])
 .ret)))
def ir2119 : List IRes := [.cell 6 (some 3)]
theorem ie2119 : cmpFunc Go.Proofs.Try.prog ⟨[(19, none)], []⟩ Go.Proofs.Try.f80 [1, 12, 11, 13, 10, 2, 8, 9, 21, 0, 7, 6] = some ic2119 := by kernel_rfl
theorem ig2119 : cmpRes Go.Proofs.Try.prog Go.Proofs.Try.f80.results.toList = some ir2119 := by kernel_rfl


/-- pedigree/check.Input$3 -/
def ic2120 : IC :=
 (.seq
 (.region [2] [] [0, 2, 4, 9, 13, 5, 21, 1, 3] [
 ⟨(some 2), (.box 122 (.t 0)), none, none⟩,
 ⟨(some 3), (.move (.k (rI .i64 0))), none, none⟩])
 (.seq
 (.seq
 (.region [] [] [0, 2, 4, 9, 13, 5, 21, 1, 3] [
 ⟨(some 6), (.load (some 2) (.t 2)), none, none⟩,
 ⟨(some 7), (.callp (.k (rF 37)) [(.t 6)]), none, none⟩,
 ⟨(some 4), (.move (.t 7)), none, none⟩])
 (.seq
 (.region [] [] [0, 2, 4, 9, 13, 5, 21, 1, 3] [
 ⟨(some 8), (.move (.t 4)), none, none⟩,
 ⟨(some 9), (.bin .neq (.t 8) (.k (rI .i64 0))), none, none⟩])
 (.cond (.t 9)
 (.seq
 (.region [] [] [0, 2, 4, 9, 13, 5, 21, 1, 3] [
 ⟨(some 10), (.move (.t 4)), none, none⟩,
 ⟨(some 3), (.move (.t 10)), none, none⟩])
 .ret)
 .skip)))
 (.seq
 (.seq
 (.region [] [] [0, 2, 4, 9, 13, 5, 21, 1, 3] [
 ⟨(some 11), (.load (some 2) (.t 2)), none, none⟩,
 ⟨(some 12), (.callp (.k (rF 83)) [(.t 11)]), none, none⟩,
 ⟨(some 13), (.callp (.k (rF 82)) [(.t 12)]), none, none⟩])
 (.cond (.t 13)
 (.seq
 (.region [] [] [0, 2, 4, 9, 13, 5, 21, 1, 3] [
 ⟨(some 3), (.move (.k (rI .i64 70))), none, none⟩])
 .ret)
 .skip))
 (.seq
 (.seq
 (.region [] [] [0, 2, 4, 9, 13, 5, 21, 1, 3] [
 ⟨(some 14), (.faddr 0 (.t 2)), none, none⟩,
 ⟨(some 15), (.load none (.t 14)), none, none⟩,
 ⟨(some 16), (.faddr 1 (.t 2)), none, none⟩,
 ⟨(some 17), (.load none (.t 16)), none, none⟩,
 ⟨(some 18), (.len (.t 17)), none, none⟩,
 ⟨(some 19), (.callp (.k (rF 78)) [(.t 15), (.t 18)]), none, none⟩,
 ⟨(some 5), (.move (.t 19)), none, none⟩])
 (.seq
 (.region [] [] [0, 2, 4, 9, 13, 5, 21, 1, 3] [
 ⟨(some 20), (.move (.t 5)), none, none⟩,
 ⟨(some 21), (.bin .neq (.t 20) (.k (rI .i64 0))), none, none⟩])
 (.cond (.t 21)
 (.seq
 (.region [] [] [0, 2, 4, 9, 13, 5, 21, 1, 3] [
 ⟨(some 22), (.move (.t 5)), none, none⟩,
 ⟨(some 3), (.move (.t 22)), none, none⟩])
 .ret)
 .skip)))
 (.seq
 (.region [] [] [0, 2, 4, 9, 13, 5, 21, 1, 3] [
 ⟨(some 23), (.load none (.t 1)), none, none⟩,
 ⟨(some 24), (.faddr 0 (.t 2)), none, none⟩,
 ⟨(some 25), (.load none (.t 24)), none, none⟩,
 ⟨(some 26), (.faddr 1 (.t 2)), none, none⟩,
 ⟨(some 27), (.load none (.t 26)), none, none⟩,
 ⟨(some 28), (.len (.t 27)), none, none⟩,
 ⟨(some 29), (.call (.k (rF 84)) [(.t 23), (.t 25), (.t 28)]), none, none⟩,
 ⟨(some 30), (.callp (.k (rF 74)) [(.t 29), (.k (rI .i64 72))]), none, none⟩,
 ⟨(some 3), (.move (.t 30)), none, none⟩])
 .ret)))))
def ir2120 : List IRes := [.tmp 3]
theorem ie2120 : cmpFunc Go.Proofs.Try.prog ⟨[(29, none)], []⟩ Go.Proofs.Try.f81 [0, 2, 4, 9, 13, 5, 21, 1, 3] = some ic2120 := by kernel_rfl
theorem ig2120 : cmpRes Go.Proofs.Try.prog Go.Proofs.Try.f81.results.toList = some ir2120 := by kernel_rfl


/-- pedigree/check.long -/
def ic2122 : IC :=
 (.seq
 (.region [] [] [0, 2] [
 ⟨(some 2), (.move (.k (rB false))), none, none⟩])
 (.seq
 (.region [] [] [0, 2] [
 ⟨(some 3), (.move (.t 0)), none, none⟩,
 ⟨(some 4), (.callp (.k (rF 118)) [(.t 3), (.k (rF 119))]), none, none⟩,
 ⟨(some 2), (.move (.t 4)), none, none⟩])
 .ret))
def ir2122 : List IRes := [.tmp 2]
theorem ie2122 : cmpFunc Go.Proofs.Try.prog ⟨[], []⟩ Go.Proofs.Try.f82 [0, 2] = some ic2122 := by kernel_rfl
theorem ig2122 : cmpRes Go.Proofs.Try.prog Go.Proofs.Try.f82.results.toList = some ir2122 := by kernel_rfl


/-- (pedigree/check.arities).meet -/
def ic2124 : IC :=
 (.seq
 (.region [] [] [0, 1, 8, 16, 2, 7, 6] [
 ⟨(some 6), (.move (.k (rB false))), none, none⟩])
 (.seq
 (.region [] [] [0, 1, 8, 16, 2, 7, 6] [
 ⟨(some 10), (.move (.t 0)), none, none⟩,
 ⟨(some 11), (.move (.t 1)), none, none⟩,
 ⟨(some 12), (.mlook .string true true [(.c (.v (.int .i64 0)))] (.t 10) (.t 11)), none, none⟩,
 ⟨(some 9), (.move (.t 12)), none, none⟩,
 ⟨(some 13), (.ext (.t 9) 0), none, none⟩,
 ⟨(some 14), (.ext (.t 9) 1), none, none⟩,
 ⟨(some 7), (.move (.t 13)), none, none⟩,
 ⟨(some 8), (.move (.t 14)), none, none⟩])
 (.seq
 (.seq
 (.region [] [] [0, 1, 8, 16, 2, 7, 6] [
 ⟨(some 15), (.move (.t 8)), none, none⟩,
 ⟨(some 16), (.un .not (.t 15)), none, none⟩])
 (.cond (.t 16)
 (.region [] [] [0, 1, 8, 16, 2, 7, 6] [
 ⟨(some 17), (.move (.t 0)), none, none⟩,
 ⟨(some 18), (.move (.t 1)), none, none⟩,
 ⟨(some 19), (.move (.t 2)), none, none⟩,
 ⟨none, (.mapup .string true (.t 17) (.t 18) (.t 19)), none, none⟩])
 .skip))
 (.seq
 (.region [] [] [0, 1, 8, 16, 2, 7, 6] [
 ⟨(some 20), (.move (.t 8)), none, none⟩,
 ⟨(some 21), (.un .not (.t 20)), none, none⟩,
 ⟨(some 22), (.move (.t 21)), none, none⟩,
 ⟨(some 23), (.move (.t 7)), some (22, false), none⟩,
 ⟨(some 24), (.move (.t 2)), some (22, false), none⟩,
 ⟨(some 25), (.bin .eql (.t 23) (.t 24)), some (22, false), none⟩,
 ⟨(some 26), (.pick (.t 22) (.k (rB true)) (.t 25)), none, none⟩,
 ⟨(some 6), (.move (.t 26)), none, none⟩])
 .ret))))
def ir2124 : List IRes := [.tmp 6]
theorem ie2124 : cmpFunc Go.Proofs.Try.prog ⟨[], []⟩ Go.Proofs.Try.f84 [0, 1, 8, 16, 2, 7, 6] = some ic2124 := by kernel_rfl
theorem ig2124 : cmpRes Go.Proofs.Try.prog Go.Proofs.Try.f84.results.toList = some ir2124 := by kernel_rfl

def ic2132l0 : IC :=
 (.seq
 (.region [] [] [0, 9, 8, 10, 7, 1, 6, 16, 4] [
 ⟨(some 10), (.bin .lss (.t 9) (.t 8)), none, none⟩])
 (.seq
 (.cond (.t 10)
 .skip
 (.exit 0))
 (.seq
 (.block 1
 (.seq
 (.region [6] [] [0, 9, 8, 10, 7, 1, 6, 16, 4] [
 ⟨(some 11), (.iaddr 3 (.t 7) (.t 9)), none, none⟩,
 ⟨(some 12), (.load (some 3) (.t 11)), none, none⟩,
 ⟨(some 6), (.zero 186 [(.c (.v (.string (bs [])))), .nil, .nil]), none, none⟩,
 ⟨none, (.store (some 3) (.t 6) (.t 12)), none, none⟩])
 (.seq
 (.region [] [] [0, 9, 8, 10, 7, 1, 6, 16, 4] [
 ⟨(some 13), (.move (.t 1)), none, none⟩,
 ⟨(some 14), (.load (some 3) (.t 6)), none, none⟩,
 ⟨(some 15), (.call (.t 13) [(.t 14)]), none, none⟩,
 ⟨(some 16), (.un .not (.t 15)), none, none⟩])
 (.cond (.t 16)
 (.seq
 (.region [] [] [0, 9, 8, 10, 7, 1, 6, 16, 4] [
 ⟨(some 4), (.move (.k (rB false))), none, none⟩])
 .ret)
 .skip))))
 (.region [] [] [0, 9, 8, 10, 7, 1, 6, 16, 4] [
 ⟨(some 17), (.bin .add (.t 9) (.k (rI .i64 1))), none, none⟩,
 ⟨(some 9), (.move (.t 17)), none, none⟩]))))

/-- pedigree/check.all[pedigree/api.Rule] -/
def ic2132 : IC :=
 (.seq
 (.region [] [] [0, 9, 8, 10, 7, 1, 6, 16, 4] [
 ⟨(some 4), (.move (.k (rB false))), none, none⟩])
 (.seq
 (.seq
 (.region [] [] [0, 9, 8, 10, 7, 1, 6, 16, 4] [
 ⟨(some 7), (.move (.t 0)), none, none⟩,
 ⟨(some 8), (.len (.t 7)), none, none⟩,
 ⟨(some 9), (.move (.k (rI .i64 0))), none, none⟩])
 (.block 0
 (.loop ic2132l0)))
 (.seq
 (.region [] [] [0, 9, 8, 10, 7, 1, 6, 16, 4] [
 ⟨(some 4), (.move (.k (rB true))), none, none⟩])
 .ret)))
def ir2132 : List IRes := [.tmp 4]
theorem ie2132 : cmpFunc Go.Proofs.Try.prog ⟨[(15, none)], []⟩ Go.Proofs.Try.f88 [0, 9, 8, 10, 7, 1, 6, 16, 4] = some ic2132 := by kernel_rfl
theorem ig2132 : cmpRes Go.Proofs.Try.prog Go.Proofs.Try.f88.results.toList = some ir2132 := by kernel_rfl

def ic2133l0 : IC :=
 (.seq
 (.region [] [] [0, 9, 8, 10, 7, 1, 6, 16, 4] [
 ⟨(some 10), (.bin .lss (.t 9) (.t 8)), none, none⟩])
 (.seq
 (.cond (.t 10)
 .skip
 (.exit 0))
 (.seq
 (.block 1
 (.seq
 (.region [6] [] [0, 9, 8, 10, 7, 1, 6, 16, 4] [
 ⟨(some 11), (.iaddr 2 (.t 7) (.t 9)), none, none⟩,
 ⟨(some 12), (.load (some 2) (.t 11)), none, none⟩,
 ⟨(some 6), (.zero 201 [(.c (.v (.string (bs [])))), .nil]), none, none⟩,
 ⟨none, (.store (some 2) (.t 6) (.t 12)), none, none⟩])
 (.seq
 (.region [] [] [0, 9, 8, 10, 7, 1, 6, 16, 4] [
 ⟨(some 13), (.move (.t 1)), none, none⟩,
 ⟨(some 14), (.load (some 2) (.t 6)), none, none⟩,
 ⟨(some 15), (.call (.t 13) [(.t 14)]), none, none⟩,
 ⟨(some 16), (.un .not (.t 15)), none, none⟩])
 (.cond (.t 16)
 (.seq
 (.region [] [] [0, 9, 8, 10, 7, 1, 6, 16, 4] [
 ⟨(some 4), (.move (.k (rB false))), none, none⟩])
 .ret)
 .skip))))
 (.region [] [] [0, 9, 8, 10, 7, 1, 6, 16, 4] [
 ⟨(some 17), (.bin .add (.t 9) (.k (rI .i64 1))), none, none⟩,
 ⟨(some 9), (.move (.t 17)), none, none⟩]))))

/-- pedigree/check.all[pedigree/api.Fact] -/
def ic2133 : IC :=
 (.seq
 (.region [] [] [0, 9, 8, 10, 7, 1, 6, 16, 4] [
 ⟨(some 4), (.move (.k (rB false))), none, none⟩])
 (.seq
 (.seq
 (.region [] [] [0, 9, 8, 10, 7, 1, 6, 16, 4] [
 ⟨(some 7), (.move (.t 0)), none, none⟩,
 ⟨(some 8), (.len (.t 7)), none, none⟩,
 ⟨(some 9), (.move (.k (rI .i64 0))), none, none⟩])
 (.block 0
 (.loop ic2133l0)))
 (.seq
 (.region [] [] [0, 9, 8, 10, 7, 1, 6, 16, 4] [
 ⟨(some 4), (.move (.k (rB true))), none, none⟩])
 .ret)))
def ir2133 : List IRes := [.tmp 4]
theorem ie2133 : cmpFunc Go.Proofs.Try.prog ⟨[(15, none)], []⟩ Go.Proofs.Try.f89 [0, 9, 8, 10, 7, 1, 6, 16, 4] = some ic2133 := by kernel_rfl
theorem ig2133 : cmpRes Go.Proofs.Try.prog Go.Proofs.Try.f89.results.toList = some ir2133 := by kernel_rfl


/-- strings.HasPrefix -/
def ic2205 : IC :=
 (.seq
 (.region [] [] [0, 1, 4] [
 ⟨(some 4), (.move (.k (rB false))), none, none⟩])
 (.seq
 (.region [] [] [0, 1, 4] [
 ⟨(some 5), (.move (.t 0)), none, none⟩,
 ⟨(some 6), (.move (.t 1)), none, none⟩,
 ⟨(some 7), (.callp (.k (rF 137)) [(.t 5), (.t 6)]), none, none⟩,
 ⟨(some 4), (.move (.t 7)), none, none⟩])
 .ret))
def ir2205 : List IRes := [.tmp 4]
theorem ie2205 : cmpFunc Go.Proofs.Try.prog ⟨[], []⟩ Go.Proofs.Try.f117 [0, 1, 4] = some ic2205 := by kernel_rfl
theorem ig2205 : cmpRes Go.Proofs.Try.prog Go.Proofs.Try.f117.results.toList = some ir2205 := by kernel_rfl


/-- slices.ContainsFunc[[]string,string] -/
def ic2209 : IC :=
 (.seq
 (.region [] [] [0, 1, 4] [
 ⟨(some 4), (.move (.k (rB false))), none, none⟩])
 (.seq
 (.region [] [] [0, 1, 4] [
 ⟨(some 5), (.move (.t 0)), none, none⟩,
 ⟨(some 6), (.move (.t 1)), none, none⟩,
 ⟨(some 7), (.callp (.k (rF 138)) [(.t 5), (.t 6)]), none, none⟩,
 ⟨(some 8), (.bin .geq (.t 7) (.k (rI .i64 0))), none, none⟩,
 ⟨(some 4), (.move (.t 8)), none, none⟩])
 .ret))
def ir2209 : List IRes := [.tmp 4]
theorem ie2209 : cmpFunc Go.Proofs.Try.prog ⟨[], []⟩ Go.Proofs.Try.f118 [0, 1, 4] = some ic2209 := by kernel_rfl
theorem ig2209 : cmpRes Go.Proofs.Try.prog Go.Proofs.Try.f118.results.toList = some ir2209 := by kernel_rfl


/-- pedigree/check.long$1 -/
def ic2210 : IC :=
 (.seq
 (.region [] [] [0, 2] [
 ⟨(some 2), (.move (.k (rB false))), none, none⟩])
 (.seq
 (.region [] [] [0, 2] [
 ⟨(some 3), (.move (.t 0)), none, none⟩,
 ⟨(some 4), (.slen (.t 3)), none, none⟩,
 ⟨(some 5), (.bin .gtr (.t 4) (.k (rI .i64 24))), none, none⟩,
 ⟨(some 2), (.move (.t 5)), none, none⟩])
 .ret))
def ir2210 : List IRes := [.tmp 2]
theorem ie2210 : cmpFunc Go.Proofs.Try.prog ⟨[], []⟩ Go.Proofs.Try.f119 [0, 2] = some ic2210 := by kernel_rfl
theorem ig2210 : cmpRes Go.Proofs.Try.prog Go.Proofs.Try.f119.results.toList = some ir2210 := by kernel_rfl


/-- internal/stringslite.HasPrefix -/
def ic2270 : IC :=
 (.seq
 (.region [] [] [0, 1, 4] [
 ⟨(some 4), (.move (.k (rB false))), none, none⟩])
 (.seq
 (.region [] [] [0, 1, 4] [
 ⟨(some 5), (.move (.t 0)), none, none⟩,
 ⟨(some 6), (.slen (.t 5)), none, none⟩,
 ⟨(some 7), (.move (.t 1)), none, none⟩,
 ⟨(some 8), (.slen (.t 7)), none, none⟩,
 ⟨(some 9), (.bin .geq (.t 6) (.t 8)), none, none⟩,
 ⟨(some 10), (.move (.t 9)), none, none⟩,
 ⟨(some 11), (.move (.t 0)), some (10, true), none⟩,
 ⟨(some 12), (.move (.t 1)), some (10, true), none⟩,
 ⟨(some 13), (.slen (.t 12)), some (10, true), none⟩,
 ⟨(some 14), (.ssl (.t 11) none (some (.t 13))), some (10, true), none⟩,
 ⟨(some 15), (.move (.t 1)), some (10, true), none⟩,
 ⟨(some 16), (.bin .eql (.t 14) (.t 15)), some (10, true), none⟩,
 ⟨(some 17), (.pick (.t 10) (.t 16) (.k (rB false))), none, none⟩,
 ⟨(some 4), (.move (.t 17)), none, none⟩])
 .ret))
def ir2270 : List IRes := [.tmp 4]
theorem ie2270 : cmpFunc Go.Proofs.Try.prog ⟨[], []⟩ Go.Proofs.Try.f137 [0, 1, 4] = some ic2270 := by kernel_rfl
theorem ig2270 : cmpRes Go.Proofs.Try.prog Go.Proofs.Try.f137.results.toList = some ir2270 := by kernel_rfl

def ic229l0 : IC :=
 (.seq
 (.region [] [] [0, 8, 7, 9, 1, 5, 16, 4] [
 ⟨(some 9), (.bin .lss (.t 8) (.t 7)), none, none⟩])
 (.seq
 (.cond (.t 9)
 .skip
 (.exit 0))
 (.seq
 (.block 1
 (.seq
 (.region [] [] [0, 8, 7, 9, 1, 5, 16, 4] [
 ⟨(some 10), (.move (.t 8)), none, none⟩,
 ⟨(some 5), (.move (.t 10)), none, none⟩])
 (.seq
 (.region [] [] [0, 8, 7, 9, 1, 5, 16, 4] [
 ⟨(some 11), (.move (.t 1)), none, none⟩,
 ⟨(some 12), (.move (.t 0)), none, none⟩,
 ⟨(some 13), (.move (.t 5)), none, none⟩,
 ⟨(some 14), (.iaddr 1 (.t 12) (.t 13)), none, none⟩,
 ⟨(some 15), (.load none (.t 14)), none, none⟩,
 ⟨(some 16), (.call (.t 11) [(.t 15)]), none, none⟩])
 (.cond (.t 16)
 (.seq
 (.region [] [] [0, 8, 7, 9, 1, 5, 16, 4] [
 ⟨(some 17), (.move (.t 5)), none, none⟩,
 ⟨(some 4), (.move (.t 17)), none, none⟩])
 .ret)
 .skip))))
 (.region [] [] [0, 8, 7, 9, 1, 5, 16, 4] [
 ⟨(some 18), (.bin .add (.t 8) (.k (rI .i64 1))), none, none⟩,
 ⟨(some 8), (.move (.t 18)), none, none⟩]))))

/-- slices.IndexFunc[[]string,string] -/
def ic229 : IC :=
 (.seq
 (.region [] [] [0, 8, 7, 9, 1, 5, 16, 4] [
 ⟨(some 4), (.move (.k (rI .i64 0))), none, none⟩])
 (.seq
 (.seq
 (.region [] [] [0, 8, 7, 9, 1, 5, 16, 4] [
 ⟨(some 6), (.move (.t 0)), none, none⟩,
 ⟨(some 7), (.len (.t 6)), none, none⟩,
 ⟨(some 8), (.move (.k (rI .i64 0))), none, none⟩])
 (.block 0
 (.loop ic229l0)))
 (.seq
 (.region [] [] [0, 8, 7, 9, 1, 5, 16, 4] [
 ⟨(some 4), (.move (.k (rI .i64 (-1)))), none, none⟩])
 .ret)))
def ir229 : List IRes := [.tmp 4]
theorem ie229 : cmpFunc Go.Proofs.Try.prog ⟨[(16, none)], []⟩ Go.Proofs.Try.f138 [0, 8, 7, 9, 1, 5, 16, 4] = some ic229 := by kernel_rfl
theorem ig229 : cmpRes Go.Proofs.Try.prog Go.Proofs.Try.f138.results.toList = some ir229 := by kernel_rfl

end Go.Proofs.Ytiomojlcnemnhaa

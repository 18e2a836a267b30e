/- Functions of the seat, as the small language has them. -/
import Derived.Test.YtiomojlcnemnhaaGreatDoorJFxWb
import Derived.Test.YtiomojlcnemnhaaGreatDoorProg
import Derived.KernelRfl
namespace Go.Proofs.YtiomojlcnemnhaaGreatDoor
open Go.Fx

/-- pedigree/pedigreelaw07.CheckJobs -/
def ic2010 : IC :=
 (.seq
 (.region [] [] [0, 1, 9, 5, 6, 4] [
 ⟨(some 4), (.move (.k (rB false))), none, none⟩])
 (.seq
 (.seq
 (.region [] [] [0, 1, 9, 5, 6, 4] [
 ⟨(some 7), (.move (.t 0)), none, none⟩,
 ⟨(some 8), (.move (.t 1)), none, none⟩,
 ⟨(some 9), (.callp (.k (rF 35)) [(.t 7), (.t 8)]), none, none⟩])
 (.cond (.t 9)
 (.seq
 (.region [] [] [0, 1, 9, 5, 6, 4] [
 ⟨(some 4), (.move (.k (rB true))), none, none⟩])
 .ret)
 .skip))
 (.seq
 (.region [] [] [0, 1, 9, 5, 6, 4] [
 ⟨(some 10), (.move (.t 0)), none, none⟩,
 ⟨(some 11), (.callp (.k (rF 57)) [(.t 10)]), none, none⟩,
 ⟨(some 5), (.move (.t 11)), none, none⟩])
 (.seq
 (.region [] [] [0, 1, 9, 5, 6, 4] [
 ⟨(some 12), (.move (.t 1)), none, none⟩,
 ⟨(some 13), (.callp (.k (rF 37)) [(.t 12)]), none, none⟩,
 ⟨(some 6), (.move (.t 13)), none, none⟩])
 (.seq
 (.region [] [] [0, 1, 9, 5, 6, 4] [
 ⟨(some 14), (.move (.t 5)), none, none⟩,
 ⟨(some 15), (.move (.t 6)), none, none⟩,
 ⟨(some 16), (.callp (.k (rF 58)) [(.t 14), (.t 15)]), none, none⟩,
 ⟨(some 17), (.move (.t 0)), none, none⟩,
 ⟨(some 18), (.move (.t 1)), none, none⟩,
 ⟨(some 19), (.callp (.k (rF 59)) [(.t 17), (.t 18)]), none, none⟩,
 ⟨(some 20), (.bin .eql (.t 16) (.t 19)), none, none⟩,
 ⟨(some 21), (.move (.t 20)), none, none⟩,
 ⟨(some 22), (.move (.t 5)), some (21, true), none⟩,
 ⟨(some 23), (.move (.t 0)), some (21, true), none⟩,
 ⟨(some 24), (.callp (.k (rF 60)) [(.t 22), (.t 23)]), some (21, true), none⟩,
 ⟨(some 25), (.pick (.t 21) (.t 24) (.k (rB false))), none, none⟩,
 ⟨(some 26), (.move (.t 25)), none, none⟩,
 ⟨(some 27), (.move (.t 6)), some (26, true), none⟩,
 ⟨(some 28), (.move (.t 1)), some (26, true), none⟩,
 ⟨(some 29), (.callp (.k (rF 41)) [(.t 27), (.t 28)]), some (26, true), none⟩,
 ⟨(some 30), (.pick (.t 26) (.t 29) (.k (rB false))), none, none⟩,
 ⟨(some 4), (.move (.t 30)), none, none⟩])
 .ret)))))
def ir2010 : List IRes := [.tmp 4]
theorem ie2010 : cmpFunc Go.Proofs.Tryz.prog ⟨[], []⟩ Go.Proofs.Tryz.f10 [0, 1, 9, 5, 6, 4] = some ic2010 := by kernel_rfl
theorem ig2010 : cmpRes Go.Proofs.Tryz.prog Go.Proofs.Tryz.f10.results.toList = some ir2010 := by kernel_rfl

def ic2042l0 : IC :=
 (.seq
 (.seq
 (.region [] [] [0, 8, 2, 7, 17, 6, 9, 1, 37, 59, 4, 5] [
 ⟨(some 10), (.move (.t 8)), none, none⟩,
 ⟨(some 11), (.faddr 0 (.t 2)), none, none⟩,
 ⟨(some 12), (.load none (.t 11)), none, none⟩,
 ⟨(some 13), (.len (.t 12)), none, none⟩,
 ⟨(some 14), (.bin .lss (.t 10) (.t 13)), none, none⟩,
 ⟨(some 15), (.move (.t 14)), none, none⟩,
 ⟨(some 16), (.move (.t 7)), some (15, true), none⟩,
 ⟨(some 17), (.pick (.t 15) (.t 16) (.k (rB false))), none, none⟩])
 (.cond (.t 17)
 .skip
 (.exit 0)))
 (.seq
 (.block 1
 (.region [] [] [0, 8, 2, 7, 17, 6, 9, 1, 37, 59, 4, 5] [
 ⟨(some 21), (.move (.t 6)), none, none⟩,
 ⟨(some 22), (.faddr 0 (.t 2)), none, none⟩,
 ⟨(some 23), (.load none (.t 22)), none, none⟩,
 ⟨(some 24), (.move (.t 8)), none, none⟩,
 ⟨(some 25), (.iaddr 3 (.t 23) (.t 24)), none, none⟩,
 ⟨(some 26), (.load (some 3) (.t 25)), none, none⟩,
 ⟨(some 27), (.callp (.k (rF 131)) [(.t 26)]), none, none⟩,
 ⟨(some 28), (.callp (.k (rF 127)) [(.t 21), (.t 27)]), none, none⟩,
 ⟨(some 20), (.move (.t 28)), none, none⟩,
 ⟨(some 29), (.ext (.t 20) 0), none, none⟩,
 ⟨(some 30), (.ext (.t 20) 1), none, none⟩,
 ⟨(some 6), (.move (.t 29)), none, none⟩,
 ⟨(some 7), (.move (.t 30)), none, none⟩]))
 (.region [] [] [0, 8, 2, 7, 17, 6, 9, 1, 37, 59, 4, 5] [
 ⟨(some 18), (.move (.t 8)), none, none⟩,
 ⟨(some 19), (.bin .add (.t 18) (.k (rI .i64 1))), none, none⟩,
 ⟨(some 8), (.move (.t 19)), none, none⟩])))

def ic2042l1 : IC :=
 (.seq
 (.seq
 (.region [] [] [0, 8, 2, 7, 17, 6, 9, 1, 37, 59, 4, 5] [
 ⟨(some 31), (.move (.t 9)), none, none⟩,
 ⟨(some 32), (.move (.t 1)), none, none⟩,
 ⟨(some 33), (.len (.t 32)), none, none⟩,
 ⟨(some 34), (.bin .lss (.t 31) (.t 33)), none, none⟩,
 ⟨(some 35), (.move (.t 34)), none, none⟩,
 ⟨(some 36), (.move (.t 7)), some (35, true), none⟩,
 ⟨(some 37), (.pick (.t 35) (.t 36) (.k (rB false))), none, none⟩])
 (.cond (.t 37)
 .skip
 (.exit 2)))
 (.seq
 (.block 3
 (.region [54] [] [0, 8, 2, 7, 17, 6, 9, 1, 37, 59, 4, 5] [
 ⟨(some 41), (.move (.t 6)), none, none⟩,
 ⟨(some 42), (.move (.t 1)), none, none⟩,
 ⟨(some 43), (.move (.t 9)), none, none⟩,
 ⟨(some 44), (.iaddr 2 (.t 42) (.t 43)), none, none⟩,
 ⟨(some 45), (.faddr 0 (.t 44)), none, none⟩,
 ⟨(some 46), (.load none (.t 45)), none, none⟩,
 ⟨(some 47), (.move (.t 1)), none, none⟩,
 ⟨(some 48), (.move (.t 9)), none, none⟩,
 ⟨(some 49), (.iaddr 2 (.t 47) (.t 48)), none, none⟩,
 ⟨(some 50), (.faddr 1 (.t 49)), none, none⟩,
 ⟨(some 51), (.load none (.t 50)), none, none⟩,
 ⟨(some 52), (.len (.t 51)), none, none⟩,
 ⟨(some 53), (.build [(.c (.v (.string (bs [])))), (.c (.v (.int .i64 0)))] [(0, 1, (.t 46)), (1, 1, (.t 52))]), none, none⟩,
 ⟨(some 54), (.row 168 2 [(.t 53)]), none, none⟩,
 ⟨(some 55), (.callp (.k (rF 127)) [(.t 41), (.t 54)]), none, none⟩,
 ⟨(some 40), (.move (.t 55)), none, none⟩,
 ⟨(some 56), (.ext (.t 40) 0), none, none⟩,
 ⟨(some 57), (.ext (.t 40) 1), none, none⟩,
 ⟨(some 6), (.move (.t 56)), none, none⟩,
 ⟨(some 7), (.move (.t 57)), none, none⟩]))
 (.region [] [] [0, 8, 2, 7, 17, 6, 9, 1, 37, 59, 4, 5] [
 ⟨(some 38), (.move (.t 9)), none, none⟩,
 ⟨(some 39), (.bin .add (.t 38) (.k (rI .i64 1))), none, none⟩,
 ⟨(some 9), (.move (.t 39)), none, none⟩])))

/-- pedigree/pedigreeref07.Preds -/
def ic2042 : IC :=
 (.seq
 (.region [2] [] [0, 8, 2, 7, 17, 6, 9, 1, 37, 59, 4, 5] [
 ⟨(some 2), (.box 47 (.t 0)), none, none⟩,
 ⟨(some 4), (.move (.k (.x (.one .nil)))), none, none⟩,
 ⟨(some 5), (.move (.k (rI .i64 0))), none, none⟩])
 (.seq
 (.region [] [] [0, 8, 2, 7, 17, 6, 9, 1, 37, 59, 4, 5] [
 ⟨(some 6), (.move (.k (.x (.one .nil)))), none, none⟩])
 (.seq
 (.region [] [] [0, 8, 2, 7, 17, 6, 9, 1, 37, 59, 4, 5] [
 ⟨(some 7), (.move (.k (rB true))), none, none⟩])
 (.seq
 (.seq
 (.region [] [] [0, 8, 2, 7, 17, 6, 9, 1, 37, 59, 4, 5] [
 ⟨(some 8), (.move (.k (rI .i64 0))), none, none⟩])
 (.block 0
 (.loop ic2042l0)))
 (.seq
 (.seq
 (.region [] [] [0, 8, 2, 7, 17, 6, 9, 1, 37, 59, 4, 5] [
 ⟨(some 9), (.move (.k (rI .i64 0))), none, none⟩])
 (.block 2
 (.loop ic2042l1)))
 (.seq
 (.seq
 (.region [] [] [0, 8, 2, 7, 17, 6, 9, 1, 37, 59, 4, 5] [
 ⟨(some 58), (.move (.t 7)), none, none⟩,
 ⟨(some 59), (.un .not (.t 58)), none, none⟩])
 (.cond (.t 59)
 (.seq
 (.region [] [] [0, 8, 2, 7, 17, 6, 9, 1, 37, 59, 4, 5] [
 ⟨(some 4), (.move (.k (.x (.one .nil)))), none, none⟩,
 ⟨(some 5), (.move (.k (rI .i64 72))), none, none⟩])
 .ret)
 .skip))
 (.seq
 (.region [] [] [0, 8, 2, 7, 17, 6, 9, 1, 37, 59, 4, 5] [
 ⟨(some 60), (.move (.t 6)), none, none⟩,
 ⟨(some 4), (.move (.t 60)), none, none⟩,
 ⟨(some 5), (.move (.k (rI .i64 0))), none, none⟩])
 .ret)))))))
def ir2042 : List IRes := [.tmp 4, .tmp 5]
theorem ie2042 : cmpFunc Go.Proofs.Tryz.prog ⟨[], []⟩ Go.Proofs.Tryz.f42 [0, 8, 2, 7, 17, 6, 9, 1, 37, 59, 4, 5] = some ic2042 := by kernel_rfl
theorem ig2042 : cmpRes Go.Proofs.Tryz.prog Go.Proofs.Tryz.f42.results.toList = some ir2042 := by kernel_rfl

def ic2059l0 : IC :=
 (.seq
 (.seq
 (.region [] [] [5, 0, 13, 6, 22, 7, 1, 27, 35, 9, 4] [
 ⟨(some 10), (.move (.t 5)), none, none⟩,
 ⟨(some 11), (.move (.t 0)), none, none⟩,
 ⟨(some 12), (.len (.t 11)), none, none⟩,
 ⟨(some 13), (.bin .lss (.t 10) (.t 12)), none, none⟩])
 (.cond (.t 13)
 .skip
 (.exit 0)))
 (.seq
 (.block 1
 (.seq
 (.region [] [] [5, 0, 13, 6, 22, 7, 1, 27, 35, 9, 4] [
 ⟨(some 16), (.move (.t 0)), none, none⟩,
 ⟨(some 17), (.move (.t 5)), none, none⟩,
 ⟨(some 18), (.iaddr 3 (.t 16) (.t 17)), none, none⟩,
 ⟨(some 19), (.load (some 3) (.t 18)), none, none⟩,
 ⟨(some 20), (.callp (.k (rF 27)) [(.t 19)]), none, none⟩,
 ⟨(some 6), (.move (.t 20)), none, none⟩])
 (.seq
 (.region [] [] [5, 0, 13, 6, 22, 7, 1, 27, 35, 9, 4] [
 ⟨(some 21), (.move (.t 6)), none, none⟩,
 ⟨(some 22), (.bin .neq (.t 21) (.k (rI .i64 0))), none, none⟩])
 (.cond (.t 22)
 (.seq
 (.region [] [] [5, 0, 13, 6, 22, 7, 1, 27, 35, 9, 4] [
 ⟨(some 23), (.move (.t 6)), none, none⟩,
 ⟨(some 4), (.move (.t 23)), none, none⟩])
 .ret)
 .skip))))
 (.region [] [] [5, 0, 13, 6, 22, 7, 1, 27, 35, 9, 4] [
 ⟨(some 14), (.move (.t 5)), none, none⟩,
 ⟨(some 15), (.bin .add (.t 14) (.k (rI .i64 1))), none, none⟩,
 ⟨(some 5), (.move (.t 15)), none, none⟩])))

def ic2059l1 : IC :=
 (.seq
 (.seq
 (.region [] [] [5, 0, 13, 6, 22, 7, 1, 27, 35, 9, 4] [
 ⟨(some 24), (.move (.t 7)), none, none⟩,
 ⟨(some 25), (.move (.t 1)), none, none⟩,
 ⟨(some 26), (.len (.t 25)), none, none⟩,
 ⟨(some 27), (.bin .lss (.t 24) (.t 26)), none, none⟩])
 (.cond (.t 27)
 .skip
 (.exit 2)))
 (.seq
 (.block 3
 (.seq
 (.region [] [] [5, 0, 13, 6, 22, 7, 1, 27, 35, 9, 4] [
 ⟨(some 30), (.move (.t 1)), none, none⟩,
 ⟨(some 31), (.move (.t 7)), none, none⟩,
 ⟨(some 32), (.iaddr 2 (.t 30) (.t 31)), none, none⟩,
 ⟨(some 33), (.load (some 2) (.t 32)), none, none⟩,
 ⟨(some 34), (.callp (.k (rF 160)) [(.t 33)]), none, none⟩,
 ⟨(some 35), (.un .not (.t 34)), none, none⟩])
 (.cond (.t 35)
 (.seq
 (.region [] [] [5, 0, 13, 6, 22, 7, 1, 27, 35, 9, 4] [
 ⟨(some 4), (.move (.k (rI .i64 10))), none, none⟩])
 .ret)
 .skip)))
 (.region [] [] [5, 0, 13, 6, 22, 7, 1, 27, 35, 9, 4] [
 ⟨(some 28), (.move (.t 7)), none, none⟩,
 ⟨(some 29), (.bin .add (.t 28) (.k (rI .i64 1))), none, none⟩,
 ⟨(some 7), (.move (.t 29)), none, none⟩])))

/-- pedigree/pedigreeref07.Job -/
def ic2059 : IC :=
 (.seq
 (.region [] [] [5, 0, 13, 6, 22, 7, 1, 27, 35, 9, 4] [
 ⟨(some 4), (.move (.k (rI .i64 0))), none, none⟩])
 (.seq
 (.seq
 (.region [] [] [5, 0, 13, 6, 22, 7, 1, 27, 35, 9, 4] [
 ⟨(some 5), (.move (.k (rI .i64 0))), none, none⟩])
 (.block 0
 (.loop ic2059l0)))
 (.seq
 (.seq
 (.region [] [] [5, 0, 13, 6, 22, 7, 1, 27, 35, 9, 4] [
 ⟨(some 7), (.move (.k (rI .i64 0))), none, none⟩])
 (.block 2
 (.loop ic2059l1)))
 (.seq
 (.region [] [] [5, 0, 13, 6, 22, 7, 1, 27, 35, 9, 4] [
 ⟨(some 37), (.move (.t 0)), none, none⟩,
 ⟨(some 38), (.build [.nil] [(0, 1, (.t 37))]), none, none⟩,
 ⟨(some 39), (.move (.t 1)), none, none⟩,
 ⟨(some 40), (.callp (.k (rF 42)) [(.t 38), (.t 39)]), none, none⟩,
 ⟨(some 36), (.move (.t 40)), none, none⟩,
 ⟨(some 41), (.ext (.t 36) 0), none, none⟩,
 ⟨(some 42), (.ext (.t 36) 1), none, none⟩,
 ⟨(some 8), (.move (.t 41)), none, none⟩,
 ⟨(some 9), (.move (.t 42)), none, none⟩])
 (.seq
 (.region [] [] [5, 0, 13, 6, 22, 7, 1, 27, 35, 9, 4] [
 ⟨(some 43), (.move (.t 9)), none, none⟩,
 ⟨(some 4), (.move (.t 43)), none, none⟩])
 .ret)))))
def ir2059 : List IRes := [.tmp 4]
theorem ie2059 : cmpFunc Go.Proofs.Tryz.prog ⟨[], []⟩ Go.Proofs.Tryz.f59 [5, 0, 13, 6, 22, 7, 1, 27, 35, 9, 4] = some ic2059 := by kernel_rfl
theorem ig2059 : cmpRes Go.Proofs.Tryz.prog Go.Proofs.Tryz.f59.results.toList = some ir2059 := by kernel_rfl

end Go.Proofs.YtiomojlcnemnhaaGreatDoor

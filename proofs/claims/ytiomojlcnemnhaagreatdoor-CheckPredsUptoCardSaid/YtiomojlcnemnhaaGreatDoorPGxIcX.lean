/- Functions of the seat, as the small language has them. -/
import Derived.Test.YtiomojlcnemnhaaGreatDoorPFxWb
import Derived.Test.YtiomojlcnemnhaaGreatDoorProg
import Derived.KernelRfl
namespace Go.Proofs.YtiomojlcnemnhaaGreatDoor
open Go.Fx

/-- pedigree/pedigreelaw07.CheckPreds -/
def ic2007 : IC :=
 (.seq
 (.region [2] [] [0, 2, 1, 14, 7, 8, 10, 6, 9, 5, 4] [
 ⟨(some 2), (.box 47 (.t 0)), none, none⟩,
 ⟨(some 4), (.move (.k (rB false))), none, none⟩])
 (.seq
 (.seq
 (.region [] [] [0, 2, 1, 14, 7, 8, 10, 6, 9, 5, 4] [
 ⟨(some 11), (.faddr 0 (.t 2)), none, none⟩,
 ⟨(some 12), (.load none (.t 11)), none, none⟩,
 ⟨(some 13), (.move (.t 1)), none, none⟩,
 ⟨(some 14), (.callp (.k (rF 35)) [(.t 12), (.t 13)]), none, none⟩])
 (.cond (.t 14)
 (.seq
 (.region [] [] [0, 2, 1, 14, 7, 8, 10, 6, 9, 5, 4] [
 ⟨(some 4), (.move (.k (rB true))), none, none⟩])
 .ret)
 .skip))
 (.seq
 (.region [] [] [0, 2, 1, 14, 7, 8, 10, 6, 9, 5, 4] [
 ⟨(some 16), (.load (some 1) (.t 2)), none, none⟩,
 ⟨(some 17), (.move (.t 1)), none, none⟩,
 ⟨(some 18), (.callp (.k (rF 42)) [(.t 16), (.t 17)]), none, none⟩,
 ⟨(some 15), (.move (.t 18)), none, none⟩,
 ⟨(some 19), (.ext (.t 15) 0), none, none⟩,
 ⟨(some 20), (.ext (.t 15) 1), none, none⟩,
 ⟨(some 5), (.move (.t 19)), none, none⟩,
 ⟨(some 6), (.move (.t 20)), none, none⟩])
 (.seq
 (.region [7] [] [0, 2, 1, 14, 7, 8, 10, 6, 9, 5, 4] [
 ⟨(some 21), (.load (some 1) (.t 2)), none, none⟩,
 ⟨(some 22), (.callp (.k (rF 36)) [(.t 21)]), none, none⟩,
 ⟨(some 7), (.zero 47 [.nil]), none, none⟩,
 ⟨none, (.store (some 1) (.t 7) (.t 22)), none, none⟩])
 (.seq
 (.region [] [] [0, 2, 1, 14, 7, 8, 10, 6, 9, 5, 4] [
 ⟨(some 23), (.move (.t 1)), none, none⟩,
 ⟨(some 24), (.callp (.k (rF 37)) [(.t 23)]), none, none⟩,
 ⟨(some 8), (.move (.t 24)), none, none⟩])
 (.seq
 (.region [] [] [0, 2, 1, 14, 7, 8, 10, 6, 9, 5, 4] [
 ⟨(some 26), (.load (some 1) (.t 7)), none, none⟩,
 ⟨(some 27), (.move (.t 8)), none, none⟩,
 ⟨(some 28), (.callp (.k (rF 43)) [(.t 26), (.t 27)]), none, none⟩,
 ⟨(some 25), (.move (.t 28)), none, none⟩,
 ⟨(some 29), (.ext (.t 25) 0), none, none⟩,
 ⟨(some 30), (.ext (.t 25) 1), none, none⟩,
 ⟨(some 9), (.move (.t 29)), none, none⟩,
 ⟨(some 10), (.move (.t 30)), none, none⟩])
 (.seq
 (.region [] [] [0, 2, 1, 14, 7, 8, 10, 6, 9, 5, 4] [
 ⟨(some 31), (.move (.t 10)), none, none⟩,
 ⟨(some 32), (.move (.t 6)), none, none⟩,
 ⟨(some 33), (.bin .eql (.t 31) (.t 32)), none, none⟩,
 ⟨(some 34), (.move (.t 33)), none, none⟩,
 ⟨(some 35), (.move (.t 9)), some (34, true), none⟩,
 ⟨(some 36), (.move (.t 5)), some (34, true), none⟩,
 ⟨(some 37), (.callp (.k (rF 44)) [(.t 35), (.t 36)]), some (34, true), none⟩,
 ⟨(some 38), (.pick (.t 34) (.t 37) (.k (rB false))), none, none⟩,
 ⟨(some 39), (.move (.t 38)), none, none⟩,
 ⟨(some 40), (.load (some 1) (.t 7)), some (39, true), none⟩,
 ⟨(some 41), (.load (some 1) (.t 2)), some (39, true), none⟩,
 ⟨(some 42), (.callp (.k (rF 40)) [(.t 40), (.t 41)]), some (39, true), none⟩,
 ⟨(some 43), (.pick (.t 39) (.t 42) (.k (rB false))), none, none⟩,
 ⟨(some 44), (.move (.t 43)), none, none⟩,
 ⟨(some 45), (.move (.t 8)), some (44, true), none⟩,
 ⟨(some 46), (.move (.t 1)), some (44, true), none⟩,
 ⟨(some 47), (.callp (.k (rF 41)) [(.t 45), (.t 46)]), some (44, true), none⟩,
 ⟨(some 48), (.pick (.t 44) (.t 47) (.k (rB false))), none, none⟩,
 ⟨(some 4), (.move (.t 48)), none, none⟩])
 .ret)))))))
def ir2007 : List IRes := [.tmp 4]
theorem ie2007 : cmpFunc Go.Proofs.Tryz.prog ⟨[], []⟩ Go.Proofs.Tryz.f7 [0, 2, 1, 14, 7, 8, 10, 6, 9, 5, 4] = some ic2007 := by kernel_rfl
theorem ig2007 : cmpRes Go.Proofs.Tryz.prog Go.Proofs.Tryz.f7.results.toList = some ir2007 := by kernel_rfl


def ic2042l0 : IC :=
 (.seq
 (.seq
 (.region [] [] [0, 8, 2, 7, 17, 6, 9, 1, 37, 59, 4, 5] [
 ⟨(some 10), (.move (.t 8)), none, none⟩,
 ⟨(some 11), (.faddr 0 (.t 2)), none, none⟩,
 ⟨(some 12), (.load none (.t 11)), none, none⟩,
 ⟨(some 13), (.len (.t 12)), none, none⟩,
 ⟨(some 14), (.bin .lss (.t 10) (.t 13)), none, none⟩,
 ⟨(some 15), (.move (.t 14)), none, none⟩,
 ⟨(some 16), (.move (.t 7)), some (15, true), none⟩,
 ⟨(some 17), (.pick (.t 15) (.t 16) (.k (rB false))), none, none⟩])
 (.cond (.t 17)
 .skip
 (.exit 0)))
 (.seq
 (.block 1
 (.region [] [] [0, 8, 2, 7, 17, 6, 9, 1, 37, 59, 4, 5] [
 ⟨(some 21), (.move (.t 6)), none, none⟩,
 ⟨(some 22), (.faddr 0 (.t 2)), none, none⟩,
 ⟨(some 23), (.load none (.t 22)), none, none⟩,
 ⟨(some 24), (.move (.t 8)), none, none⟩,
 ⟨(some 25), (.iaddr 3 (.t 23) (.t 24)), none, none⟩,
 ⟨(some 26), (.load (some 3) (.t 25)), none, none⟩,
 ⟨(some 27), (.callp (.k (rF 131)) [(.t 26)]), none, none⟩,
 ⟨(some 28), (.callp (.k (rF 127)) [(.t 21), (.t 27)]), none, none⟩,
 ⟨(some 20), (.move (.t 28)), none, none⟩,
 ⟨(some 29), (.ext (.t 20) 0), none, none⟩,
 ⟨(some 30), (.ext (.t 20) 1), none, none⟩,
 ⟨(some 6), (.move (.t 29)), none, none⟩,
 ⟨(some 7), (.move (.t 30)), none, none⟩]))
 (.region [] [] [0, 8, 2, 7, 17, 6, 9, 1, 37, 59, 4, 5] [
 ⟨(some 18), (.move (.t 8)), none, none⟩,
 ⟨(some 19), (.bin .add (.t 18) (.k (rI .i64 1))), none, none⟩,
 ⟨(some 8), (.move (.t 19)), none, none⟩])))

def ic2042l1 : IC :=
 (.seq
 (.seq
 (.region [] [] [0, 8, 2, 7, 17, 6, 9, 1, 37, 59, 4, 5] [
 ⟨(some 31), (.move (.t 9)), none, none⟩,
 ⟨(some 32), (.move (.t 1)), none, none⟩,
 ⟨(some 33), (.len (.t 32)), none, none⟩,
 ⟨(some 34), (.bin .lss (.t 31) (.t 33)), none, none⟩,
 ⟨(some 35), (.move (.t 34)), none, none⟩,
 ⟨(some 36), (.move (.t 7)), some (35, true), none⟩,
 ⟨(some 37), (.pick (.t 35) (.t 36) (.k (rB false))), none, none⟩])
 (.cond (.t 37)
 .skip
 (.exit 2)))
 (.seq
 (.block 3
 (.region [54] [] [0, 8, 2, 7, 17, 6, 9, 1, 37, 59, 4, 5] [
 ⟨(some 41), (.move (.t 6)), none, none⟩,
 ⟨(some 42), (.move (.t 1)), none, none⟩,
 ⟨(some 43), (.move (.t 9)), none, none⟩,
 ⟨(some 44), (.iaddr 2 (.t 42) (.t 43)), none, none⟩,
 ⟨(some 45), (.faddr 0 (.t 44)), none, none⟩,
 ⟨(some 46), (.load none (.t 45)), none, none⟩,
 ⟨(some 47), (.move (.t 1)), none, none⟩,
 ⟨(some 48), (.move (.t 9)), none, none⟩,
 ⟨(some 49), (.iaddr 2 (.t 47) (.t 48)), none, none⟩,
 ⟨(some 50), (.faddr 1 (.t 49)), none, none⟩,
 ⟨(some 51), (.load none (.t 50)), none, none⟩,
 ⟨(some 52), (.len (.t 51)), none, none⟩,
 ⟨(some 53), (.build [(.c (.v (.string (bs [])))), (.c (.v (.int .i64 0)))] [(0, 1, (.t 46)), (1, 1, (.t 52))]), none, none⟩,
 ⟨(some 54), (.row 168 2 [(.t 53)]), none, none⟩,
 ⟨(some 55), (.callp (.k (rF 127)) [(.t 41), (.t 54)]), none, none⟩,
 ⟨(some 40), (.move (.t 55)), none, none⟩,
 ⟨(some 56), (.ext (.t 40) 0), none, none⟩,
 ⟨(some 57), (.ext (.t 40) 1), none, none⟩,
 ⟨(some 6), (.move (.t 56)), none, none⟩,
 ⟨(some 7), (.move (.t 57)), none, none⟩]))
 (.region [] [] [0, 8, 2, 7, 17, 6, 9, 1, 37, 59, 4, 5] [
 ⟨(some 38), (.move (.t 9)), none, none⟩,
 ⟨(some 39), (.bin .add (.t 38) (.k (rI .i64 1))), none, none⟩,
 ⟨(some 9), (.move (.t 39)), none, none⟩])))

/-- pedigree/pedigreeref07.Preds -/
def ic2042 : IC :=
 (.seq
 (.region [2] [] [0, 8, 2, 7, 17, 6, 9, 1, 37, 59, 4, 5] [
 ⟨(some 2), (.box 47 (.t 0)), none, none⟩,
 ⟨(some 4), (.move (.k (.x (.one .nil)))), none, none⟩,
 ⟨(some 5), (.move (.k (rI .i64 0))), none, none⟩])
 (.seq
 (.region [] [] [0, 8, 2, 7, 17, 6, 9, 1, 37, 59, 4, 5] [
 ⟨(some 6), (.move (.k (.x (.one .nil)))), none, none⟩])
 (.seq
 (.region [] [] [0, 8, 2, 7, 17, 6, 9, 1, 37, 59, 4, 5] [
 ⟨(some 7), (.move (.k (rB true))), none, none⟩])
 (.seq
 (.seq
 (.region [] [] [0, 8, 2, 7, 17, 6, 9, 1, 37, 59, 4, 5] [
 ⟨(some 8), (.move (.k (rI .i64 0))), none, none⟩])
 (.block 0
 (.loop ic2042l0)))
 (.seq
 (.seq
 (.region [] [] [0, 8, 2, 7, 17, 6, 9, 1, 37, 59, 4, 5] [
 ⟨(some 9), (.move (.k (rI .i64 0))), none, none⟩])
 (.block 2
 (.loop ic2042l1)))
 (.seq
 (.seq
 (.region [] [] [0, 8, 2, 7, 17, 6, 9, 1, 37, 59, 4, 5] [
 ⟨(some 58), (.move (.t 7)), none, none⟩,
 ⟨(some 59), (.un .not (.t 58)), none, none⟩])
 (.cond (.t 59)
 (.seq
 (.region [] [] [0, 8, 2, 7, 17, 6, 9, 1, 37, 59, 4, 5] [
 ⟨(some 4), (.move (.k (.x (.one .nil)))), none, none⟩,
 ⟨(some 5), (.move (.k (rI .i64 72))), none, none⟩])
 .ret)
 .skip))
 (.seq
 (.region [] [] [0, 8, 2, 7, 17, 6, 9, 1, 37, 59, 4, 5] [
 ⟨(some 60), (.move (.t 6)), none, none⟩,
 ⟨(some 4), (.move (.t 60)), none, none⟩,
 ⟨(some 5), (.move (.k (rI .i64 0))), none, none⟩])
 .ret)))))))
def ir2042 : List IRes := [.tmp 4, .tmp 5]
theorem ie2042 : cmpFunc Go.Proofs.Tryz.prog ⟨[], []⟩ Go.Proofs.Tryz.f42 [0, 8, 2, 7, 17, 6, 9, 1, 37, 59, 4, 5] = some ic2042 := by kernel_rfl
theorem ig2042 : cmpRes Go.Proofs.Tryz.prog Go.Proofs.Tryz.f42.results.toList = some ir2042 := by kernel_rfl

def ic2044l0 : IC :=
 (.seq
 (.seq
 (.region [] [] [0, 1, 10, 5, 14, 25, 4] [
 ⟨(some 11), (.move (.t 5)), none, none⟩,
 ⟨(some 12), (.move (.t 0)), none, none⟩,
 ⟨(some 13), (.len (.t 12)), none, none⟩,
 ⟨(some 14), (.bin .lss (.t 11) (.t 13)), none, none⟩])
 (.cond (.t 14)
 .skip
 (.exit 0)))
 (.seq
 (.block 1
 (.seq
 (.region [] [] [0, 1, 10, 5, 14, 25, 4] [
 ⟨(some 17), (.move (.t 0)), none, none⟩,
 ⟨(some 18), (.move (.t 5)), none, none⟩,
 ⟨(some 19), (.iaddr 2 (.t 17) (.t 18)), none, none⟩,
 ⟨(some 20), (.load (some 2) (.t 19)), none, none⟩,
 ⟨(some 21), (.move (.t 1)), none, none⟩,
 ⟨(some 22), (.move (.t 5)), none, none⟩,
 ⟨(some 23), (.iaddr 2 (.t 21) (.t 22)), none, none⟩,
 ⟨(some 24), (.load (some 2) (.t 23)), none, none⟩,
 ⟨(some 25), (.eqs true [.s, .i .i64] (.t 20) (.t 24)), none, none⟩])
 (.cond (.t 25)
 (.seq
 (.region [] [] [0, 1, 10, 5, 14, 25, 4] [
 ⟨(some 4), (.move (.k (rB false))), none, none⟩])
 .ret)
 .skip)))
 (.region [] [] [0, 1, 10, 5, 14, 25, 4] [
 ⟨(some 15), (.move (.t 5)), none, none⟩,
 ⟨(some 16), (.bin .add (.t 15) (.k (rI .i64 1))), none, none⟩,
 ⟨(some 5), (.move (.t 16)), none, none⟩])))

/-- pedigree/pedigreelaw01.SamePreds -/
def ic2044 : IC :=
 (.seq
 (.region [] [] [0, 1, 10, 5, 14, 25, 4] [
 ⟨(some 4), (.move (.k (rB false))), none, none⟩])
 (.seq
 (.seq
 (.region [] [] [0, 1, 10, 5, 14, 25, 4] [
 ⟨(some 6), (.move (.t 0)), none, none⟩,
 ⟨(some 7), (.len (.t 6)), none, none⟩,
 ⟨(some 8), (.move (.t 1)), none, none⟩,
 ⟨(some 9), (.len (.t 8)), none, none⟩,
 ⟨(some 10), (.bin .neq (.t 7) (.t 9)), none, none⟩])
 (.cond (.t 10)
 (.seq
 (.region [] [] [0, 1, 10, 5, 14, 25, 4] [
 ⟨(some 4), (.move (.k (rB false))), none, none⟩])
 .ret)
 .skip))
 (.seq
 (.seq
 (.region [] [] [0, 1, 10, 5, 14, 25, 4] [
 ⟨(some 5), (.move (.k (rI .i64 0))), none, none⟩])
 (.block 0
 (.loop ic2044l0)))
 (.seq
 (.region [] [] [0, 1, 10, 5, 14, 25, 4] [
 ⟨(some 4), (.move (.k (rB true))), none, none⟩])
 .ret))))
def ir2044 : List IRes := [.tmp 4]
theorem ie2044 : cmpFunc Go.Proofs.Tryz.prog ⟨[], []⟩ Go.Proofs.Tryz.f44 [0, 1, 10, 5, 14, 25, 4] = some ic2044 := by kernel_rfl
theorem ig2044 : cmpRes Go.Proofs.Tryz.prog Go.Proofs.Tryz.f44.results.toList = some ir2044 := by kernel_rfl

end Go.Proofs.YtiomojlcnemnhaaGreatDoor

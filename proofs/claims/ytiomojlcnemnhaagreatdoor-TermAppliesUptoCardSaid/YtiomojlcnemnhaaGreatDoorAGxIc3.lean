/- Functions of the seat, as the small language has them. -/
import Derived.Test.YtiomojlcnemnhaaGreatDoorAFxWb
import Derived.Test.YtiomojlcnemnhaaGreatDoorProg
import Derived.KernelRfl
namespace Go.Proofs.YtiomojlcnemnhaaGreatDoor
open Go.Fx

/-- pedigree/pedigreelaw04.TermApplies -/
def ic2003 : IC :=
 (.seq
 (.region [4, 5] [] [1, 2, 5, 16, 0, 4, 7, 8, 9, 12, 14, 11, 13, 10, 6] [
 ⟨(some 4), (.box 25 (.t 1)), none, none⟩,
 ⟨(some 5), (.box 29 (.t 2)), none, none⟩,
 ⟨(some 6), (.move (.k (rB false))), none, none⟩])
 (.seq
 (.seq
 (.region [] [] [1, 2, 5, 16, 0, 4, 7, 8, 9, 12, 14, 11, 13, 10, 6] [
 ⟨(some 15), (.load (some 3) (.t 5)), none, none⟩,
 ⟨(some 16), (.callp (.k (rF 13)) [(.t 15)]), none, none⟩])
 (.cond (.t 16)
 (.seq
 (.region [] [] [1, 2, 5, 16, 0, 4, 7, 8, 9, 12, 14, 11, 13, 10, 6] [
 ⟨(some 6), (.move (.k (rB true))), none, none⟩])
 .ret)
 .skip))
 (.seq
 (.region [] [] [1, 2, 5, 16, 0, 4, 7, 8, 9, 12, 14, 11, 13, 10, 6] [
 ⟨(some 17), (.move (.t 0)), none, none⟩,
 ⟨(some 18), (.callp (.k (rF 14)) [(.t 17)]), none, none⟩,
 ⟨(some 7), (.move (.t 18)), none, none⟩])
 (.seq
 (.region [8] [] [1, 2, 5, 16, 0, 4, 7, 8, 9, 12, 14, 11, 13, 10, 6] [
 ⟨(some 19), (.load (some 2) (.t 4)), none, none⟩,
 ⟨(some 20), (.callp (.k (rF 15)) [(.t 19)]), none, none⟩,
 ⟨(some 8), (.zero 25 [(.c (.v (.string (bs [])))), .nil]), none, none⟩,
 ⟨none, (.store (some 2) (.t 8) (.t 20)), none, none⟩])
 (.seq
 (.region [9] [] [1, 2, 5, 16, 0, 4, 7, 8, 9, 12, 14, 11, 13, 10, 6] [
 ⟨(some 21), (.load (some 3) (.t 5)), none, none⟩,
 ⟨(some 22), (.callp (.k (rF 16)) [(.t 21)]), none, none⟩,
 ⟨(some 9), (.zero 29 [(.c (.v (.string (bs [])))), .nil, .nil]), none, none⟩,
 ⟨none, (.store (some 3) (.t 9) (.t 22)), none, none⟩])
 (.seq
 (.region [10] [] [1, 2, 5, 16, 0, 4, 7, 8, 9, 12, 14, 11, 13, 10, 6] [
 ⟨(some 24), (.move (.t 0)), none, none⟩,
 ⟨(some 25), (.load (some 3) (.t 5)), none, none⟩,
 ⟨(some 26), (.callp (.k (rF 17)) [(.t 24), (.t 25)]), none, none⟩,
 ⟨(some 23), (.move (.t 26)), none, none⟩,
 ⟨(some 27), (.ext (.t 23) 0), none, none⟩,
 ⟨(some 28), (.ext (.t 23) 1), none, none⟩,
 ⟨(some 10), (.zero 29 [(.c (.v (.string (bs [])))), .nil, .nil]), none, none⟩,
 ⟨none, (.store (some 3) (.t 10) (.t 27)), none, none⟩,
 ⟨(some 11), (.move (.t 28)), none, none⟩])
 (.seq
 (.region [12] [] [1, 2, 5, 16, 0, 4, 7, 8, 9, 12, 14, 11, 13, 10, 6] [
 ⟨(some 29), (.move (.t 7)), none, none⟩,
 ⟨(some 30), (.load (some 2) (.t 8)), none, none⟩,
 ⟨(some 31), (.callp (.k (rF 18)) [(.t 29), (.t 30)]), none, none⟩,
 ⟨(some 12), (.zero 25 [(.c (.v (.string (bs [])))), .nil]), none, none⟩,
 ⟨none, (.store (some 2) (.t 12) (.t 31)), none, none⟩])
 (.seq
 (.region [13] [] [1, 2, 5, 16, 0, 4, 7, 8, 9, 12, 14, 11, 13, 10, 6] [
 ⟨(some 33), (.move (.t 7)), none, none⟩,
 ⟨(some 34), (.load (some 3) (.t 9)), none, none⟩,
 ⟨(some 35), (.callp (.k (rF 19)) [(.t 33), (.t 34)]), none, none⟩,
 ⟨(some 32), (.move (.t 35)), none, none⟩,
 ⟨(some 36), (.ext (.t 32) 0), none, none⟩,
 ⟨(some 37), (.ext (.t 32) 1), none, none⟩,
 ⟨(some 13), (.zero 29 [(.c (.v (.string (bs [])))), .nil, .nil]), none, none⟩,
 ⟨none, (.store (some 3) (.t 13) (.t 36)), none, none⟩,
 ⟨(some 14), (.move (.t 37)), none, none⟩])
 (.seq
 (.region [] [] [1, 2, 5, 16, 0, 4, 7, 8, 9, 12, 14, 11, 13, 10, 6] [
 ⟨(some 38), (.load (some 2) (.t 12)), none, none⟩,
 ⟨(some 39), (.move (.t 0)), none, none⟩,
 ⟨(some 40), (.load (some 2) (.t 4)), none, none⟩,
 ⟨(some 41), (.callp (.k (rF 21)) [(.t 39), (.t 40)]), none, none⟩,
 ⟨(some 42), (.callp (.k (rF 20)) [(.t 38), (.t 41)]), none, none⟩,
 ⟨(some 43), (.move (.t 42)), none, none⟩,
 ⟨(some 44), (.move (.t 14)), some (43, true), none⟩,
 ⟨(some 45), (.move (.t 11)), some (43, true), none⟩,
 ⟨(some 46), (.bin .eql (.t 44) (.t 45)), some (43, true), none⟩,
 ⟨(some 47), (.pick (.t 43) (.t 46) (.k (rB false))), none, none⟩,
 ⟨(some 48), (.move (.t 47)), none, none⟩,
 ⟨(some 49), (.load (some 3) (.t 13)), some (48, true), none⟩,
 ⟨(some 50), (.load (some 3) (.t 10)), some (48, true), none⟩,
 ⟨(some 51), (.callp (.k (rF 22)) [(.t 49), (.t 50)]), some (48, true), none⟩,
 ⟨(some 52), (.pick (.t 48) (.t 51) (.k (rB false))), none, none⟩,
 ⟨(some 53), (.move (.t 52)), none, none⟩,
 ⟨(some 54), (.move (.t 7)), some (53, true), none⟩,
 ⟨(some 55), (.move (.t 0)), some (53, true), none⟩,
 ⟨(some 56), (.callp (.k (rF 23)) [(.t 54), (.t 55)]), some (53, true), none⟩,
 ⟨(some 57), (.pick (.t 53) (.t 56) (.k (rB false))), none, none⟩,
 ⟨(some 58), (.move (.t 57)), none, none⟩,
 ⟨(some 59), (.load (some 2) (.t 8)), some (58, true), none⟩,
 ⟨(some 60), (.load (some 2) (.t 4)), some (58, true), none⟩,
 ⟨(some 61), (.callp (.k (rF 24)) [(.t 59), (.t 60)]), some (58, true), none⟩,
 ⟨(some 62), (.pick (.t 58) (.t 61) (.k (rB false))), none, none⟩,
 ⟨(some 63), (.move (.t 62)), none, none⟩,
 ⟨(some 64), (.load (some 3) (.t 9)), some (63, true), none⟩,
 ⟨(some 65), (.load (some 3) (.t 5)), some (63, true), none⟩,
 ⟨(some 66), (.callp (.k (rF 25)) [(.t 64), (.t 65)]), some (63, true), none⟩,
 ⟨(some 67), (.pick (.t 63) (.t 66) (.k (rB false))), none, none⟩,
 ⟨(some 6), (.move (.t 67)), none, none⟩])
 .ret)))))))))
def ir2003 : List IRes := [.tmp 6]
theorem ie2003 : cmpFunc Go.Proofs.Tryz.prog ⟨[], []⟩ Go.Proofs.Tryz.f3 [1, 2, 5, 16, 0, 4, 7, 8, 9, 12, 14, 11, 13, 10, 6] = some ic2003 := by kernel_rfl
theorem ig2003 : cmpRes Go.Proofs.Tryz.prog Go.Proofs.Tryz.f3.results.toList = some ir2003 := by kernel_rfl

def ic2014l0 : IC :=
 (.seq
 (.seq
 (.region [] [] [0, 4, 12, 3, 2] [
 ⟨(some 9), (.move (.t 4)), none, none⟩,
 ⟨(some 10), (.move (.t 0)), none, none⟩,
 ⟨(some 11), (.len (.t 10)), none, none⟩,
 ⟨(some 12), (.bin .lss (.t 9) (.t 11)), none, none⟩])
 (.cond (.t 12)
 .skip
 (.exit 0)))
 (.seq
 (.block 1
 (.region [] [] [0, 4, 12, 3, 2] [
 ⟨(some 15), (.move (.t 3)), none, none⟩,
 ⟨(some 16), (.move (.t 4)), none, none⟩,
 ⟨(some 17), (.move (.t 0)), none, none⟩,
 ⟨(some 18), (.move (.t 4)), none, none⟩,
 ⟨(some 19), (.iaddr 5 (.t 17) (.t 18)), none, none⟩,
 ⟨(some 20), (.load (some 5) (.t 19)), none, none⟩,
 ⟨(some 21), (.iaddr 5 (.t 15) (.t 16)), none, none⟩,
 ⟨none, (.store (some 5) (.t 21) (.t 20)), none, none⟩]))
 (.region [] [] [0, 4, 12, 3, 2] [
 ⟨(some 13), (.move (.t 4)), none, none⟩,
 ⟨(some 14), (.bin .add (.t 13) (.k (rI .i64 1))), none, none⟩,
 ⟨(some 4), (.move (.t 14)), none, none⟩])))

/-- pedigree/pedigreelaw01.TwinPairs -/
def ic2014 : IC :=
 (.seq
 (.region [] [] [0, 4, 12, 3, 2] [
 ⟨(some 2), (.move (.k (.x (.one .nil)))), none, none⟩])
 (.seq
 (.region [8] [] [0, 4, 12, 3, 2] [
 ⟨(some 5), (.move (.t 0)), none, none⟩,
 ⟨(some 6), (.len (.t 5)), none, none⟩,
 ⟨(some 7), (.bin .add (.t 6) (.k (rI .i64 1))), none, none⟩,
 ⟨(some 8), (.make 76 5 64 [(.c (.v (.string (bs [])))), (.c (.v (.string (bs [])))), (.c (.v (.int .i8 0))), (.c (.v (.int .i64 0))), (.c (.v (.string (bs []))))] (.t 7) (.t 7)), none, none⟩,
 ⟨(some 3), (.move (.t 8)), none, none⟩])
 (.seq
 (.seq
 (.region [] [] [0, 4, 12, 3, 2] [
 ⟨(some 4), (.move (.k (rI .i64 0))), none, none⟩])
 (.block 0
 (.loop ic2014l0)))
 (.seq
 (.region [] [] [0, 4, 12, 3, 2] [
 ⟨(some 22), (.move (.t 3)), none, none⟩,
 ⟨(some 23), (.move (.t 0)), none, none⟩,
 ⟨(some 24), (.len (.t 23)), none, none⟩,
 ⟨(some 25), (.callp (.k (rF 74)) [(.k (rI .i64 777777))]), none, none⟩,
 ⟨(some 26), (.iaddr 5 (.t 22) (.t 24)), none, none⟩,
 ⟨none, (.store (some 5) (.t 26) (.t 25)), none, none⟩])
 (.seq
 (.region [] [] [0, 4, 12, 3, 2] [
 ⟨(some 27), (.move (.t 3)), none, none⟩,
 ⟨(some 28), (.move (.t 0)), none, none⟩,
 ⟨(some 29), (.len (.t 28)), none, none⟩,
 ⟨(some 30), (.vsl 5 (.t 27) none (some (.t 29))), none, none⟩,
 ⟨(some 2), (.move (.t 30)), none, none⟩])
 .ret)))))
def ir2014 : List IRes := [.tmp 2]
theorem ie2014 : cmpFunc Go.Proofs.Tryz.prog ⟨[], []⟩ Go.Proofs.Tryz.f14 [0, 4, 12, 3, 2] = some ic2014 := by kernel_rfl
theorem ig2014 : cmpRes Go.Proofs.Tryz.prog Go.Proofs.Tryz.f14.results.toList = some ir2014 := by kernel_rfl


/-- pedigree/pedigreeref04.ApplyRule -/
def ic2017 : IC :=
 (.seq
 (.region [3, 4] [] [1, 3, 9, 4, 0, 6, 16, 5] [
 ⟨(some 3), (.box 29 (.t 1)), none, none⟩,
 ⟨(some 4), (.zero 29 [(.c (.v (.string (bs [])))), .nil, .nil]), none, none⟩,
 ⟨(some 5), (.move (.k (rI .i64 0))), none, none⟩])
 (.seq
 (.seq
 (.region [] [] [1, 3, 9, 4, 0, 6, 16, 5] [
 ⟨(some 7), (.load (some 3) (.t 3)), none, none⟩,
 ⟨(some 8), (.callp (.k (rF 77)) [(.t 7)]), none, none⟩,
 ⟨(some 9), (.un .not (.t 8)), none, none⟩])
 (.cond (.t 9)
 (.seq
 (.region [] [] [1, 3, 9, 4, 0, 6, 16, 5] [
 ⟨(some 10), (.build [(.c (.v (.string (bs [])))), .nil, .nil] []), none, none⟩,
 ⟨none, (.store (some 3) (.t 4) (.t 10)), none, none⟩,
 ⟨(some 5), (.move (.k (rI .i64 40))), none, none⟩])
 .ret)
 .skip))
 (.seq
 (.region [6] [] [1, 3, 9, 4, 0, 6, 16, 5] [
 ⟨(some 11), (.move (.t 0)), none, none⟩,
 ⟨(some 12), (.load (some 3) (.t 3)), none, none⟩,
 ⟨(some 13), (.callp (.k (rF 78)) [(.t 11), (.t 12)]), none, none⟩,
 ⟨(some 6), (.zero 29 [(.c (.v (.string (bs [])))), .nil, .nil]), none, none⟩,
 ⟨none, (.store (some 3) (.t 6) (.t 13)), none, none⟩])
 (.seq
 (.seq
 (.region [] [] [1, 3, 9, 4, 0, 6, 16, 5] [
 ⟨(some 14), (.load (some 3) (.t 6)), none, none⟩,
 ⟨(some 15), (.callp (.k (rF 77)) [(.t 14)]), none, none⟩,
 ⟨(some 16), (.un .not (.t 15)), none, none⟩])
 (.cond (.t 16)
 (.seq
 (.region [] [] [1, 3, 9, 4, 0, 6, 16, 5] [
 ⟨(some 17), (.build [(.c (.v (.string (bs [])))), .nil, .nil] []), none, none⟩,
 ⟨none, (.store (some 3) (.t 4) (.t 17)), none, none⟩,
 ⟨(some 5), (.move (.k (rI .i64 40))), none, none⟩])
 .ret)
 .skip))
 (.seq
 (.region [] [] [1, 3, 9, 4, 0, 6, 16, 5] [
 ⟨(some 18), (.load (some 3) (.t 6)), none, none⟩,
 ⟨none, (.store (some 3) (.t 4) (.t 18)), none, none⟩,
 ⟨(some 5), (.move (.k (rI .i64 0))), none, none⟩])
 .ret)))))
def ir2017 : List IRes := [.cell 4 (some 3), .tmp 5]
theorem ie2017 : cmpFunc Go.Proofs.Tryz.prog ⟨[], []⟩ Go.Proofs.Tryz.f17 [1, 3, 9, 4, 0, 6, 16, 5] = some ic2017 := by kernel_rfl
theorem ig2017 : cmpRes Go.Proofs.Tryz.prog Go.Proofs.Tryz.f17.results.toList = some ir2017 := by kernel_rfl

def ic2021l0 : IC :=
 (.seq
 (.seq
 (.region [] [] [1, 3, 6, 14, 5, 0, 4] [
 ⟨(some 10), (.move (.t 6)), none, none⟩,
 ⟨(some 11), (.faddr 1 (.t 3)), none, none⟩,
 ⟨(some 12), (.load none (.t 11)), none, none⟩,
 ⟨(some 13), (.len (.t 12)), none, none⟩,
 ⟨(some 14), (.bin .lss (.t 10) (.t 13)), none, none⟩])
 (.cond (.t 14)
 .skip
 (.exit 0)))
 (.seq
 (.block 1
 (.region [26] [] [1, 3, 6, 14, 5, 0, 4] [
 ⟨(some 17), (.faddr 1 (.t 5)), none, none⟩,
 ⟨(some 18), (.load none (.t 17)), none, none⟩,
 ⟨(some 19), (.move (.t 0)), none, none⟩,
 ⟨(some 20), (.faddr 1 (.t 3)), none, none⟩,
 ⟨(some 21), (.load none (.t 20)), none, none⟩,
 ⟨(some 22), (.move (.t 6)), none, none⟩,
 ⟨(some 23), (.iaddr 4 (.t 21) (.t 22)), none, none⟩,
 ⟨(some 24), (.load (some 4) (.t 23)), none, none⟩,
 ⟨(some 25), (.callp (.k (rF 85)) [(.t 19), (.t 24)]), none, none⟩,
 ⟨(some 26), (.row 73 4 [(.t 25)]), none, none⟩,
 ⟨(some 27), (.app 73 4 48 (.t 18) (.t 26)), none, none⟩,
 ⟨(some 28), (.faddr 1 (.t 5)), none, none⟩,
 ⟨none, (.store (some 1) (.t 28) (.t 27)), none, none⟩]))
 (.region [] [] [1, 3, 6, 14, 5, 0, 4] [
 ⟨(some 15), (.move (.t 6)), none, none⟩,
 ⟨(some 16), (.bin .add (.t 15) (.k (rI .i64 1))), none, none⟩,
 ⟨(some 6), (.move (.t 16)), none, none⟩])))

/-- pedigree/pedigreeref04.Apply -/
def ic2021 : IC :=
 (.seq
 (.region [3, 4] [] [1, 3, 6, 14, 5, 0, 4] [
 ⟨(some 3), (.box 25 (.t 1)), none, none⟩,
 ⟨(some 4), (.zero 25 [(.c (.v (.string (bs [])))), .nil]), none, none⟩])
 (.seq
 (.region [5] [] [1, 3, 6, 14, 5, 0, 4] [
 ⟨(some 7), (.faddr 0 (.t 3)), none, none⟩,
 ⟨(some 8), (.load none (.t 7)), none, none⟩,
 ⟨(some 9), (.build [(.c (.v (.string (bs [])))), .nil] [(0, 1, (.t 8))]), none, none⟩,
 ⟨(some 5), (.zero 25 [(.c (.v (.string (bs [])))), .nil]), none, none⟩,
 ⟨none, (.store (some 2) (.t 5) (.t 9)), none, none⟩])
 (.seq
 (.seq
 (.region [] [] [1, 3, 6, 14, 5, 0, 4] [
 ⟨(some 6), (.move (.k (rI .i64 0))), none, none⟩])
 (.block 0
 (.loop ic2021l0)))
 (.seq
 (.region [] [] [1, 3, 6, 14, 5, 0, 4] [
 ⟨(some 29), (.load (some 2) (.t 5)), none, none⟩,
 ⟨none, (.store (some 2) (.t 4) (.t 29)), none, none⟩])
 .ret))))
def ir2021 : List IRes := [.cell 4 (some 2)]
theorem ie2021 : cmpFunc Go.Proofs.Tryz.prog ⟨[], []⟩ Go.Proofs.Tryz.f21 [1, 3, 6, 14, 5, 0, 4] = some ic2021 := by kernel_rfl
theorem ig2021 : cmpRes Go.Proofs.Tryz.prog Go.Proofs.Tryz.f21.results.toList = some ir2021 := by kernel_rfl


/-- pedigree/pedigreelaw01.LeftPairs -/
def ic2023 : IC :=
 (.seq
 (.region [] [] [0, 1, 4] [
 ⟨(some 4), (.move (.k (rB false))), none, none⟩])
 (.seq
 (.region [] [] [0, 1, 4] [
 ⟨(some 5), (.move (.t 0)), none, none⟩,
 ⟨(some 6), (.move (.t 1)), none, none⟩,
 ⟨(some 7), (.callp (.k (rF 88)) [(.t 5), (.t 6)]), none, none⟩,
 ⟨(some 8), (.move (.t 7)), none, none⟩,
 ⟨(some 9), (.move (.t 0)), some (8, true), none⟩,
 ⟨(some 10), (.move (.t 1)), some (8, true), none⟩,
 ⟨(some 11), (.len (.t 10)), some (8, true), none⟩,
 ⟨(some 12), (.bin .add (.t 11) (.k (rI .i64 1))), some (8, true), none⟩,
 ⟨(some 13), (.vsl 5 (.t 9) none (some (.t 12))), some (8, true), none⟩,
 ⟨(some 14), (.move (.t 1)), some (8, true), none⟩,
 ⟨(some 15), (.len (.t 14)), some (8, true), none⟩,
 ⟨(some 16), (.iaddr 5 (.t 13) (.t 15)), some (8, true), none⟩,
 ⟨(some 17), (.load (some 5) (.t 16)), some (8, true), none⟩,
 ⟨(some 18), (.callp (.k (rF 89)) [(.t 17), (.k (rI .i64 777777))]), some (8, true), none⟩,
 ⟨(some 19), (.pick (.t 8) (.t 18) (.k (rB false))), none, none⟩,
 ⟨(some 4), (.move (.t 19)), none, none⟩])
 .ret))
def ir2023 : List IRes := [.tmp 4]
theorem ie2023 : cmpFunc Go.Proofs.Tryz.prog ⟨[], []⟩ Go.Proofs.Tryz.f23 [0, 1, 4] = some ic2023 := by kernel_rfl
theorem ig2023 : cmpRes Go.Proofs.Tryz.prog Go.Proofs.Tryz.f23.results.toList = some ir2023 := by kernel_rfl


/-- pedigree/pedigreelaw01.markPair -/
def ic2074 : IC :=
 (.seq
 (.region [2] [] [0, 2] [
 ⟨(some 2), (.zero 76 [(.c (.v (.string (bs [])))), (.c (.v (.string (bs [])))), (.c (.v (.int .i8 0))), (.c (.v (.int .i64 0))), (.c (.v (.string (bs []))))]), none, none⟩])
 (.seq
 (.region [] [] [0, 2] [
 ⟨(some 3), (.move (.t 0)), none, none⟩,
 ⟨(some 4), (.callp (.k (rF 171)) [(.t 3)]), none, none⟩,
 ⟨(some 5), (.build [(.c (.v (.string (bs [])))), (.c (.v (.string (bs [])))), (.c (.v (.int .i8 0))), (.c (.v (.int .i64 0))), (.c (.v (.string (bs []))))] [(0, 1, (.t 4))]), none, none⟩,
 ⟨none, (.store (some 5) (.t 2) (.t 5)), none, none⟩])
 .ret))
def ir2074 : List IRes := [.cell 2 (some 5)]
theorem ie2074 : cmpFunc Go.Proofs.Tryz.prog ⟨[], []⟩ Go.Proofs.Tryz.f74 [0, 2] = some ic2074 := by kernel_rfl
theorem ig2074 : cmpRes Go.Proofs.Tryz.prog Go.Proofs.Tryz.f74.results.toList = some ir2074 := by kernel_rfl

def ic2078l0 : IC :=
 (.seq
 (.seq
 (.region [] [] [1, 3, 6, 15, 5, 0, 7, 42, 4] [
 ⟨(some 11), (.move (.t 6)), none, none⟩,
 ⟨(some 12), (.faddr 1 (.t 3)), none, none⟩,
 ⟨(some 13), (.load none (.t 12)), none, none⟩,
 ⟨(some 14), (.len (.t 13)), none, none⟩,
 ⟨(some 15), (.bin .lss (.t 11) (.t 14)), none, none⟩])
 (.cond (.t 15)
 .skip
 (.exit 0)))
 (.seq
 (.block 1
 (.region [35] [] [1, 3, 6, 15, 5, 0, 7, 42, 4] [
 ⟨(some 18), (.faddr 1 (.t 5)), none, none⟩,
 ⟨(some 19), (.load none (.t 18)), none, none⟩,
 ⟨(some 20), (.faddr 1 (.t 3)), none, none⟩,
 ⟨(some 21), (.load none (.t 20)), none, none⟩,
 ⟨(some 22), (.move (.t 6)), none, none⟩,
 ⟨(some 23), (.iaddr 5 (.t 21) (.t 22)), none, none⟩,
 ⟨(some 24), (.faddr 0 (.t 23)), none, none⟩,
 ⟨(some 25), (.load none (.t 24)), none, none⟩,
 ⟨(some 26), (.move (.t 0)), none, none⟩,
 ⟨(some 27), (.faddr 1 (.t 3)), none, none⟩,
 ⟨(some 28), (.load none (.t 27)), none, none⟩,
 ⟨(some 29), (.move (.t 6)), none, none⟩,
 ⟨(some 30), (.iaddr 5 (.t 28) (.t 29)), none, none⟩,
 ⟨(some 31), (.faddr 1 (.t 30)), none, none⟩,
 ⟨(some 32), (.load (some 4) (.t 31)), none, none⟩,
 ⟨(some 33), (.callp (.k (rF 85)) [(.t 26), (.t 32)]), none, none⟩,
 ⟨(some 34), (.build [(.c (.v (.int .i8 0))), (.c (.v (.string (bs [])))), (.c (.v (.int .i8 0))), (.c (.v (.int .i64 0))), (.c (.v (.string (bs []))))] [(0, 1, (.t 25)), (1, 4, (.t 33))]), none, none⟩,
 ⟨(some 35), (.row 137 5 [(.t 34)]), none, none⟩,
 ⟨(some 36), (.app 137 5 56 (.t 19) (.t 35)), none, none⟩,
 ⟨(some 37), (.faddr 1 (.t 5)), none, none⟩,
 ⟨none, (.store (some 1) (.t 37) (.t 36)), none, none⟩]))
 (.region [] [] [1, 3, 6, 15, 5, 0, 7, 42, 4] [
 ⟨(some 16), (.move (.t 6)), none, none⟩,
 ⟨(some 17), (.bin .add (.t 16) (.k (rI .i64 1))), none, none⟩,
 ⟨(some 6), (.move (.t 17)), none, none⟩])))

def ic2078l1 : IC :=
 (.seq
 (.seq
 (.region [] [] [1, 3, 6, 15, 5, 0, 7, 42, 4] [
 ⟨(some 38), (.move (.t 7)), none, none⟩,
 ⟨(some 39), (.faddr 2 (.t 3)), none, none⟩,
 ⟨(some 40), (.load none (.t 39)), none, none⟩,
 ⟨(some 41), (.len (.t 40)), none, none⟩,
 ⟨(some 42), (.bin .lss (.t 38) (.t 41)), none, none⟩])
 (.cond (.t 42)
 .skip
 (.exit 2)))
 (.seq
 (.block 3
 (.region [54] [] [1, 3, 6, 15, 5, 0, 7, 42, 4] [
 ⟨(some 45), (.faddr 2 (.t 5)), none, none⟩,
 ⟨(some 46), (.load none (.t 45)), none, none⟩,
 ⟨(some 47), (.move (.t 0)), none, none⟩,
 ⟨(some 48), (.faddr 2 (.t 3)), none, none⟩,
 ⟨(some 49), (.load none (.t 48)), none, none⟩,
 ⟨(some 50), (.move (.t 7)), none, none⟩,
 ⟨(some 51), (.iaddr 16 (.t 49) (.t 50)), none, none⟩,
 ⟨(some 52), (.load (some 16) (.t 51)), none, none⟩,
 ⟨(some 53), (.callp (.k (rF 177)) [(.t 47), (.t 52)]), none, none⟩,
 ⟨(some 54), (.row 107 16 [(.t 53)]), none, none⟩,
 ⟨(some 55), (.app 107 16 216 (.t 46) (.t 54)), none, none⟩,
 ⟨(some 56), (.faddr 2 (.t 5)), none, none⟩,
 ⟨none, (.store (some 1) (.t 56) (.t 55)), none, none⟩]))
 (.region [] [] [1, 3, 6, 15, 5, 0, 7, 42, 4] [
 ⟨(some 43), (.move (.t 7)), none, none⟩,
 ⟨(some 44), (.bin .add (.t 43) (.k (rI .i64 1))), none, none⟩,
 ⟨(some 7), (.move (.t 44)), none, none⟩])))

/-- pedigree/pedigreeref04.replaced -/
def ic2078 : IC :=
 (.seq
 (.region [3, 4] [] [1, 3, 6, 15, 5, 0, 7, 42, 4] [
 ⟨(some 3), (.box 29 (.t 1)), none, none⟩,
 ⟨(some 4), (.zero 29 [(.c (.v (.string (bs [])))), .nil, .nil]), none, none⟩])
 (.seq
 (.region [5] [] [1, 3, 6, 15, 5, 0, 7, 42, 4] [
 ⟨(some 8), (.faddr 0 (.t 3)), none, none⟩,
 ⟨(some 9), (.load none (.t 8)), none, none⟩,
 ⟨(some 10), (.build [(.c (.v (.string (bs [])))), .nil, .nil] [(0, 1, (.t 9))]), none, none⟩,
 ⟨(some 5), (.zero 29 [(.c (.v (.string (bs [])))), .nil, .nil]), none, none⟩,
 ⟨none, (.store (some 3) (.t 5) (.t 10)), none, none⟩])
 (.seq
 (.seq
 (.region [] [] [1, 3, 6, 15, 5, 0, 7, 42, 4] [
 ⟨(some 6), (.move (.k (rI .i64 0))), none, none⟩])
 (.block 0
 (.loop ic2078l0)))
 (.seq
 (.seq
 (.region [] [] [1, 3, 6, 15, 5, 0, 7, 42, 4] [
 ⟨(some 7), (.move (.k (rI .i64 0))), none, none⟩])
 (.block 2
 (.loop ic2078l1)))
 (.seq
 (.region [] [] [1, 3, 6, 15, 5, 0, 7, 42, 4] [
 ⟨(some 57), (.load (some 3) (.t 5)), none, none⟩,
 ⟨none, (.store (some 3) (.t 4) (.t 57)), none, none⟩])
 .ret)))))
def ir2078 : List IRes := [.cell 4 (some 3)]
theorem ie2078 : cmpFunc Go.Proofs.Tryz.prog ⟨[], []⟩ Go.Proofs.Tryz.f78 [1, 3, 6, 15, 5, 0, 7, 42, 4] = some ic2078 := by kernel_rfl
theorem ig2078 : cmpRes Go.Proofs.Tryz.prog Go.Proofs.Tryz.f78.results.toList = some ir2078 := by kernel_rfl


/-- pedigree/pedigreelaw01.isPair -/
def ic2089 : IC :=
 (.seq
 (.region [2] [] [0, 2, 1, 4] [
 ⟨(some 2), (.box 76 (.t 0)), none, none⟩,
 ⟨(some 4), (.move (.k (rB false))), none, none⟩])
 (.seq
 (.region [] [] [0, 2, 1, 4] [
 ⟨(some 5), (.load (some 5) (.t 2)), none, none⟩,
 ⟨(some 6), (.move (.t 1)), none, none⟩,
 ⟨(some 7), (.callp (.k (rF 171)) [(.t 6)]), none, none⟩,
 ⟨(some 8), (.build [(.c (.v (.string (bs [])))), (.c (.v (.string (bs [])))), (.c (.v (.int .i8 0))), (.c (.v (.int .i64 0))), (.c (.v (.string (bs []))))] [(0, 1, (.t 7))]), none, none⟩,
 ⟨(some 9), (.eqs false [.s, .s, .i .i8, .i .i64, .s] (.t 5) (.t 8)), none, none⟩,
 ⟨(some 4), (.move (.t 9)), none, none⟩])
 .ret))
def ir2089 : List IRes := [.tmp 4]
theorem ie2089 : cmpFunc Go.Proofs.Tryz.prog ⟨[], []⟩ Go.Proofs.Tryz.f89 [0, 2, 1, 4] = some ic2089 := by kernel_rfl
theorem ig2089 : cmpRes Go.Proofs.Tryz.prog Go.Proofs.Tryz.f89.results.toList = some ir2089 := by kernel_rfl


/-- pedigree/pedigreeref04.ApplyLiteral -/
def ic2177 : IC :=
 (.seq
 (.region [3, 4] [] [1, 3, 0, 4] [
 ⟨(some 3), (.box 107 (.t 1)), none, none⟩,
 ⟨(some 4), (.zero 107 [(.c (.v (.int .i8 0))), (.c (.v (.string (bs [])))), .nil, (.c (.v (.int .i8 0))), (.c (.v (.int .i8 0))), (.c (.v (.string (bs [])))), (.c (.v (.int .i8 0))), (.c (.v (.int .i64 0))), (.c (.v (.string (bs [])))), .nil, (.c (.v (.int .i8 0))), (.c (.v (.string (bs [])))), (.c (.v (.int .i8 0))), (.c (.v (.int .i64 0))), (.c (.v (.string (bs [])))), .nil]), none, none⟩])
 (.seq
 (.region [] [] [1, 3, 0, 4] [
 ⟨(some 5), (.faddr 0 (.t 3)), none, none⟩,
 ⟨(some 6), (.load none (.t 5)), none, none⟩,
 ⟨(some 7), (.move (.t 0)), none, none⟩,
 ⟨(some 8), (.faddr 1 (.t 3)), none, none⟩,
 ⟨(some 9), (.load (some 2) (.t 8)), none, none⟩,
 ⟨(some 10), (.callp (.k (rF 21)) [(.t 7), (.t 9)]), none, none⟩,
 ⟨(some 11), (.faddr 3 (.t 3)), none, none⟩,
 ⟨(some 12), (.load none (.t 11)), none, none⟩,
 ⟨(some 13), (.move (.t 0)), none, none⟩,
 ⟨(some 14), (.faddr 4 (.t 3)), none, none⟩,
 ⟨(some 15), (.load (some 6) (.t 14)), none, none⟩,
 ⟨(some 16), (.callp (.k (rF 254)) [(.t 13), (.t 15)]), none, none⟩,
 ⟨(some 17), (.move (.t 0)), none, none⟩,
 ⟨(some 18), (.faddr 10 (.t 3)), none, none⟩,
 ⟨(some 19), (.load (some 6) (.t 18)), none, none⟩,
 ⟨(some 20), (.callp (.k (rF 254)) [(.t 17), (.t 19)]), none, none⟩,
 ⟨(some 21), (.build [(.c (.v (.int .i8 0))), (.c (.v (.string (bs [])))), .nil, (.c (.v (.int .i8 0))), (.c (.v (.int .i8 0))), (.c (.v (.string (bs [])))), (.c (.v (.int .i8 0))), (.c (.v (.int .i64 0))), (.c (.v (.string (bs [])))), .nil, (.c (.v (.int .i8 0))), (.c (.v (.string (bs [])))), (.c (.v (.int .i8 0))), (.c (.v (.int .i64 0))), (.c (.v (.string (bs [])))), .nil] [(0, 1, (.t 6)), (1, 2, (.t 10)), (3, 1, (.t 12)), (4, 6, (.t 16)), (10, 6, (.t 20))]), none, none⟩,
 ⟨none, (.store (some 16) (.t 4) (.t 21)), none, none⟩])
 .ret))
def ir2177 : List IRes := [.cell 4 (some 16)]
theorem ie2177 : cmpFunc Go.Proofs.Tryz.prog ⟨[], []⟩ Go.Proofs.Tryz.f177 [1, 3, 0, 4] = some ic2177 := by kernel_rfl
theorem ig2177 : cmpRes Go.Proofs.Tryz.prog Go.Proofs.Tryz.f177.results.toList = some ir2177 := by kernel_rfl

end Go.Proofs.YtiomojlcnemnhaaGreatDoor

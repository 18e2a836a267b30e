/- Functions of the seat, as the small language has them. -/
import Derived.Test.YtiomojlcnemnhaaGreatDoorPFxWb
import Derived.Test.YtiomojlcnemnhaaGreatDoorProg
import Derived.KernelRfl
namespace Go.Proofs.YtiomojlcnemnhaaGreatDoor
open Go.Fx

/-- pedigree/pedigreelaw01.TwinAtom -/
def ic37 : IC :=
 (.seq
 (.region [1, 2] [] [0, 1, 2] [
 ⟨(some 1), (.box 25 (.t 0)), none, none⟩,
 ⟨(some 2), (.zero 25 [(.c (.v (.string (bs [])))), .nil]), none, none⟩])
 (.seq
 (.region [] [] [0, 1, 2] [
 ⟨(some 3), (.faddr 1 (.t 1)), none, none⟩,
 ⟨(some 4), (.load none (.t 3)), none, none⟩,
 ⟨(some 5), (.callp (.k (rF 75)) [(.t 4)]), none, none⟩,
 ⟨(some 6), (.faddr 1 (.t 1)), none, none⟩,
 ⟨none, (.store (some 1) (.t 6) (.t 5)), none, none⟩])
 (.seq
 (.region [] [] [0, 1, 2] [
 ⟨(some 7), (.load (some 2) (.t 1)), none, none⟩,
 ⟨none, (.store (some 2) (.t 2) (.t 7)), none, none⟩])
 .ret)))
def ir37 : List IRes := [.cell 2 (some 2)]
theorem ie37 : cmpFunc Go.Proofs.Tryz.prog ⟨[], []⟩ Go.Proofs.Tryz.f15 [0, 1, 2] = some ic37 := by kernel_rfl
theorem ig37 : cmpRes Go.Proofs.Tryz.prog Go.Proofs.Tryz.f15.results.toList = some ir37 := by kernel_rfl


/-- pedigree/pedigreelaw01.LeftAtom -/
def ic40 : IC :=
 (.seq
 (.region [2, 3] [] [0, 1, 2, 3, 4] [
 ⟨(some 2), (.box 25 (.t 0)), none, none⟩,
 ⟨(some 3), (.box 25 (.t 1)), none, none⟩,
 ⟨(some 4), (.move (.k (rB false))), none, none⟩])
 (.seq
 (.region [] [] [0, 1, 2, 3, 4] [
 ⟨(some 5), (.faddr 0 (.t 2)), none, none⟩,
 ⟨(some 6), (.load none (.t 5)), none, none⟩,
 ⟨(some 7), (.faddr 0 (.t 3)), none, none⟩,
 ⟨(some 8), (.load none (.t 7)), none, none⟩,
 ⟨(some 9), (.bin .eql (.t 6) (.t 8)), none, none⟩,
 ⟨(some 10), (.move (.t 9)), none, none⟩,
 ⟨(some 11), (.faddr 1 (.t 2)), some (10, true), none⟩,
 ⟨(some 12), (.load none (.t 11)), some (10, true), none⟩,
 ⟨(some 13), (.faddr 1 (.t 3)), some (10, true), none⟩,
 ⟨(some 14), (.load none (.t 13)), some (10, true), none⟩,
 ⟨(some 15), (.callp (.k (rF 90)) [(.t 12), (.t 14)]), some (10, true), none⟩,
 ⟨(some 16), (.pick (.t 10) (.t 15) (.k (rB false))), none, none⟩,
 ⟨(some 4), (.move (.t 16)), none, none⟩])
 .ret))
def ir40 : List IRes := [.tmp 4]
theorem ie40 : cmpFunc Go.Proofs.Tryz.prog ⟨[], []⟩ Go.Proofs.Tryz.f24 [0, 1, 2, 3, 4] = some ic40 := by kernel_rfl
theorem ig40 : cmpRes Go.Proofs.Tryz.prog Go.Proofs.Tryz.f24.results.toList = some ir40 := by kernel_rfl

def ic108l0 : IC :=
 (.seq
 (.seq
 (.region [] [] [0, 4, 12, 3, 2] [
 ⟨(some 9), (.move (.t 4)), none, none⟩,
 ⟨(some 10), (.move (.t 0)), none, none⟩,
 ⟨(some 11), (.len (.t 10)), none, none⟩,
 ⟨(some 12), (.bin .lss (.t 9) (.t 11)), none, none⟩])
 (.cond (.t 12)
 .skip
 (.exit 0)))
 (.seq
 (.block 1
 (.region [] [] [0, 4, 12, 3, 2] [
 ⟨(some 15), (.move (.t 3)), none, none⟩,
 ⟨(some 16), (.move (.t 4)), none, none⟩,
 ⟨(some 17), (.move (.t 0)), none, none⟩,
 ⟨(some 18), (.move (.t 4)), none, none⟩,
 ⟨(some 19), (.iaddr 4 (.t 17) (.t 18)), none, none⟩,
 ⟨(some 20), (.load (some 4) (.t 19)), none, none⟩,
 ⟨(some 21), (.iaddr 4 (.t 15) (.t 16)), none, none⟩,
 ⟨none, (.store (some 4) (.t 21) (.t 20)), none, none⟩]))
 (.region [] [] [0, 4, 12, 3, 2] [
 ⟨(some 13), (.move (.t 4)), none, none⟩,
 ⟨(some 14), (.bin .add (.t 13) (.k (rI .i64 1))), none, none⟩,
 ⟨(some 4), (.move (.t 14)), none, none⟩])))

/-- pedigree/pedigreelaw01.TwinTerms -/
def ic108 : IC :=
 (.seq
 (.region [] [] [0, 4, 12, 3, 2] [
 ⟨(some 2), (.move (.k (.x (.one .nil)))), none, none⟩])
 (.seq
 (.region [8] [] [0, 4, 12, 3, 2] [
 ⟨(some 5), (.move (.t 0)), none, none⟩,
 ⟨(some 6), (.len (.t 5)), none, none⟩,
 ⟨(some 7), (.bin .add (.t 6) (.k (rI .i64 1))), none, none⟩,
 ⟨(some 8), (.make 73 4 48 [(.c (.v (.string (bs [])))), (.c (.v (.int .i8 0))), (.c (.v (.int .i64 0))), (.c (.v (.string (bs []))))] (.t 7) (.t 7)), none, none⟩,
 ⟨(some 3), (.move (.t 8)), none, none⟩])
 (.seq
 (.seq
 (.region [] [] [0, 4, 12, 3, 2] [
 ⟨(some 4), (.move (.k (rI .i64 0))), none, none⟩])
 (.block 0
 (.loop ic108l0)))
 (.seq
 (.region [] [] [0, 4, 12, 3, 2] [
 ⟨(some 22), (.move (.t 3)), none, none⟩,
 ⟨(some 23), (.move (.t 0)), none, none⟩,
 ⟨(some 24), (.len (.t 23)), none, none⟩,
 ⟨(some 25), (.callp (.k (rF 172)) [(.k (rI .i64 777777))]), none, none⟩,
 ⟨(some 26), (.iaddr 4 (.t 22) (.t 24)), none, none⟩,
 ⟨none, (.store (some 4) (.t 26) (.t 25)), none, none⟩])
 (.seq
 (.region [] [] [0, 4, 12, 3, 2] [
 ⟨(some 27), (.move (.t 3)), none, none⟩,
 ⟨(some 28), (.move (.t 0)), none, none⟩,
 ⟨(some 29), (.len (.t 28)), none, none⟩,
 ⟨(some 30), (.vsl 4 (.t 27) none (some (.t 29))), none, none⟩,
 ⟨(some 2), (.move (.t 30)), none, none⟩])
 .ret)))))
def ir108 : List IRes := [.tmp 2]
theorem ie108 : cmpFunc Go.Proofs.Tryz.prog ⟨[], []⟩ Go.Proofs.Tryz.f75 [0, 4, 12, 3, 2] = some ic108 := by kernel_rfl
theorem ig108 : cmpRes Go.Proofs.Tryz.prog Go.Proofs.Tryz.f75.results.toList = some ir108 := by kernel_rfl

def ic129l0 : IC :=
 (.seq
 (.seq
 (.region [] [] [0, 1, 10, 5, 14, 25, 4] [
 ⟨(some 11), (.move (.t 5)), none, none⟩,
 ⟨(some 12), (.move (.t 0)), none, none⟩,
 ⟨(some 13), (.len (.t 12)), none, none⟩,
 ⟨(some 14), (.bin .lss (.t 11) (.t 13)), none, none⟩])
 (.cond (.t 14)
 .skip
 (.exit 0)))
 (.seq
 (.block 1
 (.seq
 (.region [] [] [0, 1, 10, 5, 14, 25, 4] [
 ⟨(some 17), (.move (.t 0)), none, none⟩,
 ⟨(some 18), (.move (.t 5)), none, none⟩,
 ⟨(some 19), (.iaddr 4 (.t 17) (.t 18)), none, none⟩,
 ⟨(some 20), (.load (some 4) (.t 19)), none, none⟩,
 ⟨(some 21), (.move (.t 1)), none, none⟩,
 ⟨(some 22), (.move (.t 5)), none, none⟩,
 ⟨(some 23), (.iaddr 4 (.t 21) (.t 22)), none, none⟩,
 ⟨(some 24), (.load (some 4) (.t 23)), none, none⟩,
 ⟨(some 25), (.eqs true [.s, .i .i8, .i .i64, .s] (.t 20) (.t 24)), none, none⟩])
 (.cond (.t 25)
 (.seq
 (.region [] [] [0, 1, 10, 5, 14, 25, 4] [
 ⟨(some 4), (.move (.k (rB false))), none, none⟩])
 .ret)
 .skip)))
 (.region [] [] [0, 1, 10, 5, 14, 25, 4] [
 ⟨(some 15), (.move (.t 5)), none, none⟩,
 ⟨(some 16), (.bin .add (.t 15) (.k (rI .i64 1))), none, none⟩,
 ⟨(some 5), (.move (.t 16)), none, none⟩])))

/-- pedigree/pedigreelaw01.SameTerms -/
def ic129 : IC :=
 (.seq
 (.region [] [] [0, 1, 10, 5, 14, 25, 4] [
 ⟨(some 4), (.move (.k (rB false))), none, none⟩])
 (.seq
 (.seq
 (.region [] [] [0, 1, 10, 5, 14, 25, 4] [
 ⟨(some 6), (.move (.t 0)), none, none⟩,
 ⟨(some 7), (.len (.t 6)), none, none⟩,
 ⟨(some 8), (.move (.t 1)), none, none⟩,
 ⟨(some 9), (.len (.t 8)), none, none⟩,
 ⟨(some 10), (.bin .neq (.t 7) (.t 9)), none, none⟩])
 (.cond (.t 10)
 (.seq
 (.region [] [] [0, 1, 10, 5, 14, 25, 4] [
 ⟨(some 4), (.move (.k (rB false))), none, none⟩])
 .ret)
 .skip))
 (.seq
 (.seq
 (.region [] [] [0, 1, 10, 5, 14, 25, 4] [
 ⟨(some 5), (.move (.k (rI .i64 0))), none, none⟩])
 (.block 0
 (.loop ic129l0)))
 (.seq
 (.region [] [] [0, 1, 10, 5, 14, 25, 4] [
 ⟨(some 4), (.move (.k (rB true))), none, none⟩])
 .ret))))
def ir129 : List IRes := [.tmp 4]
theorem ie129 : cmpFunc Go.Proofs.Tryz.prog ⟨[], []⟩ Go.Proofs.Tryz.f84 [0, 1, 10, 5, 14, 25, 4] = some ic129 := by kernel_rfl
theorem ig129 : cmpRes Go.Proofs.Tryz.prog Go.Proofs.Tryz.f84.results.toList = some ir129 := by kernel_rfl


/-- pedigree/pedigreelaw01.LeftTerms -/
def ic110 : IC :=
 (.seq
 (.region [] [] [0, 1, 4] [
 ⟨(some 4), (.move (.k (rB false))), none, none⟩])
 (.seq
 (.region [] [] [0, 1, 4] [
 ⟨(some 5), (.move (.t 0)), none, none⟩,
 ⟨(some 6), (.move (.t 1)), none, none⟩,
 ⟨(some 7), (.callp (.k (rF 84)) [(.t 5), (.t 6)]), none, none⟩,
 ⟨(some 8), (.move (.t 7)), none, none⟩,
 ⟨(some 9), (.move (.t 0)), some (8, true), none⟩,
 ⟨(some 10), (.move (.t 1)), some (8, true), none⟩,
 ⟨(some 11), (.len (.t 10)), some (8, true), none⟩,
 ⟨(some 12), (.bin .add (.t 11) (.k (rI .i64 1))), some (8, true), none⟩,
 ⟨(some 13), (.vsl 4 (.t 9) none (some (.t 12))), some (8, true), none⟩,
 ⟨(some 14), (.move (.t 1)), some (8, true), none⟩,
 ⟨(some 15), (.len (.t 14)), some (8, true), none⟩,
 ⟨(some 16), (.iaddr 4 (.t 13) (.t 15)), some (8, true), none⟩,
 ⟨(some 17), (.load (some 4) (.t 16)), some (8, true), none⟩,
 ⟨(some 18), (.callp (.k (rF 180)) [(.t 17), (.k (rI .i64 777777))]), some (8, true), none⟩,
 ⟨(some 19), (.pick (.t 8) (.t 18) (.k (rB false))), none, none⟩,
 ⟨(some 4), (.move (.t 19)), none, none⟩])
 .ret))
def ir110 : List IRes := [.tmp 4]
theorem ie110 : cmpFunc Go.Proofs.Tryz.prog ⟨[], []⟩ Go.Proofs.Tryz.f90 [0, 1, 4] = some ic110 := by kernel_rfl
theorem ig110 : cmpRes Go.Proofs.Tryz.prog Go.Proofs.Tryz.f90.results.toList = some ir110 := by kernel_rfl


/-- pedigree/pedigreelaw01.TwinFact -/
def ic38 : IC :=
 (.seq
 (.region [1, 2] [] [0, 1, 2] [
 ⟨(some 1), (.box 147 (.t 0)), none, none⟩,
 ⟨(some 2), (.zero 147 [(.c (.v (.string (bs [])))), .nil]), none, none⟩])
 (.seq
 (.region [] [] [0, 1, 2] [
 ⟨(some 3), (.faddr 1 (.t 1)), none, none⟩,
 ⟨(some 4), (.load none (.t 3)), none, none⟩,
 ⟨(some 5), (.callp (.k (rF 203)) [(.t 4)]), none, none⟩,
 ⟨(some 6), (.faddr 1 (.t 1)), none, none⟩,
 ⟨none, (.store (some 1) (.t 6) (.t 5)), none, none⟩])
 (.seq
 (.region [] [] [0, 1, 2] [
 ⟨(some 7), (.load (some 2) (.t 1)), none, none⟩,
 ⟨none, (.store (some 2) (.t 2) (.t 7)), none, none⟩])
 .ret)))
def ir38 : List IRes := [.cell 2 (some 2)]
theorem ie38 : cmpFunc Go.Proofs.Tryz.prog ⟨[], []⟩ Go.Proofs.Tryz.f107 [0, 1, 2] = some ic38 := by kernel_rfl
theorem ig38 : cmpRes Go.Proofs.Tryz.prog Go.Proofs.Tryz.f107.results.toList = some ir38 := by kernel_rfl


/-- pedigree/pedigreelaw01.LeftFact -/
def ic41 : IC :=
 (.seq
 (.region [2, 3] [] [0, 1, 2, 3, 4] [
 ⟨(some 2), (.box 147 (.t 0)), none, none⟩,
 ⟨(some 3), (.box 147 (.t 1)), none, none⟩,
 ⟨(some 4), (.move (.k (rB false))), none, none⟩])
 (.seq
 (.region [] [] [0, 1, 2, 3, 4] [
 ⟨(some 5), (.faddr 0 (.t 2)), none, none⟩,
 ⟨(some 6), (.load none (.t 5)), none, none⟩,
 ⟨(some 7), (.faddr 0 (.t 3)), none, none⟩,
 ⟨(some 8), (.load none (.t 7)), none, none⟩,
 ⟨(some 9), (.bin .eql (.t 6) (.t 8)), none, none⟩,
 ⟨(some 10), (.move (.t 9)), none, none⟩,
 ⟨(some 11), (.faddr 1 (.t 2)), some (10, true), none⟩,
 ⟨(some 12), (.load none (.t 11)), some (10, true), none⟩,
 ⟨(some 13), (.faddr 1 (.t 3)), some (10, true), none⟩,
 ⟨(some 14), (.load none (.t 13)), some (10, true), none⟩,
 ⟨(some 15), (.callp (.k (rF 216)) [(.t 12), (.t 14)]), some (10, true), none⟩,
 ⟨(some 16), (.pick (.t 10) (.t 15) (.k (rB false))), none, none⟩,
 ⟨(some 4), (.move (.t 16)), none, none⟩])
 .ret))
def ir41 : List IRes := [.tmp 4]
theorem ie41 : cmpFunc Go.Proofs.Tryz.prog ⟨[], []⟩ Go.Proofs.Tryz.f129 [0, 1, 2, 3, 4] = some ic41 := by kernel_rfl
theorem ig41 : cmpRes Go.Proofs.Tryz.prog Go.Proofs.Tryz.f129.results.toList = some ir41 := by kernel_rfl

/-- pedigree/pedigreelaw01.word -/
def ic172 : IC :=
 (.seq
 (.region [] [] [0, 2] [
 ⟨(some 2), (.move (.k (rS (bs [])))), none, none⟩])
 (.seq
 (.region [] [] [0, 2] [
 ⟨(some 3), (.move (.t 0)), none, none⟩,
 ⟨(some 4), (.callp (.k (rF 99)) [(.t 3)]), none, none⟩,
 ⟨(some 5), (.bin .add (.k (rS (bs [35]))) (.t 4)), none, none⟩,
 ⟨(some 2), (.move (.t 5)), none, none⟩])
 .ret))
def ir172 : List IRes := [.tmp 2]
theorem ie172 : cmpFunc Go.Proofs.Tryz.prog ⟨[], []⟩ Go.Proofs.Tryz.f171 [0, 2] = some ic172 := by kernel_rfl
theorem ig172 : cmpRes Go.Proofs.Tryz.prog Go.Proofs.Tryz.f171.results.toList = some ir172 := by kernel_rfl


/-- pedigree/pedigreelaw01.markTerm -/
def ic163 : IC :=
 (.seq
 (.region [2] [] [0, 2] [
 ⟨(some 2), (.zero 73 [(.c (.v (.string (bs [])))), (.c (.v (.int .i8 0))), (.c (.v (.int .i64 0))), (.c (.v (.string (bs []))))]), none, none⟩])
 (.seq
 (.region [] [] [0, 2] [
 ⟨(some 3), (.move (.t 0)), none, none⟩,
 ⟨(some 4), (.callp (.k (rF 171)) [(.t 3)]), none, none⟩,
 ⟨(some 5), (.build [(.c (.v (.string (bs [])))), (.c (.v (.int .i8 0))), (.c (.v (.int .i64 0))), (.c (.v (.string (bs []))))] [(0, 1, (.t 4))]), none, none⟩,
 ⟨none, (.store (some 4) (.t 2) (.t 5)), none, none⟩])
 .ret))
def ir163 : List IRes := [.cell 2 (some 4)]
theorem ie163 : cmpFunc Go.Proofs.Tryz.prog ⟨[], []⟩ Go.Proofs.Tryz.f172 [0, 2] = some ic163 := by kernel_rfl
theorem ig163 : cmpRes Go.Proofs.Tryz.prog Go.Proofs.Tryz.f172.results.toList = some ir163 := by kernel_rfl


/-- pedigree/pedigreelaw01.isTerm -/
def ic165 : IC :=
 (.seq
 (.region [2] [] [0, 2, 1, 4] [
 ⟨(some 2), (.box 73 (.t 0)), none, none⟩,
 ⟨(some 4), (.move (.k (rB false))), none, none⟩])
 (.seq
 (.region [] [] [0, 2, 1, 4] [
 ⟨(some 5), (.load (some 4) (.t 2)), none, none⟩,
 ⟨(some 6), (.move (.t 1)), none, none⟩,
 ⟨(some 7), (.callp (.k (rF 171)) [(.t 6)]), none, none⟩,
 ⟨(some 8), (.build [(.c (.v (.string (bs [])))), (.c (.v (.int .i8 0))), (.c (.v (.int .i64 0))), (.c (.v (.string (bs []))))] [(0, 1, (.t 7))]), none, none⟩,
 ⟨(some 9), (.eqs false [.s, .i .i8, .i .i64, .s] (.t 5) (.t 8)), none, none⟩,
 ⟨(some 4), (.move (.t 9)), none, none⟩])
 .ret))
def ir165 : List IRes := [.tmp 4]
theorem ie165 : cmpFunc Go.Proofs.Tryz.prog ⟨[], []⟩ Go.Proofs.Tryz.f180 [0, 2, 1, 4] = some ic165 := by kernel_rfl
theorem ig165 : cmpRes Go.Proofs.Tryz.prog Go.Proofs.Tryz.f180.results.toList = some ir165 := by kernel_rfl


def ic109l0 : IC :=
 (.seq
 (.seq
 (.region [] [] [0, 4, 12, 3, 2] [
 ⟨(some 9), (.move (.t 4)), none, none⟩,
 ⟨(some 10), (.move (.t 0)), none, none⟩,
 ⟨(some 11), (.len (.t 10)), none, none⟩,
 ⟨(some 12), (.bin .lss (.t 9) (.t 11)), none, none⟩])
 (.cond (.t 12)
 .skip
 (.exit 0)))
 (.seq
 (.block 1
 (.region [] [] [0, 4, 12, 3, 2] [
 ⟨(some 15), (.move (.t 3)), none, none⟩,
 ⟨(some 16), (.move (.t 4)), none, none⟩,
 ⟨(some 17), (.move (.t 0)), none, none⟩,
 ⟨(some 18), (.move (.t 4)), none, none⟩,
 ⟨(some 19), (.iaddr 3 (.t 17) (.t 18)), none, none⟩,
 ⟨(some 20), (.load (some 3) (.t 19)), none, none⟩,
 ⟨(some 21), (.iaddr 3 (.t 15) (.t 16)), none, none⟩,
 ⟨none, (.store (some 3) (.t 21) (.t 20)), none, none⟩]))
 (.region [] [] [0, 4, 12, 3, 2] [
 ⟨(some 13), (.move (.t 4)), none, none⟩,
 ⟨(some 14), (.bin .add (.t 13) (.k (rI .i64 1))), none, none⟩,
 ⟨(some 4), (.move (.t 14)), none, none⟩])))

/-- pedigree/pedigreelaw01.TwinValues -/
def ic109 : IC :=
 (.seq
 (.region [] [] [0, 4, 12, 3, 2] [
 ⟨(some 2), (.move (.k (.x (.one .nil)))), none, none⟩])
 (.seq
 (.region [8] [] [0, 4, 12, 3, 2] [
 ⟨(some 5), (.move (.t 0)), none, none⟩,
 ⟨(some 6), (.len (.t 5)), none, none⟩,
 ⟨(some 7), (.bin .add (.t 6) (.k (rI .i64 1))), none, none⟩,
 ⟨(some 8), (.make 71 3 32 [(.c (.v (.int .i8 0))), (.c (.v (.int .i64 0))), (.c (.v (.string (bs []))))] (.t 7) (.t 7)), none, none⟩,
 ⟨(some 3), (.move (.t 8)), none, none⟩])
 (.seq
 (.seq
 (.region [] [] [0, 4, 12, 3, 2] [
 ⟨(some 4), (.move (.k (rI .i64 0))), none, none⟩])
 (.block 0
 (.loop ic109l0)))
 (.seq
 (.region [] [] [0, 4, 12, 3, 2] [
 ⟨(some 22), (.move (.t 3)), none, none⟩,
 ⟨(some 23), (.move (.t 0)), none, none⟩,
 ⟨(some 24), (.len (.t 23)), none, none⟩,
 ⟨(some 25), (.callp (.k (rF 269)) [(.k (rI .i64 777777))]), none, none⟩,
 ⟨(some 26), (.iaddr 3 (.t 22) (.t 24)), none, none⟩,
 ⟨none, (.store (some 3) (.t 26) (.t 25)), none, none⟩])
 (.seq
 (.region [] [] [0, 4, 12, 3, 2] [
 ⟨(some 27), (.move (.t 3)), none, none⟩,
 ⟨(some 28), (.move (.t 0)), none, none⟩,
 ⟨(some 29), (.len (.t 28)), none, none⟩,
 ⟨(some 30), (.vsl 3 (.t 27) none (some (.t 29))), none, none⟩,
 ⟨(some 2), (.move (.t 30)), none, none⟩])
 .ret)))))
def ir109 : List IRes := [.tmp 2]
theorem ie109 : cmpFunc Go.Proofs.Tryz.prog ⟨[], []⟩ Go.Proofs.Tryz.f203 [0, 4, 12, 3, 2] = some ic109 := by kernel_rfl
theorem ig109 : cmpRes Go.Proofs.Tryz.prog Go.Proofs.Tryz.f203.results.toList = some ir109 := by kernel_rfl


/-- pedigree/pedigreelaw01.LeftValues -/
def ic111 : IC :=
 (.seq
 (.region [] [] [0, 1, 4] [
 ⟨(some 4), (.move (.k (rB false))), none, none⟩])
 (.seq
 (.region [] [] [0, 1, 4] [
 ⟨(some 5), (.move (.t 0)), none, none⟩,
 ⟨(some 6), (.move (.t 1)), none, none⟩,
 ⟨(some 7), (.callp (.k (rF 273)) [(.t 5), (.t 6)]), none, none⟩,
 ⟨(some 8), (.move (.t 7)), none, none⟩,
 ⟨(some 9), (.move (.t 0)), some (8, true), none⟩,
 ⟨(some 10), (.move (.t 1)), some (8, true), none⟩,
 ⟨(some 11), (.len (.t 10)), some (8, true), none⟩,
 ⟨(some 12), (.bin .add (.t 11) (.k (rI .i64 1))), some (8, true), none⟩,
 ⟨(some 13), (.vsl 3 (.t 9) none (some (.t 12))), some (8, true), none⟩,
 ⟨(some 14), (.move (.t 1)), some (8, true), none⟩,
 ⟨(some 15), (.len (.t 14)), some (8, true), none⟩,
 ⟨(some 16), (.iaddr 3 (.t 13) (.t 15)), some (8, true), none⟩,
 ⟨(some 17), (.load (some 3) (.t 16)), some (8, true), none⟩,
 ⟨(some 18), (.callp (.k (rF 274)) [(.t 17), (.k (rI .i64 777777))]), some (8, true), none⟩,
 ⟨(some 19), (.pick (.t 8) (.t 18) (.k (rB false))), none, none⟩,
 ⟨(some 4), (.move (.t 19)), none, none⟩])
 .ret))
def ir111 : List IRes := [.tmp 4]
theorem ie111 : cmpFunc Go.Proofs.Tryz.prog ⟨[], []⟩ Go.Proofs.Tryz.f216 [0, 1, 4] = some ic111 := by kernel_rfl
theorem ig111 : cmpRes Go.Proofs.Tryz.prog Go.Proofs.Tryz.f216.results.toList = some ir111 := by kernel_rfl


/-- pedigree/pedigreelaw01.markValue -/
def ic164 : IC :=
 (.seq
 (.region [2] [] [0, 2] [
 ⟨(some 2), (.zero 71 [(.c (.v (.int .i8 0))), (.c (.v (.int .i64 0))), (.c (.v (.string (bs []))))]), none, none⟩])
 (.seq
 (.region [] [] [0, 2] [
 ⟨(some 3), (.move (.t 0)), none, none⟩,
 ⟨(some 4), (.build [(.c (.v (.int .i8 0))), (.c (.v (.int .i64 0))), (.c (.v (.string (bs []))))] [(0, 1, (.k (rI .i8 99))), (1, 1, (.t 3))]), none, none⟩,
 ⟨none, (.store (some 3) (.t 2) (.t 4)), none, none⟩])
 .ret))
def ir164 : List IRes := [.cell 2 (some 3)]
theorem ie164 : cmpFunc Go.Proofs.Tryz.prog ⟨[], []⟩ Go.Proofs.Tryz.f269 [0, 2] = some ic164 := by kernel_rfl
theorem ig164 : cmpRes Go.Proofs.Tryz.prog Go.Proofs.Tryz.f269.results.toList = some ir164 := by kernel_rfl

def ic166l0 : IC :=
 (.seq
 (.seq
 (.region [] [] [0, 1, 10, 5, 14, 25, 4] [
 ⟨(some 11), (.move (.t 5)), none, none⟩,
 ⟨(some 12), (.move (.t 0)), none, none⟩,
 ⟨(some 13), (.len (.t 12)), none, none⟩,
 ⟨(some 14), (.bin .lss (.t 11) (.t 13)), none, none⟩])
 (.cond (.t 14)
 .skip
 (.exit 0)))
 (.seq
 (.block 1
 (.seq
 (.region [] [] [0, 1, 10, 5, 14, 25, 4] [
 ⟨(some 17), (.move (.t 0)), none, none⟩,
 ⟨(some 18), (.move (.t 5)), none, none⟩,
 ⟨(some 19), (.iaddr 3 (.t 17) (.t 18)), none, none⟩,
 ⟨(some 20), (.load (some 3) (.t 19)), none, none⟩,
 ⟨(some 21), (.move (.t 1)), none, none⟩,
 ⟨(some 22), (.move (.t 5)), none, none⟩,
 ⟨(some 23), (.iaddr 3 (.t 21) (.t 22)), none, none⟩,
 ⟨(some 24), (.load (some 3) (.t 23)), none, none⟩,
 ⟨(some 25), (.eqs true [.i .i8, .i .i64, .s] (.t 20) (.t 24)), none, none⟩])
 (.cond (.t 25)
 (.seq
 (.region [] [] [0, 1, 10, 5, 14, 25, 4] [
 ⟨(some 4), (.move (.k (rB false))), none, none⟩])
 .ret)
 .skip)))
 (.region [] [] [0, 1, 10, 5, 14, 25, 4] [
 ⟨(some 15), (.move (.t 5)), none, none⟩,
 ⟨(some 16), (.bin .add (.t 15) (.k (rI .i64 1))), none, none⟩,
 ⟨(some 5), (.move (.t 16)), none, none⟩])))

/-- pedigree/pedigreelaw01.SameValues -/
def ic166 : IC :=
 (.seq
 (.region [] [] [0, 1, 10, 5, 14, 25, 4] [
 ⟨(some 4), (.move (.k (rB false))), none, none⟩])
 (.seq
 (.seq
 (.region [] [] [0, 1, 10, 5, 14, 25, 4] [
 ⟨(some 6), (.move (.t 0)), none, none⟩,
 ⟨(some 7), (.len (.t 6)), none, none⟩,
 ⟨(some 8), (.move (.t 1)), none, none⟩,
 ⟨(some 9), (.len (.t 8)), none, none⟩,
 ⟨(some 10), (.bin .neq (.t 7) (.t 9)), none, none⟩])
 (.cond (.t 10)
 (.seq
 (.region [] [] [0, 1, 10, 5, 14, 25, 4] [
 ⟨(some 4), (.move (.k (rB false))), none, none⟩])
 .ret)
 .skip))
 (.seq
 (.seq
 (.region [] [] [0, 1, 10, 5, 14, 25, 4] [
 ⟨(some 5), (.move (.k (rI .i64 0))), none, none⟩])
 (.block 0
 (.loop ic166l0)))
 (.seq
 (.region [] [] [0, 1, 10, 5, 14, 25, 4] [
 ⟨(some 4), (.move (.k (rB true))), none, none⟩])
 .ret))))
def ir166 : List IRes := [.tmp 4]
theorem ie166 : cmpFunc Go.Proofs.Tryz.prog ⟨[], []⟩ Go.Proofs.Tryz.f273 [0, 1, 10, 5, 14, 25, 4] = some ic166 := by kernel_rfl
theorem ig166 : cmpRes Go.Proofs.Tryz.prog Go.Proofs.Tryz.f273.results.toList = some ir166 := by kernel_rfl


/-- pedigree/pedigreelaw01.isValue -/
def ic167 : IC :=
 (.seq
 (.region [2] [] [0, 2, 1, 4] [
 ⟨(some 2), (.box 71 (.t 0)), none, none⟩,
 ⟨(some 4), (.move (.k (rB false))), none, none⟩])
 (.seq
 (.region [] [] [0, 2, 1, 4] [
 ⟨(some 5), (.load (some 3) (.t 2)), none, none⟩,
 ⟨(some 6), (.move (.t 1)), none, none⟩,
 ⟨(some 7), (.build [(.c (.v (.int .i8 0))), (.c (.v (.int .i64 0))), (.c (.v (.string (bs []))))] [(0, 1, (.k (rI .i8 99))), (1, 1, (.t 6))]), none, none⟩,
 ⟨(some 8), (.eqs false [.i .i8, .i .i64, .s] (.t 5) (.t 7)), none, none⟩,
 ⟨(some 4), (.move (.t 8)), none, none⟩])
 .ret))
def ir167 : List IRes := [.tmp 4]
theorem ie167 : cmpFunc Go.Proofs.Tryz.prog ⟨[], []⟩ Go.Proofs.Tryz.f274 [0, 2, 1, 4] = some ic167 := by kernel_rfl
theorem ig167 : cmpRes Go.Proofs.Tryz.prog Go.Proofs.Tryz.f274.results.toList = some ir167 := by kernel_rfl


end Go.Proofs.YtiomojlcnemnhaaGreatDoor

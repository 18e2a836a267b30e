/- Functions of the seat, as the small language has them. -/
import Derived.Test.YtiomojlcnemnhaaDoorKFxWb
import Derived.Test.YtiomojlcnemnhaaDoorProg
import Derived.KernelRfl
namespace Go.Proofs.YtiomojlcnemnhaaDoor
open Go.Fx

/-- pedigree/pedigreelaw04.TermEvals -/
def ic14 : IC :=
 (.seq
 (.region [2] [] [0, 2, 12, 1, 7, 8, 10, 6, 9, 5, 4] [
 ⟨(some 2), (.box 47 (.t 0)), none, none⟩,
 ⟨(some 4), (.move (.k (rB false))), none, none⟩])
 (.seq
 (.seq
 (.region [] [] [0, 2, 12, 1, 7, 8, 10, 6, 9, 5, 4] [
 ⟨(some 11), (.load (some 6) (.t 2)), none, none⟩,
 ⟨(some 12), (.callp (.k (rF 25)) [(.t 11)]), none, none⟩])
 (.cond (.t 12)
 (.seq
 (.region [] [] [0, 2, 12, 1, 7, 8, 10, 6, 9, 5, 4] [
 ⟨(some 4), (.move (.k (rB true))), none, none⟩])
 .ret)
 .skip))
 (.seq
 (.region [5] [] [0, 2, 12, 1, 7, 8, 10, 6, 9, 5, 4] [
 ⟨(some 14), (.load (some 6) (.t 2)), none, none⟩,
 ⟨(some 15), (.move (.t 1)), none, none⟩,
 ⟨(some 16), (.callp (.k (rF 73)) [(.t 14), (.t 15)]), none, none⟩,
 ⟨(some 13), (.move (.t 16)), none, none⟩,
 ⟨(some 17), (.ext (.t 13) 0), none, none⟩,
 ⟨(some 18), (.ext (.t 13) 1), none, none⟩,
 ⟨(some 5), (.zero 39 [(.c (.v (.int .i8 0))), (.c (.v (.int .i64 0))), (.c (.v (.string (bs []))))]), none, none⟩,
 ⟨none, (.store (some 3) (.t 5) (.t 17)), none, none⟩,
 ⟨(some 6), (.move (.t 18)), none, none⟩])
 (.seq
 (.region [7] [] [0, 2, 12, 1, 7, 8, 10, 6, 9, 5, 4] [
 ⟨(some 19), (.load (some 6) (.t 2)), none, none⟩,
 ⟨(some 20), (.callp (.k (rF 74)) [(.t 19)]), none, none⟩,
 ⟨(some 7), (.zero 47 [(.c (.v (.int .i8 0))), (.c (.v (.string (bs [])))), (.c (.v (.int .i8 0))), (.c (.v (.int .i64 0))), (.c (.v (.string (bs [])))), .nil]), none, none⟩,
 ⟨none, (.store (some 6) (.t 7) (.t 20)), none, none⟩])
 (.seq
 (.region [] [] [0, 2, 12, 1, 7, 8, 10, 6, 9, 5, 4] [
 ⟨(some 21), (.move (.t 1)), none, none⟩,
 ⟨(some 22), (.callp (.k (rF 75)) [(.t 21)]), none, none⟩,
 ⟨(some 8), (.move (.t 22)), none, none⟩])
 (.seq
 (.region [9] [] [0, 2, 12, 1, 7, 8, 10, 6, 9, 5, 4] [
 ⟨(some 24), (.load (some 6) (.t 7)), none, none⟩,
 ⟨(some 25), (.move (.t 8)), none, none⟩,
 ⟨(some 26), (.callp (.k (rF 26)) [(.t 24), (.t 25)]), none, none⟩,
 ⟨(some 23), (.move (.t 26)), none, none⟩,
 ⟨(some 27), (.ext (.t 23) 0), none, none⟩,
 ⟨(some 28), (.ext (.t 23) 1), none, none⟩,
 ⟨(some 9), (.zero 39 [(.c (.v (.int .i8 0))), (.c (.v (.int .i64 0))), (.c (.v (.string (bs []))))]), none, none⟩,
 ⟨none, (.store (some 3) (.t 9) (.t 27)), none, none⟩,
 ⟨(some 10), (.move (.t 28)), none, none⟩])
 (.seq
 (.region [] [] [0, 2, 12, 1, 7, 8, 10, 6, 9, 5, 4] [
 ⟨(some 29), (.move (.t 10)), none, none⟩,
 ⟨(some 30), (.move (.t 6)), none, none⟩,
 ⟨(some 31), (.eqb false (.t 29) (.t 30)), none, none⟩,
 ⟨(some 32), (.move (.t 31)), none, none⟩,
 ⟨(some 33), (.load (some 3) (.t 9)), some (32, true), none⟩,
 ⟨(some 34), (.load (some 3) (.t 5)), some (32, true), none⟩,
 ⟨(some 35), (.eqs false [.i .i8, .i .i64, .s] (.t 33) (.t 34)), some (32, true), none⟩,
 ⟨(some 36), (.pick (.t 32) (.t 35) (.k (rB false))), none, none⟩,
 ⟨(some 37), (.move (.t 36)), none, none⟩,
 ⟨(some 38), (.load (some 6) (.t 7)), some (37, true), none⟩,
 ⟨(some 39), (.load (some 6) (.t 2)), some (37, true), none⟩,
 ⟨(some 40), (.callp (.k (rF 76)) [(.t 38), (.t 39)]), some (37, true), none⟩,
 ⟨(some 41), (.pick (.t 37) (.t 40) (.k (rB false))), none, none⟩,
 ⟨(some 42), (.move (.t 41)), none, none⟩,
 ⟨(some 43), (.move (.t 8)), some (42, true), none⟩,
 ⟨(some 44), (.move (.t 1)), some (42, true), none⟩,
 ⟨(some 45), (.callp (.k (rF 77)) [(.t 43), (.t 44)]), some (42, true), none⟩,
 ⟨(some 46), (.pick (.t 42) (.t 45) (.k (rB false))), none, none⟩,
 ⟨(some 4), (.move (.t 46)), none, none⟩])
 .ret)))))))
def ir14 : List IRes := [.tmp 4]
theorem ie14 : cmpFunc Go.Proofs.Tryd.prog ⟨[], []⟩ Go.Proofs.Tryd.f14 [0, 2, 12, 1, 7, 8, 10, 6, 9, 5, 4] = some ic14 := by kernel_rfl
theorem ig14 : cmpRes Go.Proofs.Tryd.prog Go.Proofs.Tryd.f14.results.toList = some ir14 := by kernel_rfl


/-- pedigree/pedigreeref04.Eval -/
def ic73 : IC :=
 (.seq
 (.region [2, 4] [] [0, 2, 8, 4, 1, 5] [
 ⟨(some 2), (.box 47 (.t 0)), none, none⟩,
 ⟨(some 4), (.zero 39 [(.c (.v (.int .i8 0))), (.c (.v (.int .i64 0))), (.c (.v (.string (bs []))))]), none, none⟩,
 ⟨(some 5), (.move (.k (rB false))), none, none⟩])
 (.seq
 (.seq
 (.region [] [] [0, 2, 8, 4, 1, 5] [
 ⟨(some 6), (.load (some 6) (.t 2)), none, none⟩,
 ⟨(some 7), (.callp (.k (rF 97)) [(.t 6), (.k (rI .i64 8))]), none, none⟩,
 ⟨(some 8), (.un .not (.t 7)), none, none⟩])
 (.cond (.t 8)
 (.seq
 (.region [] [] [0, 2, 8, 4, 1, 5] [
 ⟨(some 9), (.build [(.c (.v (.int .i8 0))), (.c (.v (.int .i64 0))), (.c (.v (.string (bs []))))] []), none, none⟩,
 ⟨none, (.store (some 3) (.t 4) (.t 9)), none, none⟩,
 ⟨(some 5), (.move (.k (rB false))), none, none⟩])
 .ret)
 .skip))
 (.seq
 (.region [] [] [0, 2, 8, 4, 1, 5] [
 ⟨(some 10), (.load (some 6) (.t 2)), none, none⟩,
 ⟨(some 11), (.move (.t 1)), none, none⟩,
 ⟨(some 12), (.callp (.k (rF 141)) [(.t 10), (.t 11)]), none, none⟩,
 ⟨(some 13), (.ext (.t 12) 0), none, none⟩,
 ⟨(some 14), (.ext (.t 12) 1), none, none⟩,
 ⟨none, (.store (some 3) (.t 4) (.t 13)), none, none⟩,
 ⟨(some 5), (.move (.t 14)), none, none⟩])
 .ret)))
def ir73 : List IRes := [.cell 4 (some 3), .tmp 5]
theorem ie73 : cmpFunc Go.Proofs.Tryd.prog ⟨[], []⟩ Go.Proofs.Tryd.f73 [0, 2, 8, 4, 1, 5] = some ic73 := by kernel_rfl
theorem ig73 : cmpRes Go.Proofs.Tryd.prog Go.Proofs.Tryd.f73.results.toList = some ir73 := by kernel_rfl

def ic75l0 : IC :=
 (.seq
 (.seq
 (.region [] [] [0, 4, 12, 3, 2] [
 ⟨(some 9), (.move (.t 4)), none, none⟩,
 ⟨(some 10), (.move (.t 0)), none, none⟩,
 ⟨(some 11), (.len (.t 10)), none, none⟩,
 ⟨(some 12), (.bin .lss (.t 9) (.t 11)), none, none⟩])
 (.cond (.t 12)
 .skip
 (.exit 0)))
 (.seq
 (.block 1
 (.region [] [] [0, 4, 12, 3, 2] [
 ⟨(some 15), (.move (.t 3)), none, none⟩,
 ⟨(some 16), (.move (.t 4)), none, none⟩,
 ⟨(some 17), (.move (.t 0)), none, none⟩,
 ⟨(some 18), (.move (.t 4)), none, none⟩,
 ⟨(some 19), (.iaddr 4 (.t 17) (.t 18)), none, none⟩,
 ⟨(some 20), (.load (some 4) (.t 19)), none, none⟩,
 ⟨(some 21), (.iaddr 4 (.t 15) (.t 16)), none, none⟩,
 ⟨none, (.store (some 4) (.t 21) (.t 20)), none, none⟩]))
 (.region [] [] [0, 4, 12, 3, 2] [
 ⟨(some 13), (.move (.t 4)), none, none⟩,
 ⟨(some 14), (.bin .add (.t 13) (.k (rI .i64 1))), none, none⟩,
 ⟨(some 4), (.move (.t 14)), none, none⟩])))

/-- pedigree/pedigreelaw01.TwinBinds -/
def ic75 : IC :=
 (.seq
 (.region [] [] [0, 4, 12, 3, 2] [
 ⟨(some 2), (.move (.k (.x (.one .nil)))), none, none⟩])
 (.seq
 (.region [8] [] [0, 4, 12, 3, 2] [
 ⟨(some 5), (.move (.t 0)), none, none⟩,
 ⟨(some 6), (.len (.t 5)), none, none⟩,
 ⟨(some 7), (.bin .add (.t 6) (.k (rI .i64 1))), none, none⟩,
 ⟨(some 8), (.make 54 4 48 [(.c (.v (.string (bs [])))), (.c (.v (.int .i8 0))), (.c (.v (.int .i64 0))), (.c (.v (.string (bs []))))] (.t 7) (.t 7)), none, none⟩,
 ⟨(some 3), (.move (.t 8)), none, none⟩])
 (.seq
 (.seq
 (.region [] [] [0, 4, 12, 3, 2] [
 ⟨(some 4), (.move (.k (rI .i64 0))), none, none⟩])
 (.block 0
 (.loop ic75l0)))
 (.seq
 (.region [] [] [0, 4, 12, 3, 2] [
 ⟨(some 22), (.move (.t 3)), none, none⟩,
 ⟨(some 23), (.move (.t 0)), none, none⟩,
 ⟨(some 24), (.len (.t 23)), none, none⟩,
 ⟨(some 25), (.callp (.k (rF 143)) [(.k (rI .i64 777777))]), none, none⟩,
 ⟨(some 26), (.iaddr 4 (.t 22) (.t 24)), none, none⟩,
 ⟨none, (.store (some 4) (.t 26) (.t 25)), none, none⟩])
 (.seq
 (.region [] [] [0, 4, 12, 3, 2] [
 ⟨(some 27), (.move (.t 3)), none, none⟩,
 ⟨(some 28), (.move (.t 0)), none, none⟩,
 ⟨(some 29), (.len (.t 28)), none, none⟩,
 ⟨(some 30), (.vsl 4 (.t 27) none (some (.t 29))), none, none⟩,
 ⟨(some 2), (.move (.t 30)), none, none⟩])
 .ret)))))
def ir75 : List IRes := [.tmp 2]
theorem ie75 : cmpFunc Go.Proofs.Tryd.prog ⟨[], []⟩ Go.Proofs.Tryd.f75 [0, 4, 12, 3, 2] = some ic75 := by kernel_rfl
theorem ig75 : cmpRes Go.Proofs.Tryd.prog Go.Proofs.Tryd.f75.results.toList = some ir75 := by kernel_rfl


/-- pedigree/pedigreelaw01.LeftBinds -/
def ic77 : IC :=
 (.seq
 (.region [] [] [0, 1, 4] [
 ⟨(some 4), (.move (.k (rB false))), none, none⟩])
 (.seq
 (.region [] [] [0, 1, 4] [
 ⟨(some 5), (.move (.t 0)), none, none⟩,
 ⟨(some 6), (.move (.t 1)), none, none⟩,
 ⟨(some 7), (.callp (.k (rF 39)) [(.t 5), (.t 6)]), none, none⟩,
 ⟨(some 8), (.move (.t 7)), none, none⟩,
 ⟨(some 9), (.move (.t 0)), some (8, true), none⟩,
 ⟨(some 10), (.move (.t 1)), some (8, true), none⟩,
 ⟨(some 11), (.len (.t 10)), some (8, true), none⟩,
 ⟨(some 12), (.bin .add (.t 11) (.k (rI .i64 1))), some (8, true), none⟩,
 ⟨(some 13), (.vsl 4 (.t 9) none (some (.t 12))), some (8, true), none⟩,
 ⟨(some 14), (.move (.t 1)), some (8, true), none⟩,
 ⟨(some 15), (.len (.t 14)), some (8, true), none⟩,
 ⟨(some 16), (.iaddr 4 (.t 13) (.t 15)), some (8, true), none⟩,
 ⟨(some 17), (.load (some 4) (.t 16)), some (8, true), none⟩,
 ⟨(some 18), (.callp (.k (rF 145)) [(.t 17), (.k (rI .i64 777777))]), some (8, true), none⟩,
 ⟨(some 19), (.pick (.t 8) (.t 18) (.k (rB false))), none, none⟩,
 ⟨(some 4), (.move (.t 19)), none, none⟩])
 .ret))
def ir77 : List IRes := [.tmp 4]
theorem ie77 : cmpFunc Go.Proofs.Tryd.prog ⟨[], []⟩ Go.Proofs.Tryd.f77 [0, 1, 4] = some ic77 := by kernel_rfl
theorem ig77 : cmpRes Go.Proofs.Tryd.prog Go.Proofs.Tryd.f77.results.toList = some ir77 := by kernel_rfl


/-- pedigree/value.text -/
def ic104 : IC :=
 (.seq
 (.region [2] [] [0, 6, 2, 3] [
 ⟨(some 2), (.zero 39 [(.c (.v (.int .i8 0))), (.c (.v (.int .i64 0))), (.c (.v (.string (bs []))))]), none, none⟩,
 ⟨(some 3), (.move (.k (rB false))), none, none⟩])
 (.seq
 (.seq
 (.region [] [] [0, 6, 2, 3] [
 ⟨(some 4), (.move (.t 0)), none, none⟩,
 ⟨(some 5), (.slen (.t 4)), none, none⟩,
 ⟨(some 6), (.bin .gtr (.t 5) (.k (rI .i64 200))), none, none⟩])
 (.cond (.t 6)
 (.seq
 (.region [] [] [0, 6, 2, 3] [
 ⟨(some 7), (.build [(.c (.v (.int .i8 0))), (.c (.v (.int .i64 0))), (.c (.v (.string (bs []))))] []), none, none⟩,
 ⟨none, (.store (some 3) (.t 2) (.t 7)), none, none⟩,
 ⟨(some 3), (.move (.k (rB false))), none, none⟩])
 .ret)
 .skip))
 (.seq
 (.region [] [] [0, 6, 2, 3] [
 ⟨(some 8), (.move (.t 0)), none, none⟩,
 ⟨(some 9), (.build [(.c (.v (.int .i8 0))), (.c (.v (.int .i64 0))), (.c (.v (.string (bs []))))] [(0, 1, (.k (rI .i8 2))), (2, 1, (.t 8))]), none, none⟩,
 ⟨none, (.store (some 3) (.t 2) (.t 9)), none, none⟩,
 ⟨(some 3), (.move (.k (rB true))), none, none⟩])
 .ret)))
def ir104 : List IRes := [.cell 2 (some 3), .tmp 3]
theorem ie104 : cmpFunc Go.Proofs.Tryd.prog ⟨[], []⟩ Go.Proofs.Tryd.f104 [0, 6, 2, 3] = some ic104 := by kernel_rfl
theorem ig104 : cmpRes Go.Proofs.Tryd.prog Go.Proofs.Tryd.f104.results.toList = some ir104 := by kernel_rfl

def ic141l0 : IC :=
 (.seq
 (.seq
 (.region [] [] [0, 2, 14, 1, 7, 23, 4, 6, 9, 30, 11, 44, 8, 10, 5] [
 ⟨(some 26), (.move (.t 9)), none, none⟩,
 ⟨(some 27), (.faddr 5 (.t 2)), none, none⟩,
 ⟨(some 28), (.load none (.t 27)), none, none⟩,
 ⟨(some 29), (.len (.t 28)), none, none⟩,
 ⟨(some 30), (.bin .lss (.t 26) (.t 29)), none, none⟩])
 (.cond (.t 30)
 .skip
 (.exit 0)))
 (.seq
 (.block 1
 (.seq
 (.region [10] [] [0, 2, 14, 1, 7, 23, 4, 6, 9, 30, 11, 44, 8, 10, 5] [
 ⟨(some 34), (.faddr 5 (.t 2)), none, none⟩,
 ⟨(some 35), (.load none (.t 34)), none, none⟩,
 ⟨(some 36), (.move (.t 9)), none, none⟩,
 ⟨(some 37), (.iaddr 6 (.t 35) (.t 36)), none, none⟩,
 ⟨(some 38), (.load (some 6) (.t 37)), none, none⟩,
 ⟨(some 39), (.move (.t 1)), none, none⟩,
 ⟨(some 40), (.callp (.k (rF 141)) [(.t 38), (.t 39)]), none, none⟩,
 ⟨(some 33), (.move (.t 40)), none, none⟩,
 ⟨(some 41), (.ext (.t 33) 0), none, none⟩,
 ⟨(some 42), (.ext (.t 33) 1), none, none⟩,
 ⟨(some 10), (.zero 39 [(.c (.v (.int .i8 0))), (.c (.v (.int .i64 0))), (.c (.v (.string (bs []))))]), none, none⟩,
 ⟨none, (.store (some 3) (.t 10) (.t 41)), none, none⟩,
 ⟨(some 11), (.move (.t 42)), none, none⟩])
 (.seq
 (.seq
 (.region [] [] [0, 2, 14, 1, 7, 23, 4, 6, 9, 30, 11, 44, 8, 10, 5] [
 ⟨(some 43), (.move (.t 11)), none, none⟩,
 ⟨(some 44), (.un .not (.t 43)), none, none⟩])
 (.cond (.t 44)
 (.seq
 (.region [] [] [0, 2, 14, 1, 7, 23, 4, 6, 9, 30, 11, 44, 8, 10, 5] [
 ⟨(some 45), (.build [(.c (.v (.int .i8 0))), (.c (.v (.int .i64 0))), (.c (.v (.string (bs []))))] []), none, none⟩,
 ⟨none, (.store (some 3) (.t 4) (.t 45)), none, none⟩,
 ⟨(some 5), (.move (.k (rB false))), none, none⟩])
 .ret)
 .skip))
 (.region [48] [] [0, 2, 14, 1, 7, 23, 4, 6, 9, 30, 11, 44, 8, 10, 5] [
 ⟨(some 46), (.move (.t 8)), none, none⟩,
 ⟨(some 47), (.load (some 3) (.t 10)), none, none⟩,
 ⟨(some 48), (.row 39 3 [(.t 47)]), none, none⟩,
 ⟨(some 49), (.app 39 3 32 (.t 46) (.t 48)), none, none⟩,
 ⟨(some 8), (.move (.t 49)), none, none⟩]))))
 (.region [] [] [0, 2, 14, 1, 7, 23, 4, 6, 9, 30, 11, 44, 8, 10, 5] [
 ⟨(some 31), (.move (.t 9)), none, none⟩,
 ⟨(some 32), (.bin .add (.t 31) (.k (rI .i64 1))), none, none⟩,
 ⟨(some 9), (.move (.t 32)), none, none⟩])))

/-- pedigree/pedigreeref04.worth -/
def ic141 : IC :=
 (.seq
 (.region [2, 4] [] [0, 2, 14, 1, 7, 23, 4, 6, 9, 30, 11, 44, 8, 10, 5] [
 ⟨(some 2), (.box 47 (.t 0)), none, none⟩,
 ⟨(some 4), (.zero 39 [(.c (.v (.int .i8 0))), (.c (.v (.int .i64 0))), (.c (.v (.string (bs []))))]), none, none⟩,
 ⟨(some 5), (.move (.k (rB false))), none, none⟩])
 (.seq
 (.seq
 (.region [] [] [0, 2, 14, 1, 7, 23, 4, 6, 9, 30, 11, 44, 8, 10, 5] [
 ⟨(some 12), (.faddr 0 (.t 2)), none, none⟩,
 ⟨(some 13), (.load none (.t 12)), none, none⟩,
 ⟨(some 14), (.bin .eql (.t 13) (.k (rI .i8 0))), none, none⟩])
 (.cond (.t 14)
 (.seq
 (.region [6] [] [0, 2, 14, 1, 7, 23, 4, 6, 9, 30, 11, 44, 8, 10, 5] [
 ⟨(some 16), (.move (.t 1)), none, none⟩,
 ⟨(some 17), (.faddr 1 (.t 2)), none, none⟩,
 ⟨(some 18), (.load (some 4) (.t 17)), none, none⟩,
 ⟨(some 19), (.callp (.k (rF 107)) [(.t 16), (.t 18)]), none, none⟩,
 ⟨(some 15), (.move (.t 19)), none, none⟩,
 ⟨(some 20), (.ext (.t 15) 0), none, none⟩,
 ⟨(some 21), (.ext (.t 15) 1), none, none⟩,
 ⟨(some 6), (.zero 39 [(.c (.v (.int .i8 0))), (.c (.v (.int .i64 0))), (.c (.v (.string (bs []))))]), none, none⟩,
 ⟨none, (.store (some 3) (.t 6) (.t 20)), none, none⟩,
 ⟨(some 7), (.move (.t 21)), none, none⟩])
 (.seq
 (.seq
 (.region [] [] [0, 2, 14, 1, 7, 23, 4, 6, 9, 30, 11, 44, 8, 10, 5] [
 ⟨(some 22), (.move (.t 7)), none, none⟩,
 ⟨(some 23), (.un .not (.t 22)), none, none⟩])
 (.cond (.t 23)
 (.seq
 (.region [] [] [0, 2, 14, 1, 7, 23, 4, 6, 9, 30, 11, 44, 8, 10, 5] [
 ⟨(some 24), (.build [(.c (.v (.int .i8 0))), (.c (.v (.int .i64 0))), (.c (.v (.string (bs []))))] []), none, none⟩,
 ⟨none, (.store (some 3) (.t 4) (.t 24)), none, none⟩,
 ⟨(some 5), (.move (.k (rB false))), none, none⟩])
 .ret)
 .skip))
 (.seq
 (.region [] [] [0, 2, 14, 1, 7, 23, 4, 6, 9, 30, 11, 44, 8, 10, 5] [
 ⟨(some 25), (.load (some 3) (.t 6)), none, none⟩,
 ⟨none, (.store (some 3) (.t 4) (.t 25)), none, none⟩,
 ⟨(some 5), (.move (.k (rB true))), none, none⟩])
 .ret)))
 .skip))
 (.seq
 (.region [] [] [0, 2, 14, 1, 7, 23, 4, 6, 9, 30, 11, 44, 8, 10, 5] [
 ⟨(some 8), (.move (.k (.x (.one .nil)))), none, none⟩])
 (.seq
 (.seq
 (.region [] [] [0, 2, 14, 1, 7, 23, 4, 6, 9, 30, 11, 44, 8, 10, 5] [
 ⟨(some 9), (.move (.k (rI .i64 0))), none, none⟩])
 (.block 0
 (.loop ic141l0)))
 (.seq
 (.region [] [] [0, 2, 14, 1, 7, 23, 4, 6, 9, 30, 11, 44, 8, 10, 5] [
 ⟨(some 50), (.faddr 0 (.t 2)), none, none⟩,
 ⟨(some 51), (.load none (.t 50)), none, none⟩,
 ⟨(some 52), (.move (.t 8)), none, none⟩,
 ⟨(some 53), (.callp (.k (rF 188)) [(.t 51), (.t 52)]), none, none⟩,
 ⟨(some 54), (.ext (.t 53) 0), none, none⟩,
 ⟨(some 55), (.ext (.t 53) 1), none, none⟩,
 ⟨none, (.store (some 3) (.t 4) (.t 54)), none, none⟩,
 ⟨(some 5), (.move (.t 55)), none, none⟩])
 .ret)))))
def ir141 : List IRes := [.cell 4 (some 3), .tmp 5]
theorem ie141 : cmpFunc Go.Proofs.Tryd.prog ⟨[], []⟩ Go.Proofs.Tryd.f141 [0, 2, 14, 1, 7, 23, 4, 6, 9, 30, 11, 44, 8, 10, 5] = some ic141 := by kernel_rfl
theorem ig141 : cmpRes Go.Proofs.Tryd.prog Go.Proofs.Tryd.f141.results.toList = some ir141 := by kernel_rfl


/-- pedigree/pedigreelaw01.markBind -/
def ic143 : IC :=
 (.seq
 (.region [2] [] [0, 2] [
 ⟨(some 2), (.zero 54 [(.c (.v (.string (bs [])))), (.c (.v (.int .i8 0))), (.c (.v (.int .i64 0))), (.c (.v (.string (bs []))))]), none, none⟩])
 (.seq
 (.region [] [] [0, 2] [
 ⟨(some 3), (.move (.t 0)), none, none⟩,
 ⟨(some 4), (.callp (.k (rF 172)) [(.t 3)]), none, none⟩,
 ⟨(some 5), (.build [(.c (.v (.string (bs [])))), (.c (.v (.int .i8 0))), (.c (.v (.int .i64 0))), (.c (.v (.string (bs []))))] [(0, 1, (.t 4))]), none, none⟩,
 ⟨none, (.store (some 4) (.t 2) (.t 5)), none, none⟩])
 .ret))
def ir143 : List IRes := [.cell 2 (some 4)]
theorem ie143 : cmpFunc Go.Proofs.Tryd.prog ⟨[], []⟩ Go.Proofs.Tryd.f143 [0, 2] = some ic143 := by kernel_rfl
theorem ig143 : cmpRes Go.Proofs.Tryd.prog Go.Proofs.Tryd.f143.results.toList = some ir143 := by kernel_rfl


/-- pedigree/pedigreelaw01.isBind -/
def ic145 : IC :=
 (.seq
 (.region [2] [] [0, 2, 1, 4] [
 ⟨(some 2), (.box 54 (.t 0)), none, none⟩,
 ⟨(some 4), (.move (.k (rB false))), none, none⟩])
 (.seq
 (.region [] [] [0, 2, 1, 4] [
 ⟨(some 5), (.load (some 4) (.t 2)), none, none⟩,
 ⟨(some 6), (.move (.t 1)), none, none⟩,
 ⟨(some 7), (.callp (.k (rF 172)) [(.t 6)]), none, none⟩,
 ⟨(some 8), (.build [(.c (.v (.string (bs [])))), (.c (.v (.int .i8 0))), (.c (.v (.int .i64 0))), (.c (.v (.string (bs []))))] [(0, 1, (.t 7))]), none, none⟩,
 ⟨(some 9), (.eqs false [.s, .i .i8, .i .i64, .s] (.t 5) (.t 8)), none, none⟩,
 ⟨(some 4), (.move (.t 9)), none, none⟩])
 .ret))
def ir145 : List IRes := [.tmp 4]
theorem ie145 : cmpFunc Go.Proofs.Tryd.prog ⟨[], []⟩ Go.Proofs.Tryd.f145 [0, 2, 1, 4] = some ic145 := by kernel_rfl
theorem ig145 : cmpRes Go.Proofs.Tryd.prog Go.Proofs.Tryd.f145.results.toList = some ir145 := by kernel_rfl


/-- pedigree/pedigreeref01.Arith -/
def ic188 : IC :=
 (.seq
 (.region [4] [] [0, 1, 7, 4, 20, 43, 6, 61, 65, 5] [
 ⟨(some 4), (.zero 39 [(.c (.v (.int .i8 0))), (.c (.v (.int .i64 0))), (.c (.v (.string (bs []))))]), none, none⟩,
 ⟨(some 5), (.move (.k (rB false))), none, none⟩])
 (.seq
 (.block 0
 (.seq
 (.region [] [] [0, 1, 7, 4, 20, 43, 6, 61, 65, 5] [
 ⟨(some 8), (.move (.t 0)), none, none⟩,
 ⟨(some 9), (.bin .eql (.t 8) (.k (rI .i8 1))), none, none⟩,
 ⟨(some 10), (.move (.t 9)), none, none⟩,
 ⟨(some 11), (.move (.t 1)), some (10, true), none⟩,
 ⟨(some 12), (.callp (.k (rF 210)) [(.t 11), (.k (rI .i64 1)), (.k (rI .i8 1))]), some (10, true), none⟩,
 ⟨(some 13), (.pick (.t 10) (.t 12) (.k (rB false))), none, none⟩,
 ⟨(some 7), (.move (.t 13)), none, none⟩])
 (.cond (.t 7)
 (.seq
 (.region [] [] [0, 1, 7, 4, 20, 43, 6, 61, 65, 5] [
 ⟨(some 14), (.move (.t 1)), none, none⟩,
 ⟨(some 15), (.iaddr 3 (.t 14) (.k (rI .i64 0))), none, none⟩,
 ⟨(some 16), (.faddr 1 (.t 15)), none, none⟩,
 ⟨(some 17), (.load none (.t 16)), none, none⟩,
 ⟨(some 18), (.un .neg (.t 17)), none, none⟩,
 ⟨(some 19), (.build [(.c (.v (.int .i8 0))), (.c (.v (.int .i64 0))), (.c (.v (.string (bs []))))] [(0, 1, (.k (rI .i8 1))), (1, 1, (.t 18))]), none, none⟩,
 ⟨none, (.store (some 3) (.t 4) (.t 19)), none, none⟩,
 ⟨(some 5), (.move (.k (rB true))), none, none⟩])
 .ret)
 (.seq
 (.region [] [] [0, 1, 7, 4, 20, 43, 6, 61, 65, 5] [
 ⟨(some 21), (.move (.t 0)), none, none⟩,
 ⟨(some 22), (.bin .geq (.t 21) (.k (rI .i8 2))), none, none⟩,
 ⟨(some 23), (.move (.t 22)), none, none⟩,
 ⟨(some 24), (.move (.t 0)), some (23, true), none⟩,
 ⟨(some 25), (.bin .leq (.t 24) (.k (rI .i8 6))), some (23, true), none⟩,
 ⟨(some 26), (.pick (.t 23) (.t 25) (.k (rB false))), none, none⟩,
 ⟨(some 27), (.move (.t 26)), none, none⟩,
 ⟨(some 28), (.move (.t 1)), some (27, true), none⟩,
 ⟨(some 29), (.callp (.k (rF 210)) [(.t 28), (.k (rI .i64 2)), (.k (rI .i8 1))]), some (27, true), none⟩,
 ⟨(some 30), (.pick (.t 27) (.t 29) (.k (rB false))), none, none⟩,
 ⟨(some 20), (.move (.t 30)), none, none⟩])
 (.cond (.t 20)
 (.seq
 (.region [] [] [0, 1, 7, 4, 20, 43, 6, 61, 65, 5] [
 ⟨(some 31), (.move (.t 0)), none, none⟩,
 ⟨(some 32), (.move (.t 1)), none, none⟩,
 ⟨(some 33), (.iaddr 3 (.t 32) (.k (rI .i64 0))), none, none⟩,
 ⟨(some 34), (.faddr 1 (.t 33)), none, none⟩,
 ⟨(some 35), (.load none (.t 34)), none, none⟩,
 ⟨(some 36), (.move (.t 1)), none, none⟩,
 ⟨(some 37), (.iaddr 3 (.t 36) (.k (rI .i64 1))), none, none⟩,
 ⟨(some 38), (.faddr 1 (.t 37)), none, none⟩,
 ⟨(some 39), (.load none (.t 38)), none, none⟩,
 ⟨(some 40), (.callp (.k (rF 211)) [(.t 31), (.t 35), (.t 39)]), none, none⟩,
 ⟨(some 41), (.ext (.t 40) 0), none, none⟩,
 ⟨(some 42), (.ext (.t 40) 1), none, none⟩,
 ⟨none, (.store (some 3) (.t 4) (.t 41)), none, none⟩,
 ⟨(some 5), (.move (.t 42)), none, none⟩])
 .ret)
 (.seq
 (.region [] [] [0, 1, 7, 4, 20, 43, 6, 61, 65, 5] [
 ⟨(some 44), (.move (.t 0)), none, none⟩,
 ⟨(some 45), (.bin .eql (.t 44) (.k (rI .i8 7))), none, none⟩,
 ⟨(some 46), (.move (.t 45)), none, none⟩,
 ⟨(some 47), (.move (.t 1)), some (46, true), none⟩,
 ⟨(some 48), (.callp (.k (rF 210)) [(.t 47), (.k (rI .i64 2)), (.k (rI .i8 2))]), some (46, true), none⟩,
 ⟨(some 49), (.pick (.t 46) (.t 48) (.k (rB false))), none, none⟩,
 ⟨(some 43), (.move (.t 49)), none, none⟩])
 (.cond (.t 43)
 (.seq
 (.region [] [] [0, 1, 7, 4, 20, 43, 6, 61, 65, 5] [
 ⟨(some 50), (.move (.t 1)), none, none⟩,
 ⟨(some 51), (.iaddr 3 (.t 50) (.k (rI .i64 0))), none, none⟩,
 ⟨(some 52), (.faddr 2 (.t 51)), none, none⟩,
 ⟨(some 53), (.load none (.t 52)), none, none⟩,
 ⟨(some 54), (.move (.t 1)), none, none⟩,
 ⟨(some 55), (.iaddr 3 (.t 54) (.k (rI .i64 1))), none, none⟩,
 ⟨(some 56), (.faddr 2 (.t 55)), none, none⟩,
 ⟨(some 57), (.load none (.t 56)), none, none⟩,
 ⟨(some 58), (.bin .add (.t 53) (.t 57)), none, none⟩,
 ⟨(some 6), (.move (.t 58)), none, none⟩])
 (.seq
 (.seq
 (.region [] [] [0, 1, 7, 4, 20, 43, 6, 61, 65, 5] [
 ⟨(some 59), (.move (.t 6)), none, none⟩,
 ⟨(some 60), (.slen (.t 59)), none, none⟩,
 ⟨(some 61), (.bin .gtr (.t 60) (.k (rI .i64 200))), none, none⟩])
 (.cond (.t 61)
 (.seq
 (.region [] [] [0, 1, 7, 4, 20, 43, 6, 61, 65, 5] [
 ⟨(some 62), (.build [(.c (.v (.int .i8 0))), (.c (.v (.int .i64 0))), (.c (.v (.string (bs []))))] []), none, none⟩,
 ⟨none, (.store (some 3) (.t 4) (.t 62)), none, none⟩,
 ⟨(some 5), (.move (.k (rB false))), none, none⟩])
 .ret)
 .skip))
 (.seq
 (.region [] [] [0, 1, 7, 4, 20, 43, 6, 61, 65, 5] [
 ⟨(some 63), (.move (.t 6)), none, none⟩,
 ⟨(some 64), (.build [(.c (.v (.int .i8 0))), (.c (.v (.int .i64 0))), (.c (.v (.string (bs []))))] [(0, 1, (.k (rI .i8 2))), (2, 1, (.t 63))]), none, none⟩,
 ⟨none, (.store (some 3) (.t 4) (.t 64)), none, none⟩,
 ⟨(some 5), (.move (.k (rB true))), none, none⟩])
 .ret)))
 (.seq
 (.region [] [] [0, 1, 7, 4, 20, 43, 6, 61, 65, 5] [
 ⟨(some 66), (.move (.t 0)), none, none⟩,
 ⟨(some 67), (.bin .geq (.t 66) (.k (rI .i8 8))), none, none⟩,
 ⟨(some 68), (.move (.t 67)), none, none⟩,
 ⟨(some 69), (.move (.t 0)), some (68, true), none⟩,
 ⟨(some 70), (.bin .leq (.t 69) (.k (rI .i8 10))), some (68, true), none⟩,
 ⟨(some 71), (.pick (.t 68) (.t 70) (.k (rB false))), none, none⟩,
 ⟨(some 72), (.move (.t 71)), none, none⟩,
 ⟨(some 73), (.move (.t 1)), some (72, true), none⟩,
 ⟨(some 74), (.callp (.k (rF 210)) [(.t 73), (.k (rI .i64 1)), (.k (rI .i8 2))]), some (72, true), none⟩,
 ⟨(some 75), (.pick (.t 72) (.t 74) (.k (rB false))), none, none⟩,
 ⟨(some 65), (.move (.t 75)), none, none⟩])
 (.cond (.t 65)
 (.seq
 (.region [] [] [0, 1, 7, 4, 20, 43, 6, 61, 65, 5] [
 ⟨(some 76), (.move (.t 0)), none, none⟩,
 ⟨(some 77), (.move (.t 1)), none, none⟩,
 ⟨(some 78), (.iaddr 3 (.t 77) (.k (rI .i64 0))), none, none⟩,
 ⟨(some 79), (.faddr 2 (.t 78)), none, none⟩,
 ⟨(some 80), (.load none (.t 79)), none, none⟩,
 ⟨(some 81), (.callp (.k (rF 212)) [(.t 76), (.t 80)]), none, none⟩,
 ⟨(some 82), (.ext (.t 81) 0), none, none⟩,
 ⟨(some 83), (.ext (.t 81) 1), none, none⟩,
 ⟨none, (.store (some 3) (.t 4) (.t 82)), none, none⟩,
 ⟨(some 5), (.move (.t 83)), none, none⟩])
 .ret)
 .skip)))))))))
 (.seq
 (.region [] [] [0, 1, 7, 4, 20, 43, 6, 61, 65, 5] [
 ⟨(some 84), (.build [(.c (.v (.int .i8 0))), (.c (.v (.int .i64 0))), (.c (.v (.string (bs []))))] []), none, none⟩,
 ⟨none, (.store (some 3) (.t 4) (.t 84)), none, none⟩,
 ⟨(some 5), (.move (.k (rB false))), none, none⟩])
 .ret)))
def ir188 : List IRes := [.cell 4 (some 3), .tmp 5]
theorem ie188 : cmpFunc Go.Proofs.Tryd.prog ⟨[], []⟩ Go.Proofs.Tryd.f188 [0, 1, 7, 4, 20, 43, 6, 61, 65, 5] = some ic188 := by kernel_rfl
theorem ig188 : cmpRes Go.Proofs.Tryd.prog Go.Proofs.Tryd.f188.results.toList = some ir188 := by kernel_rfl

def ic210l0 : IC :=
 (.seq
 (.seq
 (.region [] [] [0, 1, 11, 7, 14, 2, 31, 6] [
 ⟨(some 12), (.move (.t 7)), none, none⟩,
 ⟨(some 13), (.move (.t 1)), none, none⟩,
 ⟨(some 14), (.bin .lss (.t 12) (.t 13)), none, none⟩])
 (.cond (.t 14)
 .skip
 (.exit 0)))
 (.seq
 (.block 1
 (.seq
 (.region [] [] [0, 1, 11, 7, 14, 2, 31, 6] [
 ⟨(some 17), (.move (.t 0)), none, none⟩,
 ⟨(some 18), (.move (.t 7)), none, none⟩,
 ⟨(some 19), (.iaddr 3 (.t 17) (.t 18)), none, none⟩,
 ⟨(some 20), (.faddr 0 (.t 19)), none, none⟩,
 ⟨(some 21), (.load none (.t 20)), none, none⟩,
 ⟨(some 22), (.move (.t 2)), none, none⟩,
 ⟨(some 23), (.bin .neq (.t 21) (.t 22)), none, none⟩,
 ⟨(some 24), (.move (.t 23)), none, none⟩,
 ⟨(some 25), (.move (.t 0)), some (24, false), none⟩,
 ⟨(some 26), (.move (.t 7)), some (24, false), none⟩,
 ⟨(some 27), (.iaddr 3 (.t 25) (.t 26)), some (24, false), none⟩,
 ⟨(some 28), (.load (some 3) (.t 27)), some (24, false), none⟩,
 ⟨(some 29), (.callp (.k (rF 29)) [(.t 28)]), some (24, false), none⟩,
 ⟨(some 30), (.bin .neq (.t 29) (.k (rI .i64 0))), some (24, false), none⟩,
 ⟨(some 31), (.pick (.t 24) (.k (rB true)) (.t 30)), none, none⟩])
 (.cond (.t 31)
 (.seq
 (.region [] [] [0, 1, 11, 7, 14, 2, 31, 6] [
 ⟨(some 6), (.move (.k (rB false))), none, none⟩])
 .ret)
 .skip)))
 (.region [] [] [0, 1, 11, 7, 14, 2, 31, 6] [
 ⟨(some 15), (.move (.t 7)), none, none⟩,
 ⟨(some 16), (.bin .add (.t 15) (.k (rI .i64 1))), none, none⟩,
 ⟨(some 7), (.move (.t 16)), none, none⟩])))

/-- pedigree/pedigreeref01.kinds -/
def ic210 : IC :=
 (.seq
 (.region [] [] [0, 1, 11, 7, 14, 2, 31, 6] [
 ⟨(some 6), (.move (.k (rB false))), none, none⟩])
 (.seq
 (.seq
 (.region [] [] [0, 1, 11, 7, 14, 2, 31, 6] [
 ⟨(some 8), (.move (.t 0)), none, none⟩,
 ⟨(some 9), (.len (.t 8)), none, none⟩,
 ⟨(some 10), (.move (.t 1)), none, none⟩,
 ⟨(some 11), (.bin .neq (.t 9) (.t 10)), none, none⟩])
 (.cond (.t 11)
 (.seq
 (.region [] [] [0, 1, 11, 7, 14, 2, 31, 6] [
 ⟨(some 6), (.move (.k (rB false))), none, none⟩])
 .ret)
 .skip))
 (.seq
 (.seq
 (.region [] [] [0, 1, 11, 7, 14, 2, 31, 6] [
 ⟨(some 7), (.move (.k (rI .i64 0))), none, none⟩])
 (.block 0
 (.loop ic210l0)))
 (.seq
 (.region [] [] [0, 1, 11, 7, 14, 2, 31, 6] [
 ⟨(some 6), (.move (.k (rB true))), none, none⟩])
 .ret))))
def ir210 : List IRes := [.tmp 6]
theorem ie210 : cmpFunc Go.Proofs.Tryd.prog ⟨[], []⟩ Go.Proofs.Tryd.f210 [0, 1, 11, 7, 14, 2, 31, 6] = some ic210 := by kernel_rfl
theorem ig210 : cmpRes Go.Proofs.Tryd.prog Go.Proofs.Tryd.f210.results.toList = some ir210 := by kernel_rfl


/-- pedigree/pedigreeref01.numbers -/
def ic211 : IC :=
 (.seq
 (.region [6] [] [0, 9, 10, 1, 2, 6, 16, 22, 29, 35, 8, 7] [
 ⟨(some 6), (.zero 39 [(.c (.v (.int .i8 0))), (.c (.v (.int .i64 0))), (.c (.v (.string (bs []))))]), none, none⟩,
 ⟨(some 7), (.move (.k (rB false))), none, none⟩])
 (.seq
 (.seq
 (.region [] [] [0, 9, 10, 1, 2, 6, 16, 22, 29, 35, 8, 7] [
 ⟨(some 9), (.move (.t 0)), none, none⟩])
 (.block 0
 (.seq
 (.region [] [] [0, 9, 10, 1, 2, 6, 16, 22, 29, 35, 8, 7] [
 ⟨(some 11), (.bin .eql (.t 9) (.k (rI .i8 2))), none, none⟩,
 ⟨(some 10), (.move (.t 11)), none, none⟩])
 (.cond (.t 10)
 (.seq
 (.region [] [] [0, 9, 10, 1, 2, 6, 16, 22, 29, 35, 8, 7] [
 ⟨(some 12), (.move (.t 1)), none, none⟩,
 ⟨(some 13), (.move (.t 2)), none, none⟩,
 ⟨(some 14), (.bin .add (.t 12) (.t 13)), none, none⟩,
 ⟨(some 15), (.build [(.c (.v (.int .i8 0))), (.c (.v (.int .i64 0))), (.c (.v (.string (bs []))))] [(0, 1, (.k (rI .i8 1))), (1, 1, (.t 14))]), none, none⟩,
 ⟨none, (.store (some 3) (.t 6) (.t 15)), none, none⟩,
 ⟨(some 7), (.move (.k (rB true))), none, none⟩])
 .ret)
 (.seq
 (.region [] [] [0, 9, 10, 1, 2, 6, 16, 22, 29, 35, 8, 7] [
 ⟨(some 17), (.bin .eql (.t 9) (.k (rI .i8 3))), none, none⟩,
 ⟨(some 16), (.move (.t 17)), none, none⟩])
 (.cond (.t 16)
 (.seq
 (.region [] [] [0, 9, 10, 1, 2, 6, 16, 22, 29, 35, 8, 7] [
 ⟨(some 18), (.move (.t 1)), none, none⟩,
 ⟨(some 19), (.move (.t 2)), none, none⟩,
 ⟨(some 20), (.bin .sub (.t 18) (.t 19)), none, none⟩,
 ⟨(some 21), (.build [(.c (.v (.int .i8 0))), (.c (.v (.int .i64 0))), (.c (.v (.string (bs []))))] [(0, 1, (.k (rI .i8 1))), (1, 1, (.t 20))]), none, none⟩,
 ⟨none, (.store (some 3) (.t 6) (.t 21)), none, none⟩,
 ⟨(some 7), (.move (.k (rB true))), none, none⟩])
 .ret)
 (.seq
 (.region [] [] [0, 9, 10, 1, 2, 6, 16, 22, 29, 35, 8, 7] [
 ⟨(some 23), (.bin .eql (.t 9) (.k (rI .i8 4))), none, none⟩,
 ⟨(some 22), (.move (.t 23)), none, none⟩])
 (.cond (.t 22)
 (.seq
 (.region [] [] [0, 9, 10, 1, 2, 6, 16, 22, 29, 35, 8, 7] [
 ⟨(some 24), (.move (.t 1)), none, none⟩,
 ⟨(some 25), (.move (.t 2)), none, none⟩,
 ⟨(some 26), (.bin .mul (.t 24) (.t 25)), none, none⟩,
 ⟨(some 27), (.build [(.c (.v (.int .i8 0))), (.c (.v (.int .i64 0))), (.c (.v (.string (bs []))))] [(0, 1, (.k (rI .i8 1))), (1, 1, (.t 26))]), none, none⟩,
 ⟨none, (.store (some 3) (.t 6) (.t 27)), none, none⟩,
 ⟨(some 7), (.move (.k (rB true))), none, none⟩])
 .ret)
 .skip))))))))
 (.seq
 (.seq
 (.region [] [] [0, 9, 10, 1, 2, 6, 16, 22, 29, 35, 8, 7] [
 ⟨(some 28), (.move (.t 2)), none, none⟩,
 ⟨(some 29), (.bin .eql (.t 28) (.k (rI .i64 0))), none, none⟩])
 (.cond (.t 29)
 (.seq
 (.region [] [] [0, 9, 10, 1, 2, 6, 16, 22, 29, 35, 8, 7] [
 ⟨(some 30), (.build [(.c (.v (.int .i8 0))), (.c (.v (.int .i64 0))), (.c (.v (.string (bs []))))] []), none, none⟩,
 ⟨none, (.store (some 3) (.t 6) (.t 30)), none, none⟩,
 ⟨(some 7), (.move (.k (rB false))), none, none⟩])
 .ret)
 .skip))
 (.seq
 (.region [] [] [0, 9, 10, 1, 2, 6, 16, 22, 29, 35, 8, 7] [
 ⟨(some 31), (.move (.t 1)), none, none⟩,
 ⟨(some 32), (.move (.t 2)), none, none⟩,
 ⟨(some 33), (.callp (.k (rF 226)) [(.t 31), (.t 32)]), none, none⟩,
 ⟨(some 8), (.move (.t 33)), none, none⟩])
 (.seq
 (.seq
 (.region [] [] [0, 9, 10, 1, 2, 6, 16, 22, 29, 35, 8, 7] [
 ⟨(some 34), (.move (.t 0)), none, none⟩,
 ⟨(some 35), (.bin .eql (.t 34) (.k (rI .i8 5))), none, none⟩])
 (.cond (.t 35)
 (.seq
 (.region [] [] [0, 9, 10, 1, 2, 6, 16, 22, 29, 35, 8, 7] [
 ⟨(some 36), (.move (.t 8)), none, none⟩,
 ⟨(some 37), (.build [(.c (.v (.int .i8 0))), (.c (.v (.int .i64 0))), (.c (.v (.string (bs []))))] [(0, 1, (.k (rI .i8 1))), (1, 1, (.t 36))]), none, none⟩,
 ⟨none, (.store (some 3) (.t 6) (.t 37)), none, none⟩,
 ⟨(some 7), (.move (.k (rB true))), none, none⟩])
 .ret)
 .skip))
 (.seq
 (.region [] [] [0, 9, 10, 1, 2, 6, 16, 22, 29, 35, 8, 7] [
 ⟨(some 38), (.move (.t 1)), none, none⟩,
 ⟨(some 39), (.move (.t 8)), none, none⟩,
 ⟨(some 40), (.move (.t 2)), none, none⟩,
 ⟨(some 41), (.bin .mul (.t 39) (.t 40)), none, none⟩,
 ⟨(some 42), (.bin .sub (.t 38) (.t 41)), none, none⟩,
 ⟨(some 43), (.build [(.c (.v (.int .i8 0))), (.c (.v (.int .i64 0))), (.c (.v (.string (bs []))))] [(0, 1, (.k (rI .i8 1))), (1, 1, (.t 42))]), none, none⟩,
 ⟨none, (.store (some 3) (.t 6) (.t 43)), none, none⟩,
 ⟨(some 7), (.move (.k (rB true))), none, none⟩])
 .ret))))))
def ir211 : List IRes := [.cell 6 (some 3), .tmp 7]
theorem ie211 : cmpFunc Go.Proofs.Tryd.prog ⟨[], []⟩ Go.Proofs.Tryd.f211 [0, 9, 10, 1, 2, 6, 16, 22, 29, 35, 8, 7] = some ic211 := by kernel_rfl
theorem ig211 : cmpRes Go.Proofs.Tryd.prog Go.Proofs.Tryd.f211.results.toList = some ir211 := by kernel_rfl

def ic212l0 : IC :=
 (.seq
 (.seq
 (.region [] [] [0, 9, 10, 1, 4, 15, 6, 8, 27, 7, 5] [
 ⟨(some 26), (.move (.t 8)), none, none⟩,
 ⟨(some 27), (.bin .geq (.t 26) (.k (rI .i64 0))), none, none⟩])
 (.cond (.t 27)
 .skip
 (.exit 1)))
 (.seq
 (.block 2
 (.region [] [] [0, 9, 10, 1, 4, 15, 6, 8, 27, 7, 5] [
 ⟨(some 30), (.move (.t 7)), none, none⟩,
 ⟨(some 31), (.move (.t 6)), none, none⟩,
 ⟨(some 32), (.move (.t 8)), none, none⟩,
 ⟨(some 33), (.iaddr 1 (.t 31) (.t 32)), none, none⟩,
 ⟨(some 34), (.load none (.t 33)), none, none⟩,
 ⟨(some 35), (.bin .add (.t 30) (.t 34)), none, none⟩,
 ⟨(some 7), (.move (.t 35)), none, none⟩]))
 (.region [] [] [0, 9, 10, 1, 4, 15, 6, 8, 27, 7, 5] [
 ⟨(some 28), (.move (.t 8)), none, none⟩,
 ⟨(some 29), (.bin .sub (.t 28) (.k (rI .i64 1))), none, none⟩,
 ⟨(some 8), (.move (.t 29)), none, none⟩])))

/-- pedigree/pedigreeref01.texts -/
def ic212 : IC :=
 (.seq
 (.region [4] [] [0, 9, 10, 1, 4, 15, 6, 8, 27, 7, 5] [
 ⟨(some 4), (.zero 39 [(.c (.v (.int .i8 0))), (.c (.v (.int .i64 0))), (.c (.v (.string (bs []))))]), none, none⟩,
 ⟨(some 5), (.move (.k (rB false))), none, none⟩])
 (.seq
 (.seq
 (.region [] [] [0, 9, 10, 1, 4, 15, 6, 8, 27, 7, 5] [
 ⟨(some 9), (.move (.t 0)), none, none⟩])
 (.block 0
 (.seq
 (.region [] [] [0, 9, 10, 1, 4, 15, 6, 8, 27, 7, 5] [
 ⟨(some 11), (.bin .eql (.t 9) (.k (rI .i8 8))), none, none⟩,
 ⟨(some 10), (.move (.t 11)), none, none⟩])
 (.cond (.t 10)
 (.seq
 (.region [] [] [0, 9, 10, 1, 4, 15, 6, 8, 27, 7, 5] [
 ⟨(some 12), (.move (.t 1)), none, none⟩,
 ⟨(some 13), (.slen (.t 12)), none, none⟩,
 ⟨(some 14), (.build [(.c (.v (.int .i8 0))), (.c (.v (.int .i64 0))), (.c (.v (.string (bs []))))] [(0, 1, (.k (rI .i8 1))), (1, 1, (.t 13))]), none, none⟩,
 ⟨none, (.store (some 3) (.t 4) (.t 14)), none, none⟩,
 ⟨(some 5), (.move (.k (rB true))), none, none⟩])
 .ret)
 (.seq
 (.region [] [] [0, 9, 10, 1, 4, 15, 6, 8, 27, 7, 5] [
 ⟨(some 16), (.bin .eql (.t 9) (.k (rI .i8 9))), none, none⟩,
 ⟨(some 15), (.move (.t 16)), none, none⟩])
 (.cond (.t 15)
 (.seq
 (.region [] [] [0, 9, 10, 1, 4, 15, 6, 8, 27, 7, 5] [
 ⟨(some 17), (.move (.t 1)), none, none⟩,
 ⟨(some 18), (.callp (.k (rF 227)) [(.t 17)]), none, none⟩,
 ⟨(some 19), (.len (.t 18)), none, none⟩,
 ⟨(some 20), (.build [(.c (.v (.int .i8 0))), (.c (.v (.int .i64 0))), (.c (.v (.string (bs []))))] [(0, 1, (.k (rI .i8 1))), (1, 1, (.t 19))]), none, none⟩,
 ⟨none, (.store (some 3) (.t 4) (.t 20)), none, none⟩,
 ⟨(some 5), (.move (.k (rB true))), none, none⟩])
 .ret)
 .skip))))))
 (.seq
 (.region [] [] [0, 9, 10, 1, 4, 15, 6, 8, 27, 7, 5] [
 ⟨(some 21), (.move (.t 1)), none, none⟩,
 ⟨(some 22), (.callp (.k (rF 227)) [(.t 21)]), none, none⟩,
 ⟨(some 6), (.move (.t 22)), none, none⟩])
 (.seq
 (.region [] [] [0, 9, 10, 1, 4, 15, 6, 8, 27, 7, 5] [
 ⟨(some 7), (.move (.k (rS (bs [])))), none, none⟩])
 (.seq
 (.seq
 (.region [] [] [0, 9, 10, 1, 4, 15, 6, 8, 27, 7, 5] [
 ⟨(some 23), (.move (.t 6)), none, none⟩,
 ⟨(some 24), (.len (.t 23)), none, none⟩,
 ⟨(some 25), (.bin .sub (.t 24) (.k (rI .i64 1))), none, none⟩,
 ⟨(some 8), (.move (.t 25)), none, none⟩])
 (.block 1
 (.loop ic212l0)))
 (.seq
 (.region [] [] [0, 9, 10, 1, 4, 15, 6, 8, 27, 7, 5] [
 ⟨(some 36), (.move (.t 7)), none, none⟩,
 ⟨(some 37), (.build [(.c (.v (.int .i8 0))), (.c (.v (.int .i64 0))), (.c (.v (.string (bs []))))] [(0, 1, (.k (rI .i8 2))), (2, 1, (.t 36))]), none, none⟩,
 ⟨none, (.store (some 3) (.t 4) (.t 37)), none, none⟩,
 ⟨(some 5), (.move (.k (rB true))), none, none⟩])
 .ret))))))
def ir212 : List IRes := [.cell 4 (some 3), .tmp 5]
theorem ie212 : cmpFunc Go.Proofs.Tryd.prog ⟨[], []⟩ Go.Proofs.Tryd.f212 [0, 9, 10, 1, 4, 15, 6, 8, 27, 7, 5] = some ic212 := by kernel_rfl
theorem ig212 : cmpRes Go.Proofs.Tryd.prog Go.Proofs.Tryd.f212.results.toList = some ir212 := by kernel_rfl


/-- pedigree/pedigreeref01.quotient -/
def ic226 : IC :=
 (.seq
 (.region [] [] [1, 6, 0, 4] [
 ⟨(some 4), (.move (.k (rI .i64 0))), none, none⟩])
 (.seq
 (.seq
 (.region [] [] [1, 6, 0, 4] [
 ⟨(some 5), (.move (.t 1)), none, none⟩,
 ⟨(some 6), (.bin .eql (.t 5) (.k (rI .i64 (-1)))), none, none⟩])
 (.cond (.t 6)
 (.seq
 (.region [] [] [1, 6, 0, 4] [
 ⟨(some 7), (.move (.t 0)), none, none⟩,
 ⟨(some 8), (.un .neg (.t 7)), none, none⟩,
 ⟨(some 4), (.move (.t 8)), none, none⟩])
 .ret)
 .skip))
 (.seq
 (.region [] [] [1, 6, 0, 4] [
 ⟨(some 9), (.move (.t 0)), none, none⟩,
 ⟨(some 10), (.move (.t 1)), none, none⟩,
 ⟨(some 11), (.bin .quo (.t 9) (.t 10)), none, none⟩,
 ⟨(some 4), (.move (.t 11)), none, none⟩])
 .ret)))
def ir226 : List IRes := [.tmp 4]
theorem ie226 : cmpFunc Go.Proofs.Tryd.prog ⟨[], []⟩ Go.Proofs.Tryd.f226 [1, 6, 0, 4] = some ic226 := by kernel_rfl
theorem ig226 : cmpRes Go.Proofs.Tryd.prog Go.Proofs.Tryd.f226.results.toList = some ir226 := by kernel_rfl

def ic227l0 : IC :=
 (.seq
 (.seq
 (.region [] [] [4, 0, 10, 3, 5, 2] [
 ⟨(some 7), (.move (.t 4)), none, none⟩,
 ⟨(some 8), (.move (.t 0)), none, none⟩,
 ⟨(some 9), (.slen (.t 8)), none, none⟩,
 ⟨(some 10), (.bin .lss (.t 7) (.t 9)), none, none⟩])
 (.cond (.t 10)
 .skip
 (.exit 0)))
 (.block 1
 (.seq
 (.region [] [] [4, 0, 10, 3, 5, 2] [
 ⟨(some 12), (.move (.t 0)), none, none⟩,
 ⟨(some 13), (.move (.t 4)), none, none⟩,
 ⟨(some 14), (.callp (.k (rF 231)) [(.t 12), (.t 13)]), none, none⟩,
 ⟨(some 11), (.move (.t 14)), none, none⟩,
 ⟨(some 15), (.ext (.t 11) 0), none, none⟩,
 ⟨(some 16), (.ext (.t 11) 1), none, none⟩,
 ⟨(some 5), (.move (.t 15)), none, none⟩,
 ⟨(some 6), (.move (.t 16)), none, none⟩])
 (.seq
 (.region [24] [] [4, 0, 10, 3, 5, 2] [
 ⟨(some 17), (.move (.t 3)), none, none⟩,
 ⟨(some 18), (.move (.t 0)), none, none⟩,
 ⟨(some 19), (.move (.t 4)), none, none⟩,
 ⟨(some 20), (.move (.t 4)), none, none⟩,
 ⟨(some 21), (.move (.t 5)), none, none⟩,
 ⟨(some 22), (.bin .add (.t 20) (.t 21)), none, none⟩,
 ⟨(some 23), (.ssl (.t 18) (some (.t 19)) (some (.t 22))), none, none⟩,
 ⟨(some 24), (.row 9 1 [(.t 23)]), none, none⟩,
 ⟨(some 25), (.app 9 1 16 (.t 17) (.t 24)), none, none⟩,
 ⟨(some 3), (.move (.t 25)), none, none⟩])
 (.region [] [] [4, 0, 10, 3, 5, 2] [
 ⟨(some 26), (.move (.t 4)), none, none⟩,
 ⟨(some 27), (.move (.t 5)), none, none⟩,
 ⟨(some 28), (.bin .add (.t 26) (.t 27)), none, none⟩,
 ⟨(some 4), (.move (.t 28)), none, none⟩])))))

/-- pedigree/pedigreeref01.Chars -/
def ic227 : IC :=
 (.seq
 (.region [] [] [4, 0, 10, 3, 5, 2] [
 ⟨(some 2), (.move (.k (.x (.one .nil)))), none, none⟩])
 (.seq
 (.region [] [] [4, 0, 10, 3, 5, 2] [
 ⟨(some 3), (.move (.k (.x (.one .nil)))), none, none⟩])
 (.seq
 (.seq
 (.region [] [] [4, 0, 10, 3, 5, 2] [
 ⟨(some 4), (.move (.k (rI .i64 0))), none, none⟩])
 (.block 0
 (.loop ic227l0)))
 (.seq
 (.region [] [] [4, 0, 10, 3, 5, 2] [
 ⟨(some 29), (.move (.t 3)), none, none⟩,
 ⟨(some 2), (.move (.t 29)), none, none⟩])
 .ret))))
def ir227 : List IRes := [.tmp 2]
theorem ie227 : cmpFunc Go.Proofs.Tryd.prog ⟨[], []⟩ Go.Proofs.Tryd.f227 [4, 0, 10, 3, 5, 2] = some ic227 := by kernel_rfl
theorem ig227 : cmpRes Go.Proofs.Tryd.prog Go.Proofs.Tryd.f227.results.toList = some ir227 := by kernel_rfl

def ic231l0 : IC :=
 (.seq
 (.seq
 (.region [] [] [0, 1, 6, 28, 9, 31, 10, 44, 8, 7, 65, 4, 5] [
 ⟨(some 29), (.move (.t 9)), none, none⟩,
 ⟨(some 30), (.move (.t 6)), none, none⟩,
 ⟨(some 31), (.bin .leq (.t 29) (.t 30)), none, none⟩])
 (.cond (.t 31)
 .skip
 (.exit 0)))
 (.seq
 (.block 1
 (.seq
 (.region [] [] [0, 1, 6, 28, 9, 31, 10, 44, 8, 7, 65, 4, 5] [
 ⟨(some 34), (.move (.t 0)), none, none⟩,
 ⟨(some 35), (.move (.t 1)), none, none⟩,
 ⟨(some 36), (.move (.t 9)), none, none⟩,
 ⟨(some 37), (.bin .add (.t 35) (.t 36)), none, none⟩,
 ⟨(some 38), (.sindex (.t 34) (.t 37)), none, none⟩,
 ⟨(some 10), (.move (.t 38)), none, none⟩])
 (.seq
 (.seq
 (.region [] [] [0, 1, 6, 28, 9, 31, 10, 44, 8, 7, 65, 4, 5] [
 ⟨(some 39), (.move (.t 10)), none, none⟩,
 ⟨(some 40), (.bin .lss (.t 39) (.k (rI .u8 128))), none, none⟩,
 ⟨(some 41), (.move (.t 40)), none, none⟩,
 ⟨(some 42), (.move (.t 10)), some (41, false), none⟩,
 ⟨(some 43), (.bin .geq (.t 42) (.k (rI .u8 192))), some (41, false), none⟩,
 ⟨(some 44), (.pick (.t 41) (.k (rB true)) (.t 43)), none, none⟩])
 (.cond (.t 44)
 (.seq
 (.region [] [] [0, 1, 6, 28, 9, 31, 10, 44, 8, 7, 65, 4, 5] [
 ⟨(some 4), (.move (.k (rI .i64 1))), none, none⟩,
 ⟨(some 5), (.move (.k (rB false))), none, none⟩])
 .ret)
 .skip))
 (.region [] [] [0, 1, 6, 28, 9, 31, 10, 44, 8, 7, 65, 4, 5] [
 ⟨(some 45), (.move (.t 8)), none, none⟩,
 ⟨(some 46), (.bin .mul (.t 45) (.k (rI .i64 64))), none, none⟩,
 ⟨(some 47), (.move (.t 10)), none, none⟩,
 ⟨(some 48), (.conv .i64 (.t 47)), none, none⟩,
 ⟨(some 49), (.bin .add (.t 46) (.t 48)), none, none⟩,
 ⟨(some 50), (.bin .sub (.t 49) (.k (rI .i64 128))), none, none⟩,
 ⟨(some 8), (.move (.t 50)), none, none⟩]))))
 (.region [] [] [0, 1, 6, 28, 9, 31, 10, 44, 8, 7, 65, 4, 5] [
 ⟨(some 32), (.move (.t 9)), none, none⟩,
 ⟨(some 33), (.bin .add (.t 32) (.k (rI .i64 1))), none, none⟩,
 ⟨(some 9), (.move (.t 33)), none, none⟩])))

/-- pedigree/pedigreeref01.Char -/
def ic231 : IC :=
 (.seq
 (.region [] [] [0, 1, 6, 28, 9, 31, 10, 44, 8, 7, 65, 4, 5] [
 ⟨(some 4), (.move (.k (rI .i64 0))), none, none⟩,
 ⟨(some 5), (.move (.k (rB false))), none, none⟩])
 (.seq
 (.region [] [] [0, 1, 6, 28, 9, 31, 10, 44, 8, 7, 65, 4, 5] [
 ⟨(some 12), (.move (.t 0)), none, none⟩,
 ⟨(some 13), (.move (.t 1)), none, none⟩,
 ⟨(some 14), (.sindex (.t 12) (.t 13)), none, none⟩,
 ⟨(some 15), (.callp (.k (rF 236)) [(.t 14)]), none, none⟩,
 ⟨(some 11), (.move (.t 15)), none, none⟩,
 ⟨(some 16), (.ext (.t 11) 0), none, none⟩,
 ⟨(some 17), (.ext (.t 11) 1), none, none⟩,
 ⟨(some 18), (.ext (.t 11) 2), none, none⟩,
 ⟨(some 6), (.move (.t 16)), none, none⟩,
 ⟨(some 7), (.move (.t 17)), none, none⟩,
 ⟨(some 8), (.move (.t 18)), none, none⟩])
 (.seq
 (.seq
 (.region [] [] [0, 1, 6, 28, 9, 31, 10, 44, 8, 7, 65, 4, 5] [
 ⟨(some 19), (.move (.t 6)), none, none⟩,
 ⟨(some 20), (.bin .lss (.t 19) (.k (rI .i64 0))), none, none⟩,
 ⟨(some 21), (.move (.t 20)), none, none⟩,
 ⟨(some 22), (.move (.t 1)), some (21, false), none⟩,
 ⟨(some 23), (.move (.t 6)), some (21, false), none⟩,
 ⟨(some 24), (.bin .add (.t 22) (.t 23)), some (21, false), none⟩,
 ⟨(some 25), (.move (.t 0)), some (21, false), none⟩,
 ⟨(some 26), (.slen (.t 25)), some (21, false), none⟩,
 ⟨(some 27), (.bin .geq (.t 24) (.t 26)), some (21, false), none⟩,
 ⟨(some 28), (.pick (.t 21) (.k (rB true)) (.t 27)), none, none⟩])
 (.cond (.t 28)
 (.seq
 (.region [] [] [0, 1, 6, 28, 9, 31, 10, 44, 8, 7, 65, 4, 5] [
 ⟨(some 4), (.move (.k (rI .i64 1))), none, none⟩,
 ⟨(some 5), (.move (.k (rB false))), none, none⟩])
 .ret)
 .skip))
 (.seq
 (.seq
 (.region [] [] [0, 1, 6, 28, 9, 31, 10, 44, 8, 7, 65, 4, 5] [
 ⟨(some 9), (.move (.k (rI .i64 1))), none, none⟩])
 (.block 0
 (.loop ic231l0)))
 (.seq
 (.seq
 (.region [] [] [0, 1, 6, 28, 9, 31, 10, 44, 8, 7, 65, 4, 5] [
 ⟨(some 51), (.move (.t 8)), none, none⟩,
 ⟨(some 52), (.move (.t 7)), none, none⟩,
 ⟨(some 53), (.bin .lss (.t 51) (.t 52)), none, none⟩,
 ⟨(some 54), (.move (.t 53)), none, none⟩,
 ⟨(some 55), (.move (.t 8)), some (54, false), none⟩,
 ⟨(some 56), (.bin .gtr (.t 55) (.k (rI .i64 1114111))), some (54, false), none⟩,
 ⟨(some 57), (.pick (.t 54) (.k (rB true)) (.t 56)), none, none⟩,
 ⟨(some 58), (.move (.t 57)), none, none⟩,
 ⟨(some 59), (.move (.t 8)), some (58, false), none⟩,
 ⟨(some 60), (.bin .geq (.t 59) (.k (rI .i64 55296))), some (58, false), none⟩,
 ⟨(some 61), (.move (.t 60)), some (58, false), none⟩,
 ⟨(some 62), (.move (.t 8)), some (61, true), none⟩,
 ⟨(some 63), (.bin .leq (.t 62) (.k (rI .i64 57343))), some (61, true), none⟩,
 ⟨(some 64), (.pick (.t 61) (.t 63) (.k (rB false))), some (58, false), none⟩,
 ⟨(some 65), (.pick (.t 58) (.k (rB true)) (.t 64)), none, none⟩])
 (.cond (.t 65)
 (.seq
 (.region [] [] [0, 1, 6, 28, 9, 31, 10, 44, 8, 7, 65, 4, 5] [
 ⟨(some 4), (.move (.k (rI .i64 1))), none, none⟩,
 ⟨(some 5), (.move (.k (rB false))), none, none⟩])
 .ret)
 .skip))
 (.seq
 (.region [] [] [0, 1, 6, 28, 9, 31, 10, 44, 8, 7, 65, 4, 5] [
 ⟨(some 66), (.move (.t 6)), none, none⟩,
 ⟨(some 67), (.bin .add (.k (rI .i64 1)) (.t 66)), none, none⟩,
 ⟨(some 4), (.move (.t 67)), none, none⟩,
 ⟨(some 5), (.move (.k (rB true))), none, none⟩])
 .ret))))))
def ir231 : List IRes := [.tmp 4, .tmp 5]
theorem ie231 : cmpFunc Go.Proofs.Tryd.prog ⟨[], []⟩ Go.Proofs.Tryd.f231 [0, 1, 6, 28, 9, 31, 10, 44, 8, 7, 65, 4, 5] = some ic231 := by kernel_rfl
theorem ig231 : cmpRes Go.Proofs.Tryd.prog Go.Proofs.Tryd.f231.results.toList = some ir231 := by kernel_rfl


/-- pedigree/pedigreeref01.follows -/
def ic236 : IC :=
 (.seq
 (.region [] [] [0, 5, 10, 20, 30, 2, 3, 4] [
 ⟨(some 2), (.move (.k (rI .i64 0))), none, none⟩,
 ⟨(some 3), (.move (.k (rI .i64 0))), none, none⟩,
 ⟨(some 4), (.move (.k (rI .i64 0))), none, none⟩])
 (.seq
 (.block 0
 (.seq
 (.region [] [] [0, 5, 10, 20, 30, 2, 3, 4] [
 ⟨(some 6), (.move (.t 0)), none, none⟩,
 ⟨(some 7), (.bin .lss (.t 6) (.k (rI .u8 128))), none, none⟩,
 ⟨(some 5), (.move (.t 7)), none, none⟩])
 (.cond (.t 5)
 (.seq
 (.region [] [] [0, 5, 10, 20, 30, 2, 3, 4] [
 ⟨(some 8), (.move (.t 0)), none, none⟩,
 ⟨(some 9), (.conv .i64 (.t 8)), none, none⟩,
 ⟨(some 2), (.move (.k (rI .i64 0))), none, none⟩,
 ⟨(some 3), (.move (.k (rI .i64 0))), none, none⟩,
 ⟨(some 4), (.move (.t 9)), none, none⟩])
 .ret)
 (.seq
 (.region [] [] [0, 5, 10, 20, 30, 2, 3, 4] [
 ⟨(some 11), (.move (.t 0)), none, none⟩,
 ⟨(some 12), (.bin .geq (.t 11) (.k (rI .u8 192))), none, none⟩,
 ⟨(some 13), (.move (.t 12)), none, none⟩,
 ⟨(some 14), (.move (.t 0)), some (13, true), none⟩,
 ⟨(some 15), (.bin .lss (.t 14) (.k (rI .u8 224))), some (13, true), none⟩,
 ⟨(some 16), (.pick (.t 13) (.t 15) (.k (rB false))), none, none⟩,
 ⟨(some 10), (.move (.t 16)), none, none⟩])
 (.cond (.t 10)
 (.seq
 (.region [] [] [0, 5, 10, 20, 30, 2, 3, 4] [
 ⟨(some 17), (.move (.t 0)), none, none⟩,
 ⟨(some 18), (.conv .i64 (.t 17)), none, none⟩,
 ⟨(some 19), (.bin .sub (.t 18) (.k (rI .i64 192))), none, none⟩,
 ⟨(some 2), (.move (.k (rI .i64 1))), none, none⟩,
 ⟨(some 3), (.move (.k (rI .i64 128))), none, none⟩,
 ⟨(some 4), (.move (.t 19)), none, none⟩])
 .ret)
 (.seq
 (.region [] [] [0, 5, 10, 20, 30, 2, 3, 4] [
 ⟨(some 21), (.move (.t 0)), none, none⟩,
 ⟨(some 22), (.bin .geq (.t 21) (.k (rI .u8 224))), none, none⟩,
 ⟨(some 23), (.move (.t 22)), none, none⟩,
 ⟨(some 24), (.move (.t 0)), some (23, true), none⟩,
 ⟨(some 25), (.bin .lss (.t 24) (.k (rI .u8 240))), some (23, true), none⟩,
 ⟨(some 26), (.pick (.t 23) (.t 25) (.k (rB false))), none, none⟩,
 ⟨(some 20), (.move (.t 26)), none, none⟩])
 (.cond (.t 20)
 (.seq
 (.region [] [] [0, 5, 10, 20, 30, 2, 3, 4] [
 ⟨(some 27), (.move (.t 0)), none, none⟩,
 ⟨(some 28), (.conv .i64 (.t 27)), none, none⟩,
 ⟨(some 29), (.bin .sub (.t 28) (.k (rI .i64 224))), none, none⟩,
 ⟨(some 2), (.move (.k (rI .i64 2))), none, none⟩,
 ⟨(some 3), (.move (.k (rI .i64 2048))), none, none⟩,
 ⟨(some 4), (.move (.t 29)), none, none⟩])
 .ret)
 (.seq
 (.region [] [] [0, 5, 10, 20, 30, 2, 3, 4] [
 ⟨(some 31), (.move (.t 0)), none, none⟩,
 ⟨(some 32), (.bin .geq (.t 31) (.k (rI .u8 240))), none, none⟩,
 ⟨(some 33), (.move (.t 32)), none, none⟩,
 ⟨(some 34), (.move (.t 0)), some (33, true), none⟩,
 ⟨(some 35), (.bin .lss (.t 34) (.k (rI .u8 248))), some (33, true), none⟩,
 ⟨(some 36), (.pick (.t 33) (.t 35) (.k (rB false))), none, none⟩,
 ⟨(some 30), (.move (.t 36)), none, none⟩])
 (.cond (.t 30)
 (.seq
 (.region [] [] [0, 5, 10, 20, 30, 2, 3, 4] [
 ⟨(some 37), (.move (.t 0)), none, none⟩,
 ⟨(some 38), (.conv .i64 (.t 37)), none, none⟩,
 ⟨(some 39), (.bin .sub (.t 38) (.k (rI .i64 240))), none, none⟩,
 ⟨(some 2), (.move (.k (rI .i64 3))), none, none⟩,
 ⟨(some 3), (.move (.k (rI .i64 65536))), none, none⟩,
 ⟨(some 4), (.move (.t 39)), none, none⟩])
 .ret)
 .skip)))))))))
 (.seq
 (.region [] [] [0, 5, 10, 20, 30, 2, 3, 4] [
 ⟨(some 2), (.move (.k (rI .i64 (-1)))), none, none⟩,
 ⟨(some 3), (.move (.k (rI .i64 0))), none, none⟩,
 ⟨(some 4), (.move (.k (rI .i64 0))), none, none⟩])
 .ret)))
def ir236 : List IRes := [.tmp 2, .tmp 3, .tmp 4]
theorem ie236 : cmpFunc Go.Proofs.Tryd.prog ⟨[], []⟩ Go.Proofs.Tryd.f236 [0, 5, 10, 20, 30, 2, 3, 4] = some ic236 := by kernel_rfl
theorem ig236 : cmpRes Go.Proofs.Tryd.prog Go.Proofs.Tryd.f236.results.toList = some ir236 := by kernel_rfl

end Go.Proofs.YtiomojlcnemnhaaDoor

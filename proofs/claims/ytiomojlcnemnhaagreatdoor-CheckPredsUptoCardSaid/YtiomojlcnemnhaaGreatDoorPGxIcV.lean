/- Functions of the seat, as the small language has them. -/
import Derived.Test.YtiomojlcnemnhaaGreatDoorPFxWb
import Derived.Test.YtiomojlcnemnhaaGreatDoorProg
import Derived.KernelRfl
namespace Go.Proofs.YtiomojlcnemnhaaGreatDoor
open Go.Fx

def ic2030l0 : IC :=
 (.seq
 (.seq
 (.region [] [] [4, 0, 8, 3, 19, 2] [
 ⟨(some 5), (.move (.t 4)), none, none⟩,
 ⟨(some 6), (.move (.t 0)), none, none⟩,
 ⟨(some 7), (.len (.t 6)), none, none⟩,
 ⟨(some 8), (.bin .lss (.t 5) (.t 7)), none, none⟩])
 (.cond (.t 8)
 .skip
 (.exit 0)))
 (.seq
 (.block 1
 (.seq
 (.region [] [] [4, 0, 8, 3, 19, 2] [
 ⟨(some 11), (.move (.t 3)), none, none⟩,
 ⟨(some 12), (.move (.t 0)), none, none⟩,
 ⟨(some 13), (.move (.t 4)), none, none⟩,
 ⟨(some 14), (.iaddr 3 (.t 12) (.t 13)), none, none⟩,
 ⟨(some 15), (.load (some 3) (.t 14)), none, none⟩,
 ⟨(some 16), (.callp (.k (rF 73)) [(.t 15), (.k (rI .i64 1048576))]), none, none⟩,
 ⟨(some 17), (.bin .add (.t 11) (.t 16)), none, none⟩,
 ⟨(some 3), (.move (.t 17)), none, none⟩])
 (.seq
 (.region [] [] [4, 0, 8, 3, 19, 2] [
 ⟨(some 18), (.move (.t 3)), none, none⟩,
 ⟨(some 19), (.bin .gtr (.t 18) (.k (rI .i64 1048576))), none, none⟩])
 (.cond (.t 19)
 (.seq
 (.region [] [] [4, 0, 8, 3, 19, 2] [
 ⟨(some 2), (.move (.k (rB true))), none, none⟩])
 .ret)
 .skip))))
 (.region [] [] [4, 0, 8, 3, 19, 2] [
 ⟨(some 9), (.move (.t 4)), none, none⟩,
 ⟨(some 10), (.bin .add (.t 9) (.k (rI .i64 1))), none, none⟩,
 ⟨(some 4), (.move (.t 10)), none, none⟩])))

/-- pedigree/pedigreelaw01.BeyondRules -/
def ic2030 : IC :=
 (.seq
 (.region [] [] [4, 0, 8, 3, 19, 2] [
 ⟨(some 2), (.move (.k (rB false))), none, none⟩])
 (.seq
 (.region [] [] [4, 0, 8, 3, 19, 2] [
 ⟨(some 3), (.move (.k (rI .i64 0))), none, none⟩])
 (.seq
 (.seq
 (.region [] [] [4, 0, 8, 3, 19, 2] [
 ⟨(some 4), (.move (.k (rI .i64 0))), none, none⟩])
 (.block 0
 (.loop ic2030l0)))
 (.seq
 (.region [] [] [4, 0, 8, 3, 19, 2] [
 ⟨(some 2), (.move (.k (rB false))), none, none⟩])
 .ret))))
def ir2030 : List IRes := [.tmp 2]
theorem ie2030 : cmpFunc Go.Proofs.Tryz.prog ⟨[], []⟩ Go.Proofs.Tryz.f30 [4, 0, 8, 3, 19, 2] = some ic2030 := by kernel_rfl
theorem ig2030 : cmpRes Go.Proofs.Tryz.prog Go.Proofs.Tryz.f30.results.toList = some ir2030 := by kernel_rfl


/-- pedigree/pedigreelaw01.BeyondJob -/
def ic2035 : IC :=
 (.seq
 (.region [] [] [0, 1, 4] [
 ⟨(some 4), (.move (.k (rB false))), none, none⟩])
 (.seq
 (.region [] [] [0, 1, 4] [
 ⟨(some 5), (.move (.t 0)), none, none⟩,
 ⟨(some 6), (.callp (.k (rF 30)) [(.t 5)]), none, none⟩,
 ⟨(some 7), (.move (.t 6)), none, none⟩,
 ⟨(some 8), (.move (.t 1)), some (7, false), none⟩,
 ⟨(some 9), (.callp (.k (rF 106)) [(.t 8)]), some (7, false), none⟩,
 ⟨(some 10), (.pick (.t 7) (.k (rB true)) (.t 9)), none, none⟩,
 ⟨(some 4), (.move (.t 10)), none, none⟩])
 .ret))
def ir2035 : List IRes := [.tmp 4]
theorem ie2035 : cmpFunc Go.Proofs.Tryz.prog ⟨[], []⟩ Go.Proofs.Tryz.f35 [0, 1, 4] = some ic2035 := by kernel_rfl
theorem ig2035 : cmpRes Go.Proofs.Tryz.prog Go.Proofs.Tryz.f35.results.toList = some ir2035 := by kernel_rfl


/-- pedigree/pedigreelaw01.TwinProgram -/
def ic2036 : IC :=
 (.seq
 (.region [1, 2] [] [0, 1, 2] [
 ⟨(some 1), (.box 47 (.t 0)), none, none⟩,
 ⟨(some 2), (.zero 47 [.nil]), none, none⟩])
 (.seq
 (.region [] [] [0, 1, 2] [
 ⟨(some 3), (.faddr 0 (.t 1)), none, none⟩,
 ⟨(some 4), (.load none (.t 3)), none, none⟩,
 ⟨(some 5), (.callp (.k (rF 57)) [(.t 4)]), none, none⟩,
 ⟨(some 6), (.faddr 0 (.t 1)), none, none⟩,
 ⟨none, (.store (some 1) (.t 6) (.t 5)), none, none⟩])
 (.seq
 (.region [] [] [0, 1, 2] [
 ⟨(some 7), (.load (some 1) (.t 1)), none, none⟩,
 ⟨none, (.store (some 1) (.t 2) (.t 7)), none, none⟩])
 .ret)))
def ir2036 : List IRes := [.cell 2 (some 1)]
theorem ie2036 : cmpFunc Go.Proofs.Tryz.prog ⟨[], []⟩ Go.Proofs.Tryz.f36 [0, 1, 2] = some ic2036 := by kernel_rfl
theorem ig2036 : cmpRes Go.Proofs.Tryz.prog Go.Proofs.Tryz.f36.results.toList = some ir2036 := by kernel_rfl

def ic2037l0 : IC :=
 (.seq
 (.seq
 (.region [] [] [0, 4, 12, 3, 2] [
 ⟨(some 9), (.move (.t 4)), none, none⟩,
 ⟨(some 10), (.move (.t 0)), none, none⟩,
 ⟨(some 11), (.len (.t 10)), none, none⟩,
 ⟨(some 12), (.bin .lss (.t 9) (.t 11)), none, none⟩])
 (.cond (.t 12)
 .skip
 (.exit 0)))
 (.seq
 (.block 1
 (.region [] [] [0, 4, 12, 3, 2] [
 ⟨(some 15), (.move (.t 3)), none, none⟩,
 ⟨(some 16), (.move (.t 4)), none, none⟩,
 ⟨(some 17), (.move (.t 0)), none, none⟩,
 ⟨(some 18), (.move (.t 4)), none, none⟩,
 ⟨(some 19), (.iaddr 2 (.t 17) (.t 18)), none, none⟩,
 ⟨(some 20), (.load (some 2) (.t 19)), none, none⟩,
 ⟨(some 21), (.callp (.k (rF 107)) [(.t 20)]), none, none⟩,
 ⟨(some 22), (.iaddr 2 (.t 15) (.t 16)), none, none⟩,
 ⟨none, (.store (some 2) (.t 22) (.t 21)), none, none⟩]))
 (.region [] [] [0, 4, 12, 3, 2] [
 ⟨(some 13), (.move (.t 4)), none, none⟩,
 ⟨(some 14), (.bin .add (.t 13) (.k (rI .i64 1))), none, none⟩,
 ⟨(some 4), (.move (.t 14)), none, none⟩])))

/-- pedigree/pedigreelaw01.TwinFacts -/
def ic2037 : IC :=
 (.seq
 (.region [] [] [0, 4, 12, 3, 2] [
 ⟨(some 2), (.move (.k (.x (.one .nil)))), none, none⟩])
 (.seq
 (.region [8] [] [0, 4, 12, 3, 2] [
 ⟨(some 5), (.move (.t 0)), none, none⟩,
 ⟨(some 6), (.len (.t 5)), none, none⟩,
 ⟨(some 7), (.bin .add (.t 6) (.k (rI .i64 1))), none, none⟩,
 ⟨(some 8), (.make 147 2 40 [(.c (.v (.string (bs [])))), .nil] (.t 7) (.t 7)), none, none⟩,
 ⟨(some 3), (.move (.t 8)), none, none⟩])
 (.seq
 (.seq
 (.region [] [] [0, 4, 12, 3, 2] [
 ⟨(some 4), (.move (.k (rI .i64 0))), none, none⟩])
 (.block 0
 (.loop ic2037l0)))
 (.seq
 (.region [] [] [0, 4, 12, 3, 2] [
 ⟨(some 23), (.move (.t 3)), none, none⟩,
 ⟨(some 24), (.move (.t 0)), none, none⟩,
 ⟨(some 25), (.len (.t 24)), none, none⟩,
 ⟨(some 26), (.callp (.k (rF 108)) [(.k (rI .i64 777777))]), none, none⟩,
 ⟨(some 27), (.iaddr 2 (.t 23) (.t 25)), none, none⟩,
 ⟨none, (.store (some 2) (.t 27) (.t 26)), none, none⟩])
 (.seq
 (.region [] [] [0, 4, 12, 3, 2] [
 ⟨(some 28), (.move (.t 3)), none, none⟩,
 ⟨(some 29), (.move (.t 0)), none, none⟩,
 ⟨(some 30), (.len (.t 29)), none, none⟩,
 ⟨(some 31), (.vsl 2 (.t 28) none (some (.t 30))), none, none⟩,
 ⟨(some 2), (.move (.t 31)), none, none⟩])
 .ret)))))
def ir2037 : List IRes := [.tmp 2]
theorem ie2037 : cmpFunc Go.Proofs.Tryz.prog ⟨[], []⟩ Go.Proofs.Tryz.f37 [0, 4, 12, 3, 2] = some ic2037 := by kernel_rfl
theorem ig2037 : cmpRes Go.Proofs.Tryz.prog Go.Proofs.Tryz.f37.results.toList = some ir2037 := by kernel_rfl


/-- pedigree/pedigreelaw01.LeftProgram -/
def ic2040 : IC :=
 (.seq
 (.region [2, 3] [] [0, 1, 2, 3, 4] [
 ⟨(some 2), (.box 47 (.t 0)), none, none⟩,
 ⟨(some 3), (.box 47 (.t 1)), none, none⟩,
 ⟨(some 4), (.move (.k (rB false))), none, none⟩])
 (.seq
 (.region [] [] [0, 1, 2, 3, 4] [
 ⟨(some 5), (.faddr 0 (.t 2)), none, none⟩,
 ⟨(some 6), (.load none (.t 5)), none, none⟩,
 ⟨(some 7), (.faddr 0 (.t 3)), none, none⟩,
 ⟨(some 8), (.load none (.t 7)), none, none⟩,
 ⟨(some 9), (.callp (.k (rF 60)) [(.t 6), (.t 8)]), none, none⟩,
 ⟨(some 4), (.move (.t 9)), none, none⟩])
 .ret))
def ir2040 : List IRes := [.tmp 4]
theorem ie2040 : cmpFunc Go.Proofs.Tryz.prog ⟨[], []⟩ Go.Proofs.Tryz.f40 [0, 1, 2, 3, 4] = some ic2040 := by kernel_rfl
theorem ig2040 : cmpRes Go.Proofs.Tryz.prog Go.Proofs.Tryz.f40.results.toList = some ir2040 := by kernel_rfl

def ic2041l0 : IC :=
 (.seq
 (.seq
 (.region [] [] [0, 1, 10, 5, 14, 26, 4] [
 ⟨(some 11), (.move (.t 5)), none, none⟩,
 ⟨(some 12), (.move (.t 1)), none, none⟩,
 ⟨(some 13), (.len (.t 12)), none, none⟩,
 ⟨(some 14), (.bin .lss (.t 11) (.t 13)), none, none⟩])
 (.cond (.t 14)
 .skip
 (.exit 0)))
 (.seq
 (.block 1
 (.seq
 (.region [] [] [0, 1, 10, 5, 14, 26, 4] [
 ⟨(some 17), (.move (.t 0)), none, none⟩,
 ⟨(some 18), (.move (.t 5)), none, none⟩,
 ⟨(some 19), (.iaddr 2 (.t 17) (.t 18)), none, none⟩,
 ⟨(some 20), (.load (some 2) (.t 19)), none, none⟩,
 ⟨(some 21), (.move (.t 1)), none, none⟩,
 ⟨(some 22), (.move (.t 5)), none, none⟩,
 ⟨(some 23), (.iaddr 2 (.t 21) (.t 22)), none, none⟩,
 ⟨(some 24), (.load (some 2) (.t 23)), none, none⟩,
 ⟨(some 25), (.callp (.k (rF 129)) [(.t 20), (.t 24)]), none, none⟩,
 ⟨(some 26), (.un .not (.t 25)), none, none⟩])
 (.cond (.t 26)
 (.seq
 (.region [] [] [0, 1, 10, 5, 14, 26, 4] [
 ⟨(some 4), (.move (.k (rB false))), none, none⟩])
 .ret)
 .skip)))
 (.region [] [] [0, 1, 10, 5, 14, 26, 4] [
 ⟨(some 15), (.move (.t 5)), none, none⟩,
 ⟨(some 16), (.bin .add (.t 15) (.k (rI .i64 1))), none, none⟩,
 ⟨(some 5), (.move (.t 16)), none, none⟩])))

/-- pedigree/pedigreelaw01.LeftFacts -/
def ic2041 : IC :=
 (.seq
 (.region [] [] [0, 1, 10, 5, 14, 26, 4] [
 ⟨(some 4), (.move (.k (rB false))), none, none⟩])
 (.seq
 (.seq
 (.region [] [] [0, 1, 10, 5, 14, 26, 4] [
 ⟨(some 6), (.move (.t 0)), none, none⟩,
 ⟨(some 7), (.len (.t 6)), none, none⟩,
 ⟨(some 8), (.move (.t 1)), none, none⟩,
 ⟨(some 9), (.len (.t 8)), none, none⟩,
 ⟨(some 10), (.bin .neq (.t 7) (.t 9)), none, none⟩])
 (.cond (.t 10)
 (.seq
 (.region [] [] [0, 1, 10, 5, 14, 26, 4] [
 ⟨(some 4), (.move (.k (rB false))), none, none⟩])
 .ret)
 .skip))
 (.seq
 (.seq
 (.region [] [] [0, 1, 10, 5, 14, 26, 4] [
 ⟨(some 5), (.move (.k (rI .i64 0))), none, none⟩])
 (.block 0
 (.loop ic2041l0)))
 (.seq
 (.region [] [] [0, 1, 10, 5, 14, 26, 4] [
 ⟨(some 27), (.move (.t 0)), none, none⟩,
 ⟨(some 28), (.move (.t 1)), none, none⟩,
 ⟨(some 29), (.len (.t 28)), none, none⟩,
 ⟨(some 30), (.bin .add (.t 29) (.k (rI .i64 1))), none, none⟩,
 ⟨(some 31), (.vsl 2 (.t 27) none (some (.t 30))), none, none⟩,
 ⟨(some 32), (.move (.t 1)), none, none⟩,
 ⟨(some 33), (.len (.t 32)), none, none⟩,
 ⟨(some 34), (.iaddr 2 (.t 31) (.t 33)), none, none⟩,
 ⟨(some 35), (.load (some 2) (.t 34)), none, none⟩,
 ⟨(some 36), (.callp (.k (rF 130)) [(.t 35), (.k (rI .i64 777777))]), none, none⟩,
 ⟨(some 4), (.move (.t 36)), none, none⟩])
 .ret))))
def ir2041 : List IRes := [.tmp 4]
theorem ie2041 : cmpFunc Go.Proofs.Tryz.prog ⟨[], []⟩ Go.Proofs.Tryz.f41 [0, 1, 10, 5, 14, 26, 4] = some ic2041 := by kernel_rfl
theorem ig2041 : cmpRes Go.Proofs.Tryz.prog Go.Proofs.Tryz.f41.results.toList = some ir2041 := by kernel_rfl

def ic2057l0 : IC :=
 (.seq
 (.seq
 (.region [] [] [0, 4, 12, 3, 2] [
 ⟨(some 9), (.move (.t 4)), none, none⟩,
 ⟨(some 10), (.move (.t 0)), none, none⟩,
 ⟨(some 11), (.len (.t 10)), none, none⟩,
 ⟨(some 12), (.bin .lss (.t 9) (.t 11)), none, none⟩])
 (.cond (.t 12)
 .skip
 (.exit 0)))
 (.seq
 (.block 1
 (.region [] [] [0, 4, 12, 3, 2] [
 ⟨(some 15), (.move (.t 3)), none, none⟩,
 ⟨(some 16), (.move (.t 4)), none, none⟩,
 ⟨(some 17), (.move (.t 0)), none, none⟩,
 ⟨(some 18), (.move (.t 4)), none, none⟩,
 ⟨(some 19), (.iaddr 3 (.t 17) (.t 18)), none, none⟩,
 ⟨(some 20), (.load (some 3) (.t 19)), none, none⟩,
 ⟨(some 21), (.callp (.k (rF 16)) [(.t 20)]), none, none⟩,
 ⟨(some 22), (.iaddr 3 (.t 15) (.t 16)), none, none⟩,
 ⟨none, (.store (some 3) (.t 22) (.t 21)), none, none⟩]))
 (.region [] [] [0, 4, 12, 3, 2] [
 ⟨(some 13), (.move (.t 4)), none, none⟩,
 ⟨(some 14), (.bin .add (.t 13) (.k (rI .i64 1))), none, none⟩,
 ⟨(some 4), (.move (.t 14)), none, none⟩])))

/-- pedigree/pedigreelaw01.TwinRules -/
def ic2057 : IC :=
 (.seq
 (.region [] [] [0, 4, 12, 3, 2] [
 ⟨(some 2), (.move (.k (.x (.one .nil)))), none, none⟩])
 (.seq
 (.region [8] [] [0, 4, 12, 3, 2] [
 ⟨(some 5), (.move (.t 0)), none, none⟩,
 ⟨(some 6), (.len (.t 5)), none, none⟩,
 ⟨(some 7), (.bin .add (.t 6) (.k (rI .i64 1))), none, none⟩,
 ⟨(some 8), (.make 29 3 64 [(.c (.v (.string (bs [])))), .nil, .nil] (.t 7) (.t 7)), none, none⟩,
 ⟨(some 3), (.move (.t 8)), none, none⟩])
 (.seq
 (.seq
 (.region [] [] [0, 4, 12, 3, 2] [
 ⟨(some 4), (.move (.k (rI .i64 0))), none, none⟩])
 (.block 0
 (.loop ic2057l0)))
 (.seq
 (.region [] [] [0, 4, 12, 3, 2] [
 ⟨(some 23), (.move (.t 3)), none, none⟩,
 ⟨(some 24), (.move (.t 0)), none, none⟩,
 ⟨(some 25), (.len (.t 24)), none, none⟩,
 ⟨(some 26), (.callp (.k (rF 159)) [(.k (rI .i64 777777))]), none, none⟩,
 ⟨(some 27), (.iaddr 3 (.t 23) (.t 25)), none, none⟩,
 ⟨none, (.store (some 3) (.t 27) (.t 26)), none, none⟩])
 (.seq
 (.region [] [] [0, 4, 12, 3, 2] [
 ⟨(some 28), (.move (.t 3)), none, none⟩,
 ⟨(some 29), (.move (.t 0)), none, none⟩,
 ⟨(some 30), (.len (.t 29)), none, none⟩,
 ⟨(some 31), (.vsl 3 (.t 28) none (some (.t 30))), none, none⟩,
 ⟨(some 2), (.move (.t 31)), none, none⟩])
 .ret)))))
def ir2057 : List IRes := [.tmp 2]
theorem ie2057 : cmpFunc Go.Proofs.Tryz.prog ⟨[], []⟩ Go.Proofs.Tryz.f57 [0, 4, 12, 3, 2] = some ic2057 := by kernel_rfl
theorem ig2057 : cmpRes Go.Proofs.Tryz.prog Go.Proofs.Tryz.f57.results.toList = some ir2057 := by kernel_rfl

def ic2060l0 : IC :=
 (.seq
 (.seq
 (.region [] [] [0, 1, 10, 5, 14, 26, 4] [
 ⟨(some 11), (.move (.t 5)), none, none⟩,
 ⟨(some 12), (.move (.t 1)), none, none⟩,
 ⟨(some 13), (.len (.t 12)), none, none⟩,
 ⟨(some 14), (.bin .lss (.t 11) (.t 13)), none, none⟩])
 (.cond (.t 14)
 .skip
 (.exit 0)))
 (.seq
 (.block 1
 (.seq
 (.region [] [] [0, 1, 10, 5, 14, 26, 4] [
 ⟨(some 17), (.move (.t 0)), none, none⟩,
 ⟨(some 18), (.move (.t 5)), none, none⟩,
 ⟨(some 19), (.iaddr 3 (.t 17) (.t 18)), none, none⟩,
 ⟨(some 20), (.load (some 3) (.t 19)), none, none⟩,
 ⟨(some 21), (.move (.t 1)), none, none⟩,
 ⟨(some 22), (.move (.t 5)), none, none⟩,
 ⟨(some 23), (.iaddr 3 (.t 21) (.t 22)), none, none⟩,
 ⟨(some 24), (.load (some 3) (.t 23)), none, none⟩,
 ⟨(some 25), (.callp (.k (rF 25)) [(.t 20), (.t 24)]), none, none⟩,
 ⟨(some 26), (.un .not (.t 25)), none, none⟩])
 (.cond (.t 26)
 (.seq
 (.region [] [] [0, 1, 10, 5, 14, 26, 4] [
 ⟨(some 4), (.move (.k (rB false))), none, none⟩])
 .ret)
 .skip)))
 (.region [] [] [0, 1, 10, 5, 14, 26, 4] [
 ⟨(some 15), (.move (.t 5)), none, none⟩,
 ⟨(some 16), (.bin .add (.t 15) (.k (rI .i64 1))), none, none⟩,
 ⟨(some 5), (.move (.t 16)), none, none⟩])))

/-- pedigree/pedigreelaw01.LeftRules -/
def ic2060 : IC :=
 (.seq
 (.region [] [] [0, 1, 10, 5, 14, 26, 4] [
 ⟨(some 4), (.move (.k (rB false))), none, none⟩])
 (.seq
 (.seq
 (.region [] [] [0, 1, 10, 5, 14, 26, 4] [
 ⟨(some 6), (.move (.t 0)), none, none⟩,
 ⟨(some 7), (.len (.t 6)), none, none⟩,
 ⟨(some 8), (.move (.t 1)), none, none⟩,
 ⟨(some 9), (.len (.t 8)), none, none⟩,
 ⟨(some 10), (.bin .neq (.t 7) (.t 9)), none, none⟩])
 (.cond (.t 10)
 (.seq
 (.region [] [] [0, 1, 10, 5, 14, 26, 4] [
 ⟨(some 4), (.move (.k (rB false))), none, none⟩])
 .ret)
 .skip))
 (.seq
 (.seq
 (.region [] [] [0, 1, 10, 5, 14, 26, 4] [
 ⟨(some 5), (.move (.k (rI .i64 0))), none, none⟩])
 (.block 0
 (.loop ic2060l0)))
 (.seq
 (.region [] [] [0, 1, 10, 5, 14, 26, 4] [
 ⟨(some 27), (.move (.t 0)), none, none⟩,
 ⟨(some 28), (.move (.t 1)), none, none⟩,
 ⟨(some 29), (.len (.t 28)), none, none⟩,
 ⟨(some 30), (.bin .add (.t 29) (.k (rI .i64 1))), none, none⟩,
 ⟨(some 31), (.vsl 3 (.t 27) none (some (.t 30))), none, none⟩,
 ⟨(some 32), (.move (.t 1)), none, none⟩,
 ⟨(some 33), (.len (.t 32)), none, none⟩,
 ⟨(some 34), (.iaddr 3 (.t 31) (.t 33)), none, none⟩,
 ⟨(some 35), (.load (some 3) (.t 34)), none, none⟩,
 ⟨(some 36), (.callp (.k (rF 161)) [(.t 35), (.k (rI .i64 777777))]), none, none⟩,
 ⟨(some 4), (.move (.t 36)), none, none⟩])
 .ret))))
def ir2060 : List IRes := [.tmp 4]
theorem ie2060 : cmpFunc Go.Proofs.Tryz.prog ⟨[], []⟩ Go.Proofs.Tryz.f60 [0, 1, 10, 5, 14, 26, 4] = some ic2060 := by kernel_rfl
theorem ig2060 : cmpRes Go.Proofs.Tryz.prog Go.Proofs.Tryz.f60.results.toList = some ir2060 := by kernel_rfl

def ic2106l0 : IC :=
 (.seq
 (.seq
 (.region [] [] [4, 0, 8, 3, 21, 2] [
 ⟨(some 5), (.move (.t 4)), none, none⟩,
 ⟨(some 6), (.move (.t 0)), none, none⟩,
 ⟨(some 7), (.len (.t 6)), none, none⟩,
 ⟨(some 8), (.bin .lss (.t 5) (.t 7)), none, none⟩])
 (.cond (.t 8)
 .skip
 (.exit 0)))
 (.seq
 (.block 1
 (.seq
 (.region [] [] [4, 0, 8, 3, 21, 2] [
 ⟨(some 11), (.move (.t 3)), none, none⟩,
 ⟨(some 12), (.bin .add (.t 11) (.k (rI .i64 1))), none, none⟩,
 ⟨(some 13), (.move (.t 0)), none, none⟩,
 ⟨(some 14), (.move (.t 4)), none, none⟩,
 ⟨(some 15), (.iaddr 2 (.t 13) (.t 14)), none, none⟩,
 ⟨(some 16), (.faddr 1 (.t 15)), none, none⟩,
 ⟨(some 17), (.load none (.t 16)), none, none⟩,
 ⟨(some 18), (.len (.t 17)), none, none⟩,
 ⟨(some 19), (.bin .add (.t 12) (.t 18)), none, none⟩,
 ⟨(some 3), (.move (.t 19)), none, none⟩])
 (.seq
 (.region [] [] [4, 0, 8, 3, 21, 2] [
 ⟨(some 20), (.move (.t 3)), none, none⟩,
 ⟨(some 21), (.bin .gtr (.t 20) (.k (rI .i64 1048576))), none, none⟩])
 (.cond (.t 21)
 (.seq
 (.region [] [] [4, 0, 8, 3, 21, 2] [
 ⟨(some 2), (.move (.k (rB true))), none, none⟩])
 .ret)
 .skip))))
 (.region [] [] [4, 0, 8, 3, 21, 2] [
 ⟨(some 9), (.move (.t 4)), none, none⟩,
 ⟨(some 10), (.bin .add (.t 9) (.k (rI .i64 1))), none, none⟩,
 ⟨(some 4), (.move (.t 10)), none, none⟩])))

/-- pedigree/pedigreelaw01.BeyondFacts -/
def ic2106 : IC :=
 (.seq
 (.region [] [] [4, 0, 8, 3, 21, 2] [
 ⟨(some 2), (.move (.k (rB false))), none, none⟩])
 (.seq
 (.region [] [] [4, 0, 8, 3, 21, 2] [
 ⟨(some 3), (.move (.k (rI .i64 0))), none, none⟩])
 (.seq
 (.seq
 (.region [] [] [4, 0, 8, 3, 21, 2] [
 ⟨(some 4), (.move (.k (rI .i64 0))), none, none⟩])
 (.block 0
 (.loop ic2106l0)))
 (.seq
 (.region [] [] [4, 0, 8, 3, 21, 2] [
 ⟨(some 2), (.move (.k (rB false))), none, none⟩])
 .ret))))
def ir2106 : List IRes := [.tmp 2]
theorem ie2106 : cmpFunc Go.Proofs.Tryz.prog ⟨[], []⟩ Go.Proofs.Tryz.f106 [4, 0, 8, 3, 21, 2] = some ic2106 := by kernel_rfl
theorem ig2106 : cmpRes Go.Proofs.Tryz.prog Go.Proofs.Tryz.f106.results.toList = some ir2106 := by kernel_rfl


/-- pedigree/pedigreelaw01.markFact -/
def ic2108 : IC :=
 (.seq
 (.region [2] [] [0, 2] [
 ⟨(some 2), (.zero 147 [(.c (.v (.string (bs [])))), .nil]), none, none⟩])
 (.seq
 (.region [] [] [0, 2] [
 ⟨(some 3), (.move (.t 0)), none, none⟩,
 ⟨(some 4), (.callp (.k (rF 171)) [(.t 3)]), none, none⟩,
 ⟨(some 5), (.build [(.c (.v (.string (bs [])))), .nil] [(0, 1, (.t 4))]), none, none⟩,
 ⟨none, (.store (some 2) (.t 2) (.t 5)), none, none⟩])
 .ret))
def ir2108 : List IRes := [.cell 2 (some 2)]
theorem ie2108 : cmpFunc Go.Proofs.Tryz.prog ⟨[], []⟩ Go.Proofs.Tryz.f108 [0, 2] = some ic2108 := by kernel_rfl
theorem ig2108 : cmpRes Go.Proofs.Tryz.prog Go.Proofs.Tryz.f108.results.toList = some ir2108 := by kernel_rfl


/-- pedigree/pedigreelaw01.isFact -/
def ic2130 : IC :=
 (.seq
 (.region [2] [] [0, 2, 1, 4] [
 ⟨(some 2), (.box 147 (.t 0)), none, none⟩,
 ⟨(some 4), (.move (.k (rB false))), none, none⟩])
 (.seq
 (.region [] [] [0, 2, 1, 4] [
 ⟨(some 5), (.faddr 0 (.t 2)), none, none⟩,
 ⟨(some 6), (.load none (.t 5)), none, none⟩,
 ⟨(some 7), (.move (.t 1)), none, none⟩,
 ⟨(some 8), (.callp (.k (rF 171)) [(.t 7)]), none, none⟩,
 ⟨(some 9), (.bin .eql (.t 6) (.t 8)), none, none⟩,
 ⟨(some 10), (.move (.t 9)), none, none⟩,
 ⟨(some 11), (.faddr 1 (.t 2)), some (10, true), none⟩,
 ⟨(some 12), (.load none (.t 11)), some (10, true), none⟩,
 ⟨(some 13), (.len (.t 12)), some (10, true), none⟩,
 ⟨(some 14), (.bin .eql (.t 13) (.k (rI .i64 0))), some (10, true), none⟩,
 ⟨(some 15), (.pick (.t 10) (.t 14) (.k (rB false))), none, none⟩,
 ⟨(some 4), (.move (.t 15)), none, none⟩])
 .ret))
def ir2130 : List IRes := [.tmp 4]
theorem ie2130 : cmpFunc Go.Proofs.Tryz.prog ⟨[], []⟩ Go.Proofs.Tryz.f130 [0, 2, 1, 4] = some ic2130 := by kernel_rfl
theorem ig2130 : cmpRes Go.Proofs.Tryz.prog Go.Proofs.Tryz.f130.results.toList = some ir2130 := by kernel_rfl


/-- pedigree/pedigreelaw01.markRule -/
def ic2159 : IC :=
 (.seq
 (.region [2] [] [0, 2] [
 ⟨(some 2), (.zero 29 [(.c (.v (.string (bs [])))), .nil, .nil]), none, none⟩])
 (.seq
 (.region [] [] [0, 2] [
 ⟨(some 3), (.move (.t 0)), none, none⟩,
 ⟨(some 4), (.callp (.k (rF 171)) [(.t 3)]), none, none⟩,
 ⟨(some 5), (.build [(.c (.v (.string (bs [])))), .nil, .nil] [(0, 1, (.t 4))]), none, none⟩,
 ⟨none, (.store (some 3) (.t 2) (.t 5)), none, none⟩])
 .ret))
def ir2159 : List IRes := [.cell 2 (some 3)]
theorem ie2159 : cmpFunc Go.Proofs.Tryz.prog ⟨[], []⟩ Go.Proofs.Tryz.f159 [0, 2] = some ic2159 := by kernel_rfl
theorem ig2159 : cmpRes Go.Proofs.Tryz.prog Go.Proofs.Tryz.f159.results.toList = some ir2159 := by kernel_rfl


/-- pedigree/pedigreelaw01.isRule -/
def ic2161 : IC :=
 (.seq
 (.region [2] [] [0, 2, 1, 4] [
 ⟨(some 2), (.box 29 (.t 0)), none, none⟩,
 ⟨(some 4), (.move (.k (rB false))), none, none⟩])
 (.seq
 (.region [] [] [0, 2, 1, 4] [
 ⟨(some 5), (.faddr 0 (.t 2)), none, none⟩,
 ⟨(some 6), (.load none (.t 5)), none, none⟩,
 ⟨(some 7), (.move (.t 1)), none, none⟩,
 ⟨(some 8), (.callp (.k (rF 171)) [(.t 7)]), none, none⟩,
 ⟨(some 9), (.bin .eql (.t 6) (.t 8)), none, none⟩,
 ⟨(some 10), (.move (.t 9)), none, none⟩,
 ⟨(some 11), (.faddr 1 (.t 2)), some (10, true), none⟩,
 ⟨(some 12), (.load none (.t 11)), some (10, true), none⟩,
 ⟨(some 13), (.len (.t 12)), some (10, true), none⟩,
 ⟨(some 14), (.bin .eql (.t 13) (.k (rI .i64 0))), some (10, true), none⟩,
 ⟨(some 15), (.pick (.t 10) (.t 14) (.k (rB false))), none, none⟩,
 ⟨(some 16), (.move (.t 15)), none, none⟩,
 ⟨(some 17), (.faddr 2 (.t 2)), some (16, true), none⟩,
 ⟨(some 18), (.load none (.t 17)), some (16, true), none⟩,
 ⟨(some 19), (.len (.t 18)), some (16, true), none⟩,
 ⟨(some 20), (.bin .eql (.t 19) (.k (rI .i64 0))), some (16, true), none⟩,
 ⟨(some 21), (.pick (.t 16) (.t 20) (.k (rB false))), none, none⟩,
 ⟨(some 4), (.move (.t 21)), none, none⟩])
 .ret))
def ir2161 : List IRes := [.tmp 4]
theorem ie2161 : cmpFunc Go.Proofs.Tryz.prog ⟨[], []⟩ Go.Proofs.Tryz.f161 [0, 2, 1, 4] = some ic2161 := by kernel_rfl
theorem ig2161 : cmpRes Go.Proofs.Tryz.prog Go.Proofs.Tryz.f161.results.toList = some ir2161 := by kernel_rfl

end Go.Proofs.YtiomojlcnemnhaaGreatDoor

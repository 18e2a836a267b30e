/- Functions of the seat, as the small language has them. -/
import Derived.Test.YtiomojlcnemnhaaDoorKFxWb
import Derived.Test.YtiomojlcnemnhaaDoorProg
import Derived.KernelRfl
namespace Go.Proofs.YtiomojlcnemnhaaDoor
open Go.Fx

/-- pedigree/pedigreeref04.ExprVars -/
def ic28 : IC :=
 (.seq
 (.region [1] [] [0, 1, 2] [
 ⟨(some 1), (.box 47 (.t 0)), none, none⟩,
 ⟨(some 2), (.move (.k (.x (.one .nil)))), none, none⟩])
 (.seq
 (.region [] [] [0, 1, 2] [
 ⟨(some 3), (.load (some 6) (.t 1)), none, none⟩,
 ⟨(some 4), (.call (.k (rF 99)) [(.k (.x (.one .nil))), (.t 3)]), none, none⟩,
 ⟨(some 5), (.callp (.k (rF 98)) [(.t 4)]), none, none⟩,
 ⟨(some 2), (.move (.t 5)), none, none⟩])
 .ret))
def ir28 : List IRes := [.tmp 2]
theorem ie28 : cmpFunc Go.Proofs.Tryd.prog ⟨[(4, none)], []⟩ Go.Proofs.Tryd.f28 [0, 1, 2] = some ic28 := by kernel_rfl
theorem ig28 : cmpRes Go.Proofs.Tryd.prog Go.Proofs.Tryd.f28.results.toList = some ir28 := by kernel_rfl


end Go.Proofs.YtiomojlcnemnhaaDoor

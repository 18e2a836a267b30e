/- What the rows of the laws with 'lives' share: what the operations take, listed by the row; openers that tell lengths. -/
import Derived.Test.YtiomojlcnemnhaaDoorKDxF4
import Derived.Test.YtiomojlcnemnhaaDoorKDxW3
namespace Go.Proofs.YtiomojlcnemnhaaDoor
open Go.Fx Go.RowKit Go.Ped

abbrev laidTakes : List (String × DataW Unit) := [("pedigree/value.takes", Rows.laid_pedigree_value_takes)]
theorem gTakesType : (Tryd.prog.globals[0]?).map (·.type) = some 149 := by kernel_rfl
theorem cells149 : Tryd.prog.cellsOf 149 = 11 := by kernel_rfl
theorem cells36 : Tryd.prog.cellsOf 36 = 1 := by kernel_rfl
theorem takesData : (Rows.laid_pedigree_value_takes : DataW Unit) = Lib.tabData .i8 takesTab := by rfl
theorem held_takes {W : World} (h : laidMetH Tryd.prog laidTakes W) : Held GK W := by
  have h1 := plain_laid (by kernel_rfl) h
  unfold laidTakes at h1
  rw [takesData] at h1
  exact Lib.tabBelow_of_tabIs (Lib.tabIs_of_head gTakes gTakesType Tryd.underlying149 Tryd.underlying36 cells36 cells149 h1)

theorem not_agg25 : ¬ isAggTy Tryd.prog 25 := by
  rintro (⟨fs, h⟩ | ⟨n, e, h⟩) <;> rw [Tryd.underlying25] at h <;> cases h
end Go.Proofs.YtiomojlcnemnhaaDoor

/- What the rows of the laws with 'lives' share: what the operations take, listed by the row; openers that tell lengths. -/
import Derived.Test.YtiomojlcnemnhaaGreatDoorWGxF12
import Derived.Test.YtiomojlcnemnhaaGreatDoorWGxW3
namespace Go.Proofs.YtiomojlcnemnhaaGreatDoor
open Go.Fx Go.RowKit Go.Ped

abbrev laidTakes : List (String × DataW Unit) := [("pedigree/value.takes", Rows.laid_pedigree_value_takes)]
theorem gTakesType : (Tryz.prog.globals[0]?).map (·.type) = some 328 := by kernel_rfl
theorem cells149 : Tryz.prog.cellsOf 328 = 11 := by kernel_rfl
theorem cells36 : Tryz.prog.cellsOf 52 = 1 := by kernel_rfl
theorem takesData : (Rows.laid_pedigree_value_takes : DataW Unit) = Lib.tabData .i8 takesTab := by rfl
theorem held_takes {W : World} (h : laidMetH Tryz.prog laidTakes W) : Held GK W := by
  have h1 := plain_laid (by kernel_rfl) h
  unfold laidTakes at h1
  rw [takesData] at h1
  exact Lib.tabBelow_of_tabIs (Lib.tabIs_of_head gTakes gTakesType Tryz.underlying328 Tryz.underlying52 cells36 cells149 h1)

theorem not_agg25 : ¬ isAggTy Tryz.prog 108 := by
  rintro (⟨fs, h⟩ | ⟨n, e, h⟩) <;> rw [Tryz.underlying108] at h <;> cases h
end Go.Proofs.YtiomojlcnemnhaaGreatDoor

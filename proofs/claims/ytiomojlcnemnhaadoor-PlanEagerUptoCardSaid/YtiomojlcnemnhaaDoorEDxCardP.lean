import Derived.Test.YtiomojlcnemnhaaDoorEDxF16
import Derived.Test.YtiomojlcnemnhaaDoorEDxJ8
namespace Go.Proofs.YtiomojlcnemnhaaDoor
open Go.Fx Go.RowKit Go.Ped
abbrev laidBits : List (String × DataW Unit) := [("math/bits.deBruijn32tab", Rows.laid_math_bits_deBruijn32tab)]
theorem gBitsType : (Tryd.prog.globals[1]?).map (·.type) = some 264 := by kernel_rfl
theorem cells264 : Tryd.prog.cellsOf 264 = 32 := by kernel_rfl
theorem cells5 : Tryd.prog.cellsOf 5 = 1 := by kernel_rfl
theorem bitsData : (Rows.laid_math_bits_deBruijn32tab : DataW Unit) = Lib.tabData .u8 bruijnTab := by rfl
theorem held_bits {W : World} (h : laidMetH Tryd.prog laidBits W) : Held GB W := by
  have h1 := plain_laid (by kernel_rfl) h
  unfold laidBits at h1
  rw [bitsData] at h1
  exact Lib.tabBelow_of_tabIs (Lib.tabIs_of_head gBruijn gBitsType Tryd.underlying264 Tryd.underlying5 cells5 cells264 h1)
theorem not_agg52 : ¬ isAggTy Tryd.prog 52 := by
  rintro (⟨fs, h⟩ | ⟨n, e, h⟩) <;> rw [Tryd.underlying52] at h <;> cases h
theorem not_agg3 : ¬ isAggTy Tryd.prog 3 := by
  rintro (⟨fs, h⟩ | ⟨n, e, h⟩) <;> rw [Tryd.underlying3] at h <;> cases h
theorem ty_names {cs : List C} (h : Typed Tryd.prog 52 cs) : ∃ (l : List Name) (sp : Sp), cs = [.sl (l.map nmRow) sp] ∧ ∀ e ∈ sp, e.length = 1 := by
  obtain ⟨es, sp, rfl, hes, _⟩ := h.asSlice Tryd.underlying52
  obtain ⟨l, rfl⟩ := list_of (row := nmRow) (es := es) fun x hx => ty_str (hes x (List.mem_append_left _ hx))
  refine ⟨l, sp, rfl, fun e he => ?_⟩
  obtain ⟨s, rfl⟩ := ty_str (hes e (List.mem_append_right _ he))
  rfl
theorem nm_bulk (v : Name) : 1 ≤ rowBulk (nmRow v) := by simp only [rowBulk, C.bulk]; omega
theorem body_bulk (r : Rule) : r.body.length ≤ rowBulk r.row := by
  have := rows_len lit_bulk r.body
  simp only [Rule.row, rowBulk, C.bulk]; omega
end Go.Proofs.YtiomojlcnemnhaaDoor

/- What the rows of the laws with 'lives' share: what the operations take, listed by the row; openers that tell lengths. -/
import Derived.Test.YtiomojlcnemnhaaDoorKDxFacts
import Derived.Test.YtiomojlcnemnhaaDoorKDxW3
namespace Go.Proofs.YtiomojlcnemnhaaDoor
open Go.Fx Go.RowKit Go.Ped

abbrev laidTakes : List (String × DataW Unit) := [("pedigree/value.takes", Rows.laid_pedigree_value_takes)]
theorem gTakesType : (Tryd.prog.globals[0]?).map (·.type) = some 149 := by kernel_rfl
theorem cells149 : Tryd.prog.cellsOf 149 = 11 := by kernel_rfl
theorem cells36 : Tryd.prog.cellsOf 36 = 1 := by kernel_rfl
theorem takesData : (Rows.laid_pedigree_value_takes : DataW Unit) = Lib.tabData .i8 takesTab := by rfl
theorem held_takes {W : World} (h : laidMetH Tryd.prog laidTakes W) : Held GK W := by
  have h1 := plain_laid (by kernel_rfl) h
  unfold laidTakes at h1
  rw [takesData] at h1
  exact Lib.tabBelow_of_tabIs (Lib.tabIs_of_head gTakes gTakesType Tryd.underlying149 Tryd.underlying36 cells36 cells149 h1)

theorem ty_tmsN {cs : List C} (h : Typed Tryd.prog 22 cs) : ∃ (l : List Tm) (sp : Sp), cs = [.sl (l.map Tm.row) sp] ∧ l.length ≤ maxLen := by
  obtain ⟨es, sp, rfl, hes, hn⟩ := h.asSlice Tryd.underlying22
  obtain ⟨l, rfl⟩ := list_of (row := Tm.row) (es := es) fun x hx => ty_tm (hes x (List.mem_append_left _ hx))
  exact ⟨l, sp, rfl, by rw [List.length_map] at hn; omega⟩
theorem ty_atomN {cs : List C} (h : Typed Tryd.prog 24 cs) : ∃ (p : Name) (l : List Tm) (sp : Sp), cs = [cS (bs p), .sl (l.map Tm.row) sp] ∧ l.length ≤ maxLen := by
  obtain ⟨a, r, rfl, ha, b, r', rfl, hb, hr⟩ := h.asStruct Tryd.underlying24
  cases hr
  obtain ⟨p, rfl⟩ := ty_str ha
  obtain ⟨l, sp, rfl, hl⟩ := ty_tmsN hb
  exact ⟨p, l, sp, rfl, hl⟩
theorem ty_bindsN {cs : List C} (h : Typed Tryd.prog 25 cs) : ∃ (l : List Tm) (sp : Sp), cs = [.sl (l.map Tm.row) sp] ∧ l.length ≤ maxLen := by
  obtain ⟨es, sp, rfl, hes, hn⟩ := h.asSlice Tryd.underlying25
  obtain ⟨l, rfl⟩ := list_of (row := Tm.row) (es := es) fun x hx => ty_bind (hes x (List.mem_append_left _ hx))
  exact ⟨l, sp, rfl, by rw [List.length_map] at hn; omega⟩
theorem not_agg25 : ¬ isAggTy Tryd.prog 25 := by
  rintro (⟨fs, h⟩ | ⟨n, e, h⟩) <;> rw [Tryd.underlying25] at h <;> cases h
end Go.Proofs.YtiomojlcnemnhaaDoor

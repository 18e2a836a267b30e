/- Contracts, on: some answers that are fixed (lives). -/
import Derived.Test.YtiomojlcnemnhaaDoorTDxH8
namespace Go.Proofs.YtiomojlcnemnhaaDoor
open Go.Fx Go.RowKit Go.Ped
variable {G : World → Prop}

abbrev lvT : List Tm := [⟨[88], zeroV⟩, ⟨[95], zeroV⟩, ⟨[], ⟨1, 5, []⟩⟩]
abbrev lvA : List Val := [⟨1, 1, []⟩, ⟨1, 2, []⟩, ⟨1, 5, []⟩]
abbrev lvB : List Val := [⟨1, 1, []⟩, ⟨1, 2, []⟩, ⟨1, 6, []⟩]
theorem lv_match : matchOf [112] lvT [112] lvA = some [bX] := by kernel_rfl
theorem lv_no : matchOf [112] lvT [112] lvB = none := by kernel_rfl
theorem lv_ok : atomOk [112] lvT = true := by kernel_rfl
theorem v21 : MeetsV Tryd.prog G (fnA 21) [.agg [.c (cS (bs [112])), .c (.sl (lvT.map Tm.row) [])], .agg [.c (cS (bs [112])), .arr 17 0 3 3]] (hp [(17, bxV lvA)] [] F0) (.tup [.one (.c (.sl [bX.row] [])), .one (.c (cB true))]) (hp [(17, bxV lvA)] [] F0) := by
  have h := (MeetsV.of_fun (w21 (G := G) [112] [112] lvT lvA [] (by decide))).ren (π := swR 10005 17)
  rw [lv_match] at h
  simp [swF, matchR, CR.open, CX.open, Tm.row, Val.row, zeroV] at h
  exact h

theorem m19 : Meets Tryd.prog GK 19 [] (.x (.one (cB true))) := by
  have h21 := m21 (G := GK) [112] [112] lvT lvB [] [] (by decide)
  rw [lv_no] at h21
  have h44 := m44 (G := GK) [112] lvT [] (by decide)
  rw [lv_ok, if_pos rfl] at h44
  refine meets Tryd.func19 ie19 ig19 (Nat.le_of_ble_eq_true rfl) ?_
  simp [ic19, ir19]
  refine call_of (m87 [88]) ?_
  simp
  refine call_of (m87 [95]) ?_
  simp
  refine call_of (m88 5) ?_
  simp
  refine call_of (m89 1) ?_
  simp
  refine call_of (m89 2) ?_
  simp
  refine call_of (m89 5) ?_
  simp
  refine k_rowb (es := [nmR 1, nmR 2, nmR 5]) rfl rfl (by simp) (by simp) ?_
  simp
  refine r_callN [17] _ _ [(17, bxV lvA)] [] _ [(17, bxV lvA)] [] v21 rfl rfl rfl (by simp [X.fits, A.fits, fitsL, Tm.row, zeroV]) (by simp [Val.row]) (by simp) ?_
  simp
  refine call_of (m89 6) ?_
  simp [Val.row]
  simp [freeze_st, fzL, freezeO, maxLen, closeL, A.close]
  refine call_of h21 ?_
  simp [matchR]
  refine call_of (m87 [88]) ?_
  simp
  refine call_of (m88 2) ?_
  simp
  refine call_of (m26a []) ?_
  simp
  refine call_of (m89 3) ?_
  simp
  refine call_of h44 ?_
  simp
end Go.Proofs.YtiomojlcnemnhaaDoor

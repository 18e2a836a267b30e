import Derived.Test.YtiomojlcnemnhaaDoorKDxW1
import Derived.Test.YtiomojlcnemnhaaDoorKDxIcL
import Derived.Test.YtiomojlcnemnhaaDoorKDxN3
import Derived.Test.YtiomojlcnemnhaaDoorKDxX13
import Derived.Test.YtiomojlcnemnhaaDoorKFxWe
import Derived.Test.YtiomojlcnemnhaaDoorKDxX2
import Derived.Lib.LaidTab
import Derived.Lib.AppendIntMem
/- Contracts, on: what a variable is by a list; the fact that an atom becomes. -/
namespace Go.Proofs.YtiomojlcnemnhaaDoor
open Go.Fx Go.RowKit Go.Ped
variable {G : World → Prop}

end Go.Proofs.YtiomojlcnemnhaaDoor

/- Contracts, on: some expressions' values. -/
namespace Go.Proofs.YtiomojlcnemnhaaDoor
open Go.Fx Go.RowKit Go.Ped
variable {G : World → Prop}

/-- What the operations take, as the program has it. -/
abbrev takesTab : List Int := [0, 1, 2, 2, 2, 2, 2, 4, 3, 3, 3]
abbrev GK : World → Prop := fun w => Lib.TabIs Tryd.prog w "pedigree/value.takes" .i8 takesTab
theorem gTakes : Tryd.prog.globalNamed "pedigree/value.takes" = some 0 := by kernel_rfl
theorem takes_at (i : Nat) (hi : i < 11) : ∀ w, GK w → w.cell? ⟨0, i, none⟩ = some (.int .i8 (takesTab.getD i 0)) := fun _ h => h.cell gTakes i hi

theorem w1 : IntKind.i64.wrap 1 = 1 := by decide
theorem w2 : IntKind.i64.wrap 2 = 2 := by decide
abbrev nmR (n : Int) : List C := [cI .i8 1, cI .i64 n, cS (bs [])]
theorem m102 (n : Int) : Meets Tryd.prog G 102 [.one (cI .i64 n)] (.tup [.agg (nmR n), .one (cB true)]) := by
  refine meets Tryd.func102 ie102 ig102 (Nat.le_of_ble_eq_true rfl) ?_
  simp [ic102, ir102]
/-- The map of what is bound, handed over. -/
abbrev OB (m : List Tm) : List (Nat × Box) := [(10040, ⟨0, 4, m.map mpRow, some (.string, false)⟩)]
attribute [simp] OB
theorem midB {U : List (Nat × Tok)} {H : FHp} (m : List Tm) : ∀ p ∈ OB m, midKey p.1 ∧ ∀ r ∈ p.2.rows, onlyL (fun k => ¬ ownKey k) (fun k => (lookT U k).or (H.toks k) ≠ none) r := by
  intro p hp
  simp only [List.mem_singleton] at hp
  subst hp
  refine ⟨by unfold midKey; omega, fun r hr => ?_⟩
  obtain ⟨q, _, rfl⟩ := List.mem_map.1 hr
  simp [mpRow, Val.row]
theorem midB2 {O2 : List (Nat × Box)} {U2 : List (Nat × Tok)} {H2 : FHp} (m : List Tm) : ∀ p ∈ OB m, ∀ r ∈ p.2.rows, onlyL (fun k => ¬ ownKey k ∨ lookO O2 k ≠ none) (fun k => (lookT U2 k).or (H2.toks k) ≠ none) r := by
  intro p hp r hr
  simp only [List.mem_singleton] at hp
  subst hp
  obtain ⟨q, _, rfl⟩ := List.mem_map.1 hr
  simp [mpRow, Val.row]
abbrev lfR (v : Name) (x : Val) (ks : Sp) : List C := [cI .i8 0, cS (bs v), cI .i8 x.k, cI .i64 x.n, cS (bs x.s), .sl [] ks]
abbrev vR (x : Val) : List C := [cI .i8 x.k, cI .i64 x.n, cS (bs x.s)]

/-- A value by itself. -/
theorem e96c (X : XP) (m : List Tm) (x : Val) (ks : Sp) : MeetsH Tryd.prog G 96 [.agg ((lfR [] x ks).map A.c), .one (.mapr 10040)] (hp (OB m) [] (FX X)) (.tup [.agg ((vR x).map A.c), .one (.c (cB true))]) (hp (OB m) [] (FX X)) := by
  refine meetsH [] Tryd.func96 ie96 ig96 (Nat.le_of_ble_eq_true rfl) (midB m) (by simp) (by simp [ownKey]) (by simp) (by simp) (sameKeys_refl _) (midB2 _) (by simp) ?_
  simp [ic96, ir96, strikeL_mpRow]
  exact ret_st (by simp) (by simp) (by simp [strikeL_mpRow, strikeL_mpRow']) (by simp) (by simp) (by simp)
/-- A variable that is bound. -/
theorem e96v (X : XP) (m : List Tm) (v : Name) (x w : Val) (ks : Sp) (hv : v ≠ []) (hb : bindOf m v = some w) (hw : Val.ok w = true) : MeetsH Tryd.prog G 96 [.agg ((lfR v x ks).map A.c), .one (.mapr 10040)] (hp (OB m) [] (FX X)) (.tup [.agg ((vR w).map A.c), .one (.c (cB true))]) (hp (OB m) [] (FX X)) := by
  refine meetsH [] Tryd.func96 ie96 ig96 (Nat.le_of_ble_eq_true rfl) (midB m) (by simp) (by simp [ownKey]) (by simp) (by simp) (sameKeys_refl _) (midB2 _) (by simp) ?_
  have hg := mapGet_binds v m
  rw [hb] at hg
  have h92 := m92 (G := G) w.k w.n w.s
  rw [show valOk w.k w.n w.s = true from hw] at h92
  simp only [Option.getD_some, Val.row, List.map_cons, List.map_nil] at hg
  have hne : v.isEmpty = false := by simpa using hv
  simp [ic96, ir96, hv, hne, hg, strikeL_mpRow, strikeL_mpRow']
  refine call_of h92 ?_
  simp
  exact ret_st (by simp) (by simp) (by simp [strikeL_mpRow, strikeL_mpRow']) (by simp) (by simp) (by simp)
end Go.Proofs.YtiomojlcnemnhaaDoor

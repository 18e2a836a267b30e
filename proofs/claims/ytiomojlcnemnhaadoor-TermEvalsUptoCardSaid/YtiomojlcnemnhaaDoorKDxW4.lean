/- Contracts, on: the value of one sum, under one bind. -/
import Derived.Test.YtiomojlcnemnhaaDoorKDxW3
import Derived.Test.YtiomojlcnemnhaaDoorKDxX11
namespace Go.Proofs.YtiomojlcnemnhaaDoor
open Go.Fx Go.RowKit Go.Ped
variable {G : World → Prop}

theorem hp_renX (π : Ren) (O : List (Nat × Box)) (U : List (Nat × Tok)) (E : XP) : (hp O U (FX E)).ren π = hp (O.map fun p => (π.f p.1, p.2.ren π.f)) (U.map fun p => (π.f p.1, p.2)) (FX E) := by
  unfold Hp.ren hp
  simp only [Hp.mk.injEq]
  refine ⟨funext fun k => ?_, funext fun k => ?_, trivial⟩
  · rw [lookO_ren]
    show ((lookO O (π.g k)).or none).map _ = ((lookO O (π.g k)).map _).or none
    simp
  · rw [lookT_ren]; rfl

theorem m95 (rows : List (List C)) (sp : Sp) : MeetsH Tryd.prog G 95 [.one (.c (.sl rows sp))] (hp [] [] F0) (.x (.one (.clo 159 [] [.ref 1 0 0]))) (hp [(1, ⟨25, 1, [[.c (.sl rows sp)]], none⟩)] [] F0) := by
  refine meetsH [] Tryd.func95 ie95 ig95 (Nat.le_of_ble_eq_true rfl) (by simp) (by simp) (by simp) (by simp) (by simp) (sameKeys_refl F0) (by simp) (by simp) ?_
  simp [ic95, ir95]
  exact ret_st (by simp) (by simp) (by simp) (by simp) (by simp) (by simp)

abbrev OY (a b : Nat) (m : List Tm) : List (Nat × Box) := [(a, ⟨138, 1, [[.mapr b]], none⟩), (b, ⟨0, 4, m.map mpRow, some (.string, false)⟩)]
attribute [simp] OY
theorem ren_mpRow (r : Nat → Nat) (t : Tm) : renL r (mpRow t) = mpRow t := by simp [mpRow, Val.row]
theorem ren_mpRow' (r : Nat → Nat) : renL r ∘ mpRow = mpRow := funext fun t => ren_mpRow r t

abbrev bX : Tm := ⟨[88], ⟨1, 1, []⟩⟩
end Go.Proofs.YtiomojlcnemnhaaDoor

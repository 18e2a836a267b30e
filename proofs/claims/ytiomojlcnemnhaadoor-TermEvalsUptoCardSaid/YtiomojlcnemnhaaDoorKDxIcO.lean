import Derived.Test.YtiomojlcnemnhaaDoorKDxH7
import Derived.Test.YtiomojlcnemnhaaDoorKDxX11
import Derived.Test.YtiomojlcnemnhaaDoorKFxWb
import Derived.Test.YtiomojlcnemnhaaDoorProg
import Derived.KernelRfl
/- Contracts, on: Eval. -/
namespace Go.Proofs.YtiomojlcnemnhaaDoor
open Go.Fx Go.RowKit Go.Ped
variable {G : World → Prop}

theorem v159g (Z : XP) (l : Nat) (ta : Array Value) (L : List Tm) (sp : Sp) (hL : L.length ≤ 1048576) (M : Nat → List Tm)
    (hY : ∀ (j : Nat) (hj : j < L.length), MeetsV Tryd.prog G (.yld l ta [6] [.ref 10006 0 0]) [.one (.c (cI .i64 j)), .agg (L[j].row.map A.c)] (hp (OY 10006 10013 (M (j + 1))) [] (FX Z)) (rB true) (hp (OY 10006 10013 (M j)) [] (FX Z))) :
    MeetsV Tryd.prog G (.clo 159 [] [.ref 1 0 0]) [.one (.yld l ta [6] [.ref 6 0 0])] (hp ((1, ⟨25, 1, [[.c (.sl (L.map Tm.row) sp)]], none⟩) :: OY 6 13 (M L.length)) [] (FX Z)) (.tup []) (hp ((1, ⟨25, 1, [[.c (.sl (L.map Tm.row) sp)]], none⟩) :: OY 6 13 (M 0)) [] (FX Z)) := by
  have h := (((clo_of (f := 159) (fs := []) (args := [.one (.yld l ta [6] [.ref 10006 0 0])]) (cs := [.ref 10001 0 0]) rfl (m159g Z l ta L sp hL M hY)).ren (π := swR 10001 1)).ren (π := swR 10006 6)).ren (π := swR 10013 13)
  simp [swF, hp_renX, ren_mpRow'] at h
  simpa using h
theorem v96g (Z : XP) (m : List Tm) (e : Ex) (h : exOk 8 e = true) : MeetsV Tryd.prog GK (fnA 96) [.agg (e.row.map A.c), .one (.mapr 13)] (hp [(13, ⟨0, 4, m.map mpRow, some (.string, false)⟩)] [] (FX Z)) (.tup [.agg (((e.val m).getD zeroV).row.map A.c), .one (.c (cB (e.val m).isSome))]) (hp [(13, ⟨0, 4, m.map mpRow, some (.string, false)⟩)] [] (FX Z)) := by
  have h := (MeetsV.of_fun (e96 Z m e 8 h)).ren (π := swR 10040 13)
  have e1 : ∀ (r : Nat → Nat) (l : List C), renL r (l.map A.c) = l.map A.c := fun r l => by induction l with | nil => rfl | cons a l ih => simp
  simp [swF, hp_renX, ren_mpRow', e1] at h
  simpa using h

theorem m26 (e : Ex) (L : List Tm) (sp : Sp) (hs : e.small 1048576) (hL : L.length ≤ 1048576) : Meets Tryd.prog GK 26 [.agg e.row, .one (.sl (L.map Tm.row) sp)] (optR (if exOk 8 e then e.val L else none)) := by
  have h94 := m94 (G := GK) e hs
  refine meets Tryd.func26 ie26 ig26 (Nat.le_of_ble_eq_true rfl) ?_
  have hrow : e.row = [cI .i8 e.op, cS (bs e.t.v), cI .i8 e.t.x.k, cI .i64 e.t.x.n, cS (bs e.t.x.s), .sl (e.kids.map Ex.row) e.sp] := Ex.row_eq e
  have hvl : e.val (backMap L 0) = e.val L := Ex.val_congr (bindOf_backMap L) e
  by_cases hok : exOk 8 e = true
  · rw [hok] at h94
    have h96 := fun Z => v96g Z (backMap L 0) e hok
    rw [hvl] at h96
    rw [hok]
    simp only [if_true] at h94 ⊢
    generalize e.val L = R at h96 ⊢
    rw [hrow] at h94 h96 ⊢
    simp [ic26, ir26]
    refine call_of h94 ?_
    simp
    refine r_callW _ _ [] [] _ _ [] (MeetsV.of_fun (m95 (L.map Tm.row) sp)) rfl rfl rfl (by simp) (by simp) ?_
    simp
    refine w_rangeF [6] [.ref 6 0 0] rfl trivial rfl ?_ (by simp) (by simp)
    intro l ta E B m hE hB hR
    have hY : ∀ (j : Nat) (hj : j < L.length), MeetsV Tryd.prog GK (.yld l ta [6] [.ref 10006 0 0]) [.one (.c (cI .i64 j)), .agg (L[j].row.map A.c)] (hp (OY 10006 10013 (backMap L (j + 1))) [] (FX (E .normal))) (rB true) (hp (OY 10006 10013 (backMap L j)) [] (FX (E .normal))) := by
      intro j hj
      refine hR [.ref 10006 0 0] [.one (.c (cI .i64 j)), .agg (L[j].row.map A.c)] (OY 10006 10013 (backMap L (j + 1))) [] (OY 10006 10013 (backMap L j)) [] .normal rfl rfl trivial ?_ ?_
      · refine ⟨?_, by simp, by simp [Tm.row], by simp [ownKey], by simp, by simp, ?_⟩
        · simp [midKey, ownKey, mpRow, Val.row]
        · simp [ownKey, mpRow, Val.row]
      · have hr : L[j].row = [cS (bs L[j].v), cI .i8 L[j].x.k, cI .i64 L[j].x.n, cS (bs L[j].x.s)] := rfl
        have hp2 := mapPut_put L[j] (backMap L (j + 1))
        rw [← backMap_at L j hj] at hp2
        simp only [Val.row, List.map_cons, List.map_nil] at hp2
        simp [ic26a0, roundL, hr]
        refine roundA_mk ?_
        simp [ic26l0]
        exact roundQ_mk (by simp [strikeL_mpRow', hp2]) (by simp)
    refine ⟨_, [], _, [], _, .normal, v159g (E .normal) l ta L sp hL (backMap L) hY, ?_, trivial, fun Z hZ => ?_⟩
    · simp [backMap_end]
    · simp
      refine r_callW _ _ [(13, ⟨0, 4, (backMap L 0).map mpRow, some (.string, false)⟩)] [] _ [(13, ⟨0, 4, (backMap L 0).map mpRow, some (.string, false)⟩)] [] (h96 Z) rfl rfl rfl (by simp [X.fits, A.fits]) (by simp) ?_
      simp [hZ, Val.row]
  · have hok' : exOk 8 e = false := by simpa using hok
    rw [hok'] at h94 ⊢
    rw [hrow] at h94 ⊢
    simp [ic26, ir26]
    refine call_of h94 ?_
    simp
    rfl
end Go.Proofs.YtiomojlcnemnhaaDoor

/- Functions of the seat, as the small language has them. -/
namespace Go.Proofs.YtiomojlcnemnhaaDoor
open Go.Fx

/-- pedigree/pedigreelaw01.BeyondExpr -/
def ic25 : IC :=
 (.seq
 (.region [1] [] [0, 1, 2] [
 ⟨(some 1), (.box 47 (.t 0)), none, none⟩,
 ⟨(some 2), (.move (.k (rB false))), none, none⟩])
 (.seq
 (.region [] [] [0, 1, 2] [
 ⟨(some 3), (.load (some 6) (.t 1)), none, none⟩,
 ⟨(some 4), (.callp (.k (rF 93)) [(.t 3), (.k (rI .i64 1048576))]), none, none⟩,
 ⟨(some 5), (.bin .gtr (.t 4) (.k (rI .i64 1048576))), none, none⟩,
 ⟨(some 2), (.move (.t 5)), none, none⟩])
 .ret))
def ir25 : List IRes := [.tmp 2]
theorem ie25 : cmpFunc Go.Proofs.Tryd.prog ⟨[], []⟩ Go.Proofs.Tryd.f25 [0, 1, 2] = some ic25 := by kernel_rfl
theorem ig25 : cmpRes Go.Proofs.Tryd.prog Go.Proofs.Tryd.f25.results.toList = some ir25 := by kernel_rfl

end Go.Proofs.YtiomojlcnemnhaaDoor

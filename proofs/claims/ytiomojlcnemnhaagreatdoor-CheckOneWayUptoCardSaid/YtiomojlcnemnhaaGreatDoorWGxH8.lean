import Derived.Test.YtiomojlcnemnhaaGreatDoorWGxHf
import Derived.Test.YtiomojlcnemnhaaGreatDoorWGxX11
/- Contracts, on: the value of an expression under any list of binds. -/
namespace Go.Proofs.YtiomojlcnemnhaaGreatDoor
open Go.Fx Go.RowKit Go.Ped
variable {G : World → Prop}

/-- A bind put into a map. -/
def putTm : List Tm → Tm → List Tm
  | [], t => [t]
  | u :: m, t => if u.v = t.v then t :: m else u :: putTm m t
theorem bindOf_cons (u : Tm) (m : List Tm) (v : Name) : bindOf (u :: m) v = if u.v = v then some u.x else bindOf m v := by
  unfold bindOf
  rw [List.find?_cons]
  by_cases h : u.v = v
  · simp [h]
  · rw [if_neg h, beq_false_of_ne h]
theorem bindOf_put (t : Tm) (v : Name) : ∀ m : List Tm, bindOf (putTm m t) v = if t.v = v then some t.x else bindOf m v
  | [] => by rw [putTm, bindOf_cons]
  | u :: m => by
    rw [putTm]
    split
    · rename_i h
      rw [bindOf_cons, bindOf_cons, h]
      split <;> rfl
    · rename_i h
      rw [bindOf_cons, bindOf_cons, bindOf_put t v m]
      split
      · rename_i h1
        rw [if_neg fun h2 => h (h1.trans h2.symm)]
      · rfl
theorem mapPut_put (t : Tm) : ∀ m : List Tm, mapPut (m.map mpRow) (.string (bs t.v)) (t.x.row.map A.c) = (putTm m t).map mpRow
  | [] => by simp [mapPut, putTm, mpRow]
  | u :: m => by
    have ih := mapPut_put t m
    rw [putTm]
    unfold mapPut at ih ⊢
    rw [List.map_cons, List.any_cons, List.findIdx_cons, keyEq_mpRow]
    by_cases h : u.v = t.v
    · simp [h, mpRow]
    · rw [beq_false_of_ne h, if_neg h, Bool.false_or, cond_false, List.map_cons]
      split
      · rename_i h1
        rw [if_pos h1] at ih
        rw [List.set_cons_succ, ih]
      · rename_i h1
        rw [if_neg h1] at ih
        rw [List.cons_append, ih]

/-- The binds from a place on, put into a map from the last to the first. -/
def backMap (L : List Tm) (j : Nat) : List Tm := (L.drop j).foldr (fun t m => putTm m t) []
theorem backMap_end (L : List Tm) : backMap L L.length = [] := by unfold backMap; rw [List.drop_length]; rfl
theorem backMap_at (L : List Tm) (j : Nat) (h : j < L.length) : backMap L j = putTm (backMap L (j + 1)) L[j] := by
  unfold backMap
  rw [List.drop_eq_getElem_cons h]; rfl
theorem bindOf_backMap (L : List Tm) (v : Name) : bindOf (backMap L 0) v = bindOf L v := by
  unfold backMap
  rw [List.drop_zero]
  induction L with
  | nil => rfl
  | cons t L ih => rw [List.foldr_cons, bindOf_put, bindOf_cons, ih]

mutual
theorem Ex.val_congr {m m' : List Tm} (h : ∀ v, bindOf m v = bindOf m' v) : ∀ e : Ex, e.val m = e.val m'
  | .mk op t kids sp => by
    have hl : leafV m t = leafV m' t := by unfold leafV; rw [h]
    rw [Ex.val_mk, Ex.val_mk, hl, exVals_congr h kids]
theorem exVals_congr {m m' : List Tm} (h : ∀ v, bindOf m v = bindOf m' v) : ∀ l : List Ex, exVals m l = exVals m' l
  | [] => by rw [exVals, exVals]
  | e :: l => by rw [exVals, exVals, Ex.val_congr h e, exVals_congr h l]
end

theorem m159g (Z : XP) (l : Nat) (ta : Array Value) (L : List Tm) (sp : Sp) (hL : L.length ≤ 1048576) (M : Nat → List Tm)
    (hY : ∀ (j : Nat) (hj : j < L.length), MeetsV Tryz.prog G (.yld l ta [6] [.ref 10006 0 0]) [.one (.c (cI .i64 j)), .agg (L[j].row.map A.c)] (hp (OY 10006 10013 (M (j + 1))) [] (FX Z)) (rB true) (hp (OY 10006 10013 (M j)) [] (FX Z))) :
    MeetsH Tryz.prog G 279 [.one (.yld l ta [6] [.ref 10006 0 0]), .one (.ref 10001 0 0)] (hp ((10001, ⟨108, 1, [[.c (.sl (L.map Tm.row) sp)]], none⟩) :: OY 10006 10013 (M L.length)) [] (FX Z)) (.tup []) (hp ((10001, ⟨108, 1, [[.c (.sl (L.map Tm.row) sp)]], none⟩) :: OY 10006 10013 (M 0)) [] (FX Z)) := by
  refine meetsH [] Tryz.func279 ie159 ig159 (Nat.le_of_ble_eq_true rfl) ?_ (by simp) (by simp [ownKey]) (by simp) (by simp) (sameKeys_refl _) ?_ (by simp) ?_
  · simp [midKey, ownKey, mpRow, Val.row]
  · simp [mpRow, Val.row]
  simp [ic159, ir159]
  refine w_loopA [] [] [0, 1, 3] (by simp)
    (fun k : Nat => st [(0, .k true (.x (.one (.yld l ta [6] [.ref 10006 0 0])))), (1, .k true (.x (.one (.ref 10001 0 0)))), (3, tI .i64 ((k : Int) - 1))] ((10001, ⟨108, 1, [[.c (.sl (L.map Tm.row) sp)]], none⟩) :: OY 10006 10013 (M k)) [] (FX Z)) (fun k => k)
    (fun k => k ≤ L.length) L.length ?_ (Nat.le_refl _) ?_
  · simp (disch := omega) only [wrap64]
    simp
  rintro k K hK hk
  cases k with
  | zero =>
    simp [ic159l0]
    exact ret_st (by simp) (by simp) (by simp) (by simp) (by simp) (by simp)
  | succ k =>
    have hlt : k < L.length := hk
    have e1 : ((k + 1 : Nat) : Int) - 1 = (k : Int) := by omega
    rw [e1] at *
    simp [ic159l0, hlt]
    refine r_callW _ _ (OY 10006 10013 (M (k + 1))) [] _ (OY 10006 10013 (M k)) [] (hY k hlt) rfl rfl rfl (by simp [X.fits, A.fits]) (by simp) ?_
    simp
    simp (disch := omega) only [wrap64]
    exact hK k _ (by simp) (by omega) (by omega)
end Go.Proofs.YtiomojlcnemnhaaGreatDoor

/- Contracts, on: Eval. -/
namespace Go.Proofs.YtiomojlcnemnhaaGreatDoor
open Go.Fx Go.RowKit Go.Ped
variable {G : World → Prop}

theorem v159g (Z : XP) (l : Nat) (ta : Array Value) (L : List Tm) (sp : Sp) (hL : L.length ≤ 1048576) (M : Nat → List Tm)
    (hY : ∀ (j : Nat) (hj : j < L.length), MeetsV Tryz.prog G (.yld l ta [6] [.ref 10006 0 0]) [.one (.c (cI .i64 j)), .agg (L[j].row.map A.c)] (hp (OY 10006 10013 (M (j + 1))) [] (FX Z)) (rB true) (hp (OY 10006 10013 (M j)) [] (FX Z))) :
    MeetsV Tryz.prog G (.clo 279 [] [.ref 1 0 0]) [.one (.yld l ta [6] [.ref 6 0 0])] (hp ((1, ⟨108, 1, [[.c (.sl (L.map Tm.row) sp)]], none⟩) :: OY 6 13 (M L.length)) [] (FX Z)) (.tup []) (hp ((1, ⟨108, 1, [[.c (.sl (L.map Tm.row) sp)]], none⟩) :: OY 6 13 (M 0)) [] (FX Z)) := by
  have h := (((clo_of (f := 279) (fs := []) (args := [.one (.yld l ta [6] [.ref 10006 0 0])]) (cs := [.ref 10001 0 0]) rfl (m159g Z l ta L sp hL M hY)).ren (π := swR 10001 1)).ren (π := swR 10006 6)).ren (π := swR 10013 13)
  simp [swF, hp_renX, ren_mpRow'] at h
  simpa using h
theorem v96g (Z : XP) (m : List Tm) (e : Ex) (h : exOk 8 e = true) : MeetsV Tryz.prog GK (fnA 222) [.agg (e.row.map A.c), .one (.mapr 13)] (hp [(13, ⟨0, 4, m.map mpRow, some (.string, false)⟩)] [] (FX Z)) (.tup [.agg (((e.val m).getD zeroV).row.map A.c), .one (.c (cB (e.val m).isSome))]) (hp [(13, ⟨0, 4, m.map mpRow, some (.string, false)⟩)] [] (FX Z)) := by
  have h := (MeetsV.of_fun (e96 Z m e 8 h)).ren (π := swR 10040 13)
  have e1 : ∀ (r : Nat → Nat) (l : List C), renL r (l.map A.c) = l.map A.c := fun r l => by induction l with | nil => rfl | cons a l ih => simp
  simp [swF, hp_renX, ren_mpRow', e1] at h
  simpa using h

theorem m26 (e : Ex) (L : List Tm) (sp : Sp) (hs : e.small 1048576) (hL : L.length ≤ 1048576) : Meets Tryz.prog GK 139 [.agg e.row, .one (.sl (L.map Tm.row) sp)] (optR (if exOk 8 e then e.val L else none)) := by
  have h94 := m94 (G := GK) e hs
  refine meets Tryz.func139 ie26 ig26 (Nat.le_of_ble_eq_true rfl) ?_
  have hrow : e.row = [cI .i8 e.op, cS (bs e.t.v), cI .i8 e.t.x.k, cI .i64 e.t.x.n, cS (bs e.t.x.s), .sl (e.kids.map Ex.row) e.sp] := Ex.row_eq e
  have hvl : e.val (backMap L 0) = e.val L := Ex.val_congr (bindOf_backMap L) e
  by_cases hok : exOk 8 e = true
  · rw [hok] at h94
    have h96 := fun Z => v96g Z (backMap L 0) e hok
    rw [hvl] at h96
    rw [hok]
    simp only [if_true] at h94 ⊢
    generalize e.val L = R at h96 ⊢
    rw [hrow] at h94 h96 ⊢
    simp [ic26, ir26]
    refine call_of h94 ?_
    simp
    refine r_callW _ _ [] [] _ _ [] (MeetsV.of_fun (m95 (L.map Tm.row) sp)) rfl rfl rfl (by simp) (by simp) ?_
    simp
    refine w_rangeF [6] [.ref 6 0 0] rfl trivial rfl ?_ (by simp) (by simp)
    intro l ta E B m hE hB hR
    have hY : ∀ (j : Nat) (hj : j < L.length), MeetsV Tryz.prog GK (.yld l ta [6] [.ref 10006 0 0]) [.one (.c (cI .i64 j)), .agg (L[j].row.map A.c)] (hp (OY 10006 10013 (backMap L (j + 1))) [] (FX (E .normal))) (rB true) (hp (OY 10006 10013 (backMap L j)) [] (FX (E .normal))) := by
      intro j hj
      refine hR [.ref 10006 0 0] [.one (.c (cI .i64 j)), .agg (L[j].row.map A.c)] (OY 10006 10013 (backMap L (j + 1))) [] (OY 10006 10013 (backMap L j)) [] .normal rfl rfl trivial ?_ ?_
      · refine ⟨?_, by simp, by simp [Tm.row], by simp [ownKey], by simp, by simp, ?_⟩
        · simp [midKey, ownKey, mpRow, Val.row]
        · simp [ownKey, mpRow, Val.row]
      · have hr : L[j].row = [cS (bs L[j].v), cI .i8 L[j].x.k, cI .i64 L[j].x.n, cS (bs L[j].x.s)] := rfl
        have hp2 := mapPut_put L[j] (backMap L (j + 1))
        rw [← backMap_at L j hj] at hp2
        simp only [Val.row, List.map_cons, List.map_nil] at hp2
        simp [ic26a0, roundL, hr]
        refine roundA_mk ?_
        simp [ic26l0]
        exact roundQ_mk (by simp [strikeL_mpRow', hp2]) (by simp)
    refine ⟨_, [], _, [], _, .normal, v159g (E .normal) l ta L sp hL (backMap L) hY, ?_, trivial, fun Z hZ => ?_⟩
    · simp [backMap_end]
    · simp
      refine r_callW _ _ [(13, ⟨0, 4, (backMap L 0).map mpRow, some (.string, false)⟩)] [] _ [(13, ⟨0, 4, (backMap L 0).map mpRow, some (.string, false)⟩)] [] (h96 Z) rfl rfl rfl (by simp [X.fits, A.fits]) (by simp) ?_
      simp [hZ, Val.row]
  · have hok' : exOk 8 e = false := by simpa using hok
    rw [hok'] at h94 ⊢
    rw [hrow] at h94 ⊢
    simp [ic26, ir26]
    refine call_of h94 ?_
    simp
    rfl
end Go.Proofs.YtiomojlcnemnhaaGreatDoor

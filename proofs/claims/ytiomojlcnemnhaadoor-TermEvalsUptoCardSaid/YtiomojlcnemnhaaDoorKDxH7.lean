/- Contracts, on: the value of an expression under any list of binds. -/
import Derived.Test.YtiomojlcnemnhaaDoorKDxH6
namespace Go.Proofs.YtiomojlcnemnhaaDoor
open Go.Fx Go.RowKit Go.Ped
variable {G : World → Prop}

/-- A bind put into a map. -/
def putTm : List Tm → Tm → List Tm
  | [], t => [t]
  | u :: m, t => if u.v = t.v then t :: m else u :: putTm m t
theorem bindOf_cons (u : Tm) (m : List Tm) (v : Name) : bindOf (u :: m) v = if u.v = v then some u.x else bindOf m v := by
  unfold bindOf
  rw [List.find?_cons]
  by_cases h : u.v = v
  · simp [h]
  · rw [if_neg h, beq_false_of_ne h]
theorem bindOf_put (t : Tm) (v : Name) : ∀ m : List Tm, bindOf (putTm m t) v = if t.v = v then some t.x else bindOf m v
  | [] => by rw [putTm, bindOf_cons]
  | u :: m => by
    rw [putTm]
    split
    · rename_i h
      rw [bindOf_cons, bindOf_cons, h]
      split <;> rfl
    · rename_i h
      rw [bindOf_cons, bindOf_cons, bindOf_put t v m]
      split
      · rename_i h1
        rw [if_neg fun h2 => h (h1.trans h2.symm)]
      · rfl
theorem mapPut_put (t : Tm) : ∀ m : List Tm, mapPut (m.map mpRow) (.string (bs t.v)) (t.x.row.map A.c) = (putTm m t).map mpRow
  | [] => by simp [mapPut, putTm, mpRow]
  | u :: m => by
    have ih := mapPut_put t m
    rw [putTm]
    unfold mapPut at ih ⊢
    rw [List.map_cons, List.any_cons, List.findIdx_cons, keyEq_mpRow]
    by_cases h : u.v = t.v
    · simp [h, mpRow]
    · rw [beq_false_of_ne h, if_neg h, Bool.false_or, cond_false, List.map_cons]
      split
      · rename_i h1
        rw [if_pos h1] at ih
        rw [List.set_cons_succ, ih]
      · rename_i h1
        rw [if_neg h1] at ih
        rw [List.cons_append, ih]

/-- The binds from a place on, put into a map from the last to the first. -/
def backMap (L : List Tm) (j : Nat) : List Tm := (L.drop j).foldr (fun t m => putTm m t) []
theorem backMap_end (L : List Tm) : backMap L L.length = [] := by unfold backMap; rw [List.drop_length]; rfl
theorem backMap_at (L : List Tm) (j : Nat) (h : j < L.length) : backMap L j = putTm (backMap L (j + 1)) L[j] := by
  unfold backMap
  rw [List.drop_eq_getElem_cons h]; rfl
theorem bindOf_backMap (L : List Tm) (v : Name) : bindOf (backMap L 0) v = bindOf L v := by
  unfold backMap
  rw [List.drop_zero]
  induction L with
  | nil => rfl
  | cons t L ih => rw [List.foldr_cons, bindOf_put, bindOf_cons, ih]

mutual
theorem Ex.val_congr {m m' : List Tm} (h : ∀ v, bindOf m v = bindOf m' v) : ∀ e : Ex, e.val m = e.val m'
  | .mk op t kids sp => by
    have hl : leafV m t = leafV m' t := by unfold leafV; rw [h]
    rw [Ex.val_mk, Ex.val_mk, hl, exVals_congr h kids]
theorem exVals_congr {m m' : List Tm} (h : ∀ v, bindOf m v = bindOf m' v) : ∀ l : List Ex, exVals m l = exVals m' l
  | [] => by rw [exVals, exVals]
  | e :: l => by rw [exVals, exVals, Ex.val_congr h e, exVals_congr h l]
end

theorem m159g (Z : XP) (l : Nat) (ta : Array Value) (L : List Tm) (sp : Sp) (hL : L.length ≤ 1048576) (M : Nat → List Tm)
    (hY : ∀ (j : Nat) (hj : j < L.length), MeetsV Tryd.prog G (.yld l ta [6] [.ref 10006 0 0]) [.one (.c (cI .i64 j)), .agg (L[j].row.map A.c)] (hp (OY 10006 10013 (M (j + 1))) [] (FX Z)) (rB true) (hp (OY 10006 10013 (M j)) [] (FX Z))) :
    MeetsH Tryd.prog G 159 [.one (.yld l ta [6] [.ref 10006 0 0]), .one (.ref 10001 0 0)] (hp ((10001, ⟨25, 1, [[.c (.sl (L.map Tm.row) sp)]], none⟩) :: OY 10006 10013 (M L.length)) [] (FX Z)) (.tup []) (hp ((10001, ⟨25, 1, [[.c (.sl (L.map Tm.row) sp)]], none⟩) :: OY 10006 10013 (M 0)) [] (FX Z)) := by
  refine meetsH [] Tryd.func159 ie159 ig159 (Nat.le_of_ble_eq_true rfl) ?_ (by simp) (by simp [ownKey]) (by simp) (by simp) (sameKeys_refl _) ?_ (by simp) ?_
  · simp [midKey, ownKey, mpRow, Val.row]
  · simp [mpRow, Val.row]
  simp [ic159, ir159]
  refine w_loopA [] [] [0, 1, 3] (by simp)
    (fun k : Nat => st [(0, .k true (.x (.one (.yld l ta [6] [.ref 10006 0 0])))), (1, .k true (.x (.one (.ref 10001 0 0)))), (3, tI .i64 ((k : Int) - 1))] ((10001, ⟨25, 1, [[.c (.sl (L.map Tm.row) sp)]], none⟩) :: OY 10006 10013 (M k)) [] (FX Z)) (fun k => k)
    (fun k => k ≤ L.length) L.length ?_ (Nat.le_refl _) ?_
  · simp (disch := omega) only [wrap64]
    simp
  rintro k K hK hk
  cases k with
  | zero =>
    simp [ic159l0]
    exact ret_st (by simp) (by simp) (by simp) (by simp) (by simp) (by simp)
  | succ k =>
    have hlt : k < L.length := hk
    have e1 : ((k + 1 : Nat) : Int) - 1 = (k : Int) := by omega
    rw [e1] at *
    simp [ic159l0, hlt]
    refine r_callW _ _ (OY 10006 10013 (M (k + 1))) [] _ (OY 10006 10013 (M k)) [] (hY k hlt) rfl rfl rfl (by simp [X.fits, A.fits]) (by simp) ?_
    simp
    simp (disch := omega) only [wrap64]
    exact hK k _ (by simp) (by omega) (by omega)
end Go.Proofs.YtiomojlcnemnhaaDoor

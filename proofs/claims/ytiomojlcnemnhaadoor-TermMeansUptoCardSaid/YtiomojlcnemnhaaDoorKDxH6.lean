import Derived.Test.YtiomojlcnemnhaaDoorKDxW3
import Derived.Test.YtiomojlcnemnhaaDoorKDxX11
import Derived.Test.YtiomojlcnemnhaaDoorKDxH5
/- Contracts, on: the value of one sum, under one bind. -/
namespace Go.Proofs.YtiomojlcnemnhaaDoor
open Go.Fx Go.RowKit Go.Ped
variable {G : World → Prop}

theorem hp_renX (π : Ren) (O : List (Nat × Box)) (U : List (Nat × Tok)) (E : XP) : (hp O U (FX E)).ren π = hp (O.map fun p => (π.f p.1, p.2.ren π.f)) (U.map fun p => (π.f p.1, p.2)) (FX E) := by
  unfold Hp.ren hp
  simp only [Hp.mk.injEq]
  refine ⟨funext fun k => ?_, funext fun k => ?_, trivial⟩
  · rw [lookO_ren]
    show ((lookO O (π.g k)).or none).map _ = ((lookO O (π.g k)).map _).or none
    simp
  · rw [lookT_ren]; rfl

theorem m95 (rows : List (List C)) (sp : Sp) : MeetsH Tryd.prog G 95 [.one (.c (.sl rows sp))] (hp [] [] F0) (.x (.one (.clo 159 [] [.ref 1 0 0]))) (hp [(1, ⟨25, 1, [[.c (.sl rows sp)]], none⟩)] [] F0) := by
  refine meetsH [] Tryd.func95 ie95 ig95 (Nat.le_of_ble_eq_true rfl) (by simp) (by simp) (by simp) (by simp) (by simp) (sameKeys_refl F0) (by simp) (by simp) ?_
  simp [ic95, ir95]
  exact ret_st (by simp) (by simp) (by simp) (by simp) (by simp) (by simp)

abbrev OY (a b : Nat) (m : List Tm) : List (Nat × Box) := [(a, ⟨138, 1, [[.mapr b]], none⟩), (b, ⟨0, 4, m.map mpRow, some (.string, false)⟩)]
attribute [simp] OY
theorem ren_mpRow (r : Nat → Nat) (t : Tm) : renL r (mpRow t) = mpRow t := by simp [mpRow, Val.row]
theorem ren_mpRow' (r : Nat → Nat) : renL r ∘ mpRow = mpRow := funext fun t => ren_mpRow r t

/-- One round: the last bind, handed over. -/
theorem m159 (Z : XP) (l : Nat) (ta : Array Value) (t : Tm) (sp : Sp) (m1 m2 : List Tm)
    (hY : MeetsV Tryd.prog G (.yld l ta [6] [.ref 10006 0 0]) [.one (.c (cI .i64 0)), .agg (t.row.map A.c)] (hp (OY 10006 10013 m1) [] (FX Z)) (rB true) (hp (OY 10006 10013 m2) [] (FX Z))) :
    MeetsH Tryd.prog G 159 [.one (.yld l ta [6] [.ref 10006 0 0]), .one (.ref 10001 0 0)] (hp ((10001, ⟨25, 1, [[.c (.sl [t.row] sp)]], none⟩) :: OY 10006 10013 m1) [] (FX Z)) (.tup []) (hp ((10001, ⟨25, 1, [[.c (.sl [t.row] sp)]], none⟩) :: OY 10006 10013 m2) [] (FX Z)) := by
  refine meetsH [] Tryd.func159 ie159 ig159 (Nat.le_of_ble_eq_true rfl) ?_ (by simp) (by simp [ownKey]) (by simp) (by simp) (sameKeys_refl _) ?_ (by simp) ?_
  · simp [midKey, ownKey, mpRow, Val.row]
  · simp [mpRow, Val.row]
  have hr : t.row = [cS (bs t.v), cI .i8 t.x.k, cI .i64 t.x.n, cS (bs t.x.s)] := rfl
  simp [ic159, ir159]
  refine w_loopA [] [] [0, 1, 3] (by simp)
    (fun b : Bool => st [(0, .k true (.x (.one (.yld l ta [6] [.ref 10006 0 0])))), (1, .k true (.x (.one (.ref 10001 0 0)))), (3, tI .i64 (bif b then -1 else 0))] ((10001, ⟨25, 1, [[.c (.sl [t.row] sp)]], none⟩) :: OY 10006 10013 (bif b then m2 else m1)) [] (FX Z)) (fun b => bif b then 0 else 1)
    (fun _ => True) false (by simp; try rfl) trivial ?_
  rintro b K hK -
  cases b with
  | false =>
    simp [ic159l0]
    refine r_callW _ _ (OY 10006 10013 m1) [] _ (OY 10006 10013 m2) [] hY rfl rfl rfl (by simp [X.fits, A.fits]) (by simp) ?_
    simp
    exact hK true _ (by simp [show IntKind.i64.wrap (0 - 1) = -1 by decide, show IntKind.i64.wrap (-1) = -1 by decide]) trivial (by simp)
  | true =>
    simp [ic159l0]
    exact ret_st (by simp) (by simp) (by simp) (by simp) (by simp) (by simp)
theorem v159 (Z : XP) (l : Nat) (ta : Array Value) (t : Tm) (sp : Sp) (m1 m2 : List Tm)
    (hY : MeetsV Tryd.prog G (.yld l ta [6] [.ref 10006 0 0]) [.one (.c (cI .i64 0)), .agg (t.row.map A.c)] (hp (OY 10006 10013 m1) [] (FX Z)) (rB true) (hp (OY 10006 10013 m2) [] (FX Z))) :
    MeetsV Tryd.prog G (.clo 159 [] [.ref 1 0 0]) [.one (.yld l ta [6] [.ref 6 0 0])] (hp ((1, ⟨25, 1, [[.c (.sl [t.row] sp)]], none⟩) :: OY 6 13 m1) [] (FX Z)) (.tup []) (hp ((1, ⟨25, 1, [[.c (.sl [t.row] sp)]], none⟩) :: OY 6 13 m2) [] (FX Z)) := by
  have h := (((clo_of (f := 159) (fs := []) (args := [.one (.yld l ta [6] [.ref 10006 0 0])]) (cs := [.ref 10001 0 0]) rfl (m159 Z l ta t sp m1 m2 hY)).ren (π := swR 10001 1)).ren (π := swR 10006 6)).ren (π := swR 10013 13)
  simp [swF, hp_renX, ren_mpRow'] at h
  simpa using h
abbrev sumR : List C := [cI .i8 2, cS (bs []), cI .i8 0, cI .i64 0, cS (bs []), .sl [lfR [88] zeroV [], lfR [] ⟨1, 2, []⟩ []] []]
abbrev bX : Tm := ⟨[88], ⟨1, 1, []⟩⟩
theorem v96 (Z : XP) : MeetsV Tryd.prog GK (fnA 96) [.agg (sumR.map A.c), .one (.mapr 13)] (hp [(13, ⟨0, 4, [bX].map mpRow, some (.string, false)⟩)] [] (FX Z)) (.tup [.agg ((nmR 3).map A.c), .one (.c (cB true))]) (hp [(13, ⟨0, 4, [bX].map mpRow, some (.string, false)⟩)] [] (FX Z)) := by
  have h := (MeetsV.of_fun (e96a Z [bX] (lfR [88] zeroV []) (lfR [] ⟨1, 2, []⟩ []) 1 2 [] rfl rfl (by decide) (by decide) (e96v Z [bX] [88] zeroV ⟨1, 1, []⟩ [] (by simp) rfl rfl) (e96c Z [bX] ⟨1, 2, []⟩ []))).ren (π := swR 10040 13)
  simp [swF, hp_renX, ren_mpRow] at h
  simpa using h
def sumE : Ex := .mk 2 ⟨[], zeroV⟩ [.mk 0 ⟨[88], zeroV⟩ [] [], .mk 0 ⟨[], ⟨1, 2, []⟩⟩ [] []] []
theorem sumE_row : sumE.row = sumR := by simp [sumE, Ex.row_mk, zeroV]
theorem sumE_ok : exOk 8 sumE = true := by kernel_rfl
theorem sumE_small : sumE.small 1048576 := by
  refine Ex.small_mk.2 ⟨by simp, fun k hk => ?_⟩
  simp only [List.mem_cons, List.not_mem_nil, or_false] at hk
  rcases hk with rfl | rfl <;> exact Ex.small_mk.2 ⟨by simp, by simp⟩
theorem m26a (sp : Sp) : Meets Tryd.prog GK 26 [.agg sumR, .one (.sl [bX.row] sp)] (.tup [.agg (nmR 3), .one (cB true)]) := by
  have h94 := m94 (G := GK) sumE sumE_small
  rw [sumE_ok, sumE_row, if_pos rfl] at h94
  refine meets Tryd.func26 ie26 ig26 (Nat.le_of_ble_eq_true rfl) ?_
  simp [ic26, ir26]
  refine call_of h94 ?_
  simp
  refine r_callW _ _ [] [] _ _ [] (MeetsV.of_fun (m95 [bX.row] sp)) rfl rfl rfl (by simp) (by simp) ?_
  simp
  refine w_rangeF [6] [.ref 6 0 0] rfl trivial rfl ?_ (by simp) (by simp)
  intro l ta E B m hE hB hR
  have hY := hR [.ref 10006 0 0] [.one (.c (cI .i64 0)), .agg (bX.row.map A.c)] (OY 10006 10013 []) [] (OY 10006 10013 [bX]) [] .normal rfl rfl trivial ?_ ?_
  · refine ⟨_, [], _, [], _, .normal, v159 (E .normal) l ta bX sp [] [bX] hY, ?_, trivial, fun Z hZ => ?_⟩
    · simp
    · simp
      refine r_callW _ _ [(13, ⟨0, 4, [bX].map mpRow, some (.string, false)⟩)] [] _ [(13, ⟨0, 4, [bX].map mpRow, some (.string, false)⟩)] [] (v96 Z) rfl rfl rfl (by simp [X.fits, A.fits]) (by simp) ?_
      simp [hZ]
  · refine ⟨?_, by simp, by simp [Tm.row], by simp [ownKey], by simp, by simp, ?_⟩
    · simp [midKey, ownKey]
    · simp [ownKey, mpRow, Val.row]
  · simp [ic26a0, roundL]
    refine roundA_mk ?_
    simp [ic26l0]
    exact ⟨rfl, roundQ_mk (by simp [mapPut, mpRow, Val.row]) (by simp)⟩
end Go.Proofs.YtiomojlcnemnhaaDoor

/- Contracts, on: the values of expressions. -/
namespace Go.Proofs.YtiomojlcnemnhaaDoor
open Go.Fx Go.RowKit Go.Ped
variable {G : World → Prop}

/-- The value of a term by a list of binds. -/
def leafV (m : List Tm) (t : Tm) : Option Val := if t.v = [] then some t.x else match bindOf m t.v with | some w => if w.ok then some w else none | none => none
mutual
/-- The value of an expression. -/
def Ex.val (m : List Tm) : Ex → Option Val
  | .mk op t kids _ => if op = 0 then leafV m t else match exVals m kids with | none => none | some vs => arithV op vs
def exVals (m : List Tm) : List Ex → Option (List Val)
  | [] => some []
  | e :: l => match e.val m with | none => none | some v => match exVals m l with | none => none | some vs => some (v :: vs)
end
theorem Ex.val_mk (m : List Tm) (op : Int) (t : Tm) (kids : List Ex) (sp : Sp) : (Ex.mk op t kids sp).val m = if op = 0 then leafV m t else match exVals m kids with | none => none | some vs => arithV op vs := by rw [Ex.val]

theorem exOk_op {d : Nat} {op : Int} {t : Tm} {kids : List Ex} {sp : Sp} (h : exOk d (.mk op t kids sp) = true) (h0 : op ≠ 0) : ∃ d', t = zeroT ∧ (1 ≤ op ∧ op ≤ 10) ∧ kids.length ≤ 2 ∧ ∀ k ∈ kids, exOk d' k = true := by
  cases d with
  | zero => cases h
  | succ d =>
    rw [exOk, if_neg h0] at h
    simp only [Bool.and_eq_true, beq_iff_eq, List.all_eq_true] at h
    refine ⟨d, h.1.1, ?_, ?_, h.2⟩
    · have := h.1.2
      unfold arity at this
      split at this
      · omega
      · split at this
        · omega
        · omega
    · have := h.1.2
      unfold arity at this
      split at this
      · omega
      · split at this
        · omega
        · omega

theorem fits_same : ∀ {l m : List C}, l = m → Fx.X.fits (.agg (l.map A.c)) (.agg (m.map A.c))
  | [], _, rfl => trivial
  | a :: l, _, rfl => ⟨by simp [A.fits], fits_same (l := l) rfl⟩

theorem e96l (X : XP) (m : List Tm) (t : Tm) (sp : Sp) (hz : t.v ≠ us) : MeetsH Tryd.prog G 96 [.agg ((Ex.mk 0 t [] sp).row.map A.c), .one (.mapr 10040)] (hp (OB m) [] (FX X)) (.tup [.agg (((leafV m t).getD zeroV).row.map A.c), .one (.c (cB (leafV m t).isSome))]) (hp (OB m) [] (FX X)) := by
  rw [Ex.row_mk]
  by_cases hv : t.v = []
  · have hl : leafV m t = some t.x := by unfold leafV; rw [if_pos hv]
    rw [hl, hv]
    exact e96c X m t.x sp
  · have hl : leafV m t = match bindOf m t.v with | some w => if w.ok then some w else none | none => none := by unfold leafV; rw [if_neg hv]
    by_cases hok : ∃ w, bindOf m t.v = some w ∧ w.ok = true
    · obtain ⟨w, hb, hw⟩ := hok
      rw [hl, hb]
      simp only [hw, if_true]
      exact e96v X m t.v t.x w sp hv hb hw
    · have hl' : leafV m t = none := by
        rw [hl]
        split
        · rename_i w hb
          rw [if_neg fun h => hok ⟨w, hb, h⟩]
        · rfl
      rw [hl']
      refine meetsH [] Tryd.func96 ie96 ig96 (Nat.le_of_ble_eq_true rfl) (midB m) (by simp) (by simp [ownKey]) (by simp) (by simp) (sameKeys_refl _) (midB2 _) (by simp) ?_
      have hg := mapGet_binds t.v m
      generalize hw : (bindOf m t.v).getD zeroV = w at hg
      have hwk : valOk w.k w.n w.s = false := by
        cases hb : bindOf m t.v with
        | none => rw [hb] at hw; subst hw; rfl
        | some x => rw [hb] at hw; subst hw; show Val.ok x = false; simpa using fun h => hok ⟨_, hb, h⟩
      have h92 := m92 (G := G) w.k w.n w.s
      rw [hwk] at h92
      simp only [Val.row, List.map_cons, List.map_nil] at hg
      have hne : t.v.isEmpty = false := by simpa using hv
      simp [ic96, ir96, hv, hne, hg, strikeL_mpRow, strikeL_mpRow']
      refine call_of h92 ?_
      simp
      exact ret_st (by simp) (by simp; exact fits_same (l := zeroV.row) rfl) (by simp [strikeL_mpRow, strikeL_mpRow']) (by simp) (by simp) (by simp)

theorem e96 (X : XP) (m : List Tm) : ∀ (e : Ex) (d : Nat), exOk d e = true → MeetsH Tryd.prog GK 96 [.agg (e.row.map A.c), .one (.mapr 10040)] (hp (OB m) [] (FX X)) (.tup [.agg (((e.val m).getD zeroV).row.map A.c), .one (.c (cB (e.val m).isSome))]) (hp (OB m) [] (FX X)) := by
  refine Ex.ind fun op t kids sp ih d hok => ?_
  by_cases h0 : op = 0
  · subst h0
    obtain ⟨rfl, hus⟩ : kids = [] ∧ t.v ≠ us := by
      cases d with
      | zero => cases hok
      | succ d =>
        rw [exOk, if_pos rfl] at hok
        simp only [Bool.and_eq_true, List.isEmpty_iff, solidOk, bne_iff_ne] at hok
        exact ⟨hok.1, hok.2.1⟩
    rw [Ex.val_mk, if_pos rfl]
    exact e96l X m t sp hus
  · obtain ⟨d', rfl, ⟨h1, h2⟩, hk2, hkok⟩ := exOk_op hok h0
    have hih := fun k hk => ih k hk d' (hkok k hk)
    rw [Ex.val_mk, if_neg h0, Ex.row_mk]
    simp only [zeroT, zeroV, List.map_cons, List.map_nil]
    generalize hR : (match exVals m kids with | none => none | some vs => arithV op vs : Option Val) = R
    refine meetsH [] Tryd.func96 ie96 ig96 (Nat.le_of_ble_eq_true rfl) (midB m) (by simp) (by simp [ownKey]) (by simp) (by simp) (sameKeys_refl _) (midB2 _) (by simp) ?_
    have h0' : ¬ op = 0 := h0
    simp [ic96, ir96, strikeL_mpRow', h0']
    refine w_loopA [.t 300 7 39 3] [9, 10, 50] [1, 2, 4, 5, 7, 33, 34, 35] (by simp [ownKey])
      (fun z : Nat × List Val => st [(1, .k true (.x (.one (.mapr 10040)))), (2, .k true (.x (.one (.ref 2 0 0)))), (4, .k true (.x (.one (.ref 4 0 0)))), (5, tB false), (7, .k true (.x (.one (.own 300 (z.2.map Val.row))))), (33, .k true (.x (.one (.c (.sl (kids.map Ex.row) sp))))), (34, tI .i64 kids.length), (35, tI .i64 z.1)]
        [(4, ⟨39, 3, [[.c (cI .i8 0), .c (cI .i64 0), .c (cS (bs []))]], none⟩), (2, ⟨47, 6, [[.c (cI .i8 op), .c (cS (bs [])), .c (cI .i8 0), .c (cI .i64 0), .c (cS (bs [])), .c (.sl (kids.map Ex.row) sp)]], none⟩), (10040, ⟨0, 4, m.map mpRow, some (.string, false)⟩)] [(300, ⟨39, 3, z.2.length⟩)] (FX X)) (fun z => kids.length - z.1)
      (fun z => z.1 ≤ kids.length ∧ z.2.length = z.1 ∧ exVals m kids = (exVals m (kids.drop z.1)).map (z.2 ++ ·)) (0, []) (by simp; try rfl) (by simp) ?_
    rintro ⟨i, E⟩ K hK ⟨hi, hE, hv⟩
    simp only at hi hE hv
    obtain hlt | hge := Nat.lt_or_ge i kids.length
    · rw [List.drop_eq_getElem_cons hlt, exVals] at hv
      have hc := hih _ (List.getElem_mem hlt)
      obtain ⟨x1, x2, x3, x4, x5, x6, hx⟩ : ∃ x1 x2 x3 x4 x5 x6, kids[i].row = [x1, x2, x3, x4, x5, x6] := ⟨_, _, _, _, _, _, Ex.row_eq _⟩
      rw [hx] at hc
      simp [ic96l0, strikeL_mpRow', hlt, hx]
      refine r_callW _ _ (OB m) [] _ (OB m) [] (MeetsV.of_fun hc) rfl rfl rfl (by simp [Fx.X.fits, A.fits]) (by simp) ?_
      cases hk : kids[i].val m with
      | none =>
        rw [hk] at hv
        simp only [Option.map_none] at hv
        rw [hv] at hR
        subst hR
        simp [strikeL_mpRow', Val.row, zeroV]
        exact ret_st (by simp [zeroV, Val.row]) (by simp) (by simp [strikeL_mpRow, strikeL_mpRow']) (by simp) (by simp) (by simp)
      | some v =>
        rw [hk] at hv
        simp [strikeL_mpRow', Val.row]
        refine ⟨by unfold maxLen; omega, by unfold maxBytes; omega, ?_⟩
        simp (disch := omega) only [wrap64]
        refine hK (i + 1, E ++ [v]) _ (by simp [strikeL_mpRow', Val.row]; try rfl) ⟨by simp only; omega, by simp [hE], ?_⟩ (by simp only; omega)
        rw [hv]
        simp only
        cases exVals m (List.drop (i + 1) kids) <;> simp
    · rw [List.drop_eq_nil_of_le hge, exVals] at hv
      simp only [Option.map_some, List.append_nil] at hv
      rw [hv] at hR
      simp only at hR
      simp [ic96l0, Nat.not_lt.mpr hge, strikeL_mpRow']
      refine call_of (m33 op h1 h2 E []) ?_
      rw [hR]
      simp [Val.row]
      exact ret_st (by simp [Val.row]) (by simp; exact fits_same (l := (R.getD zeroV).row) rfl) (by simp [strikeL_mpRow, strikeL_mpRow']) (by simp) (by simp) (by simp)
end Go.Proofs.YtiomojlcnemnhaaDoor

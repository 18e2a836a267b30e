import Derived.Test.YtiomojlcnemnhaaDoorKDxW3
import Derived.Test.YtiomojlcnemnhaaDoorKDxX13
/- Contracts, on: the value of one sum, under one bind. -/
namespace Go.Proofs.YtiomojlcnemnhaaDoor
open Go.Fx Go.RowKit Go.Ped
variable {G : World → Prop}

theorem hp_renX (π : Ren) (O : List (Nat × Box)) (U : List (Nat × Tok)) (E : XP) : (hp O U (FX E)).ren π = hp (O.map fun p => (π.f p.1, p.2.ren π.f)) (U.map fun p => (π.f p.1, p.2)) (FX E) := by
  unfold Hp.ren hp
  simp only [Hp.mk.injEq]
  refine ⟨funext fun k => ?_, funext fun k => ?_, trivial⟩
  · rw [lookO_ren]
    show ((lookO O (π.g k)).or none).map _ = ((lookO O (π.g k)).map _).or none
    simp
  · rw [lookT_ren]; rfl

theorem m95 (rows : List (List C)) (sp : Sp) : MeetsH Tryd.prog G 95 [.one (.c (.sl rows sp))] (hp [] [] F0) (.x (.one (.clo 159 [] [.ref 1 0 0]))) (hp [(1, ⟨25, 1, [[.c (.sl rows sp)]], none⟩)] [] F0) := by
  refine meetsH [] Tryd.func95 ie95 ig95 (Nat.le_of_ble_eq_true rfl) (by simp) (by simp) (by simp) (by simp) (by simp) (sameKeys_refl F0) (by simp) (by simp) ?_
  simp [ic95, ir95]
  exact ret_st (by simp) (by simp) (by simp) (by simp) (by simp) (by simp)

abbrev OY (a b : Nat) (m : List Tm) : List (Nat × Box) := [(a, ⟨138, 1, [[.mapr b]], none⟩), (b, ⟨0, 4, m.map mpRow, some (.string, false)⟩)]
attribute [simp] OY
theorem ren_mpRow (r : Nat → Nat) (t : Tm) : renL r (mpRow t) = mpRow t := by simp [mpRow, Val.row]
theorem ren_mpRow' (r : Nat → Nat) : renL r ∘ mpRow = mpRow := funext fun t => ren_mpRow r t

/-- One round: the last bind, handed over. -/
theorem m159 (Z : XP) (l : Nat) (ta : Array Value) (t : Tm) (sp : Sp) (m1 m2 : List Tm)
    (hY : MeetsV Tryd.prog G (.yld l ta [6] [.ref 10006 0 0]) [.one (.c (cI .i64 0)), .agg (t.row.map A.c)] (hp (OY 10006 10013 m1) [] (FX Z)) (rB true) (hp (OY 10006 10013 m2) [] (FX Z))) :
    MeetsH Tryd.prog G 159 [.one (.yld l ta [6] [.ref 10006 0 0]), .one (.ref 10001 0 0)] (hp ((10001, ⟨25, 1, [[.c (.sl [t.row] sp)]], none⟩) :: OY 10006 10013 m1) [] (FX Z)) (.tup []) (hp ((10001, ⟨25, 1, [[.c (.sl [t.row] sp)]], none⟩) :: OY 10006 10013 m2) [] (FX Z)) := by
  refine meetsH [] Tryd.func159 ie159 ig159 (Nat.le_of_ble_eq_true rfl) ?_ (by simp) (by simp [ownKey]) (by simp) (by simp) (sameKeys_refl _) ?_ (by simp) ?_
  · simp [midKey, ownKey, mpRow, Val.row]
  · simp [mpRow, Val.row]
  have hr : t.row = [cS (bs t.v), cI .i8 t.x.k, cI .i64 t.x.n, cS (bs t.x.s)] := rfl
  simp [ic159, ir159]
  refine w_loopA [] [] [0, 1, 3] (by simp)
    (fun b : Bool => st [(0, .k true (.x (.one (.yld l ta [6] [.ref 10006 0 0])))), (1, .k true (.x (.one (.ref 10001 0 0)))), (3, tI .i64 (bif b then -1 else 0))] ((10001, ⟨25, 1, [[.c (.sl [t.row] sp)]], none⟩) :: OY 10006 10013 (bif b then m2 else m1)) [] (FX Z)) (fun b => bif b then 0 else 1)
    (fun _ => True) false (by simp; try rfl) trivial ?_
  rintro b K hK -
  cases b with
  | false =>
    simp [ic159l0]
    refine r_callW _ _ (OY 10006 10013 m1) [] _ (OY 10006 10013 m2) [] hY rfl rfl rfl (by simp [X.fits, A.fits]) (by simp) ?_
    simp
    exact hK true _ (by simp [show IntKind.i64.wrap (0 - 1) = -1 by decide, show IntKind.i64.wrap (-1) = -1 by decide]) trivial (by simp)
  | true =>
    simp [ic159l0]
    exact ret_st (by simp) (by simp) (by simp) (by simp) (by simp) (by simp)
theorem v159 (Z : XP) (l : Nat) (ta : Array Value) (t : Tm) (sp : Sp) (m1 m2 : List Tm)
    (hY : MeetsV Tryd.prog G (.yld l ta [6] [.ref 10006 0 0]) [.one (.c (cI .i64 0)), .agg (t.row.map A.c)] (hp (OY 10006 10013 m1) [] (FX Z)) (rB true) (hp (OY 10006 10013 m2) [] (FX Z))) :
    MeetsV Tryd.prog G (.clo 159 [] [.ref 1 0 0]) [.one (.yld l ta [6] [.ref 6 0 0])] (hp ((1, ⟨25, 1, [[.c (.sl [t.row] sp)]], none⟩) :: OY 6 13 m1) [] (FX Z)) (.tup []) (hp ((1, ⟨25, 1, [[.c (.sl [t.row] sp)]], none⟩) :: OY 6 13 m2) [] (FX Z)) := by
  have h := (((clo_of (f := 159) (fs := []) (args := [.one (.yld l ta [6] [.ref 10006 0 0])]) (cs := [.ref 10001 0 0]) rfl (m159 Z l ta t sp m1 m2 hY)).ren (π := swR 10001 1)).ren (π := swR 10006 6)).ren (π := swR 10013 13)
  simp [swF, hp_renX, ren_mpRow'] at h
  simpa using h
abbrev sumR : List C := [cI .i8 2, cS (bs []), cI .i8 0, cI .i64 0, cS (bs []), .sl [lfR [88] zeroV [], lfR [] ⟨1, 2, []⟩ []] []]
abbrev bX : Tm := ⟨[88], ⟨1, 1, []⟩⟩
theorem v96 (Z : XP) : MeetsV Tryd.prog GK (fnA 96) [.agg (sumR.map A.c), .one (.mapr 13)] (hp [(13, ⟨0, 4, [bX].map mpRow, some (.string, false)⟩)] [] (FX Z)) (.tup [.agg ((nmR 3).map A.c), .one (.c (cB true))]) (hp [(13, ⟨0, 4, [bX].map mpRow, some (.string, false)⟩)] [] (FX Z)) := by
  have h := (MeetsV.of_fun (e96a Z [bX] (lfR [88] zeroV []) (lfR [] ⟨1, 2, []⟩ []) 1 2 [] rfl rfl (by decide) (by decide) (e96v Z [bX] [88] zeroV ⟨1, 1, []⟩ [] (by simp) rfl rfl) (e96c Z [bX] ⟨1, 2, []⟩ []))).ren (π := swR 10040 13)
  simp [swF, hp_renX, ren_mpRow] at h
  simpa using h
def sumE : Ex := .mk 2 ⟨[], zeroV⟩ [.mk 0 ⟨[88], zeroV⟩ [] [], .mk 0 ⟨[], ⟨1, 2, []⟩⟩ [] []] []
theorem sumE_row : sumE.row = sumR := by simp [sumE, Ex.row_mk, zeroV]
theorem sumE_ok : exOk 8 sumE = true := by kernel_rfl
theorem sumE_small : sumE.small 1048576 := by
  refine Ex.small_mk.2 ⟨by simp, fun k hk => ?_⟩
  simp only [List.mem_cons, List.not_mem_nil, or_false] at hk
  rcases hk with rfl | rfl <;> exact Ex.small_mk.2 ⟨by simp, by simp⟩
theorem m26a (sp : Sp) : Meets Tryd.prog GK 26 [.agg sumR, .one (.sl [bX.row] sp)] (.tup [.agg (nmR 3), .one (cB true)]) := by
  have h94 := m94 (G := GK) sumE sumE_small
  rw [sumE_ok, sumE_row, if_pos rfl] at h94
  refine meets Tryd.func26 ie26 ig26 (Nat.le_of_ble_eq_true rfl) ?_
  simp [ic26, ir26]
  refine call_of h94 ?_
  simp
  refine r_callW _ _ [] [] _ _ [] (MeetsV.of_fun (m95 [bX.row] sp)) rfl rfl rfl (by simp) (by simp) ?_
  simp
  refine w_rangeF [6] [.ref 6 0 0] rfl trivial rfl ?_ (by simp) (by simp)
  intro l ta E B m hE hB hR
  have hY := hR [.ref 10006 0 0] [.one (.c (cI .i64 0)), .agg (bX.row.map A.c)] (OY 10006 10013 []) [] (OY 10006 10013 [bX]) [] .normal rfl rfl trivial ?_ ?_
  · refine ⟨_, [], _, [], _, .normal, v159 (E .normal) l ta bX sp [] [bX] hY, ?_, trivial, fun Z hZ => ?_⟩
    · simp
    · simp
      refine r_callW _ _ [(13, ⟨0, 4, [bX].map mpRow, some (.string, false)⟩)] [] _ [(13, ⟨0, 4, [bX].map mpRow, some (.string, false)⟩)] [] (v96 Z) rfl rfl rfl (by simp [X.fits, A.fits]) (by simp) ?_
      simp [hZ]
  · refine ⟨?_, by simp, by simp [Tm.row], by simp [ownKey], by simp, by simp, ?_⟩
    · simp [midKey, ownKey]
    · simp [ownKey, mpRow, Val.row]
  · simp [ic26a0, roundL]
    refine roundA_mk ?_
    simp [ic26l0]
    exact ⟨rfl, roundQ_mk (by simp [mapPut, mpRow, Val.row]) (by simp)⟩
end Go.Proofs.YtiomojlcnemnhaaDoor

/- Contracts, on: some answers that are fixed (lives). -/
namespace Go.Proofs.YtiomojlcnemnhaaDoor
open Go.Fx Go.RowKit Go.Ped
variable {G : World → Prop}

abbrev lvT : List Tm := [⟨[88], zeroV⟩, ⟨[95], zeroV⟩, ⟨[], ⟨1, 5, []⟩⟩]
abbrev lvA : List Val := [⟨1, 1, []⟩, ⟨1, 2, []⟩, ⟨1, 5, []⟩]
abbrev lvB : List Val := [⟨1, 1, []⟩, ⟨1, 2, []⟩, ⟨1, 6, []⟩]
theorem lv_match : matchOf [112] lvT [112] lvA = some [bX] := by kernel_rfl
theorem lv_no : matchOf [112] lvT [112] lvB = none := by kernel_rfl
theorem lv_ok : atomOk [112] lvT = true := by kernel_rfl
theorem v21 : MeetsV Tryd.prog G (fnA 21) [.agg [.c (cS (bs [112])), .c (.sl (lvT.map Tm.row) [])], .agg [.c (cS (bs [112])), .arr 17 0 3 3]] (hp [(17, bxV lvA)] [] F0) (.tup [.one (.c (.sl [bX.row] [])), .one (.c (cB true))]) (hp [(17, bxV lvA)] [] F0) := by
  have h := (MeetsV.of_fun (w21 (G := G) [112] [112] lvT lvA [] (by decide))).ren (π := swR 10005 17)
  rw [lv_match] at h
  simp [swF, matchR, CR.open, CX.open, Tm.row, Val.row, zeroV] at h
  exact h

theorem m19 : Meets Tryd.prog GK 19 [] (.x (.one (cB true))) := by
  have h21 := m21 (G := GK) [112] [112] lvT lvB [] [] (by decide)
  rw [lv_no] at h21
  have h44 := m44 (G := GK) [112] lvT [] (by decide)
  rw [lv_ok, if_pos rfl] at h44
  refine meets Tryd.func19 ie19 ig19 (Nat.le_of_ble_eq_true rfl) ?_
  simp [ic19, ir19]
  refine call_of (m87 [88]) ?_
  simp
  refine call_of (m87 [95]) ?_
  simp
  refine call_of (m88 5) ?_
  simp
  refine call_of (m89 1) ?_
  simp
  refine call_of (m89 2) ?_
  simp
  refine call_of (m89 5) ?_
  simp
  refine k_rowb (es := [nmR 1, nmR 2, nmR 5]) rfl rfl (by simp) (by simp) ?_
  simp
  refine r_callN [17] _ _ [(17, bxV lvA)] [] _ [(17, bxV lvA)] [] v21 rfl rfl rfl (by simp [X.fits, A.fits, fitsL, Tm.row, zeroV]) (by simp [Val.row]) (by simp) ?_
  simp
  refine call_of (m89 6) ?_
  simp [Val.row]
  simp [freeze_st, fzL, freezeO, maxLen, closeL, A.close]
  refine call_of h21 ?_
  simp [matchR]
  refine call_of (m87 [88]) ?_
  simp
  refine call_of (m88 2) ?_
  simp
  refine call_of (m26a []) ?_
  simp
  refine call_of (m89 3) ?_
  simp
  refine call_of h44 ?_
  simp
end Go.Proofs.YtiomojlcnemnhaaDoor

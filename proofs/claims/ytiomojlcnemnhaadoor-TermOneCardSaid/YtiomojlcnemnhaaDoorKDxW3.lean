/- Contracts, on: some expressions' values. -/
import Derived.Test.YtiomojlcnemnhaaDoorKDxW2
import Derived.Test.YtiomojlcnemnhaaDoorKDxX2
import Derived.Lib.LaidTab
import Derived.Lib.AppendIntMem
namespace Go.Proofs.YtiomojlcnemnhaaDoor
open Go.Fx Go.RowKit Go.Ped
variable {G : World → Prop}

/-- What the operations take, as the program has it. -/
abbrev takesTab : List Int := [0, 1, 2, 2, 2, 2, 2, 4, 3, 3, 3]
abbrev GK : World → Prop := fun w => Lib.TabIs Tryd.prog w "pedigree/value.takes" .i8 takesTab
theorem gTakes : Tryd.prog.globalNamed "pedigree/value.takes" = some 0 := by kernel_rfl
theorem takes_at (i : Nat) (hi : i < 11) : ∀ w, GK w → w.cell? ⟨0, i, none⟩ = some (.int .i8 (takesTab.getD i 0)) := fun _ h => h.cell gTakes i hi

theorem w1 : IntKind.i64.wrap 1 = 1 := by decide
theorem w2 : IntKind.i64.wrap 2 = 2 := by decide
abbrev nmR (n : Int) : List C := [cI .i8 1, cI .i64 n, cS (bs [])]
theorem m102 (n : Int) : Meets Tryd.prog G 102 [.one (cI .i64 n)] (.tup [.agg (nmR n), .one (cB true)]) := by
  refine meets Tryd.func102 ie102 ig102 (Nat.le_of_ble_eq_true rfl) ?_
  simp [ic102, ir102]
theorem m101 (a b : Int) (sp : Sp) : Meets Tryd.prog G 101 [.one (cI .i8 2), .one (.sl [nmR a, nmR b] sp)] (.x (.one (cB true))) := by
  refine meets Tryd.func101 ie101 ig101 (Nat.le_of_ble_eq_true rfl) ?_
  have ha := m92 (G := G) 1 a []
  have hb := m92 (G := G) 1 b []
  simp only [valOk] at ha hb
  simp [ic101, ir101]
  refine w_loopA [] [8] [4, 6, 22, 23, 24] (by simp [ownKey])
    (fun i : Nat => st [(4, .k true (rB false)), (6, tI .i8 1), (22, .k true (.x (.one (.c (.sl [nmR a, nmR b] sp))))), (23, tI .i64 2), (24, tI .i64 i)] [] [] F0) (fun i => 2 - i)
    (fun i => i ≤ 2) 0 (by simp) (by simp) ?_
  rintro i K hK hi
  have h3 : i = 0 ∨ i = 1 ∨ i = 2 := by omega
  rcases h3 with rfl | rfl | rfl
  · simp [ic101l0]
    refine call_of ha ?_
    simp
    exact hK 1 _ (by simp [w1]) (by omega) (by omega)
  · simp [ic101l0]
    refine call_of hb ?_
    simp
    exact hK 2 _ (by simp [w2]) (by omega) (by omega)
  · simp [ic101l0]
theorem m33a (a b : Int) (sp : Sp) (h1 : -9223372036854775808 ≤ a + b) (h2 : a + b ≤ 9223372036854775807) : Meets Tryd.prog GK 33 [.one (cI .i8 2), .one (.sl [nmR a, nmR b] sp)] (.tup [.agg (nmR (a + b)), .one (cB true)]) := by
  refine meets Tryd.func33 ie33 ig33 (Nat.le_of_ble_eq_true rfl) ?_
  simp [ic33, ir33]
  rw [w2]
  simp
  refine k_gload (.int .i8 2) rfl rfl rfl (takes_at 2 (by decide)) ?_
  simp
  refine call_of (m101 a b sp) ?_
  simp
  rw [wrap64 h1 h2]
  refine call_of (m102 (a + b)) ?_
  simp

/-- The map of what is bound, handed over. -/
abbrev OB (m : List Tm) : List (Nat × Box) := [(10040, ⟨0, 4, m.map mpRow, some (.string, false)⟩)]
attribute [simp] OB
theorem midB {U : List (Nat × Tok)} {H : FHp} (m : List Tm) : ∀ p ∈ OB m, midKey p.1 ∧ ∀ r ∈ p.2.rows, onlyL (fun k => ¬ ownKey k) (fun k => (lookT U k).or (H.toks k) ≠ none) r := by
  intro p hp
  simp only [List.mem_singleton] at hp
  subst hp
  refine ⟨by unfold midKey; omega, fun r hr => ?_⟩
  obtain ⟨q, _, rfl⟩ := List.mem_map.1 hr
  simp [mpRow, Val.row]
theorem midB2 {O2 : List (Nat × Box)} {U2 : List (Nat × Tok)} {H2 : FHp} (m : List Tm) : ∀ p ∈ OB m, ∀ r ∈ p.2.rows, onlyL (fun k => ¬ ownKey k ∨ lookO O2 k ≠ none) (fun k => (lookT U2 k).or (H2.toks k) ≠ none) r := by
  intro p hp r hr
  simp only [List.mem_singleton] at hp
  subst hp
  obtain ⟨q, _, rfl⟩ := List.mem_map.1 hr
  simp [mpRow, Val.row]
abbrev lfR (v : Name) (x : Val) (ks : Sp) : List C := [cI .i8 0, cS (bs v), cI .i8 x.k, cI .i64 x.n, cS (bs x.s), .sl [] ks]
abbrev vR (x : Val) : List C := [cI .i8 x.k, cI .i64 x.n, cS (bs x.s)]

/-- A value by itself. -/
theorem e96c (X : XP) (m : List Tm) (x : Val) (ks : Sp) : MeetsH Tryd.prog G 96 [.agg ((lfR [] x ks).map A.c), .one (.mapr 10040)] (hp (OB m) [] (FX X)) (.tup [.agg ((vR x).map A.c), .one (.c (cB true))]) (hp (OB m) [] (FX X)) := by
  refine meetsH [] Tryd.func96 ie96 ig96 (Nat.le_of_ble_eq_true rfl) (midB m) (by simp) (by simp [ownKey]) (by simp) (by simp) (sameKeys_refl _) (midB2 _) (by simp) ?_
  simp [ic96, ir96, strikeL_mpRow]
  exact ret_st (by simp) (by simp) (by simp [strikeL_mpRow, strikeL_mpRow']) (by simp) (by simp) (by simp)
/-- A variable that is bound. -/
theorem e96v (X : XP) (m : List Tm) (v : Name) (x w : Val) (ks : Sp) (hv : v ≠ []) (hb : bindOf m v = some w) (hw : Val.ok w = true) : MeetsH Tryd.prog G 96 [.agg ((lfR v x ks).map A.c), .one (.mapr 10040)] (hp (OB m) [] (FX X)) (.tup [.agg ((vR w).map A.c), .one (.c (cB true))]) (hp (OB m) [] (FX X)) := by
  refine meetsH [] Tryd.func96 ie96 ig96 (Nat.le_of_ble_eq_true rfl) (midB m) (by simp) (by simp [ownKey]) (by simp) (by simp) (sameKeys_refl _) (midB2 _) (by simp) ?_
  have hg := mapGet_binds v m
  rw [hb] at hg
  have h92 := m92 (G := G) w.k w.n w.s
  rw [show valOk w.k w.n w.s = true from hw] at h92
  simp only [Option.getD_some, Val.row, List.map_cons, List.map_nil] at hg
  have hne : v.isEmpty = false := by simpa using hv
  simp [ic96, ir96, hv, hne, hg, strikeL_mpRow, strikeL_mpRow']
  refine call_of h92 ?_
  simp
  exact ret_st (by simp) (by simp) (by simp [strikeL_mpRow, strikeL_mpRow']) (by simp) (by simp) (by simp)
/-- The sum of two. -/
theorem e96a (X : XP) (m : List Tm) (r1 r2 : List C) (a b : Int) (sp : Sp) (hr1 : r1.length = 6) (hr2 : r2.length = 6) (h1 : -9223372036854775808 ≤ a + b) (h2 : a + b ≤ 9223372036854775807)
    (k1 : MeetsH Tryd.prog GK 96 [.agg (r1.map A.c), .one (.mapr 10040)] (hp (OB m) [] (FX X)) (.tup [.agg ((nmR a).map A.c), .one (.c (cB true))]) (hp (OB m) [] (FX X)))
    (k2 : MeetsH Tryd.prog GK 96 [.agg (r2.map A.c), .one (.mapr 10040)] (hp (OB m) [] (FX X)) (.tup [.agg ((nmR b).map A.c), .one (.c (cB true))]) (hp (OB m) [] (FX X))) :
    MeetsH Tryd.prog GK 96 [.agg [.c (cI .i8 2), .c (cS (bs [])), .c (cI .i8 0), .c (cI .i64 0), .c (cS (bs [])), .c (.sl [r1, r2] sp)], .one (.mapr 10040)] (hp (OB m) [] (FX X)) (.tup [.agg ((nmR (a + b)).map A.c), .one (.c (cB true))]) (hp (OB m) [] (FX X)) := by
  refine meetsH [] Tryd.func96 ie96 ig96 (Nat.le_of_ble_eq_true rfl) (midB m) (by simp) (by simp [ownKey]) (by simp) (by simp) (sameKeys_refl _) (midB2 _) (by simp) ?_
  obtain ⟨x1, x2, x3, x4, x5, x6, rfl⟩ : ∃ x1 x2 x3 x4 x5 x6, r1 = [x1, x2, x3, x4, x5, x6] := by
    match r1, hr1 with
    | [x1, x2, x3, x4, x5, x6], _ => exact ⟨x1, x2, x3, x4, x5, x6, rfl⟩
  obtain ⟨y1, y2, y3, y4, y5, y6, rfl⟩ : ∃ x1 x2 x3 x4 x5 x6, r2 = [x1, x2, x3, x4, x5, x6] := by
    match r2, hr2 with
    | [x1, x2, x3, x4, x5, x6], _ => exact ⟨x1, x2, x3, x4, x5, x6, rfl⟩
  have h33 := m33a a b [] h1 h2
  simp [ic96, ir96, strikeL_mpRow']
  refine w_loopA [.t 300 7 39 3] [9, 10, 50] [1, 2, 4, 5, 7, 33, 34, 35] (by simp [ownKey])
    (fun z : Nat × List (List C) => st [(1, .k true (.x (.one (.mapr 10040)))), (2, .k true (.x (.one (.ref 2 0 0)))), (4, .k true (.x (.one (.ref 4 0 0)))), (5, tB false), (7, .k true (.x (.one (.own 300 z.2)))), (33, .k true (.x (.one (.c (.sl [[x1, x2, x3, x4, x5, x6], [y1, y2, y3, y4, y5, y6]] sp))))), (34, tI .i64 2), (35, tI .i64 z.1)]
      [(4, ⟨39, 3, [[.c (cI .i8 0), .c (cI .i64 0), .c (cS (bs []))]], none⟩), (2, ⟨47, 6, [[.c (cI .i8 2), .c (cS (bs [])), .c (cI .i8 0), .c (cI .i64 0), .c (cS (bs [])), .c (.sl [[x1, x2, x3, x4, x5, x6], [y1, y2, y3, y4, y5, y6]] sp)]], none⟩), (10040, ⟨0, 4, m.map mpRow, some (.string, false)⟩)] [(300, ⟨39, 3, z.2.length⟩)] (FX X)) (fun z => 2 - z.1)
    (fun z => z.1 ≤ 2 ∧ z.2 = [nmR a, nmR b].take z.1) (0, []) (by simp; try rfl) (by simp) ?_
  rintro ⟨i, E⟩ K hK ⟨hi, hE⟩
  simp only at hi hE
  have h3 : i = 0 ∨ i = 1 ∨ i = 2 := by omega
  rcases h3 with rfl | rfl | rfl
  · simp only [List.take_zero] at hE
    subst hE
    simp [ic96l0, strikeL_mpRow']
    refine r_callW _ _ (OB m) [] _ (OB m) [] (MeetsV.of_fun k1) rfl rfl rfl (by simp [Fx.X.fits, A.fits]) (by simp) ?_
    simp [strikeL_mpRow']
    refine ⟨by unfold maxLen; omega, by unfold maxBytes; omega, ?_⟩
    exact hK (1, [nmR a]) _ (by simp [w1, strikeL_mpRow']; try rfl) ⟨by simp only; omega, rfl⟩ (by simp)
  · simp only [List.take_succ_cons, List.take_zero] at hE
    subst hE
    simp [ic96l0, strikeL_mpRow']
    refine r_callW _ _ (OB m) [] _ (OB m) [] (MeetsV.of_fun k2) rfl rfl rfl (by simp [Fx.X.fits, A.fits]) (by simp) ?_
    simp [strikeL_mpRow']
    refine ⟨by unfold maxLen; omega, by unfold maxBytes; omega, ?_⟩
    exact hK (2, [nmR a, nmR b]) _ (by simp [w2, strikeL_mpRow']; try rfl) ⟨by simp only; omega, rfl⟩ (by simp)
  · simp only [List.take_succ_cons, List.take_zero] at hE
    subst hE
    simp [ic96l0, strikeL_mpRow']
    refine call_of h33 ?_
    simp
    exact ret_st (by simp) (by simp) (by simp [strikeL_mpRow, strikeL_mpRow']) (by simp) (by simp) (by simp)
end Go.Proofs.YtiomojlcnemnhaaDoor

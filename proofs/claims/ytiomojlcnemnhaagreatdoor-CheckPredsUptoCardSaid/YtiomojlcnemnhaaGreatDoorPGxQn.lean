/- Contracts, on: a program's predicates, the program's. (Labels of 2000 and more: seat ZD.) -/
import Derived.Test.YtiomojlcnemnhaaGreatDoorPGxQk
import Derived.Test.YtiomojlcnemnhaaGreatDoorPGxQj
import Derived.Test.YtiomojlcnemnhaaGreatDoorPGxQm
namespace Go.Proofs.YtiomojlcnemnhaaGreatDoor
open Go.Fx Go.RowKit Go.Ped
variable {G : World → Prop}

abbrev O15n (m : List Pd) : List (Nat × Box) := [(15010, ⟨0, 2, m.map pdRow, some (.string, true)⟩)]
theorem hO15n (m : List Pd) : ∀ p ∈ O15n m, farKey p.1 ∧ ∀ r ∈ p.2.rows, onlyL farKey (fun k => lookT ([] : List (Nat × Tok)) k ≠ none) r := by
  intro p hp
  simp only [List.mem_singleton] at hp
  subst hp
  refine ⟨by unfold farKey; omega, fun r hr => ?_⟩
  obtain ⟨q, _, rfl⟩ := List.mem_map.1 hr
  simp [pdRow]
def Hn (m : List Pd) : FHp := FHp.of (O15n m) [] (hO15n m) (by simp)
theorem Hn_same (a b : List Pd) : sameKeys (Hn a) (Hn b) := by
  refine ⟨fun k => ⟨?_, ?_⟩, rfl⟩
  · show lookO (O15n a) k = none ↔ lookO (O15n b) k = none
    simp only [lookO_cons]
    split <;> simp
  · show lookT [] k = none ↔ lookT [] k = none
    rfl
def stepA (m : List Pd) (r : Rule) : Bool × List Pd := (okAll m (standOf r), metAll m (standOf r))
def stepB (m : List Pd) (f : Fc) : Bool × List Pd := (metOk m f.pd, metOf m f.pd)

theorem v2113 (m : List Pd) (r : Rule) (hs : r.small 1048576) : MeetsV Tryz.prog G (.clo 113 [.mapr 15010] []) [.agg (r.row.map A.c)] (hp [] [] (Hn m)) (rB (stepA m r).1) (hp [] [] (Hn (stepA m r).2)) := by
  have h := ((clo_of (f := 113) (fs := [.mapr 10040]) (args := [.agg (r.row.map A.c)]) (cs := []) rfl (m2113 (G := G) m r hs)).ren (π := swR 10040 10010)).ren (π := midFar)
  simp [swF, mfF, rows_ren] at h
  unfold Hn
  rw [hp_of, hp_of]
  exact h
theorem v2118 (m : List Pd) (f : Fc) : MeetsV Tryz.prog G (.clo 118 [.mapr 15010] []) [.agg (f.row.map A.c)] (hp [] [] (Hn m)) (rB (stepB m f).1) (hp [] [] (Hn (stepB m f).2)) := by
  have h := ((clo_of (f := 118) (fs := [.mapr 10040]) (args := [.agg (f.row.map A.c)]) (cs := []) rfl (m2118 (G := G) m f.p f.l f.sp)).ren (π := swR 10040 10010)).ren (π := midFar)
  simp [swF, mfF, rows_ren] at h
  unfold Hn
  rw [hp_of, hp_of]
  exact h
set_option maxRecDepth 20000 in
theorem n2132 (l : List Rule) (sp : Sp) (hl : l.length ≤ 1048576) (hf : ∀ r ∈ l, r.small 1048576) (m : List Pd) :
    MeetsV Tryz.prog G (fnA 132) [.one (.c (.sl (l.map Rule.row) sp)), .one (.clo 113 [.mapr 10] [])] (hp (OM 10 m) [] F0) (rB (allE stepA m l).1) (hp (OM 10 (allE stepA m l).2) [] F0) := by
  have h := (MeetsV.of_fun (m2132 (G := G) stepA Hn Hn_same (.clo 113 [.mapr 15010] []) ⟨by simp [farKey], trivial⟩ (fun k hk => by simp; omega) l sp hl (fun m r hr => v2113 m r (hf r hr)) m)).ren (π := nearFar)
  unfold Hn at h
  rw [hp_of, hp_of] at h
  simp [nfF, rows_ren] at h
  exact h
set_option maxRecDepth 20000 in
theorem n2133 (l : List Fc) (sp : Sp) (hl : l.length ≤ 1048576) (m : List Pd) :
    MeetsV Tryz.prog G (fnA 133) [.one (.c (.sl (l.map Fc.row) sp)), .one (.clo 118 [.mapr 10] [])] (hp (OM 10 m) [] F0) (rB (allE stepB m l).1) (hp (OM 10 (allE stepB m l).2) [] F0) := by
  have h := (MeetsV.of_fun (m2133 (G := G) stepB Hn Hn_same (.clo 118 [.mapr 15010] []) ⟨by simp [farKey], trivial⟩ (fun k hk => by simp; omega) l sp hl (fun m f _ => v2118 m f) m)).ren (π := nearFar)
  unfold Hn at h
  rw [hp_of, hp_of] at h
  simp [nfF, rows_ren] at h
  exact h

theorem allR_go : ∀ (l : List Rule) (m : List Pd), goMeets m (l.flatMap standOf) = if (allE stepA m l).1 = true then some (allE stepA m l).2 else none
  | [], m => rfl
  | r :: l, m => by
    rw [List.flatMap_cons, goMeets_append, goMeets_eq, allE]
    by_cases h : okAll m (standOf r) = true
    · simp only [stepA, h, if_true, Option.bind_some]
      exact allR_go l _
    · simp [stepA, h]
theorem allF_go : ∀ (l : List Fc) (m : List Pd), goMeets m (l.map Fc.pd) = if (allE stepB m l).1 = true then some (allE stepB m l).2 else none
  | [], m => rfl
  | f :: l, m => by
    rw [List.map_cons, goMeets, goMeet_eq, allE]
    by_cases h : metOk m f.pd = true
    · simp only [stepB, h, if_true]
      exact allF_go l _
    · simp [stepB, h]

theorem k2135 (m : List Pd) : MeetsH Tryz.prog G 135 [.one (.mapr 10040)] (hp (OM 10040 m) [] F0) (.x (.one (.clo 219 [] [.ref 1 0 0]))) (hp ((1, ⟨151, 1, [[.mapr 10040]], none⟩) :: OM 10040 m) [] F0) := by
  refine meetsH [] Tryz.func135 ie2135 ig2135 (Nat.le_of_ble_eq_true rfl) (midM m) (by simp) (by simp [ownKey]) (by simp) (by simp) (sameKeys_refl F0) ?_ (by simp) ?_
  · intro p hp r hr
    rcases List.mem_cons.1 hp with rfl | hp
    · simp only [List.mem_singleton] at hr
      subst hr
      simp [ownKey]
    · exact midM2 m p hp r hr
  simp [ic2135, ir2135]
  exact ret_st (by simp) (by simp) (by simp) (by simp) (by simp) (by simp)
theorem n2135 (m : List Pd) : MeetsV Tryz.prog G (fnA 135) [.one (.mapr 10)] (hp (OM 10 m) [] F0) (.x (.one (.clo 219 [] [.ref 1 0 0]))) (hp ((1, ⟨151, 1, [[.mapr 10]], none⟩) :: OM 10 m) [] F0) := by
  have h := (MeetsV.of_fun (k2135 (G := G) m)).ren (π := swR 10040 10)
  simp [swF, rows_ren] at h
  exact h
theorem goR_eq (rules : List Rule) (facts : List Fc) : goMeets [] (rules.flatMap standOf ++ facts.map Fc.pd) =
    if (allE stepA [] rules).1 = true then (if (allE stepB (allE stepA [] rules).2 facts).1 = true then some (allE stepB (allE stepA [] rules).2 facts).2 else none) else none := by
  rw [goMeets_append, allR_go]
  by_cases h : (allE stepA [] rules).1 = true
  · rw [if_pos h, if_pos h, Option.bind_some, allF_go]
  · rw [if_neg h, if_neg h, Option.bind_none]

theorem m2043 (rules : List Rule) (sp : Sp) (facts : List Fc) (sq : Sp) (hs : ∀ r ∈ rules, r.small 1048576) (hl : rules.length ≤ 1048576) (hfl : facts.length ≤ 1048576) (hn : (rules.flatMap standOf).length ≤ 5000000) (hnm : ∀ p ∈ rules.flatMap standOf ++ facts.map Fc.pd, p.name.length ≤ maxLen) :
    Meets Tryz.prog G 43 [.agg [.sl (rules.map Rule.row) sp], .one (.sl (facts.map Fc.row) sq)] (predsR ((goMeets [] (rules.flatMap standOf ++ facts.map Fc.pd)).map predsOf)) := by
  have hgo := goR_eq rules facts
  have h1 := n2132 (G := G) rules sp hl hs []
  generalize hA : allE stepA [] rules = A' at *
  obtain ⟨ok1, m1⟩ := A'
  have h2 := n2133 (G := G) facts sq hfl m1
  generalize hB : allE stepB m1 facts = B' at *
  obtain ⟨ok2, m2⟩ := B'
  simp only at hgo h1 h2
  refine meets Tryz.func43 ie2043 ig2043 (Nat.le_of_ble_eq_true rfl) ?_
  simp [ic2043, ir2043]
  refine r_callW _ _ (OM 10 []) [] _ (OM 10 m1) [] h1 rfl rfl rfl (by simp [X.fits, A.fits]) (by simp) ?_
  simp
  cases ok1 with
  | false =>
    simp only [Bool.false_eq_true, if_false] at hgo
    rw [hgo]
    simp
    refine r_callVF (rB false) rfl ?_
    simp [predsR]
  | true =>
    simp only [if_true] at hgo
    simp
    refine r_callW _ _ (OM 10 m1) [] _ (OM 10 m2) [] h2 rfl rfl rfl (by simp [X.fits, A.fits]) (by simp) ?_
    simp
    cases ok2 with
    | false =>
      simp only [Bool.false_eq_true, if_false] at hgo
      rw [hgo]
      simp [predsR]
    | true =>
      simp only [if_true] at hgo
      have hm2 : m2.length ≤ 8000000 := by
        have := goMeets_len hgo
        simp at this
        have h3 : (rules.flatMap standOf).length = (rules.map fun a => (standOf a).length).sum := List.length_flatMap ..
        omega
      have hnm2 : ∀ p ∈ m2, p.name.length ≤ maxLen := fun p hp => by
        rcases goMeets_mem hgo p hp with h | h
        · cases h
        · exact hnm p h
      rw [hgo]
      simp
      refine r_callW _ _ (OM 10 m2) [] _ ((1, ⟨151, 1, [[.mapr 10]], none⟩) :: OM 10 m2) [] (n2135 m2) rfl rfl rfl (by simp [X.fits, A.fits]) (by simp) ?_
      simp
      refine r_callW _ _ (OK2 m2) [] _ (OK2 m2) [] (MeetsV.of_fun (m2134 m2 hm2 hnm2)) rfl rfl rfl (by simp [X.fits, A.fits]) (by simp) ?_
      simp
      have hNl : (sortN (m2.map Pd.name)).length ≤ 8000000 := by rw [sortN_len, List.length_map]; exact hm2
      have hpr : predsOf m2 = (sortN (m2.map Pd.name)).map fun v => (⟨v, (lookP m2 v).getD 0⟩ : Pd) := rfl
      generalize hP : predsOf m2 = PP at *
      generalize sortN (m2.map Pd.name) = N at *
      refine w_loopA [.t 300 7 168 2] [38] [6, 7, 26, 27, 28] (by simp [ownKey])
        (fun a : Nat × List Pd => st [(6, .k true (.x (.one (.mapr 10)))), (7, .k true (.x (.one (.own 300 (a.2.map pdC))))), (26, .k true (.x (.one (.c (.sl (N.map nmRow) []))))), (27, tI .i64 N.length), (28, tI .i64 a.1)]
          [(10, ⟨0, 2, m2.map pdRow, some (.string, true)⟩), (2, ⟨47, 1, [[.c (.sl (rules.map Rule.row) sp)]], none⟩), (1, ⟨151, 1, [[.mapr 10]], none⟩)] [(300, ⟨168, 2, a.2.length⟩)] F0) (fun a => N.length - a.1)
        (fun a => a.1 ≤ N.length ∧ PP = a.2 ++ (N.drop a.1).map (fun v => (⟨v, (lookP m2 v).getD 0⟩ : Pd)) ∧ a.2.length ≤ a.1) (0, []) (by simp [promoteT_st, pdRow_strike']) (by simp [hpr]) ?_
      rintro ⟨i, E⟩ K hK ⟨hi, hd, hE⟩
      simp only at hi hd hE
      obtain hlt | hge := Nat.lt_or_ge i N.length
      · rw [List.drop_eq_getElem_cons hlt, List.map_cons] at hd
        have hg := get_pd N[i] m2
        simp [ic2043l0, hlt, pdRow_strike', hg]
        refine ⟨by unfold maxLen; omega, by unfold maxBytes; omega, ?_⟩
        simp (disch := omega) only [wrap64]
        exact hK (i + 1, E ++ [⟨N[i], (lookP m2 N[i]).getD 0⟩]) _ (by simp [pdC, pdRow_strike']) ⟨by simp; omega, by simpa using hd, by simp; omega⟩ (by simp; omega)
      · rw [List.drop_eq_nil_of_le hge] at hd
        have hd' : PP = E := by simpa using hd
        subst hd'
        simp [ic2043l0, Nat.not_lt.mpr hge, predsR]
end Go.Proofs.YtiomojlcnemnhaaGreatDoor

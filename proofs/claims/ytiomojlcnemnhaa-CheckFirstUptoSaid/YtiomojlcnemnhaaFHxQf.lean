import Derived.Test.YtiomojlcnemnhaaFHxQd
import Derived.Sort.Walk0
/- Contracts, on: a user's rules, facts and query against the predicates met so far. (Labels of 2000 and more: seat ZD.) -/
namespace Go.Proofs.Ytiomojlcnemnhaa
open Go.Fx Go.RowKit Go.Ped
variable {G : World → Prop}

theorem rows_ren (f : Nat → Nat) (m : List Pd) : (m.map pdRow).map (renL f) = m.map pdRow := by
  rw [List.map_map]
  exact List.map_congr_left fun p _ => by simp [pdRow]
abbrev O9 (m : List Pd) : List (Nat × Box) := [(10007, ⟨203, 1, [[.mapr 10009]], none⟩), (10009, ⟨0, 2, m.map pdRow, some (.string, true)⟩)]
attribute [simp] O9
theorem hO9a {U : List (Nat × Tok)} {H : FHp} (m : List Pd) : ∀ p ∈ O9 m, midKey p.1 ∧ ∀ r ∈ p.2.rows, onlyL (fun k => ¬ ownKey k) (fun k => (lookT U k).or (H.toks k) ≠ none) r := by
  intro p hp
  simp only [List.mem_cons, List.not_mem_nil, or_false] at hp
  rcases hp with rfl | rfl
  · exact ⟨by unfold midKey; omega, by simp [ownKey]⟩
  · refine ⟨by unfold midKey; omega, fun r hr => ?_⟩
    obtain ⟨q, _, rfl⟩ := List.mem_map.1 hr
    simp [pdRow]
theorem hO9b {O2 : List (Nat × Box)} {U2 : List (Nat × Tok)} {H2 : FHp} (m : List Pd) : ∀ p ∈ O9 m, ∀ r ∈ p.2.rows, onlyL (fun k => ¬ ownKey k ∨ lookO O2 k ≠ none) (fun k => (lookT U2 k).or (H2.toks k) ≠ none) r := by
  intro p hp r hr
  simp only [List.mem_cons, List.not_mem_nil, or_false] at hp
  rcases hp with rfl | rfl
  · simp only [List.mem_singleton] at hr
    subst hr
    simp [ownKey]
  · obtain ⟨q, _, rfl⟩ := List.mem_map.1 hr
    simp [pdRow]

theorem c2113 (m : List Pd) (r : Rule) (hs : r.small 1048576) : MeetsV Try.prog G (fnA 75) [.one (.mapr 10009), .agg (r.row.map A.c)] (hp (OM 10009 m) [] F0) (rB (okAll m (standOf r))) (hp (OM 10009 (metAll m (standOf r))) [] F0) := by
  have h := (MeetsV.of_fun (m2113 (G := G) m r hs)).ren (π := swR 10040 10009)
  simp [swF, rows_ren] at h
  exact h
theorem c2118 (m : List Pd) (p : Name) (vs : List Val) (sp : Sp) : MeetsV Try.prog G (fnA 79) [.one (.mapr 10009), .agg [.c (cS (bs p)), .c (.sl (vs.map Val.row) sp)]] (hp (OM 10009 m) [] F0) (rB (metOk m ⟨p, vs.length⟩)) (hp (OM 10009 (metOf m ⟨p, vs.length⟩)) [] F0) := by
  have h := (MeetsV.of_fun (m2118 (G := G) m p vs sp)).ren (π := swR 10040 10009)
  simp [swF, rows_ren] at h
  exact h
theorem c2124 (m : List Pd) (v : Name) (n : Int) : MeetsV Try.prog G (fnA 84) [.one (.mapr 10009), .one (.c (cS (bs v))), .one (.c (cI .i64 n))] (hp (OM 10009 m) [] F0) (rB (metOk m ⟨v, n⟩)) (hp (OM 10009 (metOf m ⟨v, n⟩)) [] F0) := by
  have h := (MeetsV.of_fun (m2124 (G := G) m v n)).ren (π := swR 10040 10009)
  simp [swF, rows_ren] at h
  exact h

def stepR (m : List Pd) (r : Rule) : Int × List Pd := (if okAll m (standOf r) then 0 else 72, metAll m (standOf r))
def stepF (m : List Pd) (f : Fc) : Int × List Pd := if factErr f = 0 then (if metOk m f.pd then 0 else 72, metOf m f.pd) else (factErr f, m)
def stepQ (m : List Pd) (q : Qy) : Int × List Pd := if queryErr q.p q.l = 0 then (if metOk m ⟨q.p, q.l.length⟩ then 0 else 72, metOf m ⟨q.p, q.l.length⟩) else (queryErr q.p q.l, m)

theorem m2111 (m : List Pd) (r : Rule) (hs : r.small 1048576) : MeetsH Try.prog G 73 [.agg (r.row.map A.c), .one (.ref 10007 0 0)] (hp (O9 m) [] F0) (.x (.one (.c (cI .i64 (stepR m r).1)))) (hp (O9 (stepR m r).2) [] F0) := by
  refine meetsH [] Try.func73 ie2111 ig2111 (Nat.le_of_ble_eq_true rfl) (hO9a m) (by simp) (by simp [ownKey]) (by simp) (by simp) (sameKeys_refl F0) (hO9b _) (by simp) ?_
  simp [ic2111, ir2111]
  refine r_callW _ _ (OM 10009 m) [] _ (OM 10009 (metAll m (standOf r))) [] (c2113 m r hs) rfl rfl rfl (by simp [X.fits, A.fits]) (by simp) ?_
  simp
  refine call_of (m2112 (okAll m (standOf r)) 72) ?_
  simp
  exact ret_st (by simp) (by simp [stepR]) (by simp [stepR]) (by simp) (by simp) (by simp)

theorem m2115 (m : List Pd) (f : Fc) (hl : f.l.length ≤ 1048576) : MeetsH Try.prog G 77 [.agg (f.row.map A.c), .one (.ref 10007 0 0)] (hp (O9 m) [] F0) (.x (.one (.c (cI .i64 (stepF m f).1)))) (hp (O9 (stepF m f).2) [] F0) := by
  refine meetsH [] Try.func77 ie2115 ig2115 (Nat.le_of_ble_eq_true rfl) (hO9a m) (by simp) (by simp [ownKey]) (by simp) (by simp) (sameKeys_refl F0) (hO9b _) (by simp) ?_
  obtain ⟨p, l, sp⟩ := f
  simp only at hl
  have hm := m2116 (G := G) p l sp hl
  have hs2 := m2117 (G := G) p l.length
  have hc := c2118 (G := G) m p l sp
  have e : stepF m ⟨p, l, sp⟩ = if (if factOk p l then sizeErr p l.length else 10) = 0 then (if metOk m ⟨p, l.length⟩ then 0 else 72, metOf m ⟨p, l.length⟩) else ((if factOk p l then sizeErr p l.length else 10), m) := rfl
  generalize hS : stepF m ⟨p, l, sp⟩ = S
  rw [e] at hS
  simp [ic2115, ir2115, Fc.row]
  refine call_of hm ?_
  cases hok : factOk p l with
  | true =>
    rw [hok] at hS
    simp only [if_true] at hS
    simp
    refine call_of hs2 ?_
    by_cases h0 : sizeErr p l.length = 0
    · rw [if_pos h0] at hS
      subst hS
      simp [h0]
      refine r_callW _ _ (OM 10009 m) [] _ (OM 10009 (metOf m ⟨p, l.length⟩)) [] hc rfl rfl rfl (by simp [X.fits, A.fits]) (by simp) ?_
      simp
      refine call_of (m2112 (metOk m ⟨p, l.length⟩) 72) ?_
      simp
      exact ret_st (by simp) (by simp [X.fits, A.fits]) (by simp) (by simp) (by simp) (by simp)
    · rw [if_neg h0] at hS
      subst hS
      simp [h0]
      exact ret_st (by simp) (by simp) (by simp) (by simp) (by simp) (by simp)
  | false =>
    rw [hok] at hS
    simp at hS
    subst hS
    simp
    exact ret_st (by simp) (by simp) (by simp) (by simp) (by simp) (by simp)

theorem m2120 (m : List Pd) (q : Qy) (hl : q.l.length ≤ 1048576) : MeetsH Try.prog G 81 [.agg (q.row.map A.c), .one (.ref 10007 0 0)] (hp (O9 m) [] F0) (.x (.one (.c (cI .i64 (stepQ m q).1)))) (hp (O9 (stepQ m q).2) [] F0) := by
  refine meetsH [] Try.func81 ie2120 ig2120 (Nat.le_of_ble_eq_true rfl) (hO9a m) (by simp) (by simp [ownKey]) (by simp) (by simp) (sameKeys_refl F0) (hO9b _) (by simp) ?_
  obtain ⟨p, l, sp⟩ := q
  simp only at hl
  have hs2 := m2117 (G := G) p l.length
  have hc := c2124 (G := G) m p l.length
  generalize hS : stepQ m ⟨p, l, sp⟩ = S
  unfold stepQ queryErr at hS
  simp only at hS
  simp [ic2120, ir2120, Qy.row]
  refine call_of (m44 p l sp (by unfold maxLen; omega)) ?_
  cases hok : atomOk p l with
  | true =>
    rw [hok] at hS
    simp only [if_true] at hS
    have hv := tmVars_len l
    simp
    refine call_of (m46 p l sp hl) ?_
    simp
    refine call_of (m2122 (tmVars l) [] (by omega)) ?_
    simp
    cases hlo : (tmVars l).any longN with
    | true =>
      rw [hlo] at hS
      simp at hS
      subst hS
      simp
      exact ret_st (by simp) (by simp) (by simp) (by simp) (by simp) (by simp)
    | false =>
      rw [hlo] at hS
      simp only [Bool.false_eq_true, if_false] at hS
      simp
      refine call_of hs2 ?_
      by_cases h0 : sizeErr p l.length = 0
      · rw [if_pos h0] at hS
        subst hS
        simp [h0]
        refine r_callW _ _ (OM 10009 m) [] _ (OM 10009 (metOf m ⟨p, l.length⟩)) [] hc rfl rfl rfl (by simp [X.fits, A.fits]) (by simp) ?_
        simp
        refine call_of (m2112 (metOk m ⟨p, l.length⟩) 72) ?_
        simp
        exact ret_st (by simp) (by simp [X.fits, A.fits]) (by simp) (by simp) (by simp) (by simp)
      · rw [if_neg h0] at hS
        subst hS
        simp [h0]
        exact ret_st (by simp) (by simp) (by simp) (by simp) (by simp) (by simp)
  | false =>
    rw [hok] at hS
    simp at hS
    subst hS
    simp
    exact ret_st (by simp) (by simp) (by simp) (by simp) (by simp) (by simp)
end Go.Proofs.Ytiomojlcnemnhaa

/- Plain: the user's input, both ways one. (Labels of 2000 and more: seat ZD.) -/
namespace Go.Proofs.Ytiomojlcnemnhaa
open Go.Fx Go.RowKit Go.Ped
variable {G : World → Prop}

theorem ltN_eq (a b : Name) : ltN a b = decide (a < b) := by
  unfold ltN
  exact Go.Proofs.bytesLess_eq a b
theorem ltN_irr (a : Name) : ltN a a = false := by
  rw [ltN_eq]; simp
theorem ltN_trans (a b c : Name) (h : ltN a b = true) (h' : ltN b c = true) : ltN a c = true := by
  rw [ltN_eq] at *
  simp at *
  exact List.lt_trans h h'
theorem ltN_total (a b : Name) (hne : a ≠ b) : ltN a b = true ∨ ltN b a = true := by
  rw [ltN_eq, ltN_eq]
  simp only [decide_eq_true_eq]
  by_cases h : a < b
  · exact .inl h
  · rcases List.le_iff_lt_or_eq.1 (List.not_lt.1 h) with h | h
    · exact .inr h
    · exact absurd h.symm hne

/-- The program's answer. -/
def inputG (rules : List Rule) (facts : List Fc) (q : Qy) : List C :=
  if rules.length > 500 then refuse 1 70 0 else
  if (firstE (fun (_ : Unit) r => (userErr r, ())) () rules 0).1 ≠ 0 then refuse 1 (firstE (fun (_ : Unit) r => (userErr r, ())) () rules 0).1 (firstE (fun (_ : Unit) r => (userErr r, ())) () rules 0).2.1 else
  if (firstE stepR [] rules 0).1 ≠ 0 then refuse 1 (firstE stepR [] rules 0).1 (firstE stepR [] rules 0).2.1 else
  if facts.length > 65536 then refuse 2 70 0 else
  if (firstE stepF (firstE stepR [] rules 0).2.2 facts 0).1 ≠ 0 then refuse 2 (firstE stepF (firstE stepR [] rules 0).2.2 facts 0).1 (firstE stepF (firstE stepR [] rules 0).2.2 facts 0).2.1 else
  partC 3 (firstE stepQ (firstE stepF (firstE stepR [] rules 0).2.2 facts 0).2.2 [q] 0)

theorem user_first : ∀ (l : List Rule) (i : Int), firstE (fun (_ : Unit) r => (userErr r, ())) () l i = ((userRules refErr l i).1, (userRules refErr l i).2, ())
  | [], i => rfl
  | r :: l, i => by
    rw [firstE, userRules, user_same]
    by_cases h : refErr r = 0
    · rw [if_pos h, if_pos h]
      exact user_first l _
    · rw [if_neg h, if_neg h]

theorem goMeets_one (m : List Pd) (p : Pd) : goMeets m [p] = if metOk m p then some (metOf m p) else none := by
  rw [goMeets_eq]
  simp [okAll, metAll]

theorem rules_first : ∀ (l : List Rule) (m known : List Pd) (i : Int), SameP ltN m known →
    ((firstE stepR m l i).1 = 0 ∧ ∃ k', inRules (refMeets ltN) known l i = (some k', 0) ∧ SameP ltN (firstE stepR m l i).2.2 k') ∨
    ((firstE stepR m l i).1 = 72 ∧ inRules (refMeets ltN) known l i = (none, (firstE stepR m l i).2.1))
  | [], m, known, i, h => .inl ⟨rfl, known, rfl, h⟩
  | r :: l, m, known, i, h => by
    rw [firstE, inRules]
    have hg := goMeets_eq (standOf r) m
    rcases meets_same ltN ltN_trans ltN_total (standOf r) h with ⟨h1, h2⟩ | ⟨m', k', h1, h2, h3⟩
    · rw [h1] at hg
      have hok : okAll m (standOf r) = false := by
        cases ho : okAll m (standOf r) with
        | true => rw [ho] at hg; simp at hg
        | false => rfl
      right
      simp [stepR, hok, h2]
    · rw [h1] at hg
      have hok : okAll m (standOf r) = true := by
        cases ho : okAll m (standOf r) with
        | true => rfl
        | false => rw [ho] at hg; simp at hg
      rw [hok] at hg
      simp at hg
      simp only [stepR, hok, if_true, h2]
      rw [← hg]
      exact rules_first l m' k' _ h3

theorem facts_first : ∀ (l : List Fc) (m known : List Pd) (i : Int), SameP ltN m known →
    ((firstE stepF m l i).1 = 0 ∧ ∃ k', inFacts (refMeets ltN) known l i = (some k', 0, 0) ∧ SameP ltN (firstE stepF m l i).2.2 k') ∨
    ((firstE stepF m l i).1 ≠ 0 ∧ inFacts (refMeets ltN) known l i = (none, (firstE stepF m l i).1, (firstE stepF m l i).2.1))
  | [], m, known, i, h => .inl ⟨rfl, known, rfl, h⟩
  | f :: l, m, known, i, h => by
    rw [firstE, inFacts]
    have hg := goMeets_one m f.pd
    by_cases h0 : factErr f = 0
    · rcases meets_same ltN ltN_trans ltN_total [f.pd] h with ⟨h1, h2⟩ | ⟨m', k', h1, h2, h3⟩
      · rw [h1] at hg
        have hok : metOk m f.pd = false := by
          cases ho : metOk m f.pd with
          | true => rw [ho] at hg; simp at hg
          | false => rfl
        right
        simp [stepF, h0, hok, h2]
      · rw [h1] at hg
        have hok : metOk m f.pd = true := by
          cases ho : metOk m f.pd with
          | true => rfl
          | false => rw [ho] at hg; simp at hg
        rw [hok] at hg
        simp at hg
        simp only [stepF, h0, hok, if_true, h2]
        rw [← hg]
        exact facts_first l m' k' _ h3
    · right
      simp [stepF, h0]

theorem input_same (rules : List Rule) (facts : List Fc) (q : Qy) : inputG rules facts q = inputOf refErr (refMeets ltN) rules facts q.p q.l := by
  unfold inputG inputOf inProgram
  by_cases h5 : rules.length > 500
  · simp [h5]
  rw [if_neg h5, if_neg h5, user_first]
  by_cases h0 : (userRules refErr rules 0).1 = 0
  · rcases rules_first rules [] [] 0 (same_nil ltN) with ⟨h1, k', h2, h3⟩ | ⟨h1, h2⟩
    · simp only [ne_eq, h0, not_true_eq_false, if_false, h1, h2]
      by_cases h6 : facts.length > 65536
      · simp only [h6, if_true]
      simp only [h6, if_false]
      rcases facts_first facts _ _ 0 h3 with ⟨g1, g', g2, g3⟩ | ⟨g1, g2⟩
      · simp only [g1, not_true_eq_false, if_false, g2]
        have hg := goMeets_one (firstE stepF (firstE stepR [] rules 0).2.2 facts 0).2.2 ⟨q.p, q.l.length⟩
        generalize (firstE stepF (firstE stepR [] rules 0).2.2 facts 0).2.2 = m at *
        by_cases hq : queryErr q.p q.l = 0
        · rcases meets_same ltN ltN_trans ltN_total [⟨q.p, q.l.length⟩] g3 with ⟨e1, e2⟩ | ⟨m', e', e1, e2, e3⟩
          · rw [e1] at hg
            have hok : metOk m ⟨q.p, q.l.length⟩ = false := by
              cases ho : metOk m ⟨q.p, q.l.length⟩ with
              | true => rw [ho] at hg; simp at hg
              | false => rfl
            simp [firstE, stepQ, hq, hok, e2, partC]
          · rw [e1] at hg
            have hok : metOk m ⟨q.p, q.l.length⟩ = true := by
              cases ho : metOk m ⟨q.p, q.l.length⟩ with
              | true => rfl
              | false => rw [ho] at hg; simp at hg
            simp [firstE, stepQ, hq, hok, e2, partC]
        · simp [firstE, stepQ, hq, partC]
      · simp only [g1, g2, not_false_eq_true, if_true]
    · have h7 : ¬ (72 : Int) = 0 := by decide
      simp only [ne_eq, h0, not_true_eq_false, if_false, h1, h2, h7, not_false_eq_true, if_true]
  · simp only [ne_eq, h0, not_false_eq_true, if_true]
end Go.Proofs.Ytiomojlcnemnhaa

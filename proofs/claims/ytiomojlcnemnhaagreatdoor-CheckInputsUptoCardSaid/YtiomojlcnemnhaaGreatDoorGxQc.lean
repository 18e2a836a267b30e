/- Contracts, on: the document's first thing that is wrong, whole. (Labels of 2000 and more: seat ZD.) -/
import Derived.Test.YtiomojlcnemnhaaGreatDoorGxQb
namespace Go.Proofs.YtiomojlcnemnhaaGreatDoor
open Go.Fx Go.RowKit Go.Ped
variable {G : World → Prop}

/-- The first rule with an error: the error and its place; no error: 0. -/
def userRules (e : Rule → Int) : List Rule → Int → Int × Int
  | [], _ => (0, 0)
  | r :: l, i => if e r = 0 then userRules e l (i + 1) else (e r, i)
/-- The rules' predicates, met; or the place of the first that does not. -/
def inRules (mt : List Pd → List Pd → Option (List Pd)) : List Pd → List Rule → Int → Option (List Pd) × Int
  | m, [], _ => (some m, 0)
  | m, r :: l, i => match mt m (standOf r) with
    | some m' => inRules mt m' l (i + 1)
    | none => (none, i)
def inFacts (mt : List Pd → List Pd → Option (List Pd)) : List Pd → List Fc → Int → Option (List Pd) × Int × Int
  | m, [], _ => (some m, 0, 0)
  | m, f :: l, i => if factErr f = 0 then (match mt m [f.pd] with
    | some m' => inFacts mt m' l (i + 1)
    | none => (none, 72, i)) else (none, factErr f, i)
def refuse (part code at_ : Int) : List C := [cI .i8 part, cI .i64 code, cI .i64 at_]
/-- The program's part: the predicates, or what is refused. -/
def inProgram (e : Rule → Int) (mt : List Pd → List Pd → Option (List Pd)) (rules : List Rule) : Option (List Pd) × List C :=
  if rules.length > 500 then (none, refuse 1 70 0) else
  if (userRules e rules 0).1 ≠ 0 then (none, refuse 1 (userRules e rules 0).1 (userRules e rules 0).2) else
  match inRules mt [] rules 0 with
  | (some m, _) => (some m, refuse 0 0 0)
  | (none, i) => (none, refuse 1 72 i)
def inputOf (e : Rule → Int) (mt : List Pd → List Pd → Option (List Pd)) (rules : List Rule) (facts : List Fc) (p : Name) (l : List Tm) : List C :=
  match inProgram e mt rules with
  | (none, x) => x
  | (some m, _) =>
    if facts.length > 65536 then refuse 2 70 0 else
    match inFacts mt m facts 0 with
    | (none, e, i) => refuse 2 e i
    | (some m', _) => if queryErr p l ≠ 0 then refuse 3 (queryErr p l) 0 else if (mt m' [⟨p, l.length⟩]).isSome then refuse 0 0 0 else refuse 3 72 0

theorem userRules_codes {e : Rule → Int} : ∀ {l : List Rule} {i : Int}, (userRules e l i).1 = 0 → ∀ r ∈ l, e r = 0
  | [], _, _, r, hr => by cases hr
  | r :: l, i, h, q, hq => by
    rw [userRules] at h
    split at h
    · rename_i h0
      rcases List.mem_cons.1 hq with rfl | hq
      · exact h0
      · exact userRules_codes h q hq
    · rename_i h0; exact absurd h h0

theorem refMeet_len {m m' : List Pd} {p : Pd} (h : refMeet ltN m p = some m') : m'.length ≤ m.length + 1 := by
  unfold refMeet at h
  split at h
  · split at h
    · injection h with h; subst h; omega
    · cases h
  · injection h with h; subst h; rw [insP_len]; omega
theorem refMeets_len : ∀ {l m m' : List Pd}, refMeets ltN m l = some m' → m'.length ≤ m.length + l.length
  | [], m, m', h => by injection h with h; subst h; simp
  | p :: l, m, m', h => by
    rw [refMeets] at h
    split at h
    · rename_i m1 h1
      have := refMeet_len h1
      have := refMeets_len h
      simp; omega
    · cases h
theorem stand_len {r : Rule} (h : r.small 1048576) : (standOf r).length ≤ r.body.length + 1 := by
  have := List.length_filter_le isAtom r.body
  simp [standOf]; omega
theorem err_small {r : Rule} (h : refErr r = 0) : r.body.length ≤ 12 := by
  unfold refErr at h
  split at h
  · split at h
    · cases h
    · rename_i hb
      unfold refBad at hb
      simp at hb
      omega
  · cases h

def progR : Option (List Pd) × List C → CR
  | (some m, x) => .tup [.one (.sl (m.map pdC) []), .agg x]
  | (none, x) => .tup [.one (.sl [] []), .agg x]

theorem m2125 (rules : List Rule) (sp : Sp) (hs : ∀ r ∈ rules, r.fit) (hl : rules.length ≤ 1048576) : Meets Tryz.prog G 125 [.agg [.sl (rules.map Rule.row) sp]] (progR (inProgram refErr (refMeets ltN) rules)) := by
  refine meets Tryz.func125 ie2125 ig2125 (Nat.le_of_ble_eq_true rfl) ?_
  generalize hP : inProgram refErr (refMeets ltN) rules = P
  unfold inProgram at hP
  simp [ic2125, ir2125]
  by_cases h5 : rules.length > 500
  · rw [if_pos h5] at hP
    have h5' : (500 : Int) < rules.length := by omega
    subst hP
    simp [h5', progR, refuse]
  · rw [if_neg h5] at hP
    have h5' : ¬ (500 : Int) < rules.length := by omega
    simp [h5']
    refine w_loopA [] [] [1, 3, 4] (by simp)
      (fun i : Nat => st [(1, .k true (.x (.one (.ref 1 0 0)))), (3, .k true (.x (.one (.ref 3 0 0)))), (4, tI .i64 i)] [(3, ⟨55, 3, [[.c (cI .i8 0), .c (cI .i64 0), .c (cI .i64 0)]], none⟩), (1, ⟨47, 1, [[.c (.sl (rules.map Rule.row) sp)]], none⟩)] [] F0) (fun i => rules.length - i)
      (fun i => i ≤ rules.length ∧ userRules refErr rules 0 = userRules refErr (rules.drop i) i) 0 (by simp) (by simp) ?_
    rintro i K hK ⟨hi, hd⟩
    obtain hlt | hge := Nat.lt_or_ge i rules.length
    · rw [List.drop_eq_getElem_cons hlt, userRules] at hd
      simp [ic2125l0, hlt]
      refine call_of (m2211 rules[i] (hs _ (List.getElem_mem hlt))) ?_
      simp
      by_cases h0 : refErr rules[i] = 0
      · rw [if_pos h0] at hd
        simp [h0]
        simp (disch := omega) only [wrap64]
        exact hK (i + 1) _ (by simp) ⟨by omega, hd⟩ (by omega)
      · rw [if_neg h0] at hd
        rw [hd, if_pos (by simpa using h0)] at hP
        subst hP
        simp [h0, progR, refuse]
    · rw [List.drop_eq_nil_of_le hge, userRules] at hd
      have hall := userRules_codes (e := refErr) (l := rules) (i := 0) (by rw [hd])
      rw [hd, if_neg (by simp)] at hP
      simp [ic2125l0, Nat.not_lt.mpr hge]
      refine w_loopA [.t 300 6 168 2] [300] [1, 3, 6, 7] (by simp [ownKey])
        (fun a : Nat × List Pd => st [(1, .k true (.x (.one (.ref 1 0 0)))), (3, .k true (.x (.one (.ref 3 0 0)))), (6, .k true (.x (.one (.c (.sl (a.2.map pdC) []))))), (7, tI .i64 a.1)] [(3, ⟨55, 3, [[.c (cI .i8 0), .c (cI .i64 0), .c (cI .i64 0)]], none⟩), (1, ⟨47, 1, [[.c (.sl (rules.map Rule.row) sp)]], none⟩)] [] F0) (fun a => rules.length - a.1)
        (fun a => a.1 ≤ rules.length ∧ inRules (refMeets ltN) [] rules 0 = inRules (refMeets ltN) a.2 (rules.drop a.1) a.1 ∧ a.2.length ≤ 13 * a.1) (0, []) (by simp [promoteT_st]) (by simp) ?_
      rintro ⟨j, m⟩ K2 hK2 ⟨hj, hd2, hm⟩
      simp only at hj hd2 hm
      obtain hlt2 | hge2 := Nat.lt_or_ge j rules.length
      · rw [List.drop_eq_getElem_cons hlt2, inRules] at hd2
        have hr := hs _ (List.getElem_mem hlt2)
        have hb := err_small (hall _ (List.getElem_mem hlt2))
        have hsl := stand_len hr.1
        have hme := m2127 (G := G) m (standOf rules[j]) [] (by omega)
        simp [ic2125l1, hlt2]
        refine call_of (m2131 rules[j] hr.1) ?_
        simp
        refine call_of hme ?_
        cases hR : refMeets ltN m (standOf rules[j]) with
        | some m' =>
          rw [hR] at hd2
          have hml := refMeets_len hR
          simp [meetR]
          simp (disch := omega) only [wrap64]
          exact hK2 (j + 1, m') _ (by simp) ⟨by simp; omega, hd2, by simp only; omega⟩ (by simp; omega)
        | none =>
          rw [hR] at hd2
          simp only at hd2
          rw [hd2] at hP
          subst hP
          simp [meetR, progR, refuse]
      · rw [List.drop_eq_nil_of_le hge2, inRules] at hd2
        rw [hd2] at hP
        subst hP
        simp [ic2125l1, Nat.not_lt.mpr hge2, progR, refuse]

/-- A query's predicate, met. -/
theorem m2039 (rules : List Rule) (sp : Sp) (facts : List Fc) (sq : Sp) (p : Name) (l : List Tm) (sl : Sp) (hs : ∀ r ∈ rules, r.fit) (hl : rules.length ≤ 1048576) (hf : ∀ f ∈ facts, f.l.length ≤ 1048576) (hfl : facts.length ≤ 1048576) (hq : l.length ≤ 1048576) :
    Meets Tryz.prog G 39 [.agg [.sl (rules.map Rule.row) sp], .one (.sl (facts.map Fc.row) sq), .agg [cS (bs p), .sl (l.map Tm.row) sl]] (.x (.agg (inputOf refErr (refMeets ltN) rules facts p l))) := by
  have hm := m2125 (G := G) rules sp hs hl
  have hno : ∀ x, inProgram refErr (refMeets ltN) rules = (none, x) → ∃ a b c, x = refuse a b c ∧ b ≠ 0 := by
    intro x h
    unfold inProgram at h
    split at h
    · injection h with _ h; exact ⟨_, _, _, h.symm, by decide⟩
    · split at h
      · rename_i h0; injection h with _ h; exact ⟨_, _, _, h.symm, h0⟩
      · split at h
        · cases h
        · injection h with _ h; exact ⟨_, _, _, h.symm, by decide⟩
  have hml : ∀ m x, inProgram refErr (refMeets ltN) rules = (some m, x) → x = refuse 0 0 0 ∧ m.length ≤ 13 * 500 := by
    intro m x h
    unfold inProgram at h
    split at h
    · cases h
    · rename_i h5
      split at h
      · cases h
      · rename_i h0
        have hall := userRules_codes (e := refErr) (l := rules) (i := 0) (by simpa using h0)
        have key : ∀ (l : List Rule) (m m' : List Pd) (i k : Int), (∀ r ∈ l, r.fit ∧ refErr r = 0) → inRules (refMeets ltN) m l i = (some m', k) → m'.length ≤ m.length + 13 * l.length := by
          intro l
          induction l with
          | nil => intro m m' i k _ h; simp [inRules] at h; rw [← h.1]; simp
          | cons r l ih =>
            intro m m' i k hh h
            rw [inRules] at h
            split at h
            · rename_i m1 h1
              have a1 := refMeets_len h1
              have a2 := stand_len (hh r (List.mem_cons_self ..)).1.1
              have a3 := err_small (hh r (List.mem_cons_self ..)).2
              have a4 := ih m1 m' _ _ (fun q hq => hh q (List.mem_cons_of_mem _ hq)) h
              simp; omega
            · cases h
        split at h
        · rename_i m1 k h1
          simp only [Prod.mk.injEq, Option.some.injEq] at h
          obtain ⟨rfl, h'⟩ := h
          have := key rules [] m1 0 k (fun r hr => ⟨hs r hr, hall r hr⟩) h1
          simp at this
          exact ⟨h'.symm, by omega⟩
        · cases h
  refine meets Tryz.func39 ie2039 ig2039 (Nat.le_of_ble_eq_true rfl) ?_
  generalize hR : inputOf refErr (refMeets ltN) rules facts p l = R
  unfold inputOf at hR
  cases hP : inProgram refErr (refMeets ltN) rules with
  | mk o x =>
  rw [hP] at hm hml hno hR
  cases o with
  | none =>
    obtain ⟨a, b, c, rfl, hb⟩ := hno x rfl
    simp only [progR, refuse] at hm
    simp only [refuse] at hR
    subst hR
    simp [ic2039, ir2039]
    refine call_of hm ?_
    simp [hb]
  | some m =>
    obtain ⟨rfl, hmn⟩ := hml m x rfl
    simp only [progR, refuse] at hm
    simp only at hR
    by_cases h6 : facts.length > 65536
    · have h6' : (65536 : Int) < facts.length := by omega
      rw [if_pos h6] at hR
      simp only [refuse] at hR
      subst hR
      simp [ic2039, ir2039]
      refine call_of hm ?_
      simp [h6']
    · have h6' : ¬ (65536 : Int) < facts.length := by omega
      rw [if_neg h6] at hR
      simp [ic2039, ir2039]
      refine call_of hm ?_
      simp [h6']
      refine w_loopA [] [59] [1, 5, 6, 7, 9] (by simp [ownKey])
        (fun a : Nat × List Pd => st [(1, .k true (.x (.one (.c (.sl (facts.map Fc.row) sq))))), (5, .k true (.x (.one (.ref 5 0 0)))), (6, .k true (.x (.one (.ref 6 0 0)))), (7, .k true (.x (.one (.c (.sl (a.2.map pdC) []))))), (9, tI .i64 a.1)] [(8, ⟨55, 3, [[.c (cI .i8 0), .c (cI .i64 0), .c (cI .i64 0)]], none⟩), (6, ⟨55, 3, [[.c (cI .i8 0), .c (cI .i64 0), .c (cI .i64 0)]], none⟩), (5, ⟨25, 2, [[.c (cS (bs p)), .c (.sl (l.map Tm.row) sl)]], none⟩), (3, ⟨47, 1, [[.c (.sl (rules.map Rule.row) sp)]], none⟩)] [] F0) (fun a => facts.length - a.1)
        (fun a => a.1 ≤ facts.length ∧ inFacts (refMeets ltN) m facts 0 = inFacts (refMeets ltN) a.2 (facts.drop a.1) a.1 ∧ a.2.length ≤ 6500 + a.1) (0, m) (by simp) (by simp; omega) ?_
      rintro ⟨j, f⟩ K hK ⟨hj, hd, hfn⟩
      simp only at hj hd hfn
      obtain hlt | hge := Nat.lt_or_ge j facts.length
      · rw [List.drop_eq_getElem_cons hlt, inFacts] at hd
        simp [ic2039l0, hlt]
        refine call_of (m2126 facts[j] (hf _ (List.getElem_mem hlt))) ?_
        simp
        by_cases h0 : factErr facts[j] = 0
        · rw [if_pos h0] at hd
          have hme := m2127 (G := G) f [facts[j].pd] [] (by simp; omega)
          simp only [List.map_cons, List.map_nil, pdC, Fc.pd] at hme
          simp [h0, hlt]
          refine call_of hme ?_
          cases hM : refMeets ltN f [facts[j].pd] with
          | some f' =>
            rw [hM] at hd
            have hml := refMeets_len hM
            simp only [Fc.pd] at hM
            rw [hM]
            simp [meetR]
            simp (disch := omega) only [wrap64]
            exact hK (j + 1, f') _ (by simp) ⟨by simp; omega, hd, by simp at hml; simp only; omega⟩ (by simp; omega)
          | none =>
            rw [hM] at hd
            simp only at hd
            simp only [Fc.pd] at hM
            rw [hd] at hR
            simp only [refuse] at hR
            subst hR
            rw [hM]
            simp [meetR]
        · rw [if_neg h0] at hd
          rw [hd] at hR
          simp only [refuse] at hR
          subst hR
          simp [h0]
      · rw [List.drop_eq_nil_of_le hge, inFacts] at hd
        rw [hd] at hR
        simp only at hR
        simp [ic2039l0, Nat.not_lt.mpr hge]
        refine call_of (m2128 p l sl hq) ?_
        simp
        by_cases h0 : queryErr p l = 0
        · rw [if_neg (by simpa using h0)] at hR
          have hme := m2127 (G := G) f [⟨p, l.length⟩] [] (by simp; omega)
          simp only [List.map_cons, List.map_nil, pdC] at hme
          simp [h0]
          refine call_of hme ?_
          cases hM : refMeets ltN f [⟨p, l.length⟩] with
          | some f' =>
            rw [hM] at hR
            simp [refuse] at hR
            subst hR
            simp [meetR]
          | none =>
            rw [hM] at hR
            simp [refuse] at hR
            subst hR
            simp [meetR]
        · rw [if_pos (by simpa using h0)] at hR
          simp only [refuse] at hR
          subst hR
          simp [h0]
end Go.Proofs.YtiomojlcnemnhaaGreatDoor

import Derived.Test.YtiomojlcnemnhaaFHxQn
import Derived.Test.YtiomojlcnemnhaaFHxIcS
import Derived.Test.YtiomojlcnemnhaaFHxQ5
/- Contracts, on: may a job be run, the program's and the document's; the laws CheckJobs and CheckPreds. (Labels of 2000 and more: seat ZD.) -/
namespace Go.Proofs.Ytiomojlcnemnhaa
open Go.Fx Go.RowKit Go.Ped
variable {G : World → Prop}

/-- What the functions ask of what they are handed. -/
structure JobFit (rules : List Rule) (facts : List Fc) : Prop where
  rfit : ∀ r ∈ rules, r.fit
  rlen : rules.length ≤ 1048576
  ffit : ∀ f ∈ facts, f.l.length ≤ 1048576
  flen : facts.length ≤ 1048576
  stand : (rules.flatMap standOf).length ≤ 5000000
  names : ∀ p ∈ rules.flatMap standOf ++ facts.map Fc.pd, p.name.length ≤ maxLen
abbrev allPd (rules : List Rule) (facts : List Fc) : List Pd := rules.flatMap standOf ++ facts.map Fc.pd

end Go.Proofs.Ytiomojlcnemnhaa

/- Plain words for predicates that meet, in whatever order. -/
namespace Go.Ped

/-- No name has two numbers. -/
def okPd (l : List Pd) : Prop := ∀ p ∈ l, ∀ q ∈ l, p.name = q.name → p.n = q.n
theorem lookP_some {l : List Pd} {v : Name} {k : Int} (h : lookP l v = some k) : ∃ q ∈ l, q.name = v ∧ q.n = k := by
  unfold lookP at h
  rw [Option.map_eq_some_iff] at h
  obtain ⟨q, hq, rfl⟩ := h
  exact ⟨q, List.mem_of_find?_eq_some hq, by simpa using List.find?_some hq, rfl⟩
theorem goMeets_ok : ∀ (l m : List Pd), okPd m → ((goMeets m l).isSome = true ↔ okPd (m ++ l))
  | [], m, hm => by simp [goMeets, hm]
  | p :: l, m, hm => by
    rw [goMeets]
    unfold goMeet
    cases hk : lookP m p.name with
    | some k =>
      obtain ⟨q, hq, h1, h2⟩ := lookP_some hk
      by_cases e : k = p.n
      · simp only [e, if_true]
        rw [goMeets_ok l m hm]
        constructor
        · intro h a ha b hb hab
          have key : ∀ c ∈ m ++ p :: l, ∃ c' ∈ m ++ l, c'.name = c.name ∧ c'.n = c.n := by
            intro c hc
            rcases List.mem_append.1 hc with hc | hc
            · exact ⟨c, List.mem_append_left _ hc, rfl, rfl⟩
            · rcases List.mem_cons.1 hc with rfl | hc
              · exact ⟨q, List.mem_append_left _ hq, h1, h2.trans e⟩
              · exact ⟨c, List.mem_append_right _ hc, rfl, rfl⟩
          obtain ⟨a', ha', e1, e2⟩ := key a ha
          obtain ⟨b', hb', e3, e4⟩ := key b hb
          rw [← e2, ← e4]
          exact h a' ha' b' hb' (by rw [e1, e3, hab])
        · intro h a ha b hb hab
          have key : ∀ c ∈ m ++ l, c ∈ m ++ p :: l := fun c hc => (List.mem_append.1 hc).elim (fun h => List.mem_append_left _ h) fun h => List.mem_append_right _ (List.mem_cons_of_mem _ h)
          exact h a (key a ha) b (key b hb) hab
      · simp only [e, if_false, Option.isSome_none, Bool.false_eq_true, false_iff]
        intro h
        exact e (h2.symm.trans (h q (List.mem_append_left _ hq) p (List.mem_append_right _ (List.mem_cons_self ..)) h1))
    | none =>
      have hn := lookP_none.1 hk
      have hm' : okPd (m ++ [p]) := by
        intro a ha b hb hab
        rcases List.mem_append.1 ha with ha | ha <;> rcases List.mem_append.1 hb with hb | hb
        · exact hm a ha b hb hab
        · rw [List.mem_singleton.1 hb] at hab; exact absurd (hab ▸ List.mem_map_of_mem ha) hn
        · rw [List.mem_singleton.1 ha] at hab; exact absurd (hab ▸ List.mem_map_of_mem hb) hn
        · rw [List.mem_singleton.1 ha, List.mem_singleton.1 hb]
      simp only
      rw [goMeets_ok l (m ++ [p]) hm', List.append_assoc]
      rfl
theorem okPd_sub {l l' : List Pd} (h : okPd l) (hs : ∀ p ∈ l', p ∈ l) : okPd l' := fun p hp q hq e => h p (hs p hp) q (hs q hq) e
theorem goMeets_iff (l : List Pd) : (goMeets [] l).isSome = true ↔ okPd l := by
  have h := goMeets_ok l [] (by intro p hp; cases hp)
  rwa [List.nil_append] at h
end Go.Ped

/- Plain: what jobs and inputs are taken, whatever the order. (Labels of 2000 and more: seat ZD.) -/
namespace Go.Proofs.Ytiomojlcnemnhaa
open Go.Fx Go.RowKit Go.Ped

theorem refMeets_iff (l : List Pd) : (refMeets ltN [] l).isSome = true ↔ okPd l := by
  rw [← preds_eq, Option.isSome_map]
  exact goMeets_iff l
theorem mem_allPd {rules : List Rule} {facts : List Fc} {p : Pd} : p ∈ allPd rules facts ↔ (∃ r ∈ rules, p ∈ standOf r) ∨ ∃ f ∈ facts, f.pd = p := by
  simp only [allPd, List.mem_append, List.mem_flatMap, List.mem_map]
abbrev inE (rules : List Rule) (facts : List Fc) (p : Name) (l : List Tm) : List C := inputOf refErr (refMeets ltN) rules facts p l

theorem userRules_0 : ∀ {l : List Rule} {i : Int}, (∀ r ∈ l, refErr r = 0) → userRules refErr l i = (0, 0)
  | [], i, _ => rfl
  | r :: l, i, h => by
    rw [userRules, if_pos (h r (List.mem_cons_self ..))]
    exact userRules_0 fun q hq => h q (List.mem_cons_of_mem _ hq)
theorem userRules_at : ∀ {l : List Rule} {k : Nat} {i : Int} (hk : k < l.length), (∀ r ∈ l.take k, refErr r = 0) → refErr l[k] ≠ 0 → userRules refErr l i = (refErr l[k], i + k)
  | r :: l, 0, i, hk, _, h => by
    rw [userRules, if_neg (show refErr r ≠ 0 from h)]; simp
  | r :: l, k + 1, i, hk, hb, h => by
    rw [userRules, if_pos (hb r (by simp))]
    have := userRules_at (l := l) (k := k) (i := i + 1) (by simpa using hk) (fun q hq => hb q (by simp [hq])) h
    rw [this]
    simp; omega
theorem inRules_eq : ∀ {l : List Rule} {m m' : List Pd} {i : Int}, refMeets ltN m (l.flatMap standOf) = some m' → inRules (refMeets ltN) m l i = (some m', 0)
  | [], m, m', i, h => by injection h with h; subst h; rfl
  | r :: l, m, m', i, h => by
    rw [List.flatMap_cons, refMeets_append] at h
    rw [inRules]
    cases hm : refMeets ltN m (standOf r) with
    | none => rw [hm] at h; cases h
    | some m1 => rw [hm, Option.bind_some] at h; exact inRules_eq h
theorem inRules_at : ∀ {l : List Rule} {k : Nat} {m m' : List Pd} {i : Int} (hk : k < l.length), refMeets ltN m ((l.take k).flatMap standOf) = some m' → refMeets ltN m' (standOf l[k]) = none → inRules (refMeets ltN) m l i = (none, i + k)
  | r :: l, 0, m, m', i, hk, h1, h2 => by
    injection h1 with h1
    subst h1
    rw [inRules, show refMeets ltN m (standOf r) = none from h2]; simp
  | r :: l, k + 1, m, m', i, hk, h1, h2 => by
    rw [List.take_succ_cons, List.flatMap_cons, refMeets_append] at h1
    rw [inRules]
    cases hm : refMeets ltN m (standOf r) with
    | none => rw [hm] at h1; cases h1
    | some m1 =>
      rw [hm, Option.bind_some] at h1
      simp only
      rw [inRules_at (l := l) (k := k) (i := i + 1) (by simpa using hk) h1 h2]
      simp; omega
theorem refMeets_one (m : List Pd) (p : Pd) : refMeets ltN m [p] = refMeet ltN m p := by
  simp only [refMeets]
  cases refMeet ltN m p <;> rfl
theorem inFacts_eq : ∀ {l : List Fc} {m m' : List Pd} {i : Int}, (∀ f ∈ l, factErr f = 0) → refMeets ltN m (l.map Fc.pd) = some m' → inFacts (refMeets ltN) m l i = (some m', 0, 0)
  | [], m, m', i, _, h => by injection h with h; subst h; rfl
  | f :: l, m, m', i, h0, h => by
    rw [inFacts, if_pos (h0 f (List.mem_cons_self ..)), refMeets_one]
    rw [List.map_cons, refMeets] at h
    cases hm : refMeet ltN m f.pd with
    | none => rw [hm] at h; cases h
    | some m1 => rw [hm] at h; exact inFacts_eq (fun g hg => h0 g (List.mem_cons_of_mem _ hg)) h
theorem inFacts_at : ∀ {l : List Fc} {k : Nat} {m m' : List Pd} {i : Int} (hk : k < l.length), (∀ f ∈ l.take k, factErr f = 0) → refMeets ltN m ((l.take k).map Fc.pd) = some m' →
    (factErr l[k] ≠ 0 → inFacts (refMeets ltN) m l i = (none, factErr l[k], i + k)) ∧ (factErr l[k] = 0 → refMeet ltN m' l[k].pd = none → inFacts (refMeets ltN) m l i = (none, 72, i + k))
  | f :: l, 0, m, m', i, hk, _, h1 => by
    injection h1 with h1
    subst h1
    refine ⟨fun h => ?_, fun h h2 => ?_⟩
    · rw [inFacts, if_neg (show factErr f ≠ 0 from h)]; simp
    · rw [inFacts, if_pos (show factErr f = 0 from h), refMeets_one, show refMeet ltN m f.pd = none from h2]; simp
  | f :: l, k + 1, m, m', i, hk, h0, h1 => by
    have hf0 := h0 f (by simp)
    rw [List.take_succ_cons, List.map_cons, refMeets] at h1
    rw [inFacts, if_pos hf0, refMeets_one]
    cases hm : refMeet ltN m f.pd with
    | none => rw [hm] at h1; cases h1
    | some m1 =>
      rw [hm] at h1
      have := inFacts_at (l := l) (k := k) (i := i + 1) (by simpa using hk) (fun g hg => h0 g (by simp [hg])) h1
      simp only [List.getElem_cons_succ]
      have e : (i + 1 : Int) + k = i + (k + 1 : Nat) := by omega
      rw [e] at this
      exact this

theorem refMeets_some {l : List Pd} (h : okPd l) : ∃ m, refMeets ltN [] l = some m := Option.isSome_iff_exists.1 ((refMeets_iff l).2 h)
theorem refMeets_no {l : List Pd} (h : ¬ okPd l) : refMeets ltN [] l = none := by
  cases hr : refMeets ltN [] l with
  | none => rfl
  | some m => exact absurd ((refMeets_iff l).1 (by rw [hr]; rfl)) h

/- What an input is answered, case by case. -/
section
variable {rules : List Rule} {facts : List Fc} {p : Name} {l : List Tm}
theorem in_B (h : rules.length > 500) : inE rules facts p l = refuse 1 70 0 := by
  unfold inE inputOf inProgram
  rw [if_pos h]
theorem in_C (h : rules.length ≤ 500) {k : Nat} (hk : k < rules.length) (h0 : ∀ r ∈ rules.take k, refErr r = 0) (he : refErr rules[k] ≠ 0) : inE rules facts p l = refuse 1 (refErr rules[k]) k := by
  unfold inE inputOf inProgram
  rw [if_neg (by omega), userRules_at hk h0 he, if_pos he]
  simp
theorem in_D (h : rules.length ≤ 500) (hr : ∀ r ∈ rules, refErr r = 0) {k : Nat} (hk : k < rules.length) (h1 : okPd ((rules.take k).flatMap standOf)) (h2 : ¬ okPd ((rules.take (k + 1)).flatMap standOf)) : inE rules facts p l = refuse 1 72 k := by
  obtain ⟨m, hm⟩ := refMeets_some h1
  have hn := refMeets_no h2
  rw [List.take_succ_eq_append_getElem hk, List.flatMap_append, refMeets_append, hm, Option.bind_some] at hn
  simp only [List.flatMap_cons, List.flatMap_nil, List.append_nil] at hn
  unfold inE inputOf inProgram
  rw [if_neg (by omega), userRules_0 hr, if_neg (by simp), inRules_at hk hm hn]
  simp
/-- The program is taken. -/
def ProgOk (rules : List Rule) : Prop := rules.length ≤ 500 ∧ (∀ r ∈ rules, refErr r = 0) ∧ okPd (rules.flatMap standOf)
theorem in_prog (h : ProgOk rules) : ∃ m, refMeets ltN [] (rules.flatMap standOf) = some m ∧ inProgram refErr (refMeets ltN) rules = (some m, refuse 0 0 0) := by
  obtain ⟨m, hm⟩ := refMeets_some h.2.2
  refine ⟨m, hm, ?_⟩
  unfold inProgram
  rw [if_neg (by have := h.1; omega), userRules_0 h.2.1, if_neg (by simp), inRules_eq hm]
theorem in_E (h : ProgOk rules) (hf : facts.length > 65536) : inE rules facts p l = refuse 2 70 0 := by
  obtain ⟨m, hm, hp⟩ := in_prog h
  unfold inE inputOf
  rw [hp]
  simp only
  rw [if_pos hf]
theorem in_F (h : ProgOk rules) (hf : facts.length ≤ 65536) {k : Nat} (hk : k < facts.length) (h0 : ∀ f ∈ facts.take k, factErr f = 0) (h1 : okPd (allPd rules (facts.take k))) (he : factErr facts[k] ≠ 0) : inE rules facts p l = refuse 2 (factErr facts[k]) k := by
  obtain ⟨m, hm, hp⟩ := in_prog h
  obtain ⟨m2, hm2⟩ := refMeets_some h1
  rw [allPd, refMeets_append, hm, Option.bind_some] at hm2
  unfold inE inputOf
  rw [hp]
  simp only
  rw [if_neg (by omega), (inFacts_at hk h0 hm2).1 he]
  simp
theorem in_G (h : ProgOk rules) (hf : facts.length ≤ 65536) {k : Nat} (hk : k < facts.length) (h0 : ∀ f ∈ facts.take (k + 1), factErr f = 0) (h1 : okPd (allPd rules (facts.take k))) (h2 : ¬ okPd (allPd rules (facts.take (k + 1)))) : inE rules facts p l = refuse 2 72 k := by
  obtain ⟨m, hm, hp⟩ := in_prog h
  obtain ⟨m2, hm2⟩ := refMeets_some h1
  have hn := refMeets_no h2
  rw [List.take_succ_eq_append_getElem hk] at h0
  rw [allPd, List.take_succ_eq_append_getElem hk, List.map_append, ← List.append_assoc, refMeets_append, show (rules.flatMap standOf ++ (facts.take k).map Fc.pd) = allPd rules (facts.take k) from rfl, hm2, Option.bind_some, List.map_cons, List.map_nil, refMeets_one] at hn
  rw [allPd, refMeets_append, hm, Option.bind_some] at hm2
  unfold inE inputOf
  rw [hp]
  simp only
  rw [if_neg (by omega), (inFacts_at hk (fun f hf => h0 f (List.mem_append_left _ hf)) hm2).2 (h0 _ (List.mem_append_right _ (List.mem_singleton.2 rfl))) hn]
  simp
theorem in_H (h : ProgOk rules) (hf : facts.length ≤ 65536) (h0 : ∀ f ∈ facts, factErr f = 0) (h1 : okPd (allPd rules facts)) : inE rules facts p l = if queryErr p l ≠ 0 then refuse 3 (queryErr p l) 0 else if (refMeets ltN [] (allPd rules facts ++ [⟨p, l.length⟩])).isSome = true then refuse 0 0 0 else refuse 3 72 0 := by
  obtain ⟨m, hm, hp⟩ := in_prog h
  obtain ⟨m2, hm2⟩ := refMeets_some h1
  have hcat := refMeets_append ltN (allPd rules facts) [⟨p, l.length⟩] []
  rw [hm2, Option.bind_some] at hcat
  rw [allPd, refMeets_append, hm, Option.bind_some] at hm2
  unfold inE inputOf
  rw [hp]
  simp only
  rw [if_neg (by omega), inFacts_eq h0 hm2, hcat]
end

/-- Of all, or a first that is not. -/
theorem first_bad {n : Nat} (P : Nat → Prop) : (∀ k, k < n → P k) ∨ ∃ k, k < n ∧ ¬ P k ∧ ∀ j, j < k → P j := by
  induction n with
  | zero => exact .inl fun k h => absurd h (Nat.not_lt_zero _)
  | succ n ih =>
    rcases ih with h | ⟨k, h1, h2⟩
    · by_cases hn : P n
      · left
        intro k hk
        rcases Nat.lt_succ_iff_lt_or_eq.1 hk with h' | rfl
        · exact h k h'
        · exact hn
      · exact .inr ⟨n, Nat.lt_succ_self n, hn, h⟩
    · exact .inr ⟨k, Nat.lt_succ_of_lt h1, h2⟩
theorem take_each {α : Type} {l : List α} {P : α → Prop} {k : Nat} (h : ∀ j (hj : j < l.length), j < k → P l[j]) : ∀ x ∈ l.take k, P x := fun x hx => by
  obtain ⟨j, hj, rfl⟩ := List.mem_iff_getElem.1 hx
  rw [List.length_take] at hj
  rw [List.getElem_take]
  exact h j (by omega) (by omega)
end Go.Proofs.Ytiomojlcnemnhaa

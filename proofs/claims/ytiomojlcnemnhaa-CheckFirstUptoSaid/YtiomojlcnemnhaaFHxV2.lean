/- Plain: the first thing with an error, and what stands ahead of it. (Labels of 2000 and more: seat ZD.) -/
import Derived.Test.YtiomojlcnemnhaaFHxV1
namespace Go.Proofs.Ytiomojlcnemnhaa
open Go.Fx Go.RowKit Go.Ped

/-- All that an input may be answered. -/
inductive InCase (rules : List Rule) (facts : List Fc) (p : Name) (l : List Tm) : List C → Prop
  | ok (h : ProgOk rules) (hf : facts.length ≤ 65536) (h0 : ∀ f ∈ facts, factErr f = 0) (hq : queryErr p l = 0) (h1 : okPd (allPd rules facts ++ [⟨p, l.length⟩])) : InCase rules facts p l (refuse 0 0 0)
  | rules (h : rules.length > 500) : InCase rules facts p l (refuse 1 70 0)
  | rule (h : rules.length ≤ 500) (k : Nat) (hk : k < rules.length) (h0 : ∀ r ∈ rules.take k, refErr r = 0) (he : refErr rules[k] ≠ 0) : InCase rules facts p l (refuse 1 (refErr rules[k]) k)
  | pred (h : rules.length ≤ 500) (hr : ∀ r ∈ rules, refErr r = 0) (k : Nat) (hk : k < rules.length) (h1 : okPd ((rules.take k).flatMap standOf)) (h2 : ¬ okPd ((rules.take (k + 1)).flatMap standOf)) : InCase rules facts p l (refuse 1 72 k)
  | facts (h : ProgOk rules) (hf : facts.length > 65536) : InCase rules facts p l (refuse 2 70 0)
  | fact (h : ProgOk rules) (hf : facts.length ≤ 65536) (k : Nat) (hk : k < facts.length) (h0 : ∀ f ∈ facts.take k, factErr f = 0) (h1 : okPd (allPd rules (facts.take k))) (he : factErr facts[k] ≠ 0) : InCase rules facts p l (refuse 2 (factErr facts[k]) k)
  | met (h : ProgOk rules) (hf : facts.length ≤ 65536) (k : Nat) (hk : k < facts.length) (h0 : ∀ f ∈ facts.take (k + 1), factErr f = 0) (h1 : okPd (allPd rules (facts.take k))) (h2 : ¬ okPd (allPd rules (facts.take (k + 1)))) : InCase rules facts p l (refuse 2 72 k)
  | query (h : ProgOk rules) (hf : facts.length ≤ 65536) (h0 : ∀ f ∈ facts, factErr f = 0) (h1 : okPd (allPd rules facts)) (hq : queryErr p l ≠ 0) : InCase rules facts p l (refuse 3 (queryErr p l) 0)
  | arity (h : ProgOk rules) (hf : facts.length ≤ 65536) (h0 : ∀ f ∈ facts, factErr f = 0) (h1 : okPd (allPd rules facts)) (hq : queryErr p l = 0) (h2 : ¬ okPd (allPd rules facts ++ [⟨p, l.length⟩])) : InCase rules facts p l (refuse 3 72 0)

theorem in_ok {rules : List Rule} {facts : List Fc} {p : Name} {l : List Tm} (h : ProgOk rules) (hf : facts.length ≤ 65536) (h0 : ∀ f ∈ facts, factErr f = 0) (hq : queryErr p l = 0) (h1 : okPd (allPd rules facts ++ [⟨p, l.length⟩])) : inE rules facts p l = refuse 0 0 0 := by
  rw [in_H h hf h0 (okPd_sub h1 fun q hq => List.mem_append_left _ hq), if_neg (by simpa using hq), if_pos ((refMeets_iff _).2 h1)]
theorem in_query {rules : List Rule} {facts : List Fc} {p : Name} {l : List Tm} (h : ProgOk rules) (hf : facts.length ≤ 65536) (h0 : ∀ f ∈ facts, factErr f = 0) (h1 : okPd (allPd rules facts)) (hq : queryErr p l ≠ 0) : inE rules facts p l = refuse 3 (queryErr p l) 0 := by
  rw [in_H h hf h0 h1, if_pos hq]

theorem in_case (rules : List Rule) (facts : List Fc) (p : Name) (l : List Tm) : InCase rules facts p l (inE rules facts p l) := by
  by_cases h5 : rules.length > 500
  · rw [in_B h5]; exact .rules h5
  have h5' : rules.length ≤ 500 := by omega
  rcases first_bad (n := rules.length) (fun k => ∀ hk : k < rules.length, refErr rules[k] = 0) with hr | ⟨k, hk, hb, ha⟩
  rotate_left
  · have he : refErr rules[k] ≠ 0 := fun e => hb fun _ => e
    have h0 : ∀ r ∈ rules.take k, refErr r = 0 := take_each fun j hj hjk => ha j hjk hj
    rw [in_C h5' hk h0 he]
    exact .rule h5' k hk h0 he
  have hr' : ∀ r ∈ rules, refErr r = 0 := fun r hm => by
    obtain ⟨j, hj, rfl⟩ := List.mem_iff_getElem.1 hm
    exact hr j hj hj
  rcases first_bad (n := rules.length) (fun k => okPd ((rules.take (k + 1)).flatMap standOf)) with ho | ⟨k, hk, hb, ha⟩
  rotate_left
  · have h1 : okPd ((rules.take k).flatMap standOf) := by
      cases k with
      | zero => intro a ha; simp at ha
      | succ j => exact ha j (Nat.lt_succ_self j)
    rw [in_D h5' hr' hk h1 hb]
    exact .pred h5' hr' k hk h1 hb
  have hp : ProgOk rules := ⟨h5', hr', by
    cases hn : rules.length with
    | zero => rw [List.eq_nil_of_length_eq_zero hn]; intro a ha; simp at ha
    | succ j =>
      have := ho j (by omega)
      rwa [← hn, List.take_length] at this⟩
  by_cases h6 : facts.length > 65536
  · rw [in_E hp h6]; exact .facts hp h6
  have h6' : facts.length ≤ 65536 := by omega
  rcases first_bad (n := facts.length) (fun k => (∀ hk : k < facts.length, factErr facts[k] = 0) ∧ okPd (allPd rules (facts.take (k + 1)))) with hf | ⟨k, hk, hb, ha⟩
  rotate_left
  · have h1 : okPd (allPd rules (facts.take k)) := by
      cases k with
      | zero => simpa [allPd] using hp.2.2
      | succ j => exact (ha j (Nat.lt_succ_self j)).2
    have h0 : ∀ f ∈ facts.take k, factErr f = 0 := take_each fun j hj hjk => (ha j hjk).1 hj
    by_cases he : factErr facts[k] = 0
    · have h2 : ¬ okPd (allPd rules (facts.take (k + 1))) := fun ho => hb ⟨fun _ => he, ho⟩
      have h0' : ∀ f ∈ facts.take (k + 1), factErr f = 0 := fun f hf => by
        rw [List.take_succ_eq_append_getElem hk] at hf
        rcases List.mem_append.1 hf with hf | hf
        · exact h0 f hf
        · rw [List.mem_singleton.1 hf]; exact he
      rw [in_G hp h6' hk h0' h1 h2]
      exact .met hp h6' k hk h0' h1 h2
    · rw [in_F hp h6' hk h0 h1 he]
      exact .fact hp h6' k hk h0 h1 he
  have h0 : ∀ f ∈ facts, factErr f = 0 := fun f hm => by
    obtain ⟨j, hj, rfl⟩ := List.mem_iff_getElem.1 hm
    exact (hf j hj).1 hj
  have h1 : okPd (allPd rules facts) := by
    cases hn : facts.length with
    | zero => rw [List.eq_nil_of_length_eq_zero hn]; simpa [allPd] using hp.2.2
    | succ j =>
      have := (hf j (by omega)).2
      rwa [← hn, List.take_length] at this
  by_cases hq : queryErr p l = 0
  · by_cases h2 : okPd (allPd rules facts ++ [⟨p, l.length⟩])
    · rw [in_ok hp h6' h0 hq h2]; exact .ok hp h6' h0 hq h2
    · have : inE rules facts p l = refuse 3 72 0 := by
        rw [in_H hp h6' h0 h1, if_neg (by simpa using hq), if_neg (fun h => h2 ((refMeets_iff _).1 h))]
      rw [this]; exact .arity hp h6' h0 h1 hq h2
  · rw [in_query hp h6' h0 h1 hq]; exact .query hp h6' h0 h1 hq

theorem ref_ok {r : Rule} (h : refErr r = 0) : ruleOk r = true ∧ ruleErr r = 0 ∧ refBad r = false ∧ refRes r = false := by
  unfold refErr at h
  by_cases h1 : ruleOk r = true
  · rw [if_pos h1] at h
    cases h2 : refBad r with
    | true => rw [h2] at h; simp at h
    | false =>
      rw [h2] at h
      cases h3 : refRes r with
      | true => rw [h3] at h; simp at h
      | false => rw [h3] at h; exact ⟨h1, by simpa using h, rfl, rfl⟩
  · rw [if_neg h1] at h; cases h
theorem fact_ok {f : Fc} (h : factErr f = 0) : factOk f.p f.l = true ∧ sizeErr f.p f.l.length = 0 := by
  unfold factErr at h
  by_cases h1 : factOk f.p f.l = true
  · rw [if_pos h1] at h; exact ⟨h1, h⟩
  · rw [if_neg h1] at h; cases h
end Go.Proofs.Ytiomojlcnemnhaa

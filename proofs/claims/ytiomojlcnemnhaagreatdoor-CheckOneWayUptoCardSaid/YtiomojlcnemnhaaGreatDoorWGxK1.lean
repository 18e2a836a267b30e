import Derived.Test.YtiomojlcnemnhaaGreatDoorWGxZ2
import Derived.Test.YtiomojlcnemnhaaGreatDoorWGxZ4
import Derived.Test.YtiomojlcnemnhaaGreatDoorWFxWb
import Derived.Test.YtiomojlcnemnhaaGreatDoorProg
import Derived.KernelRfl
/- Plain words for the variables that a body limits, on: they are the least that hold what is found first and are closed under the equations; each is told once, behind its reason. -/
namespace Go.Ped

/-- Each one of a list behind a first part has its reason ahead of it. -/
def Just (l : List Eqn) (f e : List Name) : Prop := ∀ p v s, e = p ++ v :: s → ∃ q ∈ l, take (f ++ p) q = some v

theorem Just.nil {l : List Eqn} {f : List Name} : Just l f [] := fun p v s h => by simp at h
theorem Just.cons {l : List Eqn} {f e : List Name} {v : Name} {q : Eqn} (hq : q ∈ l) (ht : take f q = some v) (h : Just l (f ++ [v]) e) : Just l f (v :: e) := by
  intro p w s he
  cases p with
  | nil => simp at he; obtain ⟨rfl, rfl⟩ := he; exact ⟨q, hq, by simpa using ht⟩
  | cons u p =>
    simp at he
    obtain ⟨rfl, rfl⟩ := he
    obtain ⟨q', h1, h2⟩ := h p w s rfl
    exact ⟨q', h1, by simpa using h2⟩
theorem Just.append {l : List Eqn} : ∀ {e f e' : List Name}, Just l f e → Just l (f ++ e) e' → Just l f (e ++ e')
  | [], f, e', _, h => by simpa using h
  | v :: e, f, e', h, h' => by
    obtain ⟨q, hq, ht⟩ := h [] v e rfl
    refine Just.cons hq (by simpa using ht) (Just.append (fun p w s he => ?_) (by simpa using h'))
    obtain ⟨q', g1, g2⟩ := h (v :: p) w s (by simp [he])
    exact ⟨q', g1, by simpa using g2⟩
theorem Just.mono {l l' : List Eqn} {f e : List Name} (h : Just l f e) (hs : ∀ q ∈ l, q ∈ l') : Just l' f e := fun p v s he => by
  obtain ⟨q, h1, h2⟩ := h p v s he
  exact ⟨q, hs q h1, h2⟩

theorem goRound_just : ∀ (w : List Eqn) (f : List Name), ∃ e, (goRound f w).1 = f ++ e ∧ Just w f e
  | [], f => ⟨[], by simp [goRound], .nil⟩
  | q :: w, f => by
    simp only [goRound]
    cases ht : take f q with
    | some v =>
      obtain ⟨e, h1, h2⟩ := goRound_just w (f ++ [v])
      exact ⟨v :: e, by simp only [h1]; simp, .cons (List.mem_cons_self ..) ht (h2.mono fun q hq => List.mem_cons_of_mem _ hq)⟩
    | none =>
      obtain ⟨e, h1, h2⟩ := goRound_just w f
      exact ⟨e, h1, h2.mono fun q hq => List.mem_cons_of_mem _ hq⟩

theorem goRound_sub : ∀ (w : List Eqn) (f : List Name), ∀ q ∈ (goRound f w).2, q ∈ w
  | [], f, q, h => by simp [goRound] at h
  | p :: w, f, q, h => by
    simp only [goRound] at h
    split at h
    · exact List.mem_cons_of_mem _ (goRound_sub w _ q h)
    · rcases List.mem_cons.1 h with rfl | h
      · exact List.mem_cons_self ..
      · exact List.mem_cons_of_mem _ (goRound_sub w _ q h)

theorem goRounds_just (f : List Name) (w : List Eqn) : ∃ e, goRounds f w = f ++ e ∧ Just w f e := by
  induction hn : w.length using Nat.strongRecOn generalizing f w with
  | ind n ih =>
    obtain ⟨e, h1, h2⟩ := goRound_just w f
    unfold goRounds
    split
    · rename_i hlt
      obtain ⟨e', g1, g2⟩ := ih _ (hn ▸ hlt) (goRound f w).1 (goRound f w).2 rfl
      refine ⟨e ++ e', by rw [g1, h1, List.append_assoc], h2.append ?_⟩
      rw [h1] at g2
      exact g2.mono (goRound_sub w f)
    · exact ⟨e, h1, h2⟩

theorem goRound_stable : ∀ (w : List Eqn) (f : List Name), (goRound f w).2.length = w.length → (goRound f w).1 = f ∧ ∀ q ∈ w, take f q = none
  | [], f, _ => ⟨rfl, fun q h => by cases h⟩
  | p :: w, f, h => by
    simp only [goRound] at h ⊢
    cases ht : take f p with
    | some v =>
      rw [ht] at h
      have := goRound_le w (f ++ [v])
      simp at h; omega
    | none =>
      rw [ht] at h
      obtain ⟨h1, h2⟩ := goRound_stable w f (by simpa using h)
      refine ⟨h1, fun q hq => ?_⟩
      rcases List.mem_cons.1 hq with rfl | hq
      · exact ht
      · exact h2 q hq

theorem Waits.none {f : List Name} {eqs w : List Eqn} (h : Waits f eqs w) : (∀ q ∈ w, take f q = none) → ∀ q ∈ eqs, take f q = none := by
  induction h with
  | nil => intro _ q hq; cases hq
  | keep h ih =>
    intro g q hq
    rcases List.mem_cons.1 hq with rfl | hq
    · exact g _ (List.mem_cons_self ..)
    · exact ih (fun p hp => g p (List.mem_cons_of_mem _ hp)) q hq
  | gone hd h ih =>
    intro g q hq
    rcases List.mem_cons.1 hq with rfl | hq
    · exact hd _ fun _ hv => hv
    · exact ih g q hq

/-- No equation gives one more. -/
theorem goRounds_closed {eqs : List Eqn} (hw : ∀ q ∈ eqs, q.wf) (f : List Name) (w : List Eqn) (h : Waits f eqs w) : ∀ q ∈ eqs, take (goRounds f w) q = none := by
  induction hn : w.length using Nat.strongRecOn generalizing f w with
  | ind n ih =>
    obtain ⟨h1, h2⟩ := round_same h (fun _ hv => hv) hw
    unfold goRounds
    split
    · rename_i hlt
      exact ih _ (hn ▸ hlt) _ _ h2 rfl
    · rename_i hge
      have hle := goRound_le w f
      obtain ⟨g1, g2⟩ := goRound_stable w f (by omega)
      rw [g1]
      exact h.none g2

theorem take_some {f : List Name} {q : Eqn} {v : Name} (h : take f q = some v) : v ∉ f ∧ v ≠ [] ∧ ((v = q.left ∧ ∀ u ∈ q.rights, u ∈ f) ∨ (v = q.right ∧ ∀ u ∈ q.lefts, u ∈ f)) := by
  unfold take at h
  split at h
  · rename_i hc
    simp only [Bool.and_eq_true, bne_iff_ne, ne_eq, Bool.not_eq_true', List.contains_eq_mem, decide_eq_false_iff_not] at hc
    injection h with h; subst h
    exact ⟨hc.1.2, hc.1.1, .inl ⟨rfl, allIn_iff.1 hc.2⟩⟩
  · split at h
    · rename_i hc
      simp only [Bool.and_eq_true, bne_iff_ne, ne_eq, Bool.not_eq_true', List.contains_eq_mem, decide_eq_false_iff_not] at hc
      injection h with h; subst h
      exact ⟨hc.1.2, hc.1.1, .inr ⟨rfl, allIn_iff.1 hc.2⟩⟩
    · cases h
theorem take_none {f : List Name} {q : Eqn} (h : take f q = none) : (q.left ≠ [] → (∀ u ∈ q.rights, u ∈ f) → q.left ∈ f) ∧ (q.right ≠ [] → (∀ u ∈ q.lefts, u ∈ f) → q.right ∈ f) := by
  unfold take at h
  split at h
  · cases h
  · rename_i h1
    split at h
    · cases h
    · rename_i h2
      simp only [Bool.and_eq_true, bne_iff_ne, ne_eq, Bool.not_eq_true', List.contains_eq_mem, decide_eq_false_iff_not, not_and] at h1 h2
      refine ⟨fun h3 h4 => Classical.byContradiction fun h5 => ?_, fun h3 h4 => Classical.byContradiction fun h5 => ?_⟩
      · exact h1 ⟨h3, h5⟩ (allIn_iff.2 h4)
      · exact h2 ⟨h3, h5⟩ (allIn_iff.2 h4)

/-- Is a set closed under equations? -/
def Closed (S : Name → Prop) (eqs : List Eqn) : Prop := ∀ q ∈ eqs, (q.left ≠ [] → (∀ u ∈ q.rights, S u) → S q.left) ∧ (q.right ≠ [] → (∀ u ∈ q.lefts, S u) → S q.right)

theorem just_min {S : Name → Prop} {eqs : List Eqn} (hS : Closed S eqs) : ∀ {e f : List Name}, Just eqs f e → (∀ v ∈ f, S v) → ∀ v ∈ f ++ e, S v
  | [], f, _, h => by simpa using h
  | v :: e, f, hj, h => by
    obtain ⟨q, hq, ht⟩ := hj [] v e rfl
    rw [List.append_nil] at ht
    obtain ⟨h1, h2, h3⟩ := take_some ht
    have hv : S v := by
      rcases h3 with ⟨rfl, h3⟩ | ⟨rfl, h3⟩
      · exact (hS q hq).1 h2 fun u hu => h u (h3 u hu)
      · exact (hS q hq).2 h2 fun u hu => h u (h3 u hu)
    have := just_min hS (e := e) (f := f ++ [v]) (fun p w s he => by
      obtain ⟨q', g1, g2⟩ := hj (v :: p) w s (by simp [he])
      exact ⟨q', g1, by simpa using g2⟩) (fun u hu => by
      rcases List.mem_append.1 hu with hu | hu
      · exact h u hu
      · simp at hu; subst hu; exact hv)
    simpa using this
theorem just_nodup {eqs : List Eqn} : ∀ {e f : List Name}, Just eqs f e → f.Nodup → (f ++ e).Nodup
  | [], f, _, h => by simpa using h
  | v :: e, f, hj, h => by
    obtain ⟨q, hq, ht⟩ := hj [] v e rfl
    rw [List.append_nil] at ht
    obtain ⟨h1, _, _⟩ := take_some ht
    have := just_nodup (e := e) (f := f ++ [v]) (fun p w s he => by
      obtain ⟨q', g1, g2⟩ := hj (v :: p) w s (by simp [he])
      exact ⟨q', g1, by simpa using g2⟩) (by
      rw [List.nodup_append]
      refine ⟨h, by simp, fun a ha b hb => ?_⟩
      simp at hb; subst hb; intro e; subst e; exact h1 ha)
    simpa using this

/-- What is limited: it holds what is found first; it is closed; it is the least such; each once. -/
theorem goRounds_spec {eqs : List Eqn} (hw : ∀ q ∈ eqs, q.wf) (f : List Name) :
    (∀ v ∈ f, v ∈ goRounds f eqs) ∧ Closed (· ∈ goRounds f eqs) eqs ∧ (∀ S : Name → Prop, Closed S eqs → (∀ v ∈ f, S v) → ∀ v ∈ goRounds f eqs, S v) ∧ (f.Nodup → (goRounds f eqs).Nodup) := by
  obtain ⟨e, h1, h2⟩ := goRounds_just f eqs
  refine ⟨fun v hv => by rw [h1]; simp [hv], fun q hq => take_none (goRounds_closed hw f eqs (Waits.refl f eqs) q hq), fun S hS hf => by rw [h1]; exact just_min hS h2 hf, fun hn => by rw [h1]; exact just_nodup h2 hn⟩

end Go.Ped

/- What a body limits, on: plain words for CheckRules, CheckFixed and CheckTurned; no program in sight. -/
namespace Go.Proofs.YtiomojlcnemnhaaGreatDoor
open Go.Fx Go.RowKit Go.Ped

theorem mem_addAll : ∀ {l acc : List Name} {v : Name}, v ∈ addAll acc l ↔ v ∈ acc ∨ v ∈ l
  | [], acc, v => by simp [addAll]
  | u :: l, acc, v => by
    rw [addAll, mem_addAll, List.mem_cons]
    by_cases h : acc.contains u = true
    · rw [if_pos h]
      constructor
      · rintro (h1 | h1)
        · exact .inl h1
        · exact .inr (.inr h1)
      · rintro (h1 | rfl | h1)
        · exact .inl h1
        · exact .inl (by simpa using h)
        · exact .inr h1
    · rw [if_neg h]
      simp only [List.mem_append, List.mem_singleton]
      constructor
      · rintro ((h1 | h1) | h1)
        · exact .inl h1
        · exact .inr (.inl h1)
        · exact .inr (.inr h1)
      · rintro (h1 | h1 | h1)
        · exact .inl (.inl h1)
        · exact .inl (.inr h1)
        · exact .inr h1
theorem addAll_nodup : ∀ {l acc : List Name}, acc.Nodup → (addAll acc l).Nodup
  | [], acc, h => h
  | u :: l, acc, h => by
    rw [addAll]
    refine addAll_nodup ?_
    by_cases hc : acc.contains u = true
    · rw [if_pos hc]; exact h
    · rw [if_neg hc, List.nodup_append]
      refine ⟨h, by simp, fun a ha b hb e => ?_⟩
      simp only [List.mem_singleton] at hb
      subst hb; subst e
      exact hc (by simpa using ha)
theorem mem_atomsOn : ∀ {l : List Lit} {acc : List Name} {v : Name}, v ∈ atomsOn acc l ↔ v ∈ acc ∨ ∃ x ∈ l, x.kind = 1 ∧ v ∈ tmVars x.l
  | [], acc, v => by simp [atomsOn]
  | x :: l, acc, v => by
    rw [atomsOn, mem_atomsOn]
    by_cases h : x.kind = 1
    · rw [if_pos h, mem_addAll]
      constructor
      · rintro ((h1 | h1) | ⟨y, h1, h2⟩)
        · exact .inl h1
        · exact .inr ⟨x, List.mem_cons_self .., h, h1⟩
        · exact .inr ⟨y, List.mem_cons_of_mem _ h1, h2⟩
      · rintro (h1 | ⟨y, h1, h2⟩)
        · exact .inl (.inl h1)
        · rcases List.mem_cons.1 h1 with rfl | h1
          · exact .inl (.inr h2.2)
          · exact .inr ⟨y, h1, h2⟩
    · rw [if_neg h]
      constructor
      · rintro (h1 | ⟨y, h1, h2⟩)
        · exact .inl h1
        · exact .inr ⟨y, List.mem_cons_of_mem _ h1, h2⟩
      · rintro (h1 | ⟨y, h1, h2⟩)
        · exact .inl h1
        · rcases List.mem_cons.1 h1 with rfl | h1
          · exact absurd h2.1 h
          · exact .inr ⟨y, h1, h2⟩
theorem atomsOn_nodup : ∀ {l : List Lit} {acc : List Name}, acc.Nodup → (atomsOn acc l).Nodup
  | [], acc, h => h
  | x :: l, acc, h => by
    rw [atomsOn]
    refine atomsOn_nodup ?_
    split
    · exact addAll_nodup h
    · exact h

theorem goRounds_nil (f : List Name) : goRounds f [] = f := by
  rw [goRounds]; rfl
theorem limits_spec (l : List Lit) : (∀ v ∈ atomsOn [] l, v ∈ limitsOf l) ∧ Closed (· ∈ limitsOf l) (eqsOf l) ∧ (∀ S : Name → Prop, Closed S (eqsOf l) → (∀ v ∈ atomsOn [] l, S v) → ∀ v ∈ limitsOf l, S v) ∧ (limitsOf l).Nodup := by
  obtain ⟨h1, h2, h3, h4⟩ := goRounds_spec (eqs_wf l) (atomsOn [] l)
  exact ⟨h1, h2, h3, h4 (atomsOn_nodup List.nodup_nil)⟩
theorem mem_eqsOf {q : Eqn} {l : List Lit} : q ∈ eqsOf l ↔ ∃ x ∈ l, isEqn x = true ∧ eqnOf x = q :=
  ⟨eqsOf_mem, fun ⟨x, h1, h2, h3⟩ => by subst h3; exact List.mem_map_of_mem (List.mem_filter.2 ⟨h1, h2⟩)⟩
theorem nodup_len {α : Type} [DecidableEq α] : ∀ {l m : List α}, l.Nodup → (∀ v ∈ l, v ∈ m) → l.length ≤ m.length
  | [], _, _, _ => Nat.zero_le _
  | a :: l, m, hn, h => by
    have g := List.nodup_cons.1 hn
    have ha := h a (List.mem_cons_self ..)
    have h1 := nodup_len (l := l) (m := m.erase a) g.2 fun v hv => (List.mem_erase_of_ne (fun e => g.1 (by rw [← e]; exact hv))).2 (h v (List.mem_cons_of_mem _ hv))
    have h2 := List.length_erase_of_mem ha
    have h3 := List.length_pos_of_mem ha
    simp only [List.length_cons]
    omega
/-- Does an equation of the body give this variable, if these have been found? -/
def equated (l : List Lit) (v : Name) (f : List Name) : Bool :=
  l.any fun x => isEqn x && ((loneOf x.left != [] && loneOf x.left == v && allIn (tmVars x.right.terms) f) || (loneOf x.right != [] && loneOf x.right == v && allIn (tmVars x.left.terms) f))
theorem equated_iff {l : List Lit} {v : Name} {f : List Name} : equated l v f = true ↔ v ≠ [] ∧ ∃ q ∈ eqsOf l, (q.left = v ∧ ∀ u ∈ q.rights, u ∈ f) ∨ (q.right = v ∧ ∀ u ∈ q.lefts, u ∈ f) := by
  unfold equated
  simp only [List.any_eq_true, Bool.and_eq_true, Bool.or_eq_true, bne_iff_ne, ne_eq, beq_iff_eq, allIn_iff]
  constructor
  · rintro ⟨x, hx, he, h⟩
    refine ⟨?_, eqnOf x, mem_eqsOf.2 ⟨x, hx, he, rfl⟩, ?_⟩
    · rcases h with ⟨⟨h1, h2⟩, _⟩ | ⟨⟨h1, h2⟩, _⟩
      · rw [← h2]; exact h1
      · rw [← h2]; exact h1
    · rcases h with ⟨⟨_, h2⟩, h3⟩ | ⟨⟨_, h2⟩, h3⟩
      · exact .inl ⟨h2, h3⟩
      · exact .inr ⟨h2, h3⟩
  · rintro ⟨hv, q, hq, h⟩
    obtain ⟨x, hx, he, rfl⟩ := mem_eqsOf.1 hq
    refine ⟨x, hx, he, ?_⟩
    rcases h with ⟨h1, h2⟩ | ⟨h1, h2⟩
    · have h1 : loneOf x.left = v := h1
      exact .inl ⟨⟨by rw [h1]; exact hv, h1⟩, h2⟩
    · have h1 : loneOf x.right = v := h1
      exact .inr ⟨⟨by rw [h1]; exact hv, h1⟩, h2⟩
/-- Each has its reason ahead. -/
theorem limits_just (l : List Lit) : ∃ e, limitsOf l = atomsOn [] l ++ e ∧ ∀ p v s, e = p ++ v :: s → equated l v (atomsOn [] l ++ p) = true := by
  obtain ⟨e, h1, h2⟩ := goRounds_just (atomsOn [] l) (eqsOf l)
  refine ⟨e, h1, fun p v s he => ?_⟩
  obtain ⟨q, hq, ht⟩ := h2 p v s he
  obtain ⟨_, hv, h⟩ := take_some ht
  refine equated_iff.2 ⟨hv, q, hq, ?_⟩
  rcases h with ⟨g1, g2⟩ | ⟨g1, g2⟩
  · exact .inl ⟨g1.symm, g2⟩
  · exact .inr ⟨g1.symm, g2⟩
theorem limits_at (l : List Lit) (i : Nat) (h : i < (limitsOf l).length) : (limitsOf l)[i] ∉ (limitsOf l).take i ∧ ((limitsOf l)[i] ∈ atomsOn [] l ∨ equated l (limitsOf l)[i] ((limitsOf l).take i) = true) := by
  obtain ⟨_, _, _, hn⟩ := limits_spec l
  obtain ⟨e, h1, h2⟩ := limits_just l
  refine ⟨fun hm => ?_, ?_⟩
  · obtain ⟨j, hj, he⟩ := List.mem_take_iff_getElem.1 hm
    have := (List.getElem_inj (h₀ := by omega) (h₁ := h) hn).1 he
    omega
  · generalize limitsOf l = L at *
    subst h1
    by_cases hi : i < (atomsOn [] l).length
    · exact .inl (by rw [List.getElem_append_left hi]; exact List.getElem_mem hi)
    · right
      have hi' : i - (atomsOn [] l).length < e.length := by simp at h; omega
      have hs := h2 (e.take (i - (atomsOn [] l).length)) e[i - (atomsOn [] l).length] (e.drop (i - (atomsOn [] l).length + 1)) (by rw [← List.drop_eq_getElem_cons hi', List.take_append_drop])
      rw [List.getElem_append_right (by omega), List.take_append, List.take_of_length_le (by omega)]
      exact hs

/-- The error of a rule, as it is; does it make values? -/
def ruleErr (r : Rule) : Int := if ruleOk r then (if allIn (tmVars r.terms) (limitsOf r.body) then 0 else 73) else 40
end Go.Proofs.YtiomojlcnemnhaaGreatDoor

/- Functions of the seat, as the small language has them. -/
namespace Go.Proofs.YtiomojlcnemnhaaGreatDoor
open Go.Fx

/-- pedigree/check.Rule -/
def ic85 : IC :=
 (.seq
 (.region [1] [] [0, 1, 3, 7, 15, 2] [
 ⟨(some 1), (.box 29 (.t 0)), none, none⟩,
 ⟨(some 2), (.move (.k (rI .i64 0))), none, none⟩])
 (.seq
 (.seq
 (.region [] [] [0, 1, 3, 7, 15, 2] [
 ⟨(some 4), (.load (some 3) (.t 1)), none, none⟩,
 ⟨(some 5), (.callp (.k (rF 93)) [(.t 4)]), none, none⟩,
 ⟨(some 3), (.move (.t 5)), none, none⟩])
 (.seq
 (.region [] [] [0, 1, 3, 7, 15, 2] [
 ⟨(some 6), (.move (.t 3)), none, none⟩,
 ⟨(some 7), (.bin .neq (.t 6) (.k (rI .i64 0))), none, none⟩])
 (.cond (.t 7)
 (.seq
 (.region [] [] [0, 1, 3, 7, 15, 2] [
 ⟨(some 8), (.move (.t 3)), none, none⟩,
 ⟨(some 2), (.move (.t 8)), none, none⟩])
 .ret)
 .skip)))
 (.seq
 (.seq
 (.region [] [] [0, 1, 3, 7, 15, 2] [
 ⟨(some 9), (.faddr 2 (.t 1)), none, none⟩,
 ⟨(some 10), (.load none (.t 9)), none, none⟩,
 ⟨(some 11), (.call (.k (rF 94)) [(.t 10)]), none, (some [7, 9, 22])⟩,
 ⟨(some 12), (.load (some 3) (.t 1)), none, (some [1])⟩,
 ⟨(some 13), (.callp (.k (rF 96)) [(.t 12)]), none, none⟩,
 ⟨(some 14), (.call (.k (rF 95)) [(.t 11), (.t 13)]), none, (some [7, 9, 22])⟩,
 ⟨(some 15), (.un .not (.t 14)), none, none⟩])
 (.cond (.t 15)
 (.seq
 (.region [] [] [0, 1, 3, 7, 15, 2] [
 ⟨(some 2), (.move (.k (rI .i64 73))), none, none⟩])
 .ret)
 .skip))
 (.seq
 (.region [] [] [0, 1, 3, 7, 15, 2] [
 ⟨(some 2), (.move (.k (rI .i64 0))), none, none⟩])
 .ret))))
def ir85 : List IRes := [.tmp 2]
theorem ie85 : cmpFunc Go.Proofs.Tryz.prog ⟨[(11, (some [7, 9, 22])), (12, (some [1])), (14, (some [7, 9, 22])), (11, none), (14, none)], []⟩ Go.Proofs.Tryz.f26 [0, 1, 3, 7, 15, 2] = some ic85 := by kernel_rfl
theorem ig85 : cmpRes Go.Proofs.Tryz.prog Go.Proofs.Tryz.f26.results.toList = some ir85 := by kernel_rfl

end Go.Proofs.YtiomojlcnemnhaaGreatDoor

/- Contracts, on: may a rule be used? -/
namespace Go.Proofs.YtiomojlcnemnhaaGreatDoor
open Go.Fx Go.RowKit Go.Ped
variable {G : World → Prop}

theorem c155 (acc l : List Name) (sp : Sp) (hl : l.length ≤ maxLen) :
    MeetsV Tryz.prog G (fnA 95) [.one (.ref 9 0 0), .one (.c (.sl (l.map nmRow) sp))] (hp (OF 9 7 22 acc) (UF 22 acc) F0) (rB (allIn l acc)) (hp (OF 9 7 22 acc) (UF 22 acc) F0) := by
  have h := (((MeetsV.of_fun (m155 (G := G) acc l sp hl)).ren (π := swR 10009 9)).ren (π := swR 10007 7)).ren (π := swR 10022 22)
  simp [swF, thr_ren] at h
  simpa using h

/-- A rule that is not too great. -/
def Rule.fit (r : Rule) : Prop := r.small 1048576 ∧ (∀ x ∈ r.body, x.fit) ∧ r.terms.length ≤ 1048576 ∧ (r.body.map fun x => x.l.length).sum ≤ 10000000

theorem m85 (r : Rule) (hr : r.fit) : Meets Tryz.prog G 26 [.agg r.row] (.x (.one (cI .i64 (ruleErr r)))) := by
  obtain ⟨hs, hf, hl, hb⟩ := hr
  refine meets Tryz.func26 ie85 ig85 (Nat.le_of_ble_eq_true rfl) ?_
  have hv := tmVars_len r.terms
  simp [ic85, ir85]
  refine call_of (m66 r hs (by omega)) ?_
  simp
  by_cases hk : ruleOk r = true
  · simp [hk]
    refine r_callN [7, 9, 22] _ _ [] [] _ (OF 9 7 22 (limitsOf r.body)) (UF 22 (limitsOf r.body)) (MeetsV.of_fun (m121 r.body r.bsp hf hs.2.1 hb)) rfl rfl rfl (by simp) (by simp) (by simp) ?_
    simp
    refine call_of (m68 r hs (by omega)) ?_
    simp
    refine r_callN [7, 9, 22] _ _ (OF 9 7 22 (limitsOf r.body)) (UF 22 (limitsOf r.body)) _ (OF 9 7 22 (limitsOf r.body)) (UF 22 (limitsOf r.body)) (c155 _ (tmVars r.terms) [] (by unfold maxLen; omega)) rfl rfl rfl (by simp [X.fits, A.fits]) (by simp) (by simp) ?_
    simp
    refine condI_of (fun h => ?_) (fun h => ?_)
    · simp at h
      simp [ruleErr, hk, h]
    · simp at h
      simp [ruleErr, hk, h]
  · simp [hk, ruleErr]
end Go.Proofs.YtiomojlcnemnhaaGreatDoor

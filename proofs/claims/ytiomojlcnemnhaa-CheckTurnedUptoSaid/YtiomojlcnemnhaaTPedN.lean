/- Plain words for the variables that a body limits, on: they are the least that hold what is found first and are closed under the equations; each is told once, behind its reason. -/
import Derived.Test.YtiomojlcnemnhaaTFxWd
namespace Go.Ped

/-- Each one of a list behind a first part has its reason ahead of it. -/
def Just (l : List Eqn) (f e : List Name) : Prop := ∀ p v s, e = p ++ v :: s → ∃ q ∈ l, take (f ++ p) q = some v

theorem Just.nil {l : List Eqn} {f : List Name} : Just l f [] := fun p v s h => by simp at h
theorem Just.cons {l : List Eqn} {f e : List Name} {v : Name} {q : Eqn} (hq : q ∈ l) (ht : take f q = some v) (h : Just l (f ++ [v]) e) : Just l f (v :: e) := by
  intro p w s he
  cases p with
  | nil => simp at he; obtain ⟨rfl, rfl⟩ := he; exact ⟨q, hq, by simpa using ht⟩
  | cons u p =>
    simp at he
    obtain ⟨rfl, rfl⟩ := he
    obtain ⟨q', h1, h2⟩ := h p w s rfl
    exact ⟨q', h1, by simpa using h2⟩
theorem Just.append {l : List Eqn} : ∀ {e f e' : List Name}, Just l f e → Just l (f ++ e) e' → Just l f (e ++ e')
  | [], f, e', _, h => by simpa using h
  | v :: e, f, e', h, h' => by
    obtain ⟨q, hq, ht⟩ := h [] v e rfl
    refine Just.cons hq (by simpa using ht) (Just.append (fun p w s he => ?_) (by simpa using h'))
    obtain ⟨q', g1, g2⟩ := h (v :: p) w s (by simp [he])
    exact ⟨q', g1, by simpa using g2⟩
theorem Just.mono {l l' : List Eqn} {f e : List Name} (h : Just l f e) (hs : ∀ q ∈ l, q ∈ l') : Just l' f e := fun p v s he => by
  obtain ⟨q, h1, h2⟩ := h p v s he
  exact ⟨q, hs q h1, h2⟩

theorem goRound_just : ∀ (w : List Eqn) (f : List Name), ∃ e, (goRound f w).1 = f ++ e ∧ Just w f e
  | [], f => ⟨[], by simp [goRound], .nil⟩
  | q :: w, f => by
    simp only [goRound]
    cases ht : take f q with
    | some v =>
      obtain ⟨e, h1, h2⟩ := goRound_just w (f ++ [v])
      exact ⟨v :: e, by simp only [h1]; simp, .cons (List.mem_cons_self ..) ht (h2.mono fun q hq => List.mem_cons_of_mem _ hq)⟩
    | none =>
      obtain ⟨e, h1, h2⟩ := goRound_just w f
      exact ⟨e, h1, h2.mono fun q hq => List.mem_cons_of_mem _ hq⟩

theorem goRound_sub : ∀ (w : List Eqn) (f : List Name), ∀ q ∈ (goRound f w).2, q ∈ w
  | [], f, q, h => by simp [goRound] at h
  | p :: w, f, q, h => by
    simp only [goRound] at h
    split at h
    · exact List.mem_cons_of_mem _ (goRound_sub w _ q h)
    · rcases List.mem_cons.1 h with rfl | h
      · exact List.mem_cons_self ..
      · exact List.mem_cons_of_mem _ (goRound_sub w _ q h)

theorem goRounds_just (f : List Name) (w : List Eqn) : ∃ e, goRounds f w = f ++ e ∧ Just w f e := by
  induction hn : w.length using Nat.strongRecOn generalizing f w with
  | ind n ih =>
    obtain ⟨e, h1, h2⟩ := goRound_just w f
    unfold goRounds
    split
    · rename_i hlt
      obtain ⟨e', g1, g2⟩ := ih _ (hn ▸ hlt) (goRound f w).1 (goRound f w).2 rfl
      refine ⟨e ++ e', by rw [g1, h1, List.append_assoc], h2.append ?_⟩
      rw [h1] at g2
      exact g2.mono (goRound_sub w f)
    · exact ⟨e, h1, h2⟩

theorem goRound_stable : ∀ (w : List Eqn) (f : List Name), (goRound f w).2.length = w.length → (goRound f w).1 = f ∧ ∀ q ∈ w, take f q = none
  | [], f, _ => ⟨rfl, fun q h => by cases h⟩
  | p :: w, f, h => by
    simp only [goRound] at h ⊢
    cases ht : take f p with
    | some v =>
      rw [ht] at h
      have := goRound_le w (f ++ [v])
      simp at h; omega
    | none =>
      rw [ht] at h
      obtain ⟨h1, h2⟩ := goRound_stable w f (by simpa using h)
      refine ⟨h1, fun q hq => ?_⟩
      rcases List.mem_cons.1 hq with rfl | hq
      · exact ht
      · exact h2 q hq

theorem Waits.none {f : List Name} {eqs w : List Eqn} (h : Waits f eqs w) : (∀ q ∈ w, take f q = none) → ∀ q ∈ eqs, take f q = none := by
  induction h with
  | nil => intro _ q hq; cases hq
  | keep h ih =>
    intro g q hq
    rcases List.mem_cons.1 hq with rfl | hq
    · exact g _ (List.mem_cons_self ..)
    · exact ih (fun p hp => g p (List.mem_cons_of_mem _ hp)) q hq
  | gone hd h ih =>
    intro g q hq
    rcases List.mem_cons.1 hq with rfl | hq
    · exact hd _ fun _ hv => hv
    · exact ih g q hq

/-- No equation gives one more. -/
theorem goRounds_closed {eqs : List Eqn} (hw : ∀ q ∈ eqs, q.wf) (f : List Name) (w : List Eqn) (h : Waits f eqs w) : ∀ q ∈ eqs, take (goRounds f w) q = none := by
  induction hn : w.length using Nat.strongRecOn generalizing f w with
  | ind n ih =>
    obtain ⟨h1, h2⟩ := round_same h (fun _ hv => hv) hw
    unfold goRounds
    split
    · rename_i hlt
      exact ih _ (hn ▸ hlt) _ _ h2 rfl
    · rename_i hge
      have hle := goRound_le w f
      obtain ⟨g1, g2⟩ := goRound_stable w f (by omega)
      rw [g1]
      exact h.none g2

theorem take_some {f : List Name} {q : Eqn} {v : Name} (h : take f q = some v) : v ∉ f ∧ v ≠ [] ∧ ((v = q.left ∧ ∀ u ∈ q.rights, u ∈ f) ∨ (v = q.right ∧ ∀ u ∈ q.lefts, u ∈ f)) := by
  unfold take at h
  split at h
  · rename_i hc
    simp only [Bool.and_eq_true, bne_iff_ne, ne_eq, Bool.not_eq_true', List.contains_eq_mem, decide_eq_false_iff_not] at hc
    injection h with h; subst h
    exact ⟨hc.1.2, hc.1.1, .inl ⟨rfl, allIn_iff.1 hc.2⟩⟩
  · split at h
    · rename_i hc
      simp only [Bool.and_eq_true, bne_iff_ne, ne_eq, Bool.not_eq_true', List.contains_eq_mem, decide_eq_false_iff_not] at hc
      injection h with h; subst h
      exact ⟨hc.1.2, hc.1.1, .inr ⟨rfl, allIn_iff.1 hc.2⟩⟩
    · cases h
theorem take_none {f : List Name} {q : Eqn} (h : take f q = none) : (q.left ≠ [] → (∀ u ∈ q.rights, u ∈ f) → q.left ∈ f) ∧ (q.right ≠ [] → (∀ u ∈ q.lefts, u ∈ f) → q.right ∈ f) := by
  unfold take at h
  split at h
  · cases h
  · rename_i h1
    split at h
    · cases h
    · rename_i h2
      simp only [Bool.and_eq_true, bne_iff_ne, ne_eq, Bool.not_eq_true', List.contains_eq_mem, decide_eq_false_iff_not, not_and] at h1 h2
      refine ⟨fun h3 h4 => Classical.byContradiction fun h5 => ?_, fun h3 h4 => Classical.byContradiction fun h5 => ?_⟩
      · exact h1 ⟨h3, h5⟩ (allIn_iff.2 h4)
      · exact h2 ⟨h3, h5⟩ (allIn_iff.2 h4)

/-- Is a set closed under equations? -/
def Closed (S : Name → Prop) (eqs : List Eqn) : Prop := ∀ q ∈ eqs, (q.left ≠ [] → (∀ u ∈ q.rights, S u) → S q.left) ∧ (q.right ≠ [] → (∀ u ∈ q.lefts, S u) → S q.right)

theorem just_min {S : Name → Prop} {eqs : List Eqn} (hS : Closed S eqs) : ∀ {e f : List Name}, Just eqs f e → (∀ v ∈ f, S v) → ∀ v ∈ f ++ e, S v
  | [], f, _, h => by simpa using h
  | v :: e, f, hj, h => by
    obtain ⟨q, hq, ht⟩ := hj [] v e rfl
    rw [List.append_nil] at ht
    obtain ⟨h1, h2, h3⟩ := take_some ht
    have hv : S v := by
      rcases h3 with ⟨rfl, h3⟩ | ⟨rfl, h3⟩
      · exact (hS q hq).1 h2 fun u hu => h u (h3 u hu)
      · exact (hS q hq).2 h2 fun u hu => h u (h3 u hu)
    have := just_min hS (e := e) (f := f ++ [v]) (fun p w s he => by
      obtain ⟨q', g1, g2⟩ := hj (v :: p) w s (by simp [he])
      exact ⟨q', g1, by simpa using g2⟩) (fun u hu => by
      rcases List.mem_append.1 hu with hu | hu
      · exact h u hu
      · simp at hu; subst hu; exact hv)
    simpa using this
theorem just_nodup {eqs : List Eqn} : ∀ {e f : List Name}, Just eqs f e → f.Nodup → (f ++ e).Nodup
  | [], f, _, h => by simpa using h
  | v :: e, f, hj, h => by
    obtain ⟨q, hq, ht⟩ := hj [] v e rfl
    rw [List.append_nil] at ht
    obtain ⟨h1, _, _⟩ := take_some ht
    have := just_nodup (e := e) (f := f ++ [v]) (fun p w s he => by
      obtain ⟨q', g1, g2⟩ := hj (v :: p) w s (by simp [he])
      exact ⟨q', g1, by simpa using g2⟩) (by
      rw [List.nodup_append]
      refine ⟨h, by simp, fun a ha b hb => ?_⟩
      simp at hb; subst hb; intro e; subst e; exact h1 ha)
    simpa using this

/-- What is limited: it holds what is found first; it is closed; it is the least such; each once. -/
theorem goRounds_spec {eqs : List Eqn} (hw : ∀ q ∈ eqs, q.wf) (f : List Name) :
    (∀ v ∈ f, v ∈ goRounds f eqs) ∧ Closed (· ∈ goRounds f eqs) eqs ∧ (∀ S : Name → Prop, Closed S eqs → (∀ v ∈ f, S v) → ∀ v ∈ goRounds f eqs, S v) ∧ (f.Nodup → (goRounds f eqs).Nodup) := by
  obtain ⟨e, h1, h2⟩ := goRounds_just f eqs
  refine ⟨fun v hv => by rw [h1]; simp [hv], fun q hq => take_none (goRounds_closed hw f eqs (Waits.refl f eqs) q hq), fun S hS hf => by rw [h1]; exact just_min hS h2 hf, fun hn => by rw [h1]; exact just_nodup h2 hn⟩

end Go.Ped

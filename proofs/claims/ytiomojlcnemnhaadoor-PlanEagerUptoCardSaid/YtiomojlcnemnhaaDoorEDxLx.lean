import Derived.Test.YtiomojlcnemnhaaDoorEDxW5
import Derived.Test.YtiomojlcnemnhaaDoorEDxZ4
import Derived.Test.YtiomojlcnemnhaaDoorEDxLu
namespace Go.Ped
def Just (l : List Eqn) (f e : List Name) : Prop := ∀ p v s, e = p ++ v :: s → ∃ q ∈ l, take (f ++ p) q = some v
theorem Just.nil {l : List Eqn} {f : List Name} : Just l f [] := fun p v s h => by simp at h
theorem Just.cons {l : List Eqn} {f e : List Name} {v : Name} {q : Eqn} (hq : q ∈ l) (ht : take f q = some v) (h : Just l (f ++ [v]) e) : Just l f (v :: e) := by
  intro p w s he
  cases p with
  | nil => simp at he; obtain ⟨rfl, rfl⟩ := he; exact ⟨q, hq, by simpa using ht⟩
  | cons u p =>
    simp at he
    obtain ⟨rfl, rfl⟩ := he
    obtain ⟨q', h1, h2⟩ := h p w s rfl
    exact ⟨q', h1, by simpa using h2⟩
theorem Just.append {l : List Eqn} : ∀ {e f e' : List Name}, Just l f e → Just l (f ++ e) e' → Just l f (e ++ e')
  | [], f, e', _, h => by simpa using h
  | v :: e, f, e', h, h' => by
    obtain ⟨q, hq, ht⟩ := h [] v e rfl
    refine Just.cons hq (by simpa using ht) (Just.append (fun p w s he => ?_) (by simpa using h'))
    obtain ⟨q', g1, g2⟩ := h (v :: p) w s (by simp [he])
    exact ⟨q', g1, by simpa using g2⟩
theorem Just.mono {l l' : List Eqn} {f e : List Name} (h : Just l f e) (hs : ∀ q ∈ l, q ∈ l') : Just l' f e := fun p v s he => by
  obtain ⟨q, h1, h2⟩ := h p v s he
  exact ⟨q, hs q h1, h2⟩
theorem goRound_just : ∀ (w : List Eqn) (f : List Name), ∃ e, (goRound f w).1 = f ++ e ∧ Just w f e
  | [], f => ⟨[], by simp [goRound], .nil⟩
  | q :: w, f => by
    simp only [goRound]
    cases ht : take f q with
    | some v =>
      obtain ⟨e, h1, h2⟩ := goRound_just w (f ++ [v])
      exact ⟨v :: e, by simp only [h1]; simp, .cons (List.mem_cons_self ..) ht (h2.mono fun q hq => List.mem_cons_of_mem _ hq)⟩
    | none =>
      obtain ⟨e, h1, h2⟩ := goRound_just w f
      exact ⟨e, h1, h2.mono fun q hq => List.mem_cons_of_mem _ hq⟩
theorem goRound_sub : ∀ (w : List Eqn) (f : List Name), ∀ q ∈ (goRound f w).2, q ∈ w
  | [], f, q, h => by simp [goRound] at h
  | p :: w, f, q, h => by
    simp only [goRound] at h
    split at h
    · exact List.mem_cons_of_mem _ (goRound_sub w _ q h)
    · rcases List.mem_cons.1 h with rfl | h
      · exact List.mem_cons_self ..
      · exact List.mem_cons_of_mem _ (goRound_sub w _ q h)
theorem goRounds_just (f : List Name) (w : List Eqn) : ∃ e, goRounds f w = f ++ e ∧ Just w f e := by
  induction hn : w.length using Nat.strongRecOn generalizing f w with
  | ind n ih =>
    obtain ⟨e, h1, h2⟩ := goRound_just w f
    unfold goRounds
    split
    · rename_i hlt
      obtain ⟨e', g1, g2⟩ := ih _ (hn ▸ hlt) (goRound f w).1 (goRound f w).2 rfl
      refine ⟨e ++ e', by rw [g1, h1, List.append_assoc], h2.append ?_⟩
      rw [h1] at g2
      exact g2.mono (goRound_sub w f)
    · exact ⟨e, h1, h2⟩
theorem goRound_stable : ∀ (w : List Eqn) (f : List Name), (goRound f w).2.length = w.length → (goRound f w).1 = f ∧ ∀ q ∈ w, take f q = none
  | [], f, _ => ⟨rfl, fun q h => by cases h⟩
  | p :: w, f, h => by
    simp only [goRound] at h ⊢
    cases ht : take f p with
    | some v =>
      rw [ht] at h
      have := goRound_le w (f ++ [v])
      simp at h; omega
    | none =>
      rw [ht] at h
      obtain ⟨h1, h2⟩ := goRound_stable w f (by simpa using h)
      refine ⟨h1, fun q hq => ?_⟩
      rcases List.mem_cons.1 hq with rfl | hq
      · exact ht
      · exact h2 q hq
theorem Waits.none {f : List Name} {eqs w : List Eqn} (h : Waits f eqs w) : (∀ q ∈ w, take f q = none) → ∀ q ∈ eqs, take f q = none := by
  induction h with
  | nil => intro _ q hq; cases hq
  | keep h ih =>
    intro g q hq
    rcases List.mem_cons.1 hq with rfl | hq
    · exact g _ (List.mem_cons_self ..)
    · exact ih (fun p hp => g p (List.mem_cons_of_mem _ hp)) q hq
  | gone hd h ih =>
    intro g q hq
    rcases List.mem_cons.1 hq with rfl | hq
    · exact hd _ fun _ hv => hv
    · exact ih g q hq
theorem goRounds_closed {eqs : List Eqn} (hw : ∀ q ∈ eqs, q.wf) (f : List Name) (w : List Eqn) (h : Waits f eqs w) : ∀ q ∈ eqs, take (goRounds f w) q = none := by
  induction hn : w.length using Nat.strongRecOn generalizing f w with
  | ind n ih =>
    obtain ⟨h1, h2⟩ := round_same h (fun _ hv => hv) hw
    unfold goRounds
    split
    · rename_i hlt
      exact ih _ (hn ▸ hlt) _ _ h2 rfl
    · rename_i hge
      have hle := goRound_le w f
      obtain ⟨g1, g2⟩ := goRound_stable w f (by omega)
      rw [g1]
      exact h.none g2
theorem take_some {f : List Name} {q : Eqn} {v : Name} (h : take f q = some v) : v ∉ f ∧ v ≠ [] ∧ ((v = q.left ∧ ∀ u ∈ q.rights, u ∈ f) ∨ (v = q.right ∧ ∀ u ∈ q.lefts, u ∈ f)) := by
  unfold take at h
  split at h
  · rename_i hc
    simp only [Bool.and_eq_true, bne_iff_ne, ne_eq, Bool.not_eq_true', List.contains_eq_mem, decide_eq_false_iff_not] at hc
    injection h with h; subst h
    exact ⟨hc.1.2, hc.1.1, .inl ⟨rfl, allIn_iff.1 hc.2⟩⟩
  · split at h
    · rename_i hc
      simp only [Bool.and_eq_true, bne_iff_ne, ne_eq, Bool.not_eq_true', List.contains_eq_mem, decide_eq_false_iff_not] at hc
      injection h with h; subst h
      exact ⟨hc.1.2, hc.1.1, .inr ⟨rfl, allIn_iff.1 hc.2⟩⟩
    · cases h
theorem take_none {f : List Name} {q : Eqn} (h : take f q = none) : (q.left ≠ [] → (∀ u ∈ q.rights, u ∈ f) → q.left ∈ f) ∧ (q.right ≠ [] → (∀ u ∈ q.lefts, u ∈ f) → q.right ∈ f) := by
  unfold take at h
  split at h
  · cases h
  · rename_i h1
    split at h
    · cases h
    · rename_i h2
      simp only [Bool.and_eq_true, bne_iff_ne, ne_eq, Bool.not_eq_true', List.contains_eq_mem, decide_eq_false_iff_not, not_and] at h1 h2
      refine ⟨fun h3 h4 => Classical.byContradiction fun h5 => ?_, fun h3 h4 => Classical.byContradiction fun h5 => ?_⟩
      · exact h1 ⟨h3, h5⟩ (allIn_iff.2 h4)
      · exact h2 ⟨h3, h5⟩ (allIn_iff.2 h4)
def Closed (S : Name → Prop) (eqs : List Eqn) : Prop := ∀ q ∈ eqs, (q.left ≠ [] → (∀ u ∈ q.rights, S u) → S q.left) ∧ (q.right ≠ [] → (∀ u ∈ q.lefts, S u) → S q.right)
theorem just_min {S : Name → Prop} {eqs : List Eqn} (hS : Closed S eqs) : ∀ {e f : List Name}, Just eqs f e → (∀ v ∈ f, S v) → ∀ v ∈ f ++ e, S v
  | [], f, _, h => by simpa using h
  | v :: e, f, hj, h => by
    obtain ⟨q, hq, ht⟩ := hj [] v e rfl
    rw [List.append_nil] at ht
    obtain ⟨h1, h2, h3⟩ := take_some ht
    have hv : S v := by
      rcases h3 with ⟨rfl, h3⟩ | ⟨rfl, h3⟩
      · exact (hS q hq).1 h2 fun u hu => h u (h3 u hu)
      · exact (hS q hq).2 h2 fun u hu => h u (h3 u hu)
    have := just_min hS (e := e) (f := f ++ [v]) (fun p w s he => by
      obtain ⟨q', g1, g2⟩ := hj (v :: p) w s (by simp [he])
      exact ⟨q', g1, by simpa using g2⟩) (fun u hu => by
      rcases List.mem_append.1 hu with hu | hu
      · exact h u hu
      · simp at hu; subst hu; exact hv)
    simpa using this
theorem just_nodup {eqs : List Eqn} : ∀ {e f : List Name}, Just eqs f e → f.Nodup → (f ++ e).Nodup
  | [], f, _, h => by simpa using h
  | v :: e, f, hj, h => by
    obtain ⟨q, hq, ht⟩ := hj [] v e rfl
    rw [List.append_nil] at ht
    obtain ⟨h1, _, _⟩ := take_some ht
    have := just_nodup (e := e) (f := f ++ [v]) (fun p w s he => by
      obtain ⟨q', g1, g2⟩ := hj (v :: p) w s (by simp [he])
      exact ⟨q', g1, by simpa using g2⟩) (by
      rw [List.nodup_append]
      refine ⟨h, by simp, fun a ha b hb => ?_⟩
      simp at hb; subst hb; intro e; subst e; exact h1 ha)
    simpa using this
theorem goRounds_spec {eqs : List Eqn} (hw : ∀ q ∈ eqs, q.wf) (f : List Name) :
    (∀ v ∈ f, v ∈ goRounds f eqs) ∧ Closed (· ∈ goRounds f eqs) eqs ∧ (∀ S : Name → Prop, Closed S eqs → (∀ v ∈ f, S v) → ∀ v ∈ goRounds f eqs, S v) ∧ (f.Nodup → (goRounds f eqs).Nodup) := by
  obtain ⟨e, h1, h2⟩ := goRounds_just f eqs
  refine ⟨fun v hv => by rw [h1]; simp [hv], fun q hq => take_none (goRounds_closed hw f eqs (Waits.refl f eqs) q hq), fun S hS hf => by rw [h1]; exact just_min hS h2 hf, fun hn => by rw [h1]; exact just_nodup h2 hn⟩
end Go.Ped

namespace Go.Proofs.YtiomojlcnemnhaaDoor
open Go.Fx Go.RowKit Go.Ped
theorem mem_addAll : ∀ {l acc : List Name} {v : Name}, v ∈ addAll acc l ↔ v ∈ acc ∨ v ∈ l
  | [], acc, v => by simp [addAll]
  | u :: l, acc, v => by
    rw [addAll, mem_addAll, List.mem_cons]
    by_cases h : acc.contains u = true
    · rw [if_pos h]
      constructor
      · rintro (h1 | h1)
        · exact .inl h1
        · exact .inr (.inr h1)
      · rintro (h1 | rfl | h1)
        · exact .inl h1
        · exact .inl (by simpa using h)
        · exact .inr h1
    · rw [if_neg h]
      simp only [List.mem_append, List.mem_singleton]
      constructor
      · rintro ((h1 | h1) | h1)
        · exact .inl h1
        · exact .inr (.inl h1)
        · exact .inr (.inr h1)
      · rintro (h1 | h1 | h1)
        · exact .inl (.inl h1)
        · exact .inl (.inr h1)
        · exact .inr h1
theorem addAll_nodup : ∀ {l acc : List Name}, acc.Nodup → (addAll acc l).Nodup
  | [], acc, h => h
  | u :: l, acc, h => by
    rw [addAll]
    refine addAll_nodup ?_
    by_cases hc : acc.contains u = true
    · rw [if_pos hc]; exact h
    · rw [if_neg hc, List.nodup_append]
      refine ⟨h, by simp, fun a ha b hb e => ?_⟩
      simp only [List.mem_singleton] at hb
      subst hb; subst e
      exact hc (by simpa using ha)
theorem mem_atomsOn : ∀ {l : List Lit} {acc : List Name} {v : Name}, v ∈ atomsOn acc l ↔ v ∈ acc ∨ ∃ x ∈ l, x.kind = 1 ∧ v ∈ tmVars x.l
  | [], acc, v => by simp [atomsOn]
  | x :: l, acc, v => by
    rw [atomsOn, mem_atomsOn]
    by_cases h : x.kind = 1
    · rw [if_pos h, mem_addAll]
      constructor
      · rintro ((h1 | h1) | ⟨y, h1, h2⟩)
        · exact .inl h1
        · exact .inr ⟨x, List.mem_cons_self .., h, h1⟩
        · exact .inr ⟨y, List.mem_cons_of_mem _ h1, h2⟩
      · rintro (h1 | ⟨y, h1, h2⟩)
        · exact .inl (.inl h1)
        · rcases List.mem_cons.1 h1 with rfl | h1
          · exact .inl (.inr h2.2)
          · exact .inr ⟨y, h1, h2⟩
    · rw [if_neg h]
      constructor
      · rintro (h1 | ⟨y, h1, h2⟩)
        · exact .inl h1
        · exact .inr ⟨y, List.mem_cons_of_mem _ h1, h2⟩
      · rintro (h1 | ⟨y, h1, h2⟩)
        · exact .inl h1
        · rcases List.mem_cons.1 h1 with rfl | h1
          · exact absurd h2.1 h
          · exact .inr ⟨y, h1, h2⟩
theorem atomsOn_nodup : ∀ {l : List Lit} {acc : List Name}, acc.Nodup → (atomsOn acc l).Nodup
  | [], acc, h => h
  | x :: l, acc, h => by
    rw [atomsOn]
    refine atomsOn_nodup ?_
    split
    · exact addAll_nodup h
    · exact h
theorem limits_spec (l : List Lit) : (∀ v ∈ atomsOn [] l, v ∈ limitsOf l) ∧ Closed (· ∈ limitsOf l) (eqsOf l) ∧ (∀ S : Name → Prop, Closed S (eqsOf l) → (∀ v ∈ atomsOn [] l, S v) → ∀ v ∈ limitsOf l, S v) ∧ (limitsOf l).Nodup := by
  obtain ⟨h1, h2, h3, h4⟩ := goRounds_spec (eqs_wf l) (atomsOn [] l)
  exact ⟨h1, h2, h3, h4 (atomsOn_nodup List.nodup_nil)⟩
theorem mem_eqsOf {q : Eqn} {l : List Lit} : q ∈ eqsOf l ↔ ∃ x ∈ l, isEqn x = true ∧ eqnOf x = q :=
  ⟨eqsOf_mem, fun ⟨x, h1, h2, h3⟩ => by subst h3; exact List.mem_map_of_mem (List.mem_filter.2 ⟨h1, h2⟩)⟩
theorem nodup_len {α : Type} [DecidableEq α] : ∀ {l m : List α}, l.Nodup → (∀ v ∈ l, v ∈ m) → l.length ≤ m.length
  | [], _, _, _ => Nat.zero_le _
  | a :: l, m, hn, h => by
    have g := List.nodup_cons.1 hn
    have ha := h a (List.mem_cons_self ..)
    have h1 := nodup_len (l := l) (m := m.erase a) g.2 fun v hv => (List.mem_erase_of_ne (fun e => g.1 (by rw [← e]; exact hv))).2 (h v (List.mem_cons_of_mem _ hv))
    have h2 := List.length_erase_of_mem ha
    have h3 := List.length_pos_of_mem ha
    simp only [List.length_cons]
    omega
end Go.Proofs.YtiomojlcnemnhaaDoor

namespace Go.Proofs.YtiomojlcnemnhaaDoor
open Go.Fx Go.RowKit Go.Ped
theorem mem_tmVarsL {v : Name} {l : List Tm} : v ∈ tmVars l ↔ Ped.isVar v = true ∧ v ∈ l.map Tm.v := by
  show v ∈ varsOn [] _ ↔ _
  rw [mem_varsOn]
  constructor
  · rintro (h | h)
    · cases h
    · exact h
  · exact .inr
theorem tmVars_sub {l m : List Tm} (h : ∀ t ∈ l, t ∈ m) {v : Name} (hv : v ∈ tmVars l) : v ∈ tmVars m := by
  rw [mem_tmVarsL] at hv ⊢
  obtain ⟨h1, h2⟩ := hv
  obtain ⟨t, ht, rfl⟩ := List.mem_map.1 h2
  exact ⟨h1, List.mem_map_of_mem (h t ht)⟩
theorem lit_kind {x : Lit} (h : litOk x = true) : x.kind = 1 ∨ x.kind = 2 ∨ x.kind = 3 := by
  unfold litOk at h
  split at h
  · rename_i hk; rcases hk with hk | hk
    · exact .inl hk
    · exact .inr (.inl hk)
  · split at h
    · exact .inr (.inr ‹_›)
    · cases h
end Go.Proofs.YtiomojlcnemnhaaDoor

namespace Go.Proofs.YtiomojlcnemnhaaDoor
open Go.Fx Go.RowKit Go.Ped
def atomAt (body : List Lit) (j : Nat) : Bool := match body[j]? with | some x => decide (x.kind = 1) | none => false
def okAt (body : List Lit) (ns : List Name) (j : Nat) : Bool := match body[j]? with | some x => (stepOf ns x j).2 | none => false
def stepAt (body : List Lit) (ns : List Name) (j : Nat) : Stp := match body[j]? with | some x => (stepOf ns x j).1 | none => ⟨0, 0, 0, []⟩
theorem atomAt_at {body : List Lit} {j : Nat} {x : Lit} (h : body[j]? = some x) : atomAt body j = decide (x.kind = 1) := by unfold atomAt; rw [h]
theorem okAt_at {body : List Lit} {ns : List Name} {j : Nat} {x : Lit} (h : body[j]? = some x) : okAt body ns j = (stepOf ns x j).2 := by unfold okAt; rw [h]
theorem stepAt_at {body : List Lit} {ns : List Name} {j : Nat} {x : Lit} (h : body[j]? = some x) : stepAt body ns j = (stepOf ns x j).1 := by unfold stepAt; rw [h]
theorem ok_atom {ns : List Name} {x : Lit} {i : Nat} (h : x.kind = 1) : (stepOf ns x i).2 = true := by unfold stepOf; rw [if_pos h]
theorem step_lit (ns : List Name) (x : Lit) (i : Nat) : (stepOf ns x i).1.lit = i := by
  unfold stepOf
  split
  · rfl
  · split
    · rfl
    · split
      · rfl
      · split <;> rfl
theorem runOn_spec (body : List Lit) (ns : List Name) : ∀ (l : List Nat) (pos : Int), l.Pairwise (· < ·) → (∀ i ∈ l, i < body.length) →
    (∃ i p, runOn body ns l pos = (some i, p) ∧ i ∈ l ∧ atomAt body i = false ∧ okAt body ns i = true ∧ ∀ j ∈ l, j < i → atomAt body j = false → okAt body ns j = false) ∨
    (∃ p, runOn body ns l pos = (none, p) ∧ (∀ j ∈ l, atomAt body j = false → okAt body ns j = false) ∧ (0 ≤ pos → p = pos) ∧ (pos < 0 → (p = pos ∧ ∀ j ∈ l, atomAt body j = false) ∨ ∃ i ∈ l, p = (i : Int) ∧ atomAt body i = true ∧ ∀ j ∈ l, atomAt body j = true → i ≤ j))
  | [], pos, _, _ => .inr ⟨pos, rfl, by simp, fun _ => rfl, fun _ => .inl ⟨rfl, by simp⟩⟩
  | i :: l, pos, hs, hin => by
    obtain ⟨hs1, hs2⟩ := List.pairwise_cons.1 hs
    have hi : i < body.length := hin i (List.mem_cons_self ..)
    have hx : body[i]? = some body[i] := List.getElem?_eq_getElem hi
    have hin' : ∀ j ∈ l, j < body.length := fun j hj => hin j (List.mem_cons_of_mem _ hj)
    rw [runOn, hx]
    simp only
    by_cases hk : body[i].kind = 1
    · rw [if_pos hk]
      have ha : atomAt body i = true := by rw [atomAt_at hx]; simpa using hk
      rcases runOn_spec body ns l (if pos < 0 then i else pos) hs2 hin' with ⟨k, p, h1, h2, h3, h4, h5⟩ | ⟨p, h1, h2, h3, h4⟩
      · refine .inl ⟨k, p, h1, List.mem_cons_of_mem _ h2, h3, h4, fun j hj hlt haj => ?_⟩
        rcases List.mem_cons.1 hj with rfl | hj
        · rw [ha] at haj; cases haj
        · exact h5 j hj hlt haj
      · refine .inr ⟨p, h1, fun j hj haj => ?_, fun hp => ?_, fun hp => .inr ?_⟩
        · rcases List.mem_cons.1 hj with rfl | hj
          · rw [ha] at haj; cases haj
          · exact h2 j hj haj
        · rw [if_neg (by omega)] at h3
          exact h3 hp
        · rw [if_pos hp] at h3
          refine ⟨i, List.mem_cons_self .., h3 (by omega), ha, fun j hj _ => ?_⟩
          rcases List.mem_cons.1 hj with rfl | hj
          · exact Nat.le_refl _
          · exact Nat.le_of_lt (hs1 j hj)
    · rw [if_neg hk]
      have ha : atomAt body i = false := by rw [atomAt_at hx]; simpa using hk
      by_cases ho : (stepOf ns body[i] i).2 = true
      · rw [if_pos ho]
        refine .inl ⟨i, pos, rfl, List.mem_cons_self .., ha, by rw [okAt_at hx]; exact ho, fun j hj hlt _ => ?_⟩
        rcases List.mem_cons.1 hj with rfl | hj
        · omega
        · have := hs1 j hj; omega
      · rw [if_neg ho]
        have hno : okAt body ns i = false := by rw [okAt_at hx]; simpa using ho
        rcases runOn_spec body ns l pos hs2 hin' with ⟨k, p, h1, h2, h3, h4, h5⟩ | ⟨p, h1, h2, h3, h4⟩
        · refine .inl ⟨k, p, h1, List.mem_cons_of_mem _ h2, h3, h4, fun j hj hlt haj => ?_⟩
          rcases List.mem_cons.1 hj with rfl | hj
          · exact hno
          · exact h5 j hj hlt haj
        · refine .inr ⟨p, h1, fun j hj haj => ?_, h3, fun hp => ?_⟩
          · rcases List.mem_cons.1 hj with rfl | hj
            · exact hno
            · exact h2 j hj haj
          · rcases h4 hp with ⟨e, h⟩ | ⟨k, hk1, hk2, hk3, hk4⟩
            · refine .inl ⟨e, fun j hj => ?_⟩
              rcases List.mem_cons.1 hj with rfl | hj
              · exact ha
              · exact h j hj
            · refine .inr ⟨k, List.mem_cons_of_mem _ hk1, hk2, hk3, fun j hj haj => ?_⟩
              rcases List.mem_cons.1 hj with rfl | hj
              · rw [ha] at haj; cases haj
              · exact hk4 j hj haj
theorem bitsOf_sorted (m : Nat) : (bitsOf m).Pairwise (· < ·) := List.Pairwise.filter _ List.pairwise_lt_range
theorem next_spec {body : List Lit} (ns : List Name) {m : Nat} (hin : ∀ i ∈ bitsOf m, i < body.length) :
    (nextL body ns m < 0 ∧ ∀ j ∈ bitsOf m, atomAt body j = false ∧ okAt body ns j = false) ∨
    ∃ i ∈ bitsOf m, nextL body ns m = i ∧ ((atomAt body i = true ∧ (∀ j ∈ bitsOf m, atomAt body j = false → okAt body ns j = false) ∧ ∀ j ∈ bitsOf m, atomAt body j = true → i ≤ j) ∨
      (atomAt body i = false ∧ okAt body ns i = true ∧ ∀ j ∈ bitsOf m, j < i → atomAt body j = false → okAt body ns j = false)) := by
  unfold nextL
  rcases runOn_spec body ns (bitsOf m) (-1) (bitsOf_sorted m) hin with ⟨i, p, h1, h2, h3, h4, h5⟩ | ⟨p, h1, h2, _, h4⟩
  · rw [h1]
    exact .inr ⟨i, h2, rfl, .inr ⟨h3, h4, h5⟩⟩
  · rw [h1]
    rcases h4 (by omega) with ⟨rfl, h⟩ | ⟨i, hi1, rfl, hi3, hi4⟩
    · exact .inl ⟨by simp, fun j hj => ⟨h j hj, h2 j hj (h j hj)⟩⟩
    · exact .inr ⟨i, hi1, rfl, .inl ⟨hi3, h2, hi4⟩⟩
structure At (r : Rule) (ks : List Name) (m : Nat) (ns : List Name) : Prop where
  lt : m < 2 ^ 24
  inn : ∀ i ∈ bitsOf m, i < r.body.length
  kn : ∀ v ∈ ks, v ∈ ns
  done : ∀ j (h : j < r.body.length), j ∉ bitsOf m → ∀ v ∈ tmVars r.body[j].terms, v ∈ ns
  from_ : ∀ v ∈ ns, v ∈ ks ∨ ∃ j, ∃ h : j < r.body.length, j ∉ bitsOf m ∧ v ∈ tmVars r.body[j].terms
theorem clr_bits {m i j : Nat} (hi : i < 24) : j ∈ bitsOf (clr m i) ↔ j ∈ bitsOf m ∧ j ≠ i := by
  unfold bitsOf
  rw [List.mem_filter, List.mem_filter, List.mem_range]
  constructor
  · rintro ⟨h1, h2⟩
    rw [clr_bit hi (by omega)] at h2
    simp only [Bool.and_eq_true, decide_eq_true_eq] at h2
    exact ⟨⟨h1, h2.1⟩, fun e => h2.2 e.symm⟩
  · rintro ⟨⟨h1, h2⟩, h3⟩
    refine ⟨h1, ?_⟩
    rw [clr_bit hi (by omega), h2]
    simpa using fun e => h3 e.symm
theorem clr_len {m i : Nat} (h : i ∈ bitsOf m) : (bitsOf (clr m i)).length + 1 = (bitsOf m).length := by
  have hi := (bitsOf_mem h).1
  have e : bitsOf (clr m i) = (bitsOf m).erase i := by
    have hnd : (bitsOf m).Nodup := (bitsOf_sorted m).imp fun h => Nat.ne_of_lt h
    rw [hnd.erase_eq_filter]
    unfold bitsOf
    rw [List.filter_filter]
    refine List.filter_congr fun j hj => ?_
    rw [clr_bit hi (by have := List.mem_range.1 hj; omega), Bool.and_comm]
    congr 1
    by_cases e : i = j
    · subst e; simp
    · have : ¬ j = i := fun h => e h.symm
      simp [e, this]
  rw [e, List.length_erase_of_mem h]
  have := List.length_pos_of_mem h
  omega
theorem bits_none {m : Nat} (hm : m < 2 ^ 24) (h : m ≠ 0) : ∃ i, i ∈ bitsOf m := by
  obtain ⟨k, hk, h1, _⟩ := low_ex h hm
  exact ⟨k, List.mem_filter.2 ⟨List.mem_range.2 hk, h1⟩⟩
theorem At.step {r : Rule} {ks : List Name} {m : Nat} {ns : List Name} (h : At r ks m ns) (hlit : ∀ x ∈ r.body, litOk x = true) {i : Nat} (hi : i ∈ bitsOf m) (ho : okAt r.body ns i = true) : At r ks (clr m i) (learnOn ns (stepAt r.body ns i).gives) := by
  have hil := h.inn i hi
  have hx : r.body[i]? = some r.body[i] := List.getElem?_eq_getElem hil
  have h24 := (bitsOf_mem hi).1
  rw [okAt_at hx] at ho
  rw [stepAt_at hx]
  obtain ⟨g1, _, g3⟩ := step_gives_ok ns (lit_kind (hlit _ (List.getElem_mem hil))) i ho
  refine ⟨clr_lt h.lt, fun j hj => h.inn j ((clr_bits h24).1 hj).1, fun v hv => (learnOn_mem _ _ _).2 (.inl (h.kn v hv)), fun j hj hn v hv => ?_, fun v hv => ?_⟩
  · by_cases e : j = i
    · subst e
      rcases g3 v hv with h | h
      · exact (learnOn_mem _ _ _).2 (.inl (by simpa using h))
      · exact (learnOn_mem _ _ _).2 (.inr h)
    · exact (learnOn_mem _ _ _).2 (.inl (h.done j hj (fun hm => hn ((clr_bits h24).2 ⟨hm, e⟩)) v hv))
  · rcases (learnOn_mem _ _ _).1 hv with hv | hv
    · exact (h.from_ v hv).imp id fun ⟨j, hj, h1, h2⟩ => ⟨j, hj, fun hm => h1 ((clr_bits h24).1 hm).1, h2⟩
    · exact .inr ⟨i, hil, fun hm => ((clr_bits h24).1 hm).2 rfl, (g1 v hv).1⟩
end Go.Proofs.YtiomojlcnemnhaaDoor

namespace Go.Proofs
def Tryd.lays219_ren : Go.Shelf.Ren := ⟨fun | 41 => 219 | n => n, fun | 22 => 45 | 23 => 47 | 4 => 4 | n => n, fun | n => n⟩
theorem Tryd.lays219 : Go.Proofs.SlLaysE0.n41 Tryd.prog Tryd.lays219_ren := {
  mixed := by kernel_rfl
  f41 := ⟨Tryd.f219.name, by decide, Tryd.func219.trans (congrArg some (by kernel_rfl))⟩
  t4 := Tryd.underlying4
  a4 := Tryd.isAgg4
  z4 := Tryd.sizeOf4
  v4 := Tryd.zeroValue4
  t22 := Tryd.underlying45
  a22 := Tryd.isAgg45
  z22 := Tryd.sizeOf45
  v22 := Tryd.zeroValue45 }
end Go.Proofs
namespace Go.Proofs.YtiomojlcnemnhaaDoor
open Go.Fx Go.RowKit Go.Ped
theorem clone219 (l : List Ex) (sp : Sp) (hl : l.length ≤ 1048576) {V : Nat → Nat → Prop} {w : World} {v : Value} (hv : RepC V w (.sl (l.map Ex.row) sp) v) :
    Calls Tryd.prog 219 #[v] w fun e w' => ∃ v' xs, e = .returned v' ∧ w'.ownsRow w.heap.size 47 6 v' l.length xs ∧ All2 (RepC V w) (l.map Ex.row).flatten xs ∧ Below w.heap.size w w' := by
  obtain ⟨i0, z, hi, hz0, hz1, hz2, hzs⟩ := info_of 47 6 80 (by kernel_rfl) (by kernel_rfl) (by kernel_rfl)
  have h := clone_any Tryd.lays219 i0 z 6 80 hi hz0 hz1 hz2 hzs (by decide) (fun w => Tryd.sizeOf47 w) (l.map Ex.row) sp (fun r hr => by obtain ⟨t, _, rfl⟩ := List.mem_map.1 hr; exact Ex.row_length _) (by rw [List.length_map]; omega) hv
  rw [List.length_map] at h
  exact h
def NewV (N : Nat) (v : Value) (w : World) : Nat → Nat → Prop := fun b _ => N ≤ b ∧ b ∉ svB v ∧ b < w.heap.size
structure OwnAt (X0 X1 : Obj) (kids : List Ex) (xs : List Value) (kv : Value) (w0 w : World) (N i : Nat) (ys : List Value) : Prop where
  le : i ≤ kids.length
  n0 : w.heap[N]? = some X0
  n1 : w.heap[N + 1]? = some X1
  row : w.ownsRow (N + 2) 47 6 kv kids.length (ys ++ xs.drop (i * 6))
  rep : All2 (RepC (NewV (N + 2) kv w) w) ((kids.take i).map fun k => k.bare.row).flatten ys
  below : Below N w0 w
theorem OwnAt.len {X0 X1 : Obj} {kids : List Ex} {xs : List Value} {kv : Value} {w0 w : World} {N i : Nat} {ys : List Value} (h : OwnAt X0 X1 kids xs kv w0 w N i ys) : ys.length = i * 6 := by
  rw [← h.rep.1, length_flatten (s := 6) _ (fun q hq => by obtain ⟨y, _, rfl⟩ := List.mem_map.1 hq; exact Ex.row_length _), List.length_map, List.length_take, Nat.min_eq_left h.le]
theorem own_step {X0 X1 : Obj} {kids : List Ex} {xs : List Value} {kv : Value} {w0 wr w4 w5 : World} {N i : Nat} {ys us : List Value} {g : Nat} (h : OwnAt X0 X1 kids xs kv w0 wr N i ys) (hlt : i < kids.length) (hg : g ∈ svB kv) (hg2 : ∀ c ∈ svB kv, c = g)
    (h4 : Below wr.heap.size wr w4) (hu : All2 (RepC (fun b _ => wr.heap.size ≤ b ∧ b < w4.heap.size) w4) kids[i].bare.row us) (h5 : KeptBut (fun c => c = g) w4 w5) (hrow : w5.ownsRow (N + 2) 47 6 kv kids.length (ys ++ us ++ xs.drop ((i + 1) * 6))) : OwnAt X0 X1 kids xs kv w0 w5 N (i + 1) (ys ++ us) := by
  have hgb : N + 2 ≤ g ∧ g < wr.heap.size := ownsRow_block h.row g (svB_mem.1 hg)
  have s4 := h4.size
  have s5 := h5.size
  have hk : ∀ b, b < wr.heap.size → b ≠ g → w5.heap[b]? = wr.heap[b]? := fun b hb hne => by rw [h5.block b (by omega) hne, h4.block b hb]
  refine ⟨hlt, ?_, ?_, hrow, ?_, ?_⟩
  · rw [hk N (by omega) (by omega)]; exact h.n0
  · rw [hk (N + 1) (by omega) (by omega)]; exact h.n1
  · rw [List.take_succ_eq_append_getElem hlt, List.map_append, List.flatten_append]
    refine All2.append (h.rep.imp fun c u _ hc => RepC.mono (fun b o hb => ⟨hb.1, hb.2.1, by have := hb.2.2; omega⟩) (fun b o hb => ?_) hc) ?_
    · simp only [World.cell?, hk b hb.2.2 (fun e => hb.2.1 (e ▸ hg))]
    · rw [List.map_singleton, List.flatten_singleton]
      refine hu.imp fun c u _ hc => RepC.mono (fun b o hb => ⟨by omega, fun hm => ?_, by omega⟩) (fun b o hb => ?_) hc
      · simp only [World.cell?, h5.block b hb.2 (by omega)]
      · have := hg2 b hm; omega
  · exact ⟨by rw [h5.os, h4.os, h.below.os], by rw [h5.tape, h4.tape, h.below.tape], by rw [h5.output, h4.output, h.below.output], by have := h.below.size; omega, fun b hb => by rw [hk b (by omega) (by omega), h.below.block b hb]⟩
theorem svB_sl {ad : Option Addr} {n c g : Nat} (h : g ∈ svB (.slice ad n c)) : ∀ b ∈ svB (.slice ad n c), b = g := by
  intro b hb
  have h1 := svB_mem.1 h
  have h2 := svB_mem.1 hb
  rw [h1] at h2
  exact (Option.some.inj h2).symm
theorem ex_cells_of {V : Nat → Nat → Prop} {w : World} {e : Ex} {us : List Value} (h : All2 (RepC V w) e.row us) : ∃ v, us = exCells e v ∧ KidsRep V w e v := by
  rw [Ex.row_eq] at h
  obtain ⟨_, _, rfl, b1, h⟩ := h.head
  obtain ⟨_, _, rfl, b2, h⟩ := h.head
  obtain ⟨_, _, rfl, b3, h⟩ := h.head
  obtain ⟨_, _, rfl, b4, h⟩ := h.head
  obtain ⟨_, _, rfl, b5, h⟩ := h.head
  obtain ⟨v, _, rfl, b6, h⟩ := h.head
  obtain rfl := h.nil_left
  cases b1; cases b2; cases b3; cases b4; cases b5
  exact ⟨v, rfl, b6⟩
theorem ex_cells_rep {V : Nat → Nat → Prop} {w : World} {e : Ex} {v : Value} (h : KidsRep V w e v) : All2 (RepC V w) e.row (exCells e v) := by
  rw [Ex.row_eq]
  exact .cons (.v _ rfl) (.cons (.v _ rfl) (.cons (.v _ rfl) (.cons (.v _ rfl) (.cons (.v _ rfl) (.cons h .nil)))))
theorem bare_op (e : Ex) : e.bare.op = e.op := by cases e; rw [Ex.bare_mk]; rfl
theorem bare_t (e : Ex) : e.bare.t = e.t := by cases e; rw [Ex.bare_mk]; rfl
theorem bare_kids (e : Ex) : e.bare.kids = e.kids.map Ex.bare := by cases e; rw [Ex.bare_mk]; rfl
theorem bare_sp (e : Ex) : e.bare.sp = [] := by cases e; rw [Ex.bare_mk]; rfl
theorem exCells_bare (e : Ex) (v : Value) : exCells e.bare v = exCells e v := by unfold exCells; rw [bare_op, bare_t]
def OwnAns (w : World) (e : Ex) (r : Ending) (w' : World) : Prop := ∃ ad k c, r = .returned (.agg #[.int .i8 e.op, .string (bs e.t.v), .int .i8 e.t.x.k, .int .i64 e.t.x.n, .string (bs e.t.x.s), .slice ad k c]) ∧ KidsRep (fun b _ => w.heap.size ≤ b ∧ b < w'.heap.size) w' e.bare (.slice ad k c) ∧ Below w.heap.size w w'
set_option maxRecDepth 100000 in
set_option maxHeartbeats 4000000 in
theorem own_calls : ∀ (e : Ex), e.small 1048576 → ∀ (w : World) (V : Nat → Nat → Prop) (ad : Option Addr) (k c : Nat), (∀ b o, V b o → b < w.heap.size) → KidsRep V w e (.slice ad k c) →
    Calls Tryd.prog 198 #[.agg #[.int .i8 e.op, .string (bs e.t.v), .int .i8 e.t.x.k, .int .i64 e.t.x.n, .string (bs e.t.x.s), .slice ad k c]] w (OwnAns w e) := by
  refine Ex.ind fun op t kids sp ih hsm w V ad k cap hV hrep => ?_
  obtain ⟨hkl, hks⟩ := Ex.small_mk.1 hsm
  obtain rfl : k = kids.length := by
    obtain ⟨_, _, he⟩ := kids_slice hrep
    injection he
  have o1 : (Value.slice ad kids.length cap).oneCell' = true := rfl
  have k2 : Below w.heap.size w ((w.alloc (.cells #[.int .i8 op, .string (bs t.v), .int .i8 t.x.k, .int .i64 t.x.n, .string (bs t.x.s), .slice ad kids.length cap] 47)).alloc (.cells #[Value.int IntKind.i8 0, Value.string { data := #[] }, Value.int IntKind.i8 0, Value.int IntKind.i64 0, Value.string { data := #[] }, Value.slice none 0 0] 47)) := Below.alloc (Below.alloc (Below.refl _ _) (Nat.le_refl _) _) (by rw [alloc_size]; omega) _
  show Calls Tryd.prog 198 #[.agg #[.int .i8 op, .string (bs t.v), .int .i8 t.x.k, .int .i64 t.x.n, .string (bs t.x.s), .slice ad kids.length cap]] w _
  go_enter Tryd.func198, Tryd.ntmps198
  go_wp2_with fail
  have hN0 : ((w.alloc (.cells #[.int .i8 op, .string (bs t.v), .int .i8 t.x.k, .int .i64 t.x.n, .string (bs t.x.s), .slice ad kids.length cap] 47)).alloc (.cells #[Value.int IntKind.i8 0, Value.string { data := #[] }, Value.int IntKind.i8 0, Value.int IntKind.i64 0, Value.string { data := #[] }, Value.slice none 0 0] 47)).heap[w.heap.size]? = some (.cells #[.int .i8 op, .string (bs t.v), .int .i8 t.x.k, .int .i64 t.x.n, .string (bs t.x.s), .slice ad kids.length cap] 47 (0, 0)) := by
    rw [alloc_heap, if_neg (by rw [alloc_size]; omega), alloc_heap, if_pos rfl]
  have hN1 : ((w.alloc (.cells #[.int .i8 op, .string (bs t.v), .int .i8 t.x.k, .int .i64 t.x.n, .string (bs t.x.s), .slice ad kids.length cap] 47)).alloc (.cells #[Value.int IntKind.i8 0, Value.string { data := #[] }, Value.int IntKind.i8 0, Value.int IntKind.i64 0, Value.string { data := #[] }, Value.slice none 0 0] 47)).heap[w.heap.size + 1]? = some (.cells #[Value.int IntKind.i8 0, Value.string { data := #[] }, Value.int IntKind.i8 0, Value.int IntKind.i64 0, Value.string { data := #[] }, Value.slice none 0 0] 47 (0, 0)) := by
    rw [alloc_heap, if_pos (by rw [alloc_size])]
  have hNs : ((w.alloc (.cells #[.int .i8 op, .string (bs t.v), .int .i8 t.x.k, .int .i64 t.x.n, .string (bs t.x.s), .slice ad kids.length cap] 47)).alloc (.cells #[Value.int IntKind.i8 0, Value.string { data := #[] }, Value.int IntKind.i8 0, Value.int IntKind.i64 0, Value.string { data := #[] }, Value.slice none 0 0] 47)).heap.size = w.heap.size + 2 := by
    rw [alloc_size, alloc_size]
  generalize (w.alloc (.cells #[.int .i8 op, .string (bs t.v), .int .i8 t.x.k, .int .i64 t.x.n, .string (bs t.x.s), .slice ad kids.length cap] 47)).alloc (.cells #[Value.int IntKind.i8 0, Value.string { data := #[] }, Value.int IntKind.i8 0, Value.int IntKind.i64 0, Value.string { data := #[] }, Value.slice none 0 0] 47) = wa at *
  have hrep' : RepC V w (.sl (kids.map Ex.row) sp) (.slice ad kids.length cap) := hrep
  refine (clone219 kids sp hkl (RepC.mono (fun _ _ h => h) (fun b o h => below_cell k2 (hV b o h) o) hrep')).mono ?_
  rintro e wb ⟨kv, xs, rfl, hrow, hxs, kb⟩
  rw [hNs] at hrow kb
  obtain ⟨kva, kvc, rfl, _⟩ := ownsRow_len hrow
  have hbN : wb.heap[w.heap.size]? = some (.cells ([Value.int .i8 op, .string (bs t.v), .int .i8 t.x.k, .int .i64 t.x.n, .string (bs t.x.s)] ++ Value.slice ad kids.length cap :: []).toArray 47 (0, 0)) := by rw [kb.block _ (by omega), hN0]; rfl
  obtain ⟨g1, g2, g3, g4⟩ := cells_set (n := 5) (v := .slice kva kids.length kvc) rfl hbN
  obtain ⟨wd, hWd⟩ : ∃ x, wb.setCell ⟨w.heap.size, 5, none⟩ (.slice kva kids.length kvc) = x := ⟨_, rfl⟩
  rw [hWd] at g1 g4
  have hc5 : ∀ w' : World, w'.heap[w.heap.size]? = wd.heap[w.heap.size]? → w'.cell? ⟨w.heap.size, 5, none⟩ = some (.slice kva kids.length kvc) := fun w' h => by simp [World.cell?, h, g1]
  have hc5d := hc5 wd rfl
  have hxs0 : All2 (RepC V w) (kids.map Ex.row).flatten xs := hxs.imp fun c u _ h => RepC.mono (fun _ _ h => h) (fun b o h => (below_cell k2 (hV b o h) o).symm) h
  have hoffd : ∀ i, i < wb.heap.size → i ≠ w.heap.size → wd.heap[i]? = wb.heap[i]? := fun i hi hne => g4.block i hi hne
  obtain ⟨X0, hX0⟩ : ∃ X, Obj.cells ([Value.int .i8 op, .string (bs t.v), .int .i8 t.x.k, .int .i64 t.x.n, .string (bs t.x.s)] ++ Value.slice kva kids.length kvc :: []).toArray 47 (0, 0) = X := ⟨_, rfl⟩
  rw [hX0] at g1
  obtain ⟨X1, hX1⟩ : ∃ X, Obj.cells #[Value.int IntKind.i8 0, Value.string { data := #[] }, Value.int IntKind.i8 0, Value.int IntKind.i64 0, Value.string { data := #[] }, Value.slice none 0 0] 47 (0, 0) = X := ⟨_, rfl⟩
  rw [hX1] at hN1
  have hrel0 : OwnAt X0 X1 kids xs (.slice kva kids.length kvc) w wd w.heap.size 0 [] := by
    refine ⟨Nat.zero_le _, g1, ?_, ?_, .nil, ?_⟩
    · rw [hoffd _ (by have := kb.size; omega) (by omega), kb.block _ (by omega), hN1]
    · simp only [List.nil_append, Nat.zero_mul, List.drop_zero]
      exact ownsRow_frame' hrow (by omega) fun g hg => by
        have := ownsRow_block hrow g (svB_mem.1 hg)
        exact hoffd g this.2 (by omega)
    · exact ⟨by rw [g4.os, kb.os, k2.os], by rw [g4.tape, kb.tape, k2.tape], by rw [g4.output, kb.output, k2.output], by have := kb.size; have := g4.size; omega, fun i hi => by rw [hoffd i (by have := kb.size; omega) (by omega), kb.block i (by omega), k2.block i hi]⟩
  go_wp2_with fail
  clear hWd g2 g3 g4 hbN hrow kb hxs hN0 k2 hrep hrep'
  go_loopw [11] (fun n w' => ∃ (i : Nat) (ys : List Value), n = .int .i64 (i : Int) ∧ OwnAt X0 X1 kids xs (.slice kva kids.length kvc) w w' w.heap.size i ys) (fun n _ => match n with | .int _ k => kids.length - k.toNat | _ => 0)
  case atStart => exact ⟨0, [], rfl, hrel0⟩
  case round =>
    obtain ⟨i, ys, rfl, hrel⟩ := hrel
    have hc5r := hc5 wr (by rw [hrel.n0, g1])
    by_cases hlt : i < kids.length
    · have hlt' : (i : Int) < (kids.length : Int) := by omega
      have hsp : (kids.map Ex.row).flatten = ((kids.take i).map Ex.row).flatten ++ (kids[i].row ++ ((kids.drop (i + 1)).map Ex.row).flatten) := by
        conv => lhs; rw [← List.take_append_drop i kids, List.drop_eq_getElem_cons hlt, List.map_append, List.map_cons, List.flatten_append, List.flatten_cons]
      obtain ⟨m3, vk, hdrop, hdrop2, hrk⟩ : ∃ m3 vk, xs.drop (i * 6) = exCells kids[i] vk ++ m3 ∧ xs.drop ((i + 1) * 6) = m3 ∧ KidsRep V w kids[i] vk := by
        rw [hsp] at hxs0
        obtain ⟨m1, m23, rfl, a1, a2⟩ := all2_split hxs0
        obtain ⟨m2, m3, rfl, a3, _⟩ := all2_split a2
        have hl1 : m1.length = i * 6 := by
          rw [← a1.1, length_flatten (s := 6) _ (fun q hq => by obtain ⟨y, _, rfl⟩ := List.mem_map.1 hq; exact Ex.row_length _), List.length_map, List.length_take, Nat.min_eq_left (Nat.le_of_lt hlt)]
        have hl2 : m2.length = 6 := by rw [← a3.1, Ex.row_length]
        obtain ⟨vk, rfl, b1⟩ := ex_cells_of a3
        refine ⟨m3, vk, ?_, ?_, b1⟩
        · rw [List.drop_left' hl1]
        · rw [Nat.add_mul, Nat.one_mul, ← List.append_assoc, List.drop_left' (by rw [List.length_append, hl1, hl2])]
      have hkm : kids[i] ∈ kids := List.getElem_mem hlt
      have hks' := hks _ hkm
      have ihk := ih _ hkm hks'
      generalize hx : kids[i] = x at *
      obtain ⟨vad, vk1, vcp, rfl⟩ : ∃ a k c, vk = .slice a k c := by obtain ⟨a, c, h⟩ := kids_slice hrk; exact ⟨a, _, c, h⟩
      have hylen := hrel.len
      have hrow := hrel.row
      rw [hdrop, ← List.append_assoc] at hrow
      obtain ⟨g, cp, room, hkv, hcap1, hcap2, hg1, hg2, hgw, hback⟩ := ownsRow_mid (by simp [exCells]) hrow
      injection hkv with e1 e2 e3
      subst e1 e3
      have hglt : g < wr.heap.size := (Array.getElem?_eq_some_iff.1 hgw).1
      have hgx : wr.heap[g]? = some (.cells (ys ++ [Value.int .i8 x.op, .string (bs x.t.v), .int .i8 x.t.x.k, .int .i64 x.t.x.n, .string (bs x.t.x.s), .slice vad vk1 vcp] ++ (m3 ++ room)).toArray 47 (0, 0)) := by
        rw [hgw]; rfl
      have hcells : ∀ w', Below wr.heap.size wr w' → w'.cell? ⟨w.heap.size, 5, none⟩ = some (.slice (some ⟨g, 0, none⟩) kids.length kvc) ∧
          w'.cell? ⟨g, i * 6, none⟩ = some (.int .i8 x.op) ∧ w'.cell? ⟨g, i * 6 + 1, none⟩ = some (.string (bs x.t.v)) ∧ w'.cell? ⟨g, i * 6 + 2, none⟩ = some (.int .i8 x.t.x.k) ∧ w'.cell? ⟨g, i * 6 + 3, none⟩ = some (.int .i64 x.t.x.n) ∧ w'.cell? ⟨g, i * 6 + 4, none⟩ = some (.string (bs x.t.x.s)) ∧ w'.cell? ⟨g, i * 6 + 5, none⟩ = some (.slice vad vk1 vcp) := fun w' hw' => by
        have hg' : w'.heap[g]? = wr.heap[g]? := hw'.block g hglt
        have hN' : w'.heap[w.heap.size]? = wd.heap[w.heap.size]? := by rw [hw'.block _ (Array.getElem?_eq_some_iff.1 hrel.n0).1, hrel.n0, g1]
        refine ⟨hc5 w' hN', ?_, ?_, ?_, ?_, ?_, ?_⟩ <;> simp [World.cell?, hg', hgx, List.getElem?_append_right, hylen] <;> rfl
      have hVr : ∀ b o, V b o → ∀ w', Below wr.heap.size wr w' → b < w'.heap.size := fun b o h w' hw' => by have := hV b o h; have := hrel.below.size; have := hw'.size; omega
      have hcall := fun (w' : World) (hw' : Below wr.heap.size wr w') => ihk w' V vad vk1 vcp (fun b o h => hVr b o h w' hw') (RepC.mono (fun _ _ h => h) (fun b o h => by
        have hb := hV b o h
        have := hrel.below.size
        rw [below_cell hw' (show b < wr.heap.size by omega) o, below_cell hrel.below hb o]) hrk)
      have hset := fun (w4 : World) (h4 : Below wr.heap.size wr w4) (a0 a1 a2 a3 a4 a5 : Value) => six_set (W := w4) a0 a1 a2 a3 a4 a5 (i * 6) hylen.symm ((h4.block g hglt).trans hgx)
      obtain ⟨p5, q0, q1, q2, q3, q4, q5⟩ := hcells wr.drew (below_drew wr)
      go_wp2_with fail
      go_region_with (first
        | (go_at_call_of 198 (Value.int IntKind.i8 x.op); refine (hcall _ ?_).mono ?_; exact below_drew wr; rintro e w4 ⟨nad, nk, nc, rfl, hrk4, hb4⟩; have hB4 : Below wr.heap.size wr w4 := (below_drew wr).trans (hb4.mono (Nat.le_refl _)); obtain ⟨p5, q0, q1, q2, q3, q4, q5⟩ := hcells w4 hB4;
            obtain ⟨A1, A2, A3, A4, A5, A6, a1, a2, a3, a4, a5, a6, c1, c2, c3, c4, c5, c6, c7, c8, c9, c10, c11, c12, hfin, hkfin⟩ := hset w4 hB4 (.int .i8 x.op) (.string (bs x.t.v)) (.int .i8 x.t.x.k) (.int .i64 x.t.x.n) (.string (bs x.t.x.s)) (.slice nad nk nc)))
      all_goals
        go_wp2_with fail
        have hstep := own_step (w4 := w4) (us := [.int .i8 x.op, .string (bs x.t.v), .int .i8 x.t.x.k, .int .i64 x.t.x.n, .string (bs x.t.x.s), .slice nad nk nc]) hrel hlt hg2 (svB_sl hg2) hB4 (by rw [hx]; have := ex_cells_rep hrk4; rw [exCells_bare] at this; exact this) hkfin (by rw [hdrop2]; refine hback _ _ rfl ?_; rw [hfin])
        refine ⟨⟨_, _, ?_, hstep⟩, ?_⟩
        · exact congrArg (Value.int .i64) (by omega)
        · show kids.length - ((i : Int) + 1).toNat < kids.length - (i : Int).toNat
          omega
    · obtain rfl : i = kids.length := by have := hrel.le; omega
      have hgt : ¬ (kids.length : Int) < (kids.length : Int) := by omega
      have hn0 := hrel.n0
      have hn1 := hrel.n1
      rw [← hX0] at hn0
      rw [← hX1] at hn1
      have q0 : wr.cell? ⟨w.heap.size, 0, none⟩ = some (.int .i8 op) := by simp [World.cell?, hn0]
      have q1 : wr.cell? ⟨w.heap.size, 1, none⟩ = some (.string (bs t.v)) := by simp [World.cell?, hn0]
      have q2 : wr.cell? ⟨w.heap.size, 2, none⟩ = some (.int .i8 t.x.k) := by simp [World.cell?, hn0]
      have q3 : wr.cell? ⟨w.heap.size, 3, none⟩ = some (.int .i64 t.x.n) := by simp [World.cell?, hn0]
      have q4 : wr.cell? ⟨w.heap.size, 4, none⟩ = some (.string (bs t.x.s)) := by simp [World.cell?, hn0]
      have q5 : wr.cell? ⟨w.heap.size, 5, none⟩ = some (.slice kva kids.length kvc) := by simp [World.cell?, hn0]
      obtain ⟨A1, A2, A3, A4, A5, A6, a1, a2, a3, a4, a5, a6, c1, c2, c3, c4, c5, c6, c7, c8, c9, c10, c11, c12, hfin, hkfin⟩ := six_set (W := wr) (ty := 47) (pre := []) (post := []) (.int .i8 op) (.string (bs t.v)) (.int .i8 t.x.k) (.int .i64 t.x.n) (.string (bs t.x.s)) (.slice kva kids.length kvc) 0 rfl hn1
      simp only [Nat.zero_add] at a2 a3 a4 a5 a6 c3 c4 c5 c6 c7 c8 c9 c10 c11 c12
      have r0 : A6.cell? ⟨w.heap.size + 1, 0, none⟩ = some (.int .i8 op) := by simp [World.cell?, hfin]
      have r1 : A6.cell? ⟨w.heap.size + 1, 1, none⟩ = some (.string (bs t.v)) := by simp [World.cell?, hfin]
      have r2 : A6.cell? ⟨w.heap.size + 1, 2, none⟩ = some (.int .i8 t.x.k) := by simp [World.cell?, hfin]
      have r3 : A6.cell? ⟨w.heap.size + 1, 3, none⟩ = some (.int .i64 t.x.n) := by simp [World.cell?, hfin]
      have r4 : A6.cell? ⟨w.heap.size + 1, 4, none⟩ = some (.string (bs t.x.s)) := by simp [World.cell?, hfin]
      have r5 : A6.cell? ⟨w.heap.size + 1, 5, none⟩ = some (.slice kva kids.length kvc) := by simp [World.cell?, hfin]
      go_wp2_with fail
      simp [bodyPost, results, Tryd.results198, r0, r1, r2, r3, r4, r5, go_sem]
      have hxl : xs.length = kids.length * 6 := by rw [← hxs0.1, length_flatten (s := 6) _ (fun q hq => by obtain ⟨y, _, rfl⟩ := List.mem_map.1 hq; exact Ex.row_length _), List.length_map]
      have hrow := hrel.row
      rw [← hxl, List.drop_length, List.append_nil] at hrow
      have hrep := hrel.rep
      rw [List.take_length] at hrep
      have hsz := hkfin.size
      refine ⟨kva, kids.length, kvc, rfl, ?_, ⟨by rw [hkfin.os, hrel.below.os], by rw [hkfin.tape, hrel.below.tape], by rw [hkfin.output, hrel.below.output], Nat.le_trans hrel.below.size hkfin.size, fun i hi => by rw [hkfin.block i (by have := hrel.below.size; omega) (by omega), hrel.below.block i hi]⟩⟩
      show RepC _ A6 (.sl ((Ex.mk op t kids sp).bare.kids.map Ex.row) (Ex.mk op t kids sp).bare.sp) _
      rw [bare_kids, bare_sp, List.map_map]
      have hlen : (kids.map (Ex.row ∘ Ex.bare)).length = kids.length := List.length_map ..
      refine ownsRow_rep (rows := kids.map (Ex.row ∘ Ex.bare)) (by rw [hlen]; exact ownsRow_frame' hrow (Nat.le_refl _) fun g hg => hkfin.block g (ownsRow_block hrow g (svB_mem.1 hg)).2 (by have := (ownsRow_block hrow g (svB_mem.1 hg)).1; omega)) (fun r hr => by obtain ⟨y, _, rfl⟩ := List.mem_map.1 hr; exact Ex.row_length _) ?_ (fun b hb o => ?_)
      · refine All2.imp hrep fun c u _ hc => RepC.mono (fun b o hb => ⟨by have := hb.1; omega, by have := hb.2.2; omega⟩) (fun b o hb => ?_) hc
        simp only [World.cell?, hkfin.block b hb.2.2 (by have := hb.1; omega)]
      · have := ownsRow_block hrow b hb
        exact ⟨by omega, by omega⟩
end Go.Proofs.YtiomojlcnemnhaaDoor

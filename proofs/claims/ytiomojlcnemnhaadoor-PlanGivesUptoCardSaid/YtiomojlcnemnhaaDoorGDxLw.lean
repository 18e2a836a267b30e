import Derived.Test.YtiomojlcnemnhaaDoorGDxW5
import Derived.Test.YtiomojlcnemnhaaDoorGDxZ4
import Derived.Test.YtiomojlcnemnhaaDoorGDxLu
import Derived.Test.YtiomojlcnemnhaaDoorGDxY3
namespace Go.Ped
def Just (l : List Eqn) (f e : List Name) : Prop := ∀ p v s, e = p ++ v :: s → ∃ q ∈ l, take (f ++ p) q = some v
theorem Just.nil {l : List Eqn} {f : List Name} : Just l f [] := fun p v s h => by simp at h
theorem Just.cons {l : List Eqn} {f e : List Name} {v : Name} {q : Eqn} (hq : q ∈ l) (ht : take f q = some v) (h : Just l (f ++ [v]) e) : Just l f (v :: e) := by
  intro p w s he
  cases p with
  | nil => simp at he; obtain ⟨rfl, rfl⟩ := he; exact ⟨q, hq, by simpa using ht⟩
  | cons u p =>
    simp at he
    obtain ⟨rfl, rfl⟩ := he
    obtain ⟨q', h1, h2⟩ := h p w s rfl
    exact ⟨q', h1, by simpa using h2⟩
theorem Just.append {l : List Eqn} : ∀ {e f e' : List Name}, Just l f e → Just l (f ++ e) e' → Just l f (e ++ e')
  | [], f, e', _, h => by simpa using h
  | v :: e, f, e', h, h' => by
    obtain ⟨q, hq, ht⟩ := h [] v e rfl
    refine Just.cons hq (by simpa using ht) (Just.append (fun p w s he => ?_) (by simpa using h'))
    obtain ⟨q', g1, g2⟩ := h (v :: p) w s (by simp [he])
    exact ⟨q', g1, by simpa using g2⟩
theorem Just.mono {l l' : List Eqn} {f e : List Name} (h : Just l f e) (hs : ∀ q ∈ l, q ∈ l') : Just l' f e := fun p v s he => by
  obtain ⟨q, h1, h2⟩ := h p v s he
  exact ⟨q, hs q h1, h2⟩
theorem goRound_just : ∀ (w : List Eqn) (f : List Name), ∃ e, (goRound f w).1 = f ++ e ∧ Just w f e
  | [], f => ⟨[], by simp [goRound], .nil⟩
  | q :: w, f => by
    simp only [goRound]
    cases ht : take f q with
    | some v =>
      obtain ⟨e, h1, h2⟩ := goRound_just w (f ++ [v])
      exact ⟨v :: e, by simp only [h1]; simp, .cons (List.mem_cons_self ..) ht (h2.mono fun q hq => List.mem_cons_of_mem _ hq)⟩
    | none =>
      obtain ⟨e, h1, h2⟩ := goRound_just w f
      exact ⟨e, h1, h2.mono fun q hq => List.mem_cons_of_mem _ hq⟩
theorem goRound_sub : ∀ (w : List Eqn) (f : List Name), ∀ q ∈ (goRound f w).2, q ∈ w
  | [], f, q, h => by simp [goRound] at h
  | p :: w, f, q, h => by
    simp only [goRound] at h
    split at h
    · exact List.mem_cons_of_mem _ (goRound_sub w _ q h)
    · rcases List.mem_cons.1 h with rfl | h
      · exact List.mem_cons_self ..
      · exact List.mem_cons_of_mem _ (goRound_sub w _ q h)
theorem goRounds_just (f : List Name) (w : List Eqn) : ∃ e, goRounds f w = f ++ e ∧ Just w f e := by
  induction hn : w.length using Nat.strongRecOn generalizing f w with
  | ind n ih =>
    obtain ⟨e, h1, h2⟩ := goRound_just w f
    unfold goRounds
    split
    · rename_i hlt
      obtain ⟨e', g1, g2⟩ := ih _ (hn ▸ hlt) (goRound f w).1 (goRound f w).2 rfl
      refine ⟨e ++ e', by rw [g1, h1, List.append_assoc], h2.append ?_⟩
      rw [h1] at g2
      exact g2.mono (goRound_sub w f)
    · exact ⟨e, h1, h2⟩
theorem goRound_stable : ∀ (w : List Eqn) (f : List Name), (goRound f w).2.length = w.length → (goRound f w).1 = f ∧ ∀ q ∈ w, take f q = none
  | [], f, _ => ⟨rfl, fun q h => by cases h⟩
  | p :: w, f, h => by
    simp only [goRound] at h ⊢
    cases ht : take f p with
    | some v =>
      rw [ht] at h
      have := goRound_le w (f ++ [v])
      simp at h; omega
    | none =>
      rw [ht] at h
      obtain ⟨h1, h2⟩ := goRound_stable w f (by simpa using h)
      refine ⟨h1, fun q hq => ?_⟩
      rcases List.mem_cons.1 hq with rfl | hq
      · exact ht
      · exact h2 q hq
theorem Waits.none {f : List Name} {eqs w : List Eqn} (h : Waits f eqs w) : (∀ q ∈ w, take f q = none) → ∀ q ∈ eqs, take f q = none := by
  induction h with
  | nil => intro _ q hq; cases hq
  | keep h ih =>
    intro g q hq
    rcases List.mem_cons.1 hq with rfl | hq
    · exact g _ (List.mem_cons_self ..)
    · exact ih (fun p hp => g p (List.mem_cons_of_mem _ hp)) q hq
  | gone hd h ih =>
    intro g q hq
    rcases List.mem_cons.1 hq with rfl | hq
    · exact hd _ fun _ hv => hv
    · exact ih g q hq
theorem goRounds_closed {eqs : List Eqn} (hw : ∀ q ∈ eqs, q.wf) (f : List Name) (w : List Eqn) (h : Waits f eqs w) : ∀ q ∈ eqs, take (goRounds f w) q = none := by
  induction hn : w.length using Nat.strongRecOn generalizing f w with
  | ind n ih =>
    obtain ⟨h1, h2⟩ := round_same h (fun _ hv => hv) hw
    unfold goRounds
    split
    · rename_i hlt
      exact ih _ (hn ▸ hlt) _ _ h2 rfl
    · rename_i hge
      have hle := goRound_le w f
      obtain ⟨g1, g2⟩ := goRound_stable w f (by omega)
      rw [g1]
      exact h.none g2
theorem take_some {f : List Name} {q : Eqn} {v : Name} (h : take f q = some v) : v ∉ f ∧ v ≠ [] ∧ ((v = q.left ∧ ∀ u ∈ q.rights, u ∈ f) ∨ (v = q.right ∧ ∀ u ∈ q.lefts, u ∈ f)) := by
  unfold take at h
  split at h
  · rename_i hc
    simp only [Bool.and_eq_true, bne_iff_ne, ne_eq, Bool.not_eq_true', List.contains_eq_mem, decide_eq_false_iff_not] at hc
    injection h with h; subst h
    exact ⟨hc.1.2, hc.1.1, .inl ⟨rfl, allIn_iff.1 hc.2⟩⟩
  · split at h
    · rename_i hc
      simp only [Bool.and_eq_true, bne_iff_ne, ne_eq, Bool.not_eq_true', List.contains_eq_mem, decide_eq_false_iff_not] at hc
      injection h with h; subst h
      exact ⟨hc.1.2, hc.1.1, .inr ⟨rfl, allIn_iff.1 hc.2⟩⟩
    · cases h
theorem take_none {f : List Name} {q : Eqn} (h : take f q = none) : (q.left ≠ [] → (∀ u ∈ q.rights, u ∈ f) → q.left ∈ f) ∧ (q.right ≠ [] → (∀ u ∈ q.lefts, u ∈ f) → q.right ∈ f) := by
  unfold take at h
  split at h
  · cases h
  · rename_i h1
    split at h
    · cases h
    · rename_i h2
      simp only [Bool.and_eq_true, bne_iff_ne, ne_eq, Bool.not_eq_true', List.contains_eq_mem, decide_eq_false_iff_not, not_and] at h1 h2
      refine ⟨fun h3 h4 => Classical.byContradiction fun h5 => ?_, fun h3 h4 => Classical.byContradiction fun h5 => ?_⟩
      · exact h1 ⟨h3, h5⟩ (allIn_iff.2 h4)
      · exact h2 ⟨h3, h5⟩ (allIn_iff.2 h4)
def Closed (S : Name → Prop) (eqs : List Eqn) : Prop := ∀ q ∈ eqs, (q.left ≠ [] → (∀ u ∈ q.rights, S u) → S q.left) ∧ (q.right ≠ [] → (∀ u ∈ q.lefts, S u) → S q.right)
theorem just_min {S : Name → Prop} {eqs : List Eqn} (hS : Closed S eqs) : ∀ {e f : List Name}, Just eqs f e → (∀ v ∈ f, S v) → ∀ v ∈ f ++ e, S v
  | [], f, _, h => by simpa using h
  | v :: e, f, hj, h => by
    obtain ⟨q, hq, ht⟩ := hj [] v e rfl
    rw [List.append_nil] at ht
    obtain ⟨h1, h2, h3⟩ := take_some ht
    have hv : S v := by
      rcases h3 with ⟨rfl, h3⟩ | ⟨rfl, h3⟩
      · exact (hS q hq).1 h2 fun u hu => h u (h3 u hu)
      · exact (hS q hq).2 h2 fun u hu => h u (h3 u hu)
    have := just_min hS (e := e) (f := f ++ [v]) (fun p w s he => by
      obtain ⟨q', g1, g2⟩ := hj (v :: p) w s (by simp [he])
      exact ⟨q', g1, by simpa using g2⟩) (fun u hu => by
      rcases List.mem_append.1 hu with hu | hu
      · exact h u hu
      · simp at hu; subst hu; exact hv)
    simpa using this
theorem just_nodup {eqs : List Eqn} : ∀ {e f : List Name}, Just eqs f e → f.Nodup → (f ++ e).Nodup
  | [], f, _, h => by simpa using h
  | v :: e, f, hj, h => by
    obtain ⟨q, hq, ht⟩ := hj [] v e rfl
    rw [List.append_nil] at ht
    obtain ⟨h1, _, _⟩ := take_some ht
    have := just_nodup (e := e) (f := f ++ [v]) (fun p w s he => by
      obtain ⟨q', g1, g2⟩ := hj (v :: p) w s (by simp [he])
      exact ⟨q', g1, by simpa using g2⟩) (by
      rw [List.nodup_append]
      refine ⟨h, by simp, fun a ha b hb => ?_⟩
      simp at hb; subst hb; intro e; subst e; exact h1 ha)
    simpa using this
theorem goRounds_spec {eqs : List Eqn} (hw : ∀ q ∈ eqs, q.wf) (f : List Name) :
    (∀ v ∈ f, v ∈ goRounds f eqs) ∧ Closed (· ∈ goRounds f eqs) eqs ∧ (∀ S : Name → Prop, Closed S eqs → (∀ v ∈ f, S v) → ∀ v ∈ goRounds f eqs, S v) ∧ (f.Nodup → (goRounds f eqs).Nodup) := by
  obtain ⟨e, h1, h2⟩ := goRounds_just f eqs
  refine ⟨fun v hv => by rw [h1]; simp [hv], fun q hq => take_none (goRounds_closed hw f eqs (Waits.refl f eqs) q hq), fun S hS hf => by rw [h1]; exact just_min hS h2 hf, fun hn => by rw [h1]; exact just_nodup h2 hn⟩
end Go.Ped

namespace Go.Proofs.YtiomojlcnemnhaaDoor
open Go.Fx Go.RowKit Go.Ped
theorem mem_addAll : ∀ {l acc : List Name} {v : Name}, v ∈ addAll acc l ↔ v ∈ acc ∨ v ∈ l
  | [], acc, v => by simp [addAll]
  | u :: l, acc, v => by
    rw [addAll, mem_addAll, List.mem_cons]
    by_cases h : acc.contains u = true
    · rw [if_pos h]
      constructor
      · rintro (h1 | h1)
        · exact .inl h1
        · exact .inr (.inr h1)
      · rintro (h1 | rfl | h1)
        · exact .inl h1
        · exact .inl (by simpa using h)
        · exact .inr h1
    · rw [if_neg h]
      simp only [List.mem_append, List.mem_singleton]
      constructor
      · rintro ((h1 | h1) | h1)
        · exact .inl h1
        · exact .inr (.inl h1)
        · exact .inr (.inr h1)
      · rintro (h1 | h1 | h1)
        · exact .inl (.inl h1)
        · exact .inl (.inr h1)
        · exact .inr h1
theorem addAll_nodup : ∀ {l acc : List Name}, acc.Nodup → (addAll acc l).Nodup
  | [], acc, h => h
  | u :: l, acc, h => by
    rw [addAll]
    refine addAll_nodup ?_
    by_cases hc : acc.contains u = true
    · rw [if_pos hc]; exact h
    · rw [if_neg hc, List.nodup_append]
      refine ⟨h, by simp, fun a ha b hb e => ?_⟩
      simp only [List.mem_singleton] at hb
      subst hb; subst e
      exact hc (by simpa using ha)
theorem mem_atomsOn : ∀ {l : List Lit} {acc : List Name} {v : Name}, v ∈ atomsOn acc l ↔ v ∈ acc ∨ ∃ x ∈ l, x.kind = 1 ∧ v ∈ tmVars x.l
  | [], acc, v => by simp [atomsOn]
  | x :: l, acc, v => by
    rw [atomsOn, mem_atomsOn]
    by_cases h : x.kind = 1
    · rw [if_pos h, mem_addAll]
      constructor
      · rintro ((h1 | h1) | ⟨y, h1, h2⟩)
        · exact .inl h1
        · exact .inr ⟨x, List.mem_cons_self .., h, h1⟩
        · exact .inr ⟨y, List.mem_cons_of_mem _ h1, h2⟩
      · rintro (h1 | ⟨y, h1, h2⟩)
        · exact .inl (.inl h1)
        · rcases List.mem_cons.1 h1 with rfl | h1
          · exact .inl (.inr h2.2)
          · exact .inr ⟨y, h1, h2⟩
    · rw [if_neg h]
      constructor
      · rintro (h1 | ⟨y, h1, h2⟩)
        · exact .inl h1
        · exact .inr ⟨y, List.mem_cons_of_mem _ h1, h2⟩
      · rintro (h1 | ⟨y, h1, h2⟩)
        · exact .inl h1
        · rcases List.mem_cons.1 h1 with rfl | h1
          · exact absurd h2.1 h
          · exact .inr ⟨y, h1, h2⟩
theorem atomsOn_nodup : ∀ {l : List Lit} {acc : List Name}, acc.Nodup → (atomsOn acc l).Nodup
  | [], acc, h => h
  | x :: l, acc, h => by
    rw [atomsOn]
    refine atomsOn_nodup ?_
    split
    · exact addAll_nodup h
    · exact h
theorem limits_spec (l : List Lit) : (∀ v ∈ atomsOn [] l, v ∈ limitsOf l) ∧ Closed (· ∈ limitsOf l) (eqsOf l) ∧ (∀ S : Name → Prop, Closed S (eqsOf l) → (∀ v ∈ atomsOn [] l, S v) → ∀ v ∈ limitsOf l, S v) ∧ (limitsOf l).Nodup := by
  obtain ⟨h1, h2, h3, h4⟩ := goRounds_spec (eqs_wf l) (atomsOn [] l)
  exact ⟨h1, h2, h3, h4 (atomsOn_nodup List.nodup_nil)⟩
theorem mem_eqsOf {q : Eqn} {l : List Lit} : q ∈ eqsOf l ↔ ∃ x ∈ l, isEqn x = true ∧ eqnOf x = q :=
  ⟨eqsOf_mem, fun ⟨x, h1, h2, h3⟩ => by subst h3; exact List.mem_map_of_mem (List.mem_filter.2 ⟨h1, h2⟩)⟩
end Go.Proofs.YtiomojlcnemnhaaDoor

namespace Go.Proofs.YtiomojlcnemnhaaDoor
open Go.Fx Go.RowKit Go.Ped
theorem mem_tmVarsL {v : Name} {l : List Tm} : v ∈ tmVars l ↔ Ped.isVar v = true ∧ v ∈ l.map Tm.v := by
  show v ∈ varsOn [] _ ↔ _
  rw [mem_varsOn]
  constructor
  · rintro (h | h)
    · cases h
    · exact h
  · exact .inr
theorem tmVars_sub {l m : List Tm} (h : ∀ t ∈ l, t ∈ m) {v : Name} (hv : v ∈ tmVars l) : v ∈ tmVars m := by
  rw [mem_tmVarsL] at hv ⊢
  obtain ⟨h1, h2⟩ := hv
  obtain ⟨t, ht, rfl⟩ := List.mem_map.1 h2
  exact ⟨h1, List.mem_map_of_mem (h t ht)⟩
theorem limits_where (body : List Lit) (ks : List Name) : ∀ v ∈ limitsOf (body ++ ks.map knLit), v ∈ ks ∨ ∃ x ∈ body, v ∈ tmVars x.terms := by
  obtain ⟨_, _, hmin, _⟩ := limits_spec (body ++ ks.map knLit)
  refine hmin (fun v => v ∈ ks ∨ ∃ x ∈ body, v ∈ tmVars x.terms) (fun q hq => ?_) (fun v hv => ?_)
  · obtain ⟨x, hx, he, rfl⟩ := mem_eqsOf.1 hq
    have hxb : x ∈ body := by
      rcases List.mem_append.1 hx with hx | hx
      · exact hx
      · obtain ⟨u, _, rfl⟩ := List.mem_map.1 hx
        cases he
    refine ⟨fun hl _ => .inr ⟨x, hxb, ?_⟩, fun hl _ => .inr ⟨x, hxb, ?_⟩⟩
    · refine tmVars_sub (l := x.left.terms) (fun t ht => ?_) (v := loneOf x.left) (by rw [lone_wf hl]; exact List.mem_singleton.2 rfl)
      unfold Lit.terms
      exact List.mem_append_left _ (List.mem_append_right _ ht)
    · refine tmVars_sub (l := x.right.terms) (fun t ht => ?_) (v := loneOf x.right) (by rw [lone_wf hl]; exact List.mem_singleton.2 rfl)
      unfold Lit.terms
      exact List.mem_append_right _ ht
  · rcases mem_atomsOn.1 hv with h | ⟨x, hx, _, hvx⟩
    · cases h
    · rcases List.mem_append.1 hx with hx | hx
      · refine .inr ⟨x, hx, tmVars_sub (fun t ht => ?_) hvx⟩
        unfold Lit.terms
        exact List.mem_append_left _ (List.mem_append_left _ ht)
      · obtain ⟨u, hu, rfl⟩ := List.mem_map.1 hx
        have h2 := (mem_tmVarsL.1 hvx).2
        have : v = u := by simpa [knLit] using h2
        exact .inl (this ▸ hu)
theorem lit_kind {x : Lit} (h : litOk x = true) : x.kind = 1 ∨ x.kind = 2 ∨ x.kind = 3 := by
  unfold litOk at h
  split at h
  · rename_i hk; rcases hk with hk | hk
    · exact .inl hk
    · exact .inr (.inl hk)
  · split at h
    · exact .inr (.inr ‹_›)
    · cases h
theorem right_law {r : Rule} {steps : List Stp} {ks : List Name} (h : rightB r steps ks = true) : ∃ hv', lawOn r.body ks steps = some hv' ∧ ∀ v ∈ tmVars r.terms, v ∈ hv' := by
  unfold rightB at h
  split at h
  · rename_i hm
    have hok := mayOf_ok hm
    obtain ⟨hb16, hlit⟩ := rule_body24 hok
    obtain ⟨hv', q1, q2, q3⟩ := law_of_right (fun x hx => lit_kind (hlit x hx)) (by omega) steps _ _ ks (fun v => by rw [learnOn_mem]; simp) h
    refine ⟨hv', q1, fun v hv => ?_⟩
    have hlim : (limitsOf (r.body ++ ks.map knLit)).contains v = true := by
      unfold mayOf at hm
      rw [if_pos hok] at hm
      unfold mayIn at hm
      split at hm
      · split at hm
        · rename_i ha
          exact List.all_eq_true.1 ha v hv
        · cases hm
      · cases hm
    rcases limits_where r.body ks v (by simpa using hlim) with hk | ⟨x, hx, hvx⟩
    · exact q2 v hk
    · obtain ⟨j, hj, rfl⟩ := List.mem_iff_getElem.1 hx
      exact q3 j hj (by rw [Nat.testBit_two_pow_sub_one]; simpa using hj) v hvx
  · cases h
end Go.Proofs.YtiomojlcnemnhaaDoor

namespace Go.Proofs.YtiomojlcnemnhaaDoor
open Go.Fx Go.RowKit Go.Ped
variable {G : World → Prop}
set_option maxHeartbeats 8000000 in
theorem m15_of (h79 : Meets Tryd.prog G 79 [] (.x (.one (cB true)))) (r : Rule) (steps : List (Stp × Sp)) (ssp : Sp) (ks : List Name) (sp : Sp) (hr : r.small 1048576) (hle : r.terms.length ≤ 1048576) (hk : ks.length + r.body.length ≤ 1048576) (hsp : ∀ e ∈ sp, e.length = 1) (hst : steps.length ≤ 1048576)
    (hgl : ∀ s ∈ steps, s.1.gives.length ≤ 1048576 ∧ (∀ e ∈ s.2, e.length = 1) ∧ 0 ≤ s.1.known ∧ s.1.known < 4294967296) :
    Meets Tryd.prog G 15 [.agg (planRow r steps ssp), .one (.sl (ks.map nmRow) sp)] (.x (.one (cB true))) := by
  have h62 := m62 (G := G) r hr
  generalize decide (ruleParts r 1048576 > 1048576) = big at h62
  have h78 := m78 (G := G) r steps ssp ks sp hr hle hk hsp (by unfold maxLen; omega)
  have hrow : r.row = [cS (bs r.p), .sl (r.head.map Arg.row) r.hsp, .sl (r.body.map Lit.row) r.bsp] := rfl
  rw [hrow] at h62
  refine meets Tryd.func15 ie15 ig15 (Nat.le_of_ble_eq_true rfl) ?_
  simp [ic15, ir15]
  refine call_of h62 ?_
  cases big with
  | true => simp
  | false =>
  simp
  refine call_of h78 ?_
  cases hrb : rightB r (steps.map (·.1)) ks with
  | false =>
    simp
    refine call_of h79 ?_
    simp
  | true =>
    obtain ⟨hv', hlaw, hall⟩ := right_law hrb
    simp
    have hhas : ∀ (l : List Name) (v : Name) (q : Sp), Meets Tryd.prog G 80 [.one (.sl (l.map nmRow) q), .one (cS (bs v))] (.x (.one (cB (l.contains v)))) := fun l v q => Meets.len (by kernel_rfl) fun hl => m80 (G := G) l v q (by rwa [List.length_map] at hl)
    have h68 : Meets Tryd.prog G 68 [.agg r.row] (.x (.one (.sl ((tmVars r.terms).map nmRow) []))) := m68 (G := G) r hr (by omega)
    have hvl := tmVars_len r.terms
    rw [hrow] at h68
    refine ⟨by unfold maxLen; omega, by unfold maxBytes; omega, ?_⟩
    refine w_loopA [] [7, 8] [2, 4, 5, 6] (by simp [ownKey])
      (fun a : Nat × List Name => st [(2, .k true (.x (.one (.ref 2 0 0)))), (4, tB false), (5, .k true (.x (.one (.own 22 (a.2.map nmRow))))), (6, tI .i64 a.1)]
        [(2, ⟨115, 4, [(planRow r steps ssp).map A.c], none⟩)] [(22, ⟨9, 1, a.2.length⟩)] F0) (fun a => steps.length - a.1)
      (fun a => a.1 ≤ steps.length ∧ a.2.length ≤ 1048576 + a.1 * 1048576 ∧ lawOn r.body a.2 ((steps.map (·.1)).drop a.1) = some hv') (0, ks) (by simp) ⟨Nat.zero_le _, by simp only; omega, hlaw⟩ ?_
    rintro ⟨i, hv⟩ K hK ⟨hi, hhl, hd⟩
    simp only at hi hhl hd
    obtain hlt | hge := Nat.lt_or_ge i steps.length
    · have hlt' : i < (steps.map (·.1)).length := by rwa [List.length_map]
      rw [List.drop_eq_getElem_cons hlt', List.getElem_map, lawOn] at hd
      split at hd
      · cases hd
      rename_i hlit
      split at hd
      · cases hd
      rename_i x hx
      split at hd
      case isFalse => cases hd
      rename_i hc
      obtain ⟨c1, c2, c3, c4, c5⟩ := hc
      obtain ⟨j, hj⟩ : ∃ j : Nat, steps[i].1.lit = j := ⟨steps[i].1.lit.toNat, by omega⟩
      have hjl : j < r.body.length := by omega
      rw [hj, Int.toNat_natCast, List.getElem?_eq_getElem hjl] at hx
      injection hx with hx
      have hxm : r.body[j] ∈ r.body := List.getElem_mem hjl
      have hsr : srow steps[i] = [cI .i8 steps[i].1.kind, cI .i64 j, cI .u32 steps[i].1.known, .sl (steps[i].1.gives.map nmRow) steps[i].2] := by rw [← hj]; rfl
      have hjn : ¬ ((j : Int) < 0) := by omega
      have h59 := m59 (G := G) r.body[j] (hr.2.2 _ hxm) (Nat.le_trans (lit_terms_le hxm) (by omega))
      rw [lit16] at h59
      obtain ⟨hg1, hg2, hg3, hg4⟩ := hgl steps[i] (List.getElem_mem hlt)
      obtain ⟨kn, hkn⟩ : ∃ kn : Nat, steps[i].1.known = kn := ⟨steps[i].1.known.toNat, by omega⟩
      have h81 := m81 (G := G) r.body[j] steps[i].1.kind j kn steps[i].1.gives steps[i].2 hv [] (hr.2.2 _ hxm).1 (by omega)
      rw [hkn, Int.toNat_natCast] at c3
      rw [← hx] at c3 c4
      rw [c3, lit16] at h81
      rw [hkn] at hsr
      simp (config := { maxSteps := 4000000 }) [ic15l2, hlt, hsr, Nat.not_le.2 hjl, hjn, hjl, lit16 r.body[j]]
      refine call_of h59 ?_
      simp (config := { maxSteps := 4000000 })
      have htv : tmVars x.terms = tmVars r.body[j].terms := by rw [hx]
      rw [htv] at c1 c5
      have hvsl : (tmVars r.body[j].terms).length ≤ 1048576 := Nat.le_trans (tmVars_len _) (Nat.le_trans (lit_terms_le hxm) hle)
      generalize hvs : tmVars r.body[j].terms = vs at *
      refine w_loopA [] [] [2, 4, 5, 6, 7, 8, 9, 10] (by simp [ownKey])
        (fun k : Nat => st [(2, .k true (.x (.one (.ref 2 0 0)))), (4, tB false), (5, .k true (.x (.one (.own 22 (hv.map nmRow))))), (6, tI .i64 i), (7, .k true (.x (.one (.ref 7 0 0)))), (8, .k true (.x (.one (.ref 8 0 0)))), (9, .k true (.x (.one (.c (.sl (vs.map nmRow) []))))), (10, tI .i64 k)]
          [(8, ⟨88, 16, [r.body[j].row.map A.c], none⟩), (7, ⟨121, 4, [(srow steps[i]).map A.c], none⟩), (2, ⟨115, 4, [(planRow r steps ssp).map A.c], none⟩)] [(22, ⟨9, 1, hv.length⟩)] F0) (fun k => steps[i].1.gives.length - k)
        (fun k => k ≤ steps[i].1.gives.length) 0 (by rw [lit16 r.body[j], hsr]; simp) (Nat.zero_le _) ?_
      rintro k K2 hK2 hk2
      obtain hkl | hkg := Nat.lt_or_ge k steps[i].1.gives.length
      · have hgk : steps[i].1.gives[k] ∈ steps[i].1.gives := List.getElem_mem hkl
        obtain ⟨b1, b2⟩ := c1 _ hgk
        have b3 : (steps[i].1.gives.take k).contains steps[i].1.gives[k] = false := by
          rw [Bool.eq_false_iff]
          intro h
          obtain ⟨q, hq, he⟩ := List.mem_take_iff_getElem.1 (by simpa using h)
          have hp := List.pairwise_iff_getElem.1 c2 q k (by omega) hkl (by omega)
          exact hp he
        have h1 := hhas hv steps[i].1.gives[k] []
        have h2 := hhas (steps[i].1.gives.take k) steps[i].1.gives[k] (List.drop k (steps[i].1.gives.map nmRow ++ steps[i].2))
        have h3 := hhas vs steps[i].1.gives[k] []
        rw [b1] at h1
        rw [b3] at h2
        rw [show vs.contains steps[i].1.gives[k] = true by simpa using b2] at h3
        have ht1 : List.take k (steps[i].1.gives.map nmRow ++ steps[i].2) = (steps[i].1.gives.take k).map nmRow := by rw [List.take_append_of_le_length (by rw [List.length_map]; omega), List.map_take]
        rw [lit16 r.body[j], hsr]
        simp (config := { maxSteps := 4000000 }) [ic15l0, hkl]
        refine call_of h1 ?_
        simp (config := { maxSteps := 4000000 }) [hkl]
        refine ⟨⟨by omega, fun e he => ?_⟩, ?_⟩
        · rcases he with ⟨a, _, rfl⟩ | he
          · rfl
          · exact hg2 e he
        rw [ht1]
        refine call_of h2 ?_
        simp (config := { maxSteps := 4000000 }) [hkl]
        refine call_of h3 ?_
        simp (config := { maxSteps := 4000000 })
        simp (disch := omega) only [wrap64]
        exact hK2 (k + 1) _ (by rw [lit16 r.body[j], hsr]; simp) (by omega) (by omega)
      · have hk3 : k = steps[i].1.gives.length := by omega
        subst hk3
        rw [lit16 r.body[j], hsr]
        simp (config := { maxSteps := 4000000 }) [ic15l0]
        refine call_of h81 ?_
        simp (config := { maxSteps := 4000000 })
        have hcd : (decide (0 < steps[i].1.gives.length) && r.body[j].kind == 2) = false := by
          rw [Bool.eq_false_iff]
          intro h
          simp only [Bool.and_eq_true, decide_eq_true_eq, beq_iff_eq] at h
          rw [c4 h.2] at h
          exact absurd h.1 (Nat.lt_irrefl _)
        simp (config := { maxSteps := 4000000 }) [hcd]
        have hbd : hv.length + steps[i].1.gives.length ≤ 2199024304128 := by omega
        refine ⟨by unfold maxLen; omega, by unfold maxBytes; omega, ?_⟩
        refine w_loopA [] [] [2, 4, 5, 6, 9, 11] (by simp [ownKey])
          (fun q : Nat => st [(2, .k true (.x (.one (.ref 2 0 0)))), (4, tB false), (5, .k true (.x (.one (.own 22 ((hv ++ steps[i].1.gives).map nmRow))))), (6, tI .i64 i), (9, .k true (.x (.one (.c (.sl (vs.map nmRow) []))))), (11, tI .i64 q)]
            [(8, ⟨88, 16, [r.body[j].row.map A.c], none⟩), (7, ⟨121, 4, [(srow steps[i]).map A.c], none⟩), (2, ⟨115, 4, [(planRow r steps ssp).map A.c], none⟩)] [(22, ⟨9, 1, (hv ++ steps[i].1.gives).length⟩)] F0) (fun q => vs.length - q)
          (fun q => q ≤ vs.length) 0 (by rw [lit16 r.body[j], hsr]; simp) (Nat.zero_le _) ?_
        rintro q K3 hK3 hq
        obtain hql | hqg := Nat.lt_or_ge q vs.length
        · have hh := hhas (hv ++ steps[i].1.gives) vs[q] []
          rw [show (hv ++ steps[i].1.gives).contains vs[q] = true by simpa using c5 _ (List.getElem_mem hql), List.map_append] at hh
          simp (config := { maxSteps := 4000000 }) [ic15l1, hql]
          refine call_of hh ?_
          simp
          simp (disch := omega) only [wrap64]
          exact hK3 (q + 1) _ (by rw [lit16 r.body[j], hsr]; simp) (by omega) (by omega)
        · have hq2 : q = vs.length := by omega
          subst hq2
          simp (config := { maxSteps := 4000000 }) [ic15l1]
          simp (disch := omega) only [wrap64]
          exact hK (i + 1, hv ++ steps[i].1.gives) _ (by simp) ⟨by simp only; omega, by simp only [List.length_append]; omega, hd⟩ (by simp only; omega)
    · have hi2 : i = steps.length := by omega
      subst hi2
      rw [List.drop_eq_nil_of_le (by rw [List.length_map]; exact Nat.le_refl _), lawOn] at hd
      injection hd with hd
      subst hd
      generalize tmVars r.terms = vs at *
      simp [ic15l2]
      refine call_of h68 ?_
      simp
      refine w_loopA [] [] [2, 4, 5, 12, 13] (by simp [ownKey])
        (fun j : Nat => st [(2, .k true (.x (.one (.ref 2 0 0)))), (4, tB false), (5, .k true (.x (.one (.own 22 (hv.map nmRow))))), (12, .k true (.x (.one (.c (.sl (vs.map nmRow) []))))), (13, tI .i64 j)]
          [(2, ⟨115, 4, [(planRow r steps ssp).map A.c], none⟩)] [(22, ⟨9, 1, hv.length⟩)] F0) (fun j => vs.length - j)
        (fun j => j ≤ vs.length) 0 (by simp) (Nat.zero_le _) ?_
      rintro j K2 hK2 hj
      obtain hjl | hjg := Nat.lt_or_ge j vs.length
      · have hc : hv.contains vs[j] = true := by simpa using hall _ (List.getElem_mem hjl)
        have hh := hhas hv vs[j] []
        rw [hc] at hh
        simp [ic15l3, hjl]
        refine call_of hh ?_
        simp
        simp (disch := omega) only [wrap64]
        exact hK2 (j + 1) _ (by simp) (by omega) (by omega)
      · have hj2 : j = vs.length := by omega
        subst hj2
        simp [ic15l3]
        refine call_of h79 ?_
        simp
end Go.Proofs.YtiomojlcnemnhaaDoor

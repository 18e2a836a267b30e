/- Fx, part R: a region in whatever order its edges allow. -/
import Derived.Test.YtiomojlcnemnhaaDoorFxQ
namespace Go.Fx
open Go.RowKit

section
variable {P : Program} {G : World → Prop} {σ σ' τ : S}

theorem no_ne {α : Type} {k : Nat} {p : Prop} (h : (no : Nat → Option α) k ≠ none) : p := absurd rfl h
theorem on1_ne {α : Type} {j k : Nat} {x : α} (h : on1 j x k ≠ none) : k = j := by
  unfold on1 at h
  by_cases e : k = j
  · exact e
  · rw [if_neg e] at h; exact absurd rfl h

/-- What a step turns is among what it may turn. -/
theorem Eff.supp {o : IOper} {δ : Delta} (ht0 : touched o σ) (h : Eff P G o σ δ) : (∀ k, δ.ob k ≠ none → fpK o.wo k) ∧ (∀ k, δ.tk k ≠ none → fpK o.wt k) ∧ (δ.ex ≠ none → o.isCall = true) := by
  obtain ⟨dst, op, gd, fp⟩ := o
  have nt : ∀ t, (∀ k, (Delta.mk t no no none).ob k ≠ none → fpK (IOper.mk dst op gd fp).wo k) ∧ (∀ k, (Delta.mk t no no none).tk k ≠ none → fpK (IOper.mk dst op gd fp).wt k) ∧ ((Delta.mk t no no none).ex ≠ none → (IOper.mk dst op gd fp).isCall = true) :=
    fun t => ⟨fun k h => absurd rfl h, fun k h => absurd rfl h, fun h => absurd rfl h⟩
  have ob : ∀ t d b, fpK (IOper.mk dst op gd fp).wo d → (∀ k, (Delta.mk t (on1 d b) no none).ob k ≠ none → fpK (IOper.mk dst op gd fp).wo k) ∧ (∀ k, (Delta.mk t (on1 d b) no none).tk k ≠ none → fpK (IOper.mk dst op gd fp).wt k) ∧ ((Delta.mk t (on1 d b) no none).ex ≠ none → (IOper.mk dst op gd fp).isCall = true) :=
    fun t d b hd => ⟨fun k h => by rw [on1_ne (show on1 d b k ≠ none from h)]; exact hd, fun k h => absurd rfl h, fun h => absurd rfl h⟩
  have tk : ∀ t d b, fpK (IOper.mk dst op gd fp).wt d → (∀ k, (Delta.mk t no (on1 d b) none).ob k ≠ none → fpK (IOper.mk dst op gd fp).wo k) ∧ (∀ k, (Delta.mk t no (on1 d b) none).tk k ≠ none → fpK (IOper.mk dst op gd fp).wt k) ∧ ((Delta.mk t no (on1 d b) none).ex ≠ none → (IOper.mk dst op gd fp).isCall = true) :=
    fun t d b hd => ⟨fun k h => absurd rfl h, fun k h => by rw [on1_ne (show on1 d b k ≠ none from h)]; exact hd, fun h => absurd rfl h⟩
  cases op with
  | move x => obtain ⟨g, h1, rfl⟩ := h; exact nt _
  | pick c a b => obtain ⟨g, h1, gc, t, h2, h3, rfl⟩ := h; exact nt _
  | callp f args => obtain ⟨g, h1, cs, res, h2, rfl⟩ := h; exact nt _
  | call f args =>
    obtain ⟨g, h1, fv, xs, x, hh, res, hh', h2, rfl⟩ := h
    cases g with
    | false => exact nt _
    | true =>
      obtain ⟨q1, q2, q3, q4, q5, q6⟩ := h2 rfl
      exact ⟨fun k hk => q6 k (.inr (.inr (.inl hk))), fun k hk => q6 k (.inr (.inr (.inr hk))), fun _ => rfl⟩
  | box ty x => obtain ⟨h0, d, y, h1, h2, h3, rfl⟩ := h; simp only at h1; subst h1; exact ob _ _ _ (by simp [IOper.wo, fpK])
  | zero ty z => obtain ⟨h0, d, h1, h2, rfl⟩ := h; simp only at h1; subst h1; exact ob _ _ _ (by simp [IOper.wo, fpK])
  | mkmap dk size one => obtain ⟨h0, d, h1, h2, rfl⟩ := h; simp only at h1; subst h1; exact ob _ _ _ (by simp [IOper.wo, fpK])
  | make ty size bytes z l c => obtain ⟨h0, d, n, m, h1, h2, h3, h4, h5, h6, h7, h8, h9, rfl⟩ := h; simp only at h1; subst h1; exact ob _ _ _ (by simp [IOper.wo, fpK])
  | store n x y => obtain ⟨h0, k, i, off, b, yv, h1, h2, hmp, h3, h4, h5, h6, rfl⟩ := h; exact ob _ _ _ (ht0 k (by rw [h1]; rfl))
  | mapup dk one m k v => obtain ⟨h0, j, b, x, yv, h1, h2, h3, h4, h5, h6, h7, h8, rfl⟩ := h; exact ob _ _ _ (ht0 j (by rw [h1]; rfl))
  | row ty size ps =>
    obtain ⟨h0, es, h1, h2, h3⟩ := h
    cases gd with
    | none => obtain ⟨d, h4, h5, rfl⟩ := h3; simp only at h4; subst h4; exact tk _ _ _ (by simp [IOper.wt, fpK])
    | some gd => obtain ⟨g, h4, rfl⟩ := h3; exact nt _
  | app ty size bytes x y =>
    obtain ⟨h0, gx, gy, news, sp, h1, h2, h3⟩ := h
    split at h3
    · rename_i k es hx
      obtain ⟨t, q1, q2, q3, q4, q5, q6, rfl⟩ := h3
      refine tk _ _ _ ?_
      have := ht0 k (by rw [hx]; rfl)
      cases fp with
      | none => trivial
      | some ks => simp only [IOper.wt, Option.map_some, fpK]; exact List.mem_append_right _ this
    · obtain ⟨d, q1, q2, q3, q4, rfl⟩ := h3
      simp only at q1; subst q1
      refine tk _ _ _ ?_
      cases fp with
      | none => trivial
      | some ks => simp [IOper.wt, fpK]
    · exact h3.elim
  | _ => obtain ⟨g, h1, out, h2, h3, rfl⟩ := h; exact nt _

theorem app_tmps (d : Option Nat) (δ : Delta) (n : Nat) : (σ.app d δ).tmps n = if d = some n then δ.t else σ.tmps n := by
  cases d with
  | none => simp [S.app, S.put]
  | some d =>
    simp only [S.app, S.put]
    by_cases h : n = d
    · subst h; simp
    · rw [if_neg h, if_neg (by intro e; injection e with e; exact h e.symm)]

theorem app_objs_none {d : Option Nat} {δ : Delta} {k : Nat} (h : δ.ob k = none) : (σ.app d δ).objs k = σ.objs k := by simp [S.app, h]
theorem app_toks_none {d : Option Nat} {δ : Delta} {k : Nat} (h : δ.tk k = none) : (σ.app d δ).toks k = σ.toks k := by simp [S.app, h]

theorem apartI_spec {a b : IOper} (h : apartI a b = true) : (∀ d, a.dst = some d → d ∉ b.reads ∧ b.dst ≠ some d) ∧ (∀ d, b.dst = some d → d ∉ a.reads) ∧
    disj a.wo b.ro = true ∧ disj a.wo b.wo = true ∧ disj b.wo a.ro = true ∧ disj a.wt b.wt = true ∧ ¬ (a.isCall = true ∧ b.isCall = true) := by
  unfold apartI at h
  simp only [Bool.and_eq_true] at h
  obtain ⟨⟨h1, h2⟩, ⟨⟨⟨h3, h4⟩, h5⟩, h6⟩, h7⟩ := h
  refine ⟨fun d hd => ?_, fun d hd => ?_, h3, h4, h5, h6, fun e => ?_⟩
  · rw [hd] at h1; simp at h1; exact h1
  · rw [hd] at h2; simpa using h2
  · rw [e.1, e.2] at h7; cases h7

/-- Two operations apart: the second may go first. -/
theorem commute {a b : IOper} (h : apartI a b = true) {σ1 σ2 : S} (ha : touched a σ ∧ StepI P G a σ σ1) (hb : touched b σ1 ∧ StepI P G b σ1 σ2) : ∃ τ, (touched b σ ∧ StepI P G b σ τ) ∧ (touched a τ ∧ StepI P G a τ σ2) := by
  obtain ⟨h1, h2, k1, k2, k3, k4, k5⟩ := apartI_spec h
  obtain ⟨ta, ha⟩ := ha
  obtain ⟨tb, hb⟩ := hb
  obtain ⟨δa, ea, rfl⟩ := eff_of_step ha
  obtain ⟨δb, eb, rfl⟩ := eff_of_step hb
  obtain ⟨aO, aT, aX⟩ := ea.supp ta
  obtain ⟨bO, bT, bX⟩ := eb.supp tb
  have nn : ∀ {α : Type} {o : Option α}, (o ≠ none → False) → o = none := fun {α o} f => by cases o with | none => rfl | some x => exact (f (by simp)).elim
  have hlb : Local b (σ.app a.dst δa) σ := {
    tmps := fun n hn => by
      rw [app_tmps]
      split
      · rename_i e; exact absurd hn (h1 n e).1
      · rfl
    ro := fun k hk => app_objs_none (nn fun e => disj_spec k1 (aO k e) hk)
    wo := fun k hk => app_objs_none (nn fun e => disj_spec k2 (aO k e) hk)
    wt := fun k hk => app_toks_none (nn fun e => disj_spec k4 (aT k e) hk)
    ext := fun e => by
      have : δa.ex = none := nn fun e2 => k5 ⟨aX e2, e⟩
      simp [S.app, this] }
  have tb' : touched b σ := touched_congr (fun n hn => hlb.tmps n (List.mem_append_left _ hn)) tb
  have eb' : Eff P G b σ δb := eb.congr tb hlb
  have hla : Local a σ (σ.app b.dst δb) := {
    tmps := fun n hn => by
      rw [app_tmps]
      split
      · rename_i e; exact absurd hn (h2 n e)
      · rfl
    ro := fun k hk => (app_objs_none (nn fun e => disj_spec k3 (bO k e) hk)).symm
    wo := fun k hk => (app_objs_none (nn fun e => disj_spec k2 hk (bO k e))).symm
    wt := fun k hk => (app_toks_none (nn fun e => disj_spec k4 hk (bT k e))).symm
    ext := fun e => by
      have : δb.ex = none := nn fun e2 => k5 ⟨e, bX e2⟩
      simp [S.app, this] }
  have ta' : touched a (σ.app b.dst δb) := touched_congr (fun n hn => hla.tmps n (List.mem_append_left _ hn)) ta
  have ea' : Eff P G a (σ.app b.dst δb) δa := ea.congr ta hla
  refine ⟨_, ⟨tb', step_of_eff eb'⟩, ta', ?_⟩
  have key : (σ.app b.dst δb).app a.dst δa = (σ.app a.dst δa).app b.dst δb := by
    have e1 : ((σ.app b.dst δb).app a.dst δa).tmps = ((σ.app a.dst δa).app b.dst δb).tmps := by
      funext n
      simp only [app_tmps]
      by_cases ha : a.dst = some n
      · rw [if_pos ha, if_neg (h1 n ha).2, if_pos ha]
      · rw [if_neg ha, if_neg ha]
    have e2 : ((σ.app b.dst δb).app a.dst δa).objs = ((σ.app a.dst δa).app b.dst δb).objs := by
      funext k
      simp only [S.app]
      cases hA : δa.ob k with
      | none => rfl
      | some x =>
        have : δb.ob k = none := nn fun e => disj_spec k2 (aO k (by rw [hA]; simp)) (bO k e)
        rw [this]
    have e3 : ((σ.app b.dst δb).app a.dst δa).toks = ((σ.app a.dst δa).app b.dst δb).toks := by
      funext k
      simp only [S.app]
      cases hA : δa.tk k with
      | none => rfl
      | some x =>
        have : δb.tk k = none := nn fun e => disj_spec k4 (aT k (by rw [hA]; simp)) (bT k e)
        rw [this]
    have e4 : ((σ.app b.dst δb).app a.dst δa).ext = ((σ.app a.dst δa).app b.dst δb).ext := by
      simp only [S.app]
      cases hA : δa.ex with
      | none => simp
      | some x =>
        have : δb.ex = none := nn fun e => k5 ⟨aX (by rw [hA]; simp), bX e⟩
        rw [this]; simp
    show S.mk _ _ _ _ = S.mk _ _ _ _
    rw [S.mk.injEq]
    exact ⟨e1, e2, e3, e4⟩
  rw [← key]
  exact step_of_eff ea'

end
end Go.Fx

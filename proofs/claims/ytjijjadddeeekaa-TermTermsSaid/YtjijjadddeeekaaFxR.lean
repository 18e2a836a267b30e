/- Fx, part R: a region in whatever order its edges allow. -/
import Derived.Test.YtjijjadddeeekaaFxQ
namespace Go.Fx
open Go.RowKit

section
variable {P : Program} {G : World → Prop} {σ σ' τ : S}

theorem Eff.shapeO {o : IOper} {δ : Delta} (h : Eff P G o σ δ) : δ.ob = none ∨ (o.kind = 2 ∧ ∃ d b, o.dst = some d ∧ δ.ob = some (d, b) ∧ σ.objs d = none) ∨ o.kind = 3 := by
  obtain ⟨dst, op, gd⟩ := o
  cases op <;> first
    | exact .inr (.inr rfl)
    | (obtain ⟨g, h1, out, h2, h3, rfl⟩ := h; exact .inl rfl)
    | (obtain ⟨g, h1, rfl⟩ := h; exact .inl rfl)
    | (obtain ⟨g, h1, gc, t, h2, h3, rfl⟩ := h; exact .inl rfl)
    | (obtain ⟨g, h1, cs, res, h2, rfl⟩ := h; exact .inl rfl)
    | (obtain ⟨h0, d, y, h1, h2, h3, rfl⟩ := h; exact .inr (.inl ⟨rfl, d, _, h1, rfl, h2⟩))
    | (obtain ⟨h0, d, h1, h2, rfl⟩ := h; exact .inr (.inl ⟨rfl, d, _, h1, rfl, h2⟩))
    | (obtain ⟨h0, d, n, m, h1, h2, h3, h4, h5, h6, h7, h8, h9, rfl⟩ := h; exact .inr (.inl ⟨rfl, d, _, h1, rfl, h2⟩))
    | (obtain ⟨h0, es, h1, h2, h3⟩ := h
       cases gd with
       | none => obtain ⟨d, h4, h5, rfl⟩ := h3; exact .inl rfl
       | some gd => obtain ⟨g, h4, rfl⟩ := h3; exact .inl rfl)
    | (obtain ⟨h0, gx, gy, news, sp, h1, h2, h3⟩ := h
       split at h3
       · obtain ⟨t, q1, q2, q3, q4, q5, q6, rfl⟩ := h3; exact .inl rfl
       · obtain ⟨d, q1, q2, q3, q4, rfl⟩ := h3; exact .inl rfl
       · exact h3.elim)

theorem Eff.shapeT {o : IOper} {δ : Delta} (h : Eff P G o σ δ) : δ.tk = none ∨ (o.kind = 4 ∧ ∃ d b, o.dst = some d ∧ δ.tk = some (d, b) ∧ σ.toks d = none) ∨ o.kind = 5 := by
  obtain ⟨dst, op, gd⟩ := o
  cases op <;> first
    | exact .inr (.inr rfl)
    | (obtain ⟨g, h1, out, h2, h3, rfl⟩ := h; exact .inl rfl)
    | (obtain ⟨g, h1, rfl⟩ := h; exact .inl rfl)
    | (obtain ⟨g, h1, gc, t, h2, h3, rfl⟩ := h; exact .inl rfl)
    | (obtain ⟨g, h1, cs, res, h2, rfl⟩ := h; exact .inl rfl)
    | (obtain ⟨h0, d, y, h1, h2, h3, rfl⟩ := h; exact .inl rfl)
    | (obtain ⟨h0, d, h1, h2, rfl⟩ := h; exact .inl rfl)
    | (obtain ⟨h0, d, n, m, h1, h2, h3, h4, h5, h6, h7, h8, h9, rfl⟩ := h; exact .inl rfl)
    | (obtain ⟨h0, k, i, off, b, yv, h1, h2, h3, h4, h5, h6, rfl⟩ := h; exact .inl rfl)
    | (obtain ⟨h0, es, h1, h2, h3⟩ := h
       cases gd with
       | none => obtain ⟨d, h4, h5, rfl⟩ := h3; exact .inr (.inl ⟨rfl, d, _, h4, rfl, h5⟩)
       | some gd => obtain ⟨g, h4, rfl⟩ := h3; exact .inl rfl)

theorem app_tmps (d : Option Nat) (δ : Delta) (n : Nat) : (σ.app d δ).tmps n = if d = some n then δ.t else σ.tmps n := by
  cases d with
  | none => simp [S.app, S.put]
  | some d =>
    simp only [S.app, S.put]
    by_cases h : n = d
    · subst h; simp
    · rw [if_neg h, if_neg (by intro e; injection e with e; exact h e.symm)]

theorem app_objs_none {d : Option Nat} {δ : Delta} (h : δ.ob = none) : (σ.app d δ).objs = σ.objs := by funext k; simp [S.app, h]
theorem app_toks_none {d : Option Nat} {δ : Delta} (h : δ.tk = none) : (σ.app d δ).toks = σ.toks := by funext k; simp [S.app, h]

theorem kinds_spec {x y : Nat} (h : kindsApart x y = true) : (x = 1 ∨ x = 3 → y ≠ 2 ∧ y ≠ 3) ∧ (y = 1 ∨ y = 3 → x ≠ 2 ∧ x ≠ 3) ∧ (x = 2 → y ≠ 3) ∧ (y = 2 → x ≠ 3) ∧ (x = 4 → y ≠ 5) ∧ (y = 4 → x ≠ 5) ∧ (x = 5 → y ≠ 4 ∧ y ≠ 5) ∧ (y = 5 → x ≠ 4 ∧ x ≠ 5) := by
  unfold kindsApart at h
  split at h <;> simp_all

theorem apartI_spec {a b : IOper} (h : apartI a b = true) : (∀ d, a.dst = some d → d ∉ b.reads ∧ b.dst ≠ some d) ∧ (∀ d, b.dst = some d → d ∉ a.reads) ∧ kindsApart a.kind b.kind = true := by
  unfold apartI at h
  simp only [Bool.and_eq_true] at h
  obtain ⟨⟨h1, h2⟩, h3⟩ := h
  refine ⟨fun d hd => ?_, fun d hd => ?_, h3⟩
  · rw [hd] at h1; simp at h1; exact h1
  · rw [hd] at h2; simpa using h2

/-- Two operations apart: the second may go first. -/
theorem commute {a b : IOper} (h : apartI a b = true) {σ1 σ2 : S} (ha : StepI P G a σ σ1) (hb : StepI P G b σ1 σ2) : ∃ τ, StepI P G b σ τ ∧ StepI P G a τ σ2 := by
  obtain ⟨h1, h2, hk⟩ := apartI_spec h
  obtain ⟨k1, k2, k3, k4, k5, k6, k7, k8⟩ := kinds_spec hk
  obtain ⟨δa, ea, rfl⟩ := eff_of_step ha
  obtain ⟨δb, eb, rfl⟩ := eff_of_step hb
  have aO := ea.shapeO
  have aT := ea.shapeT
  -- b from the first world on
  have eb' : Eff P G b σ δb := eb.congr {
    tmps := fun n hn => by
      rw [app_tmps]
      split
      · rename_i e; exact absurd hn (h1 n e).1
      · rfl
    objs := fun e => by
      rcases aO with h | ⟨h, _⟩ | h
      · exact app_objs_none h
      · exact absurd h (k2 e).1
      · exact absurd h (k2 e).2
    newO := fun e d hd hn => by
      rcases aO with h | ⟨h, d', b', q1, q2, q3⟩ | h
      · rwa [app_objs_none h] at hn
      · simp only [S.app, q2] at hn
        split at hn
        · cases hn
        · exact hn
      · exact absurd h (k4 e)
    newT := fun e d hd hn => by
      rcases aT with h | ⟨h, d', b', q1, q2, q3⟩ | h
      · rwa [app_toks_none h] at hn
      · simp only [S.app, q2] at hn
        split at hn
        · cases hn
        · exact hn
      · exact absurd h (k6 e)
    toks := fun e => by
      rcases aT with h | ⟨h, _⟩ | h
      · exact app_toks_none h
      · exact absurd h (k8 e).1
      · exact absurd h (k8 e).2 }
  have bO := eb'.shapeO
  have bT := eb'.shapeT
  have ea' : Eff P G a (σ.app b.dst δb) δa := ea.congr {
    tmps := fun n hn => by
      rw [app_tmps]
      split
      · rename_i e; exact absurd hn (h2 n e)
      · rfl
    objs := fun e => by
      rcases bO with h | ⟨h, _⟩ | h
      · exact (app_objs_none h).symm
      · exact absurd h (k1 e).1
      · exact absurd h (k1 e).2
    newO := fun e d hd hn => by
      rcases bO with h | ⟨h, d', b', q1, q2, q3⟩ | h
      · rwa [app_objs_none h]
      · simp only [S.app, q2]
        rw [if_neg (fun e2 => (h1 d hd).2 (by rw [q1, e2]))]
        exact hn
      · exact absurd h (k3 e)
    newT := fun e d hd hn => by
      rcases bT with h | ⟨h, d', b', q1, q2, q3⟩ | h
      · rwa [app_toks_none h]
      · simp only [S.app, q2]
        rw [if_neg (fun e2 => (h1 d hd).2 (by rw [q1, e2]))]
        exact hn
      · exact absurd h (k5 e)
    toks := fun e => by
      rcases bT with h | ⟨h, _⟩ | h
      · exact (app_toks_none h).symm
      · exact absurd h (k7 e).1
      · exact absurd h (k7 e).2 }
  refine ⟨_, step_of_eff eb', ?_⟩
  have key : (σ.app b.dst δb).app a.dst δa = (σ.app a.dst δa).app b.dst δb := by
    have e1 : ((σ.app b.dst δb).app a.dst δa).tmps = ((σ.app a.dst δa).app b.dst δb).tmps := by
      funext n
      simp only [app_tmps]
      by_cases ha : a.dst = some n
      · rw [if_pos ha, if_neg (h1 n ha).2, if_pos ha]
      · rw [if_neg ha, if_neg ha]
    have e2 : ((σ.app b.dst δb).app a.dst δa).objs = ((σ.app a.dst δa).app b.dst δb).objs := by
      rcases aO with h | ⟨h, d, x, q1, q2, q3⟩ | h
      · rw [app_objs_none h]; funext k; simp only [S.app, h]
      · rcases bO with h' | ⟨h', d', x', q1', q2', q3'⟩ | h'
        · rw [app_objs_none (σ := σ.app a.dst δa) h']; funext k; simp only [S.app, h']
        · have hne : d ≠ d' := fun e => (h1 d q1).2 (by rw [q1', e])
          funext k
          simp only [S.app, q2, q2']
          by_cases c1 : k = d
          · rw [if_pos c1, if_neg (fun c2 => hne (c1.symm.trans c2)), if_pos c1]
          · rw [if_neg c1, if_neg c1]
        · exact absurd h' (k3 h)
      · rcases bO with h' | ⟨h', _⟩ | h'
        · rw [app_objs_none (σ := σ.app a.dst δa) h']; funext k; simp only [S.app, h']
        · exact absurd h' (k1 (.inr h)).1
        · exact absurd h' (k1 (.inr h)).2
    have e3 : ((σ.app b.dst δb).app a.dst δa).toks = ((σ.app a.dst δa).app b.dst δb).toks := by
      rcases aT with h | ⟨h, d, x, q1, q2, q3⟩ | h
      · rw [app_toks_none h]; funext k; simp only [S.app, h]
      · rcases bT with h' | ⟨h', d', x', q1', q2', q3'⟩ | h'
        · rw [app_toks_none (σ := σ.app a.dst δa) h']; funext k; simp only [S.app, h']
        · have hne : d ≠ d' := fun e => (h1 d q1).2 (by rw [q1', e])
          funext k
          simp only [S.app, q2, q2']
          by_cases c1 : k = d
          · rw [if_pos c1, if_neg (fun c2 => hne (c1.symm.trans c2)), if_pos c1]
          · rw [if_neg c1, if_neg c1]
        · exact absurd h' (k5 h)
      · rcases bT with h' | ⟨h', _⟩ | h'
        · rw [app_toks_none (σ := σ.app a.dst δa) h']; funext k; simp only [S.app, h']
        · exact absurd h' (k7 h).1
        · exact absurd h' (k7 h).2
    show S.mk _ _ _ = S.mk _ _ _
    rw [S.mk.injEq]
    exact ⟨e1, e2, e3⟩
  rw [← key]
  exact step_of_eff ea'

end
end Go.Fx

/- Fx, part P: one step, wanted or not. -/
import Derived.Test.YtjijjadddeeekaaFxO
namespace Go.Fx
open Go.RowKit

section
variable {P : Program} {G : World → Prop} {w0 : World} {V0 : Nat → Nat → Prop} {N : Nat} {env : Env} {σ σ' : S} {a : Act} {w : World} {o : Oper} {toks : Nat → Option Tok}

theorem step_true (hG : Held G w0) {op : IOp} (hc : cmpOp P o = some op) (hd : ∀ n, o.dst = some n → n < N) {gd : Option (Nat × Bool)} (hs : StepI P G ⟨o.dst, op, gd⟩ σ σ') (hg : guardO σ gd = some true) : Good P w0 V0 N o σ σ' := by
  have hc0 := hc
  have pure : (∀ d, op ≠ .bytes d) → (∃ g, guardO σ gd = some g ∧ ∃ out, pureO σ op = some out ∧ (g = true → out.need) ∧ σ' = σ.put o.dst (.k g out.val)) → Good P w0 V0 N o σ σ' := by
    rintro hb ⟨g, h1, out, h2, h3, rfl⟩
    rw [hg] at h1; injection h1 with h1; subst h1
    exact good_pure hd hc0 h2 (h3 rfl) hb
  have mv : ∀ {x : Operand} {d : D}, (o.op = .move x ∨ o.op = .assign x) → cmpD x = some d → (∃ g, guardO σ gd = some g ∧ σ' = σ.put o.dst (moveT g (d.val σ))) → Good P w0 V0 N o σ σ' := by
    rintro x d hop hx ⟨g, h1, rfl⟩
    rw [hg] at h1; injection h1 with h1; subst h1
    exact good_move hd hop hx
  unfold cmpOp at hc
  split at hc
  · rename_i x hop
    cases hx : cmpD x <;> rw [hx] at hc <;> simp at hc
    subst hc
    exact mv (.inl hop) hx hs
  · rename_i x hop
    cases hx : cmpD x <;> rw [hx] at hc <;> simp at hc
    subst hc
    exact mv (.inr hop) hx hs
  · -- pick
    rename_i x y z hop
    split at hc
    · rename_i dx dy dz hx hy hz
      injection hc with hc; subst hc
      obtain ⟨g, h1, gc, t, h2, h3, rfl⟩ := hs
      rw [hg] at h1; injection h1 with h1; subst h1
      have := h3 rfl
      subst this
      exact good_pick hd hop hx hy hz h2
    · cases hc
  · -- alloc
    rename_i e hop
    cases hx : zeroIn P e <;> rw [hx] at hc <;> simp at hc
    subst hc
    obtain ⟨_, d, h1, h2, rfl⟩ := hs
    exact good_zero hd hop hx h1 h2
  · -- box
    rename_i e x hop
    cases hx : cmpD x <;> rw [hx] at hc <;> simp at hc
    subst hc
    obtain ⟨_, d, y, h1, h2, h3, rfl⟩ := hs
    exact good_box hd hop hx h1 h2 h3
  · -- build
    split at hc
    · split at hc
      · cases hx : cmpParts _ _ <;> rw [hx] at hc <;> simp at hc
        subst hc
        exact pure (fun _ h => by cases h) hs
      · cases hc
    · cases hc
  · -- buildSlice
    rename_i t len parts hop
    split at hc
    · rename_i e ht
      split at hc
      · rename_i i z hi hz
        split at hc
        · rename_i hcond
          obtain ⟨hb, hl, h0, hzl⟩ := hcond
          cases hx : cmpRow 0 parts.toList <;> rw [hx] at hc <;> simp at hc
          subst hc
          obtain ⟨h1, es, h2, h3, h4⟩ := hs
          cases gd with
          | none =>
            obtain ⟨d, h5, h6, rfl⟩ := h4
            exact good_row hd hop ht hi hz hb hl h0 hx h1 h2 h3 h6
          | some gd =>
            obtain ⟨g, h5, rfl⟩ := h4
            rw [hg] at h5; injection h5 with h5; subst h5
            exact good_row_closed hd hop ht hi hz hb hl h0 hx h1 h2 h3
        · cases hc
      · cases hc
    · cases hc
  · -- load
    split at hc
    · injection hc with hc; subst hc
      exact pure (fun _ h => by cases h) hs
    · cases hc
  · -- store
    rename_i t x y hop
    split at hc
    · rename_i i dx dy hi hx hy
      injection hc with hc; subst hc
      obtain ⟨_, k, r, off, b, yv, h1, h2, h3, h4, h5, h6, rfl⟩ := hs
      exact good_store hd hop hi hx hy h1 h2 h3 h4 h5 h6
    · cases hc
  · -- binOp
    split at hc
    · injection hc with hc; subst hc
      exact pure (fun _ h => by cases h) hs
    · split at hc
      · injection hc with hc; subst hc
        exact pure (fun _ h => by cases h) hs
      · injection hc with hc; subst hc
        exact pure (fun _ h => by cases h) hs
      · cases hc
    · injection hc with hc; subst hc
      exact pure (fun _ h => by cases h) hs
    · split at hc
      · split at hc
        · split at hc
          · injection hc with hc; subst hc
            exact pure (fun _ h => by cases h) hs
          · injection hc with hc; subst hc
            exact pure (fun _ h => by cases h) hs
          · cases hc
        · cases hc
      · cases hc
    · cases hc
  · -- unOp
    rename_i op' t x hop
    cases hx : cmpD x <;> rw [hx] at hc <;> simp at hc
    subst hc
    exact pure (fun _ h => by cases h) hs
  · -- convert
    rename_i src dst x hop
    split at hc
    · injection hc with hc; subst hc
      exact pure (fun _ h => by cases h) hs
    · rename_i e d h1 h2 hx
      split at hc
      · rename_i h3
        injection hc with hc; subst hc
        obtain ⟨g, h4, out, h5, h6, rfl⟩ := hs
        rw [hg] at h4; injection h4 with h4; subst h4
        simp only [pureO, Option.some.injEq] at h5
        subst h5
        have := h6 rfl
        exact good_bytes hd hop h1 h2 h3 hx this.1 this.2
      · cases hc
    · cases hc
  · -- makeSlice
    rename_i t l c hop
    split at hc
    · rename_i e dl dc ht hl hcc
      split at hc
      · rename_i i z hi hz
        injection hc with hc; subst hc
        obtain ⟨_, d, n, m, h1, h2, h3, h4, h5, h6, h7, h8, h9, rfl⟩ := hs
        exact good_make hd hop ht hi hz hl hcc h1 h2 h3 h4 h5 h6 h7 h8 h9
      · cases hc
    · cases hc
  · -- slice
    split at hc
    · split at hc
      · injection hc with hc; subst hc; exact pure (fun _ h => by cases h) hs
      · injection hc with hc; subst hc; exact pure (fun _ h => by cases h) hs
      · injection hc with hc; subst hc; exact pure (fun _ h => by cases h) hs
      · injection hc with hc; subst hc; exact pure (fun _ h => by cases h) hs
      · cases hc
    · split at hc
      · injection hc with hc; subst hc; exact pure (fun _ h => by cases h) hs
      · injection hc with hc; subst hc; exact pure (fun _ h => by cases h) hs
      · injection hc with hc; subst hc; exact pure (fun _ h => by cases h) hs
      · injection hc with hc; subst hc; exact pure (fun _ h => by cases h) hs
      · cases hc
    · cases hc
  · -- fieldAddr
    split at hc
    · split at hc
      · split at hc
        · split at hc
          · cases hc
          · injection hc with hc; subst hc; exact pure (fun _ h => by cases h) hs
        · cases hc
      · cases hc
    · cases hc
  · -- field
    split at hc
    · split at hc
      · split at hc
        · injection hc with hc; subst hc; exact pure (fun _ h => by cases h) hs
        · cases hc
      · cases hc
    · cases hc
  · -- indexAddr
    split at hc
    · split at hc
      · injection hc with hc; subst hc; exact pure (fun _ h => by cases h) hs
      · cases hc
    · cases hc
  · -- index
    split at hc
    · injection hc with hc; subst hc; exact pure (fun _ h => by cases h) hs
    · cases hc
  · -- extract
    rename_i x i hop
    cases hx : cmpD x <;> rw [hx] at hc <;> simp at hc
    subst hc
    exact pure (fun _ h => by cases h) hs
  · -- call
    rename_i c hop
    split at hc
    · split at hc
      · rename_i x t hargs htys
        split at hc
        · cases hx : cmpD x <;> rw [hx] at hc <;> simp at hc
          subst hc
          exact pure (fun _ h => by cases h) hs
        · cases hx : cmpD x <;> rw [hx] at hc <;> simp at hc
          subst hc
          exact pure (fun _ h => by cases h) hs
        · cases hc
      · cases hc
    · rename_i hcal
      split at hc
      · rename_i x y t u hargs htys
        split at hc
        · rename_i htu
          subst htu
          split at hc
          · rename_i e dx dy ht hx hy
            split at hc
            · rename_i i z hi hz
              split at hc
              · rename_i hcond
                injection hc with hc; subst hc
                obtain ⟨_, gx, gy, news, sp, hr, hw, hcase⟩ := hs
                split at hcase
                · rename_i k es hxr
                  obtain ⟨t', q1, q2, q3, q4, q5, q6, rfl⟩ := hcase
                  exact good_app_own hd hop hcal hargs htys ht hi hz hcond.2 hx hy gx gy hr hw hxr q1 q2 q3 q4 q5 q6
                · rename_i hxr
                  obtain ⟨d, q1, q2, q3, q4, rfl⟩ := hcase
                  exact good_app_nil hd hop hcal hargs htys ht hi hz hcond.2 hx hy gx gy hr hw hxr q2 q3 q4
                · exact hcase.elim
              · cases hc
            · cases hc
          · cases hc
        · cases hc
      · cases hc
    · rename_i f hcal
      split at hc
      · rename_i fn hf
        split at hc
        · rename_i hb
          cases hx : cmpDs c.args.toList <;> rw [hx] at hc <;> simp at hc
          subst hc
          obtain ⟨g, h1, cs, res, h2, rfl⟩ := hs
          rw [hg] at h1; injection h1 with h1; subst h1
          obtain ⟨h3, h4, h5⟩ := h2 rfl
          exact good_call hd hop hcal hf hb.1 hb.2 hx h3 h4 hG h5
        · cases hc
      · cases hc
    · cases hc
  · cases hc

/-- Whatever the step, it can be told whether the operation is wanted. -/
theorem step_guard {dst : Option Nat} {op : IOp} {gd : Option (Nat × Bool)} (hs : StepI P G ⟨dst, op, gd⟩ σ σ') : ∃ g, guardO σ gd = some g := by
  cases op <;> first
    | (obtain ⟨g, h, _⟩ := hs; exact ⟨g, h⟩)
    | (obtain ⟨h, _⟩ := hs; simp only at h; subst h; exact ⟨true, rfl⟩)
    | (obtain ⟨_, es, _, _, h⟩ := hs
       cases gd with
       | none => exact ⟨true, rfl⟩
       | some gd => obtain ⟨g, h1, _⟩ := h; exact ⟨g, h1⟩)

/-- Not wanted: the slot holds nothing. -/
theorem step_false {dst : Option Nat} {op : IOp} {gd : Option (Nat × Bool)} (hd : ∀ n, dst = some n → n < N) (hs : StepI P G ⟨dst, op, gd⟩ σ σ') (hg : guardO σ gd = some false) (h : Sim w0 V0 N env σ a w) :
    Sim w0 V0 N env σ' (a.put dst undef) w := by
  have hn : gd ≠ none := fun e => by subst e; cases hg
  have fin : ∀ r : R, Sim w0 V0 N env (σ.put dst (.k false r)) (a.put dst undef) w := fun r => h.put hd (by simp [RepT])
  cases op <;> first
    | (obtain ⟨h1, _⟩ := hs; exact absurd h1 hn)
    | (obtain ⟨g, h1, out, _, _, rfl⟩ := hs; rw [hg] at h1; injection h1 with h1; subst h1; exact fin _)
    | (obtain ⟨g, h1, cs, res, _, rfl⟩ := hs; rw [hg] at h1; injection h1 with h1; subst h1; exact fin _)
    | (obtain ⟨g, h1, rfl⟩ := hs
       rw [hg] at h1; injection h1 with h1; subst h1
       refine h.put hd ?_
       unfold moveT
       split
       · simp [RepT]
       · trivial)
    | (obtain ⟨g, h1, gc, t, _, _, rfl⟩ := hs
       rw [hg] at h1; injection h1 with h1; subst h1
       refine h.put hd ?_
       unfold pickT
       split
       · simp [RepT]
       · split
         · simp [RepT]
         · trivial)
    | (obtain ⟨_, es, _, _, h1⟩ := hs
       cases gd with
       | none => exact absurd rfl hn
       | some gd =>
         obtain ⟨g, h2, rfl⟩ := h1
         rw [hg] at h2; injection h2 with h2; subst h2
         exact fin _)

/-- The model's word on whether an operation is wanted is the telling's. -/
theorem wanted_eq {ops : Array Oper} {gd : Option (Nat × Bool)} {g : Bool} (hc : cmpGuard ops o.guard = some gd) (hg : guardO σ gd = some g) (h : Sim w0 V0 N env σ a w) : Region.wanted o (yielded ops a.tmps) = g := by
  unfold cmpGuard at hc
  split at hc
  · rename_i hn
    injection hc with hc; subst hc
    simp only [guardO, Option.some.injEq] at hg
    subst hg
    simp [Region.wanted, hn]
  · rename_i j b hgd
    split at hc
    · rename_i oj hoj
      split at hc
      · rename_i d hd
        injection hc with hc; subst hc
        unfold guardO at hg
        split at hg
        · rename_i heq; cases heq
        · rename_i s b' heq
          injection heq with heq; injection heq with e1 e2
          subst e1; subst e2
          split at hg
          · rename_i g' t ht
            injection hg with hg
            have hr := h.tmps d
            rw [ht] at hr
            have hy : yielded ops a.tmps j = if g' then some t else none := by
              simp only [yielded, hoj, Option.bind_some, hd]
              cases g' with
              | true =>
                have := rep_bool (RepT.tt hr)
                cases hx : a.tmps[d]? with
                | none => rw [Array.getD_eq_getD_getElem?, hx] at this; cases this
                | some v => rw [Array.getD_eq_getD_getElem?, hx] at this; simp at this; subst this; rfl
              | false =>
                have : a.tmps.getD d undef = undef := by simpa [RepT] using hr
                cases hx : a.tmps[d]? with
                | none => rfl
                | some v => rw [Array.getD_eq_getD_getElem?, hx] at this; simp at this; subst this; rfl
            simp only [Region.wanted, hgd, hy]
            rw [← hg]
            cases g' <;> cases t <;> cases b <;> rfl
          · cases hg
      · cases hc
    · cases hc

/-- One operation, in a region. -/
theorem op_sound (hG : Held G w0) {ops : Array Oper} {i : Nat} {io : IOper} (ho : ops[i]? = some o) (hc : cmpOper P ops N o = some io) (hs : StepI P G io σ σ') (h : Sim w0 V0 N env σ a w) {K : Act → World → Prop} {Q : Exit → Act → World → Prop}
    (hK : ∀ env' a' w', Sim w0 V0 N env' σ' a' w' → K a' w') : wpOp P ops Q i K a w := by
  have inv : ∃ op gd, cmpOp P o = some op ∧ cmpGuard ops o.guard = some gd ∧ io = ⟨o.dst, op, gd⟩ ∧ ∀ n, o.dst = some n → n < N := by
    unfold cmpOper at hc
    split at hc
    · rename_i op gd h1 h2
      split at hc
      · rename_i hd
        injection hc with hc
        exact ⟨op, gd, h1, h2, by rw [← hc, hd], fun n e => by rw [hd] at e; cases e⟩
      · rename_i d hd
        split at hc
        · rename_i hlt
          injection hc with hc
          exact ⟨op, gd, h1, h2, by rw [← hc, hd], fun n e => by rw [hd] at e; injection e with e; subst e; exact hlt⟩
        · cases hc
    · cases hc
  obtain ⟨op, gd, h1, h2, rfl, hd⟩ := inv
  obtain ⟨g, hg⟩ := step_guard hs
  have hw := wanted_eq h2 hg h
  unfold wpOp
  rw [ho]
  simp only [hw]
  cases g with
  | true => simp only [if_true]; exact .inl (step_true hG h1 hd hs hg env a w K Q h hK)
  | false => simp only [Bool.false_eq_true, if_false]; exact hK _ _ _ (step_false hd hs hg h)

end
end Go.Fx

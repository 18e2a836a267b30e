/- Fx, part D: what it is for a frame and a world to be told by a state; small laws. -/
import Derived.Test.YtjijjadddeeekaaFxC
import Derived.Maps.AppendAt
import Derived.Laws.MakeOwn
namespace Go.Fx
open Go.RowKit

/-- The frame a and the world w are told by σ. w0, V0: the world, and what nobody writes, as the call began; N: how many temporaries there are. -/
structure Sim (w0 : World) (V0 : Nat → Nat → Prop) (N : Nat) (env : Env) (σ : S) (a : Act) (w : World) : Prop where
  below : Below w0.heap.size w0 w
  defers : a.defers = []
  size : a.tmps.size = N
  vlt : ∀ b o, env.V b o → b < w.heap.size
  vnew : ∀ b o, env.V b o → V0 b o ∨ w0.heap.size ≤ b
  v0 : ∀ b o, V0 b o → b < w0.heap.size
  tmps : ∀ t, RepT env σ.toks w (σ.tmps t) (a.tmps.getD t undef)
  objs : ∀ k x, σ.objs k = some x → ∃ b us, env.ρ k = some (b, x.size) ∧ w0.heap.size ≤ b ∧ w.heap[b]? = some (.cells us.toArray x.ty (0, 0)) ∧
    All2 (RepA env σ.toks w) x.rows.flatten us ∧ (∀ r ∈ x.rows, r.length = x.size) ∧ ∀ o, ¬ env.V b o
  dom : ∀ k, σ.objs k = none → env.ρ k = none
  inj : ∀ k k' b s s', env.ρ k = some (b, s) → env.ρ k' = some (b, s') → k = k'
  toks : ∀ k t, σ.toks k = some t → ∃ v xs, env.τ k = some v ∧ w.ownsRow w0.heap.size t.ty t.size v t.n xs ∧
    (∀ b, v.ownBlock = some b → (∀ o, t.n * t.size ≤ o → ¬ env.V b o) ∧ ∀ k' s, env.ρ k' ≠ some (b, s))
  tdom : ∀ k, σ.toks k = none → env.τ k = none
  tinj : ∀ k k' v v' b, env.τ k = some v → env.τ k' = some v' → v.ownBlock = some b → v'.ownBlock = some b → k = k'

def SimE (w0 : World) (V0 : Nat → Nat → Prop) (N : Nat) (σ : S) (a : Act) (w : World) : Prop := ∃ env, Sim w0 V0 N env σ a w

section
variable {w0 : World} {V0 : Nat → Nat → Prop} {N : Nat} {env : Env} {σ : S} {a : Act} {w : World}

theorem Act.getD_put {a : Act} {d t : Nat} {v : Value} (hd : d < a.tmps.size) : (a.put (some d) v).tmps.getD t undef = if t = d then v else a.tmps.getD t undef := by
  simp only [Act.put]
  by_cases h : t = d
  · subst h
    simp [Array.getD, hd]
  · rw [if_neg h]
    simp only [Array.getD_eq_getD_getElem?]
    rw [Array.getElem?_setIfInBounds_ne (fun e => h e.symm)]

theorem Act.size_put (a : Act) (d : Option Nat) (v : Value) : (a.put d v).tmps.size = a.tmps.size := by cases d <;> simp [Act.put]
theorem Act.defers_put (a : Act) (d : Option Nat) (v : Value) : (a.put d v).defers = a.defers := by cases d <;> rfl

/-- A temporary is written; nothing else turns. -/
theorem Sim.put (h : Sim w0 V0 N env σ a w) {d : Option Nat} {t : T} {v : Value} (hd : ∀ n, d = some n → n < N) (hr : RepT env σ.toks w t v) : Sim w0 V0 N env (σ.put d t) (a.put d v) w := by
  cases d with
  | none => exact h
  | some d =>
    refine { h with defers := by rw [Act.defers_put]; exact h.defers, size := by rw [Act.size_put]; exact h.size, tmps := fun n => ?_ }
    rw [Act.getD_put (by rw [h.size]; exact hd d rfl)]
    simp only [S.put]
    by_cases e : n = d
    · rw [if_pos e, if_pos e]; exact hr
    · rw [if_neg e, if_neg e]; exact h.tmps n

/-- A draw turns nothing. -/
theorem Sim.drew (h : Sim w0 V0 N env σ a w) : Sim w0 V0 N env σ a { w with drawn := w.drawn + 1 } := by
  have he : env.Le env σ.toks σ.toks w { w with drawn := w.drawn + 1 } := ⟨fun _ _ x => x, fun _ _ _ => rfl, fun _ _ x => x, fun _ t x => ⟨t, x, rfl, Nat.le_refl _, fun _ => rfl⟩⟩
  exact { h with
    below := ⟨h.below.os, h.below.tape, h.below.output, h.below.size, h.below.block⟩
    tmps := fun t => (h.tmps t).mono he
    objs := fun k x hx => by
      obtain ⟨b, us, h1, h2, h3, h4, h5⟩ := h.objs k x hx
      exact ⟨b, us, h1, h2, h3, h4.imp fun _ _ _ => RepA.mono he, h5⟩
    toks := fun k t ht => by
      obtain ⟨v, xs, h1, h2, h3⟩ := h.toks k t ht
      exact ⟨v, xs, h1, h2, h3⟩ }

/-- The world grows, and what is new may be read: blocks of the function's own are as they were. -/
theorem Sim.grow (h : Sim w0 V0 N env σ a w) {w' : World} (hb : Below w.heap.size w w') : Sim w0 V0 N { env with V := fun b o => env.V b o ∨ (w.heap.size ≤ b ∧ b < w'.heap.size) } σ a w' := by
  have hcell : ∀ b o, b < w.heap.size → w'.cell? ⟨b, o, none⟩ = w.cell? ⟨b, o, none⟩ := fun b o hlt => hb.cell (p := ⟨b, o, none⟩) hlt
  have he : env.Le { env with V := fun b o => env.V b o ∨ (w.heap.size ≤ b ∧ b < w'.heap.size) } σ.toks σ.toks w w' :=
    ⟨fun _ _ x => .inl x, fun b o x => hcell b o (h.vlt b o x), fun _ _ x => x, fun _ t x => ⟨t, x, rfl, Nat.le_refl _, fun _ => rfl⟩⟩
  have hold : ∀ b, b < w.heap.size → ∀ o, ¬ env.V b o → ¬ (env.V b o ∨ (w.heap.size ≤ b ∧ b < w'.heap.size)) := fun b hlt o hn hh => hh.elim hn fun hx => by omega
  have hblk : ∀ (b : Nat) (x : Obj), w.heap[b]? = some x → b < w.heap.size := fun b x hx => (Array.getElem?_eq_some_iff.1 hx).1
  exact { h with
    below := h.below.trans (hb.mono h.below.size)
    vlt := fun b o hv => hv.elim (fun x => Nat.lt_of_lt_of_le (h.vlt b o x) hb.size) fun x => x.2
    vnew := fun b o hv => hv.elim (h.vnew b o) fun x => .inr (Nat.le_trans h.below.size x.1)
    tmps := fun t => (h.tmps t).mono he
    objs := fun k x hx => by
      obtain ⟨b, us, h1, h2, h3, h4, h5, h6⟩ := h.objs k x hx
      exact ⟨b, us, h1, h2, (hb.block b (hblk b _ h3)).trans h3, h4.imp fun _ _ _ => RepA.mono he, h5, fun o => hold b (hblk b _ h3) o (h6 o)⟩
    toks := fun k t ht => by
      obtain ⟨v, xs, h1, h2, h3⟩ := h.toks k t ht
      refine ⟨v, xs, h1, ?_, fun b hv => ⟨fun o ho => hold b ((h2.lt b hv).2) o ((h3 b hv).1 o ho), (h3 b hv).2⟩⟩
      exact h2.kept (row := none) ⟨hb.os, hb.tape, hb.output, hb.size, fun i hi _ => hb.block i hi⟩ (by cases v.ownBlock <;> simp) }

end
end Go.Fx

/- Fx, part D: what it is for a frame and a world to be told by a state; small laws. -/
import Derived.Test.YtiomojlcnemnhaaDoorFxC
import Derived.Maps.AppendAt
import Derived.Laws.MakeOwn
import Derived.MapKept
namespace Go.Fx
open Go.RowKit

theorem BoxIn.lt {w : World} {x : Box} {b : Nat} {us : List Value} (h : BoxIn w x b us) : b < w.heap.size := by
  obtain ⟨ob, h, _⟩ := h; exact (Array.getElem?_eq_some_iff.1 h).1
theorem BoxIn.of {w w' : World} {x : Box} {b : Nat} {us : List Value} (e : w'.heap[b]? = w.heap[b]?) (h : BoxIn w x b us) : BoxIn w' x b us := by
  obtain ⟨ob, h1, h2⟩ := h; exact ⟨ob, e.trans h1, h2⟩
theorem BoxIn.cells {w : World} {x : Box} {b : Nat} {us : List Value} (h : BoxIn w x b us) (hm : x.mp = none) : ∃ ex : List Value, w.heap[b]? = some (.cells (us ++ ex).toArray x.ty (0, 0)) := by
  obtain ⟨ob, h1, h2⟩ := h
  unfold Holds at h2
  rw [hm] at h2
  obtain ⟨ex, rfl⟩ := h2
  exact ⟨ex, h1⟩
theorem BoxIn.mk {w : World} {x : Box} {b : Nat} {us : List Value} (ex : List Value) (hm : x.mp = none) (h : w.heap[b]? = some (.cells (us ++ ex).toArray x.ty (0, 0))) : BoxIn w x b us := by
  refine ⟨_, h, ?_⟩
  unfold Holds
  rw [hm]
  exact ⟨ex, rfl⟩
/-- What a box's block holds says nothing of how its rows read, only how many they are. -/
theorem BoxIn.struck {w : World} {x : Box} {b : Nat} {us : List Value} (h : BoxIn w x b us) (ks : List Nat) : BoxIn w { x with rows := x.rows.map (strikeL ks) } b us := by
  obtain ⟨ob, h1, h2⟩ := h
  refine ⟨ob, h1, ?_⟩
  unfold Holds at h2 ⊢
  simp only
  split at h2
  · exact h2
  · refine ⟨by simpa using h2.1, fun r hr => ?_⟩
    obtain ⟨r', hr', rfl⟩ := List.mem_map.1 hr
    obtain ⟨y, t, rfl⟩ := h2.2 r' hr'
    exact ⟨y, strikeL ks t, rfl⟩

/-- What was handed over as the call began. -/
structure Base where
  env : Env
  h : Hp
  F : Nat → Prop

abbrev Base.V (B : Base) : Nat → Nat → Prop := B.env.V
abbrev Base.M (B : Base) : Nat → Prop := Owned B.env B.h B.F
/-- New memory, or handed over. -/
def New (w0 : World) (B : Base) (b : Nat) : Prop := w0.heap.size ≤ b ∨ B.M b

/-- The mark that a range over a function leaves among the deferred calls. -/
def markD (r : Nat) : Deferred := { target := .collected r, args := #[] }

/-- The frame a and the world w are told by σ. w0, V0: the world, and what was handed over, as the call began; N: how many temporaries there are. -/
structure Sim (w0 : World) (V0 : Base) (N : Nat) (env : Env) (σ : S) (a : Act) (w : World) : Prop where
  below : KeptBut V0.M w0 w
  defers : (σ.ext.mark = V0.h.ext.mark ∨ V0.h.ext.mark = none) ∧ (a.defers = [] ∨ ∃ r, σ.ext.mark = some r ∧ a.defers = [markD r] ∧ V0.h.ext.mark = none)
  size : a.tmps.size = N
  nn : N ≤ 10000
  vlt : ∀ b o, env.V b o → b < w.heap.size
  vnew : ∀ b o, env.V b o → V0.V b o ∨ New w0 V0 b
  vold : ∀ b o, V0.V b o → env.V b o
  v0 : ∀ b o, V0.V b o → b < w0.heap.size
  vcell : ∀ b o, V0.V b o → w.cell? ⟨b, o, none⟩ = w0.cell? ⟨b, o, none⟩
  tmps : ∀ t, RepT env σ.toks w (σ.tmps t) (a.tmps.getD t undef)
  objs : ∀ k x, σ.objs k = some x → ∃ b us, env.ρ k = some (b, x.size) ∧ New w0 V0 b ∧ BoxIn w x b us ∧
    All2 (RepA env σ.toks w) x.rows.flatten us ∧ (∀ r ∈ x.rows, r.length = x.size) ∧ ∀ o, ¬ env.V b o
  dom : ∀ k, ownKey k → σ.objs k = none → env.ρ k = none
  ρlt : ∀ k b s, env.ρ k = some (b, s) → b < w.heap.size
  inj : ∀ k k' b s s', env.ρ k = some (b, s) → env.ρ k' = some (b, s') → k = k'
  toks : ∀ k t, σ.toks k = some t → ∃ v xs, env.τ k = some v ∧ w.ownsRow 0 t.ty t.size v t.n xs ∧
    (∀ b, v.ownBlock = some b → New w0 V0 b ∧ (∀ o, t.n * t.size ≤ o → ¬ env.V b o) ∧ ∀ k' s, env.ρ k' ≠ some (b, s))
  tdom : ∀ k, ownKey k → σ.toks k = none → env.τ k = none
  τlt : ∀ k v b, env.τ k = some v → v.ownBlock = some b → b < w.heap.size
  tinj : ∀ k k' v v' b, env.τ k = some v → env.τ k' = some v' → v.ownBlock = some b → v'.ownBlock = some b → k = k'
  sep : ∀ k k' v b s, env.τ k = some v → v.ownBlock = some b → env.ρ k' ≠ some (b, s)
  ext : ∃ F : Nat → Prop, σ.ext.holds env.V F w ∧ ∀ b, F b → New w0 V0 b ∧ b < w.heap.size ∧ (∀ o, ¬ env.V b o) ∧ (∀ k s, env.ρ k ≠ some (b, s)) ∧ ∀ k v, env.τ k = some v → v.ownBlock ≠ some b
  own : ∀ k, ownKey k → V0.h.objs k = none ∧ V0.h.toks k = none
  keepO : ∀ k, ¬ ownKey k → env.ρ k = V0.env.ρ k
  keepN : ∀ k, ¬ ownKey k → V0.h.toks k = none → env.τ k = V0.env.τ k ∧ σ.toks k = none
  keepT : ∀ k t t', V0.h.toks k = some t → σ.toks k = some t' → t'.size = t.size ∧ t.n ≤ t'.n ∧ (t'.n = t.n → env.τ k = V0.env.τ k)

def SimE (w0 : World) (V0 : Base) (N : Nat) (σ : S) (a : Act) (w : World) : Prop := ∃ env, Sim w0 V0 N env σ a w

section
variable {w0 : World} {V0 : Base} {N : Nat} {env : Env} {σ : S} {a : Act} {w : World}

theorem Act.getD_put {a : Act} {d t : Nat} {v : Value} (hd : d < a.tmps.size) : (a.put (some d) v).tmps.getD t undef = if t = d then v else a.tmps.getD t undef := by
  simp only [Act.put]
  by_cases h : t = d
  · subst h
    simp [Array.getD, hd]
  · rw [if_neg h]
    simp only [Array.getD_eq_getD_getElem?]
    rw [Array.getElem?_setIfInBounds_ne (fun e => h e.symm)]

theorem Act.size_put (a : Act) (d : Option Nat) (v : Value) : (a.put d v).tmps.size = a.tmps.size := by cases d <;> simp [Act.put]
theorem Act.defers_put (a : Act) (d : Option Nat) (v : Value) : (a.put d v).defers = a.defers := by cases d <;> rfl

/-- A temporary is written; nothing else turns. -/
theorem Sim.put (h : Sim w0 V0 N env σ a w) {d : Option Nat} {t : T} {v : Value} (hd : ∀ n, d = some n → n < N) (hr : RepT env σ.toks w t v) : Sim w0 V0 N env (σ.put d t) (a.put d v) w := by
  cases d with
  | none => exact h
  | some d =>
    refine { h with defers := by rw [Act.defers_put]; exact h.defers, size := by rw [Act.size_put]; exact h.size, tmps := fun n => ?_ }
    rw [Act.getD_put (by rw [h.size]; exact hd d rfl)]
    simp only [S.put]
    by_cases e : n = d
    · rw [if_pos e, if_pos e]; exact hr
    · rw [if_neg e, if_neg e]; exact h.tmps n

/-- A draw turns nothing. -/
theorem Sim.drew (h : Sim w0 V0 N env σ a w) : Sim w0 V0 N env σ a { w with drawn := w.drawn + 1 } := by
  have he : env.Le env σ.toks σ.toks w { w with drawn := w.drawn + 1 } := ⟨fun _ _ x => x, fun _ _ _ => rfl, fun _ _ x => x, fun _ t x => ⟨t, x, rfl, Nat.le_refl _, fun _ => rfl⟩⟩
  exact { h with
    below := ⟨h.below.os, h.below.tape, h.below.output, h.below.size, h.below.block⟩
    vcell := fun b o x => h.vcell b o x
    tmps := fun t => (h.tmps t).mono he
    objs := fun k x hx => by
      obtain ⟨b, us, h1, h2, h3, h4, h5⟩ := h.objs k x hx
      exact ⟨b, us, h1, h2, h3, h4.imp fun _ _ _ => RepA.mono he, h5⟩
    toks := fun k t ht => by
      obtain ⟨v, xs, h1, h2, h3⟩ := h.toks k t ht
      exact ⟨v, xs, h1, h2, h3⟩
    ext := by
      obtain ⟨F, h1, h2⟩ := h.ext
      exact ⟨F, σ.ext.mono (w := w) (fun _ _ x => x) (fun _ _ _ => rfl) (fun _ _ => rfl) h1, h2⟩ }

/-- The world grows, and what is new may be read: blocks of the function's own are as they were. -/
theorem Sim.grow (h : Sim w0 V0 N env σ a w) {w' : World} (hb : Below w.heap.size w w') : Sim w0 V0 N { env with V := fun b o => env.V b o ∨ (w.heap.size ≤ b ∧ b < w'.heap.size) } σ a w' := by
  have hcell : ∀ b o, b < w.heap.size → w'.cell? ⟨b, o, none⟩ = w.cell? ⟨b, o, none⟩ := fun b o hlt => hb.cell (p := ⟨b, o, none⟩) hlt
  have he : env.Le { env with V := fun b o => env.V b o ∨ (w.heap.size ≤ b ∧ b < w'.heap.size) } σ.toks σ.toks w w' :=
    ⟨fun _ _ x => .inl x, fun b o x => hcell b o (h.vlt b o x), fun _ _ x => x, fun _ t x => ⟨t, x, rfl, Nat.le_refl _, fun _ => rfl⟩⟩
  have hold : ∀ b, b < w.heap.size → ∀ o, ¬ env.V b o → ¬ (env.V b o ∨ (w.heap.size ≤ b ∧ b < w'.heap.size)) := fun b hlt o hn hh => hh.elim hn fun hx => by omega
  exact { h with
    below := h.below.trans (KeptBut.of_below (M := fun _ => False) hb) (fun _ x => x.elim)
    vlt := fun b o hv => hv.elim (fun x => Nat.lt_of_lt_of_le (h.vlt b o x) hb.size) fun x => x.2
    ρlt := fun k b s x => Nat.lt_of_lt_of_le (h.ρlt k b s x) hb.size
    τlt := fun k v b x y => Nat.lt_of_lt_of_le (h.τlt k v b x y) hb.size
    vnew := fun b o hv => hv.elim (h.vnew b o) fun x => .inr (.inl (Nat.le_trans h.below.size x.1))
    vold := fun b o hv => .inl (h.vold b o hv)
    vcell := fun b o x => (hcell b o (h.vlt b o (h.vold b o x))).trans (h.vcell b o x)
    tmps := fun t => (h.tmps t).mono he
    objs := fun k x hx => by
      obtain ⟨b, us, h1, h2, h3, h4, h5, h6⟩ := h.objs k x hx
      exact ⟨b, us, h1, h2, h3.of (hb.block b h3.lt), h4.imp fun _ _ _ => RepA.mono he, h5, fun o => hold b h3.lt o (h6 o)⟩
    toks := fun k t ht => by
      obtain ⟨v, xs, h1, h2, h3⟩ := h.toks k t ht
      refine ⟨v, xs, h1, ?_, fun b hv => ⟨(h3 b hv).1, fun o ho => hold b ((h2.lt b hv).2) o ((h3 b hv).2.1 o ho), (h3 b hv).2.2⟩⟩
      exact h2.kept (row := none) ⟨hb.os, hb.tape, hb.output, hb.size, fun i hi _ => hb.block i hi⟩ (by cases v.ownBlock <;> simp)
    ext := by
      obtain ⟨F, h1, h2⟩ := h.ext
      refine ⟨F, σ.ext.mono (w := w) (fun _ _ x => .inl x) (fun b o x => hcell b o (h.vlt b o x)) (fun b x => hb.block b (h2 b x).2.1) h1, fun b x => ?_⟩
      obtain ⟨g1, g2, g3, g4, g5⟩ := h2 b x
      exact ⟨g1, Nat.lt_of_lt_of_le g2 hb.size, fun o => hold b g2 o (g3 o), g4, g5⟩ }

end
end Go.Fx

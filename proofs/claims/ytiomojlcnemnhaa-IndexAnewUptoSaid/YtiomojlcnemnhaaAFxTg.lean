import Derived.Test.YtiomojlcnemnhaaAFxT
import Derived.RangeFuncRecord
namespace Go.Fx
open Go.RowKit
section
variable {P : Program} {G : World → Prop} {w0 : World} {V0 : Base} {N : Nat} {env : Env} {σ σ' τ : S} {a a' : Act} {w w' : World} {fl : Notes} {rd : Option Nat} {rn : Nat}
theorem Sim.turn {e' : XP} (h : Sim w0 V0 N env σ a w) (ht : a'.tmps = a.tmps)
    (hb : ∀ F, σ.ext.holds env.V F w → KeptBut F w w' ∧ ∃ F', e'.holds env.V F' w' ∧ ∀ c, F' c → F c ∨ (w.heap.size ≤ c ∧ c < w'.heap.size))
    (hd : (e'.mark = V0.h.ext.mark ∨ V0.h.ext.mark = none) ∧ (a'.defers = [] ∨ ∃ r, e'.mark = some r ∧ a'.defers = [markD r] ∧ V0.h.ext.mark = none)) : Sim w0 V0 N env { σ with ext := e' } a' w' := by
  obtain ⟨F, f1, f2⟩ := h.ext
  obtain ⟨hk, F', g1, g2⟩ := hb F f1
  have hcell : ∀ b o, env.V b o → w'.cell? ⟨b, o, none⟩ = w.cell? ⟨b, o, none⟩ := fun b o hv => World.cell?_of_block (a := ⟨b, o, none⟩) (hk.block b (h.vlt b o hv) fun hf => (f2 b hf).2.2.1 o hv)
  have hle : env.Le env σ.toks σ.toks w w' := ⟨fun _ _ x => x, hcell, fun _ _ x => x, fun _ t x => ⟨t, x, rfl, Nat.le_refl _, fun _ => rfl⟩⟩
  exact {
    below := h.below.trans hk fun b hf => (f2 b hf).1
    defers := hd
    size := by rw [ht]; exact h.size
    nn := h.nn
    vlt := fun b o hv => Nat.lt_of_lt_of_le (h.vlt b o hv) hk.size
    vnew := h.vnew
    vold := h.vold
    v0 := h.v0
    vcell := fun b o hv => (hcell b o (h.vold b o hv)).trans (h.vcell b o hv)
    tmps := fun t => by rw [ht]; exact (h.tmps t).mono hle
    objs := fun k x hx => by
      obtain ⟨b, us, h1, h2, h3, h4, h5, h6⟩ := h.objs k x hx
      exact ⟨b, us, h1, h2, h3.of (hk.block b h3.lt fun hf => (f2 b hf).2.2.2.1 k _ h1), h4.imp fun _ _ _ => RepA.mono hle, h5, h6⟩
    dom := h.dom
    ρlt := fun k b s x => Nat.lt_of_lt_of_le (h.ρlt k b s x) hk.size
    inj := h.inj
    toks := fun k t hx => by
      obtain ⟨v, xs, h1, h2, h3⟩ := h.toks k t hx
      exact ⟨v, xs, h1, ownsRow_of_block h2 fun b hv => hk.block b (h2.lt b hv).2 fun hf => (f2 b hf).2.2.2.2 k v h1 hv, h3⟩
    tdom := h.tdom
    τlt := fun k v b x y => Nat.lt_of_lt_of_le (h.τlt k v b x y) hk.size
    tinj := h.tinj
    sep := h.sep
    ext := ⟨F', g1, fun c hc => by
      rcases g2 c hc with hf | ⟨hge, hlt⟩
      · obtain ⟨q1, q2, q3, q4, q5⟩ := f2 c hf
        exact ⟨q1, Nat.lt_of_lt_of_le q2 hk.size, q3, q4, q5⟩
      · refine ⟨.inl (Nat.le_trans h.below.size hge), hlt, fun o hv => ?_, fun k s hr => ?_, fun k v hr hv => ?_⟩
        · have := h.vlt c o hv; omega
        · have := h.ρlt k c s hr; omega
        · have := h.τlt k v c hr hv; omega⟩
    own := h.own
    keepO := h.keepO
    keepN := h.keepN
    keepT := h.keepT }
theorem keptBut_put {w : World} {b : Nat} {ob : Obj} {F : Nat → Prop} (hF : F b) : KeptBut F w (w.putObj b ob) :=
  ⟨rfl, rfl, rfl, by rw [World.putObj_size]; exact Nat.le_refl _, fun i _ hn => World.putObj_heap_other fun e => hn (e ▸ hF)⟩
end
end Go.Fx

namespace Go.Fx
open Go.RowKit
section
variable {P : Program} {G : World → Prop} {w0 : World} {V0 : Base} {N : Nat} {env : Env} {σ σ' τ : S} {a a' : Act} {w w' : World} {fl : Notes} {rd : Option Nat} {rn : Nat}
end
end Go.Fx

namespace Go.Fx
open Go.RowKit
section
variable {P : Program} {G : World → Prop} {w0 : World} {V0 : Base} {N : Nat} {env : Env} {σ σ' τ : S} {a : Act} {w : World} {fl : Notes}
end
end Go.Fx

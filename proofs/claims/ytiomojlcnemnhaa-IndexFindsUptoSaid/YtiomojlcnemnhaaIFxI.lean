import Derived.Test.YtiomojlcnemnhaaIFxG
namespace Go.Fx
open Go.RowKit
section
variable {P : Program} {w0 : World} {V0 : Base} {N : Nat} {env : Env} {σ σ' : S} {a : Act} {w : World} {o : Oper} {toks : Nat → Option Tok}
theorem RepT.r {t : T} {v : Value} (h : RepT env toks w t v) (hg : t.g = true) : RepR env toks w t.r v := by
  cases t with
  | k g r => simp only [T.g] at hg; subst hg; exact h
  | lost => cases hg
abbrev FW (rd : Option Nat) : Fence := { Fence.wide with round := rd }
def Good (P : Program) (w0 : World) (V0 : Base) (N : Nat) (o : Oper) (σ σ' : S) : Prop :=
  ∀ (rd : Option Nat) (n : Nat) env a w K Q, Sim w0 V0 N env σ a w → (∀ env' a' w', Sim w0 V0 N env' σ' a' w' → K a' w') → o.wpIn (FW rd) n P a w K Q
theorem wp_next {rd : Option Nat} {n : Nat} {K : Act → World → Prop} {Q : Exit → Act → World → Prop} {x : Next} {w' : World} (h : (execOp a.eval o).run P w = .ok x w') (hx : ∀ d, x ≠ .defer d)
    (hK : o.uponIn (FW rd) n P a K Q (.ok x w')) : o.wpIn (FW rd) n P a w K Q := by
  refine ⟨fun _ _ => trivial, ?_⟩
  rw [Oper.semAt_eq, h]
  · exact hK
  · intro c hc
    have h' := h
    simp only [execOp, hc, Sem.run_bind] at h'
    cases hr : (resolve a.eval c o.type).run P w with
    | ok d w2 => rw [hr] at h'; simp [Result.andThen] at h'; exact hx d h'.1.symm
    | halt y w2 => rw [hr] at h'; simp [Result.andThen] at h'
theorem wp_value {rd : Option Nat} {n : Nat} {v : Value} {w' : World} {K : Act → World → Prop} {Q : Exit → Act → World → Prop} (h : (execOp a.eval o).run P w = .ok (.value v) w') (hK : K (a.put o.dst v) w') : o.wpIn (FW rd) n P a w K Q :=
  wp_next h (fun d e => by cases e) hK
theorem Good.pure {t : T} (hd : ∀ n, o.dst = some n → n < N) (h : ∀ env a w, Sim w0 V0 N env σ a w → ∃ v, (execOp a.eval o).run P w = .ok (.value v) w ∧ RepT env σ.toks w t v) :
    Good P w0 V0 N o σ (σ.put o.dst t) := fun rd n env a w K Q hs hK => by
  obtain ⟨v, hr, ht⟩ := h env a w hs
  exact wp_value hr (hK env _ _ (hs.put hd ht))
end
end Go.Fx

namespace Go.Fx
open Go.RowKit
section
variable {P : Program} {w0 : World} {V0 : Base} {N : Nat} {env : Env} {σ σ' : S} {a : Act} {w : World} {o : Oper} {toks : Nat → Option Tok}
end
end Go.Fx

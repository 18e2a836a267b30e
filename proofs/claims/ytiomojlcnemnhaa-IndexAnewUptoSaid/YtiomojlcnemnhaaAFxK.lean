import Derived.Test.YtiomojlcnemnhaaAFxG
import Derived.Laws.Tables
namespace Go.Fx
open Go.RowKit
section
variable {P : Program} {w0 : World} {V0 : Base} {N : Nat} {env : Env} {σ σ' : S} {a : Act} {w : World} {o : Oper} {toks : Nat → Option Tok}
theorem RepT.r {t : T} {v : Value} (h : RepT env toks w t v) (hg : t.g = true) : RepR env toks w t.r v := by
  cases t with
  | k g r => simp only [T.g] at hg; subst hg; exact h
  | lost => cases hg
abbrev FW (rd : Option Nat) : Fence := { Fence.wide with round := rd }
def Good (P : Program) (w0 : World) (V0 : Base) (N : Nat) (o : Oper) (σ σ' : S) : Prop :=
  ∀ (rd : Option Nat) (n : Nat) env a w K Q, Sim w0 V0 N env σ a w → (∀ env' a' w', Sim w0 V0 N env' σ' a' w' → K a' w') → o.wpIn (FW rd) n P a w K Q
theorem wp_next {rd : Option Nat} {n : Nat} {K : Act → World → Prop} {Q : Exit → Act → World → Prop} {x : Next} {w' : World} (h : (execOp a.eval o).run P w = .ok x w') (hx : ∀ d, x ≠ .defer d)
    (hK : o.uponIn (FW rd) n P a K Q (.ok x w')) : o.wpIn (FW rd) n P a w K Q := by
  refine ⟨fun _ _ => trivial, ?_⟩
  rw [Oper.semAt_eq, h]
  · exact hK
  · intro c hc
    have h' := h
    simp only [execOp, hc, Sem.run_bind] at h'
    cases hr : (resolve a.eval c o.type).run P w with
    | ok d w2 => rw [hr] at h'; simp [Result.andThen] at h'; exact hx d h'.1.symm
    | halt y w2 => rw [hr] at h'; simp [Result.andThen] at h'
theorem wp_value {rd : Option Nat} {n : Nat} {v : Value} {w' : World} {K : Act → World → Prop} {Q : Exit → Act → World → Prop} (h : (execOp a.eval o).run P w = .ok (.value v) w') (hK : K (a.put o.dst v) w') : o.wpIn (FW rd) n P a w K Q :=
  wp_next h (fun d e => by cases e) hK
theorem Good.pure {t : T} (hd : ∀ n, o.dst = some n → n < N) (h : ∀ env a w, Sim w0 V0 N env σ a w → ∃ v, (execOp a.eval o).run P w = .ok (.value v) w ∧ RepT env σ.toks w t v) :
    Good P w0 V0 N o σ (σ.put o.dst t) := fun rd n env a w K Q hs hK => by
  obtain ⟨v, hr, ht⟩ := h env a w hs
  exact wp_value hr (hK env _ _ (hs.put hd ht))
end
end Go.Fx

namespace Go.Fx
open Go.RowKit
section
variable {P : Program} {w0 : World} {V0 : Base} {N : Nat} {env : Env} {σ σ' : S} {a : Act} {w : World} {o : Oper} {toks : Nat → Option Tok}
end
end Go.Fx

namespace Go.Fx
open Go.RowKit
section
variable {P : Program} {w0 : World} {V0 : Base} {N : Nat} {env : Env} {σ σ' : S} {a : Act} {w : World} {o : Oper} {toks : Nat → Option Tok}
theorem cells_one {v : Value} (h : v.oneCell' = true) : v.cells = #[v] := by cases v <;> first | rfl | cases h
theorem RepX.cells {x : X} {v : Value} (h : RepX env toks w x v) : All2 (RepA env toks w) x.cells v.cells.toList := by
  cases x with
  | one y => rw [cells_one (RepA.oneCell h)]; exact All2.cons h All2.nil
  | agg cs => obtain ⟨us, e, hu⟩ := h; subst e; simpa [Value.cells, X.cells] using hu
theorem RepR.cells {r : R} {l : List A} {v : Value} (h : RepR env toks w r v) (hl : r.cells = some l) : All2 (RepA env toks w) l v.cells.toList := by
  cases r with
  | x y => simp only [R.cells, Option.some.injEq] at hl; subst hl; exact RepX.cells h
  | tup xs => simp [R.cells] at hl
theorem foldl_over : ∀ (vs : List Value) (k off : Nat) (cs : Array Value), off + k + vs.length ≤ cs.size →
    ((vs.zipIdx k).foldl (fun cs (x : Value × Nat) => cs.setIfInBounds (off + x.2) x.1) cs).toList = over cs.toList (off + k) vs
  | [], k, off, cs, _ => by simp [over]
  | v :: vs, k, off, cs, h => by
    simp only [List.zipIdx_cons, List.foldl_cons]
    rw [foldl_over vs (k + 1) off _ (by simp at h ⊢; omega)]
    simp only [Array.toList_setIfInBounds]
    rw [show off + (k + 1) = (off + k) + 1 by omega, over_cons (by simp at h ⊢; omega)]
theorem All2.splice {p : A → Value → Prop} {cs : List A} {us : List Value} {off : Nat} {l : List A} {vs : List Value} (h : All2 p cs us) (hl : All2 p l vs) : All2 p (splice cs off l) (over us off vs) := by
  unfold Fx.splice over
  rw [hl.1]
  exact ((h.take off).append hl).append (h.drop _)
end
end Go.Fx

namespace Go.Fx
open Go.RowKit
section
variable {P : Program} {env : Env} {w : World} {toks : Nat → Option Tok}
end
end Go.Fx

namespace Go.Fx
open Go.RowKit
section
variable {P : Program} {w0 : World} {V0 : Base} {N : Nat} {env : Env} {σ σ' : S} {a : Act} {w : World} {o : Oper} {toks : Nat → Option Tok}
theorem Good.val {r : R} (hd : ∀ n, o.dst = some n → n < N) (h : ∀ env a w, Sim w0 V0 N env σ a w → ∃ v, (execOp a.eval o).run P w = .ok (.value v) w ∧ RepR env σ.toks w r v) :
    Good P w0 V0 N o σ (σ.put o.dst (.k true r)) := Good.pure hd fun env a w hs => by
  obtain ⟨v, h1, h2⟩ := h env a w hs
  exact ⟨v, h1, by simpa [RepT] using h2⟩
end
end Go.Fx

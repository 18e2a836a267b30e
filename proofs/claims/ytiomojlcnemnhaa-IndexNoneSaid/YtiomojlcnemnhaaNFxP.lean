import Derived.Test.YtiomojlcnemnhaaNFxLa
import Derived.OrdersIn
namespace Go.Fx
open Go.RowKit
section
variable {P : Program} {G : World → Prop} {w0 : World} {V0 : Base} {N : Nat} {env env' : Env} {σ σ' : S} {a : Act} {w w' : World} {o : Oper} {toks toks' : Nat → Option Tok} {p q : Nat → Prop}
theorem onlyL_iff : ∀ {l : List A}, onlyL p q l ↔ ∀ x ∈ l, x.only p q
  | [] => by simp [onlyL]
  | x :: l => by simp only [onlyL, List.mem_cons, forall_eq_or_imp, onlyL_iff (l := l)]
mutual
theorem A.only_mono {p q p' q' : Nat → Prop} (hp : ∀ k, p k → p' k) (hq : ∀ k, q k → q' k) : ∀ {a : A}, a.only p q → a.only p' q'
  | .c _, _ => trivial
  | .nil, _ => trivial
  | .own k _, h => hq k h
  | .ref k _ _, h => hp k h
  | .arr k _ _ _, h => hp k h
  | .mapr k, h => hp k h
  | .elem _ _ _ _, _ => trivial
  | .clo _ _ _, h => ⟨onlyL_mono hp hq h.1, onlyL_mono hp hq h.2⟩
  | .yld _ _ _ xs, h => onlyL_mono hp hq (l := xs) h
  | .ifc _ a, h => A.only_mono (a := a) hp hq h
  | .lost, _ => trivial
theorem onlyL_mono {p q p' q' : Nat → Prop} (hp : ∀ k, p k → p' k) (hq : ∀ k, q k → q' k) : ∀ {l : List A}, onlyL p q l → onlyL p' q' l
  | [], _ => trivial
  | _ :: _, h => ⟨A.only_mono hp hq h.1, onlyL_mono hp hq h.2⟩
end
theorem X.only_mono {p q p' q' : Nat → Prop} (hp : ∀ k, p k → p' k) (hq : ∀ k, q k → q' k) {x : X} (h : x.only p q) : x.only p' q' := by
  cases x with
  | one a => exact A.only_mono hp hq h
  | agg cs => exact onlyL_mono hp hq h
theorem ownsRow_of_block {base size n : Nat} {e : TypeId} {v : Value} {xs : List Value} (h : w.ownsRow base e size v n xs) (hb : ∀ b, v.ownBlock = some b → w'.heap[b]? = w.heap[b]?) : w'.ownsRow base e size v n xs := by
  obtain ⟨h1, h2⟩ := h
  refine ⟨h1, h2.imp id ?_⟩
  rintro ⟨g, cap, cur, hv, hbg, hg, hrest⟩
  exact ⟨g, cap, cur, hv, hbg, (hb g (by rw [hv]; rfl)).trans hg, hrest⟩
end
end Go.Fx

namespace Go.Fx
open Go.RowKit
section
variable {P : Program} {w0 : World} {V0 : Base} {N : Nat} {env : Env} {σ σ' : S} {a : Act} {w : World} {o : Oper} {toks : Nat → Option Tok}
theorem RepT.tt {r : R} {v : Value} (h : RepT env toks w (.k true r) v) : RepR env toks w r v := by simpa [RepT] using h
theorem RepT.mk {r : R} {v : Value} (h : RepR env toks w r v) : RepT env toks w (.k true r) v := by simpa [RepT] using h
end
end Go.Fx

namespace Go.Fx
open Go.RowKit
section
variable {P : Program} {w0 : World} {V0 : Base} {N : Nat} {env : Env} {σ σ' : S} {a : Act} {w : World} {o : Oper} {toks : Nat → Option Tok}
end
end Go.Fx

namespace Go.Fx
open Go.RowKit
section
variable {P : Program} {w0 : World} {V0 : Base} {N : Nat} {env : Env} {σ σ' : S} {a : Act} {w : World} {o : Oper} {toks : Nat → Option Tok}
end
end Go.Fx

namespace Go.Fx
open Go.RowKit
section
variable {P : Program} {G : World → Prop} {w0 : World} {V0 : Base} {N : Nat} {env : Env} {σ σ' : S} {a : Act} {w : World} {o : Oper} {toks : Nat → Option Tok}
end
end Go.Fx

import Derived.Test.YtiomojlcnemnhaaAFxLa
import Derived.OrdersIn
namespace Go.Fx
open Go.RowKit
section
variable {P : Program} {G : World → Prop} {w0 : World} {V0 : Base} {N : Nat} {env env' : Env} {σ σ' : S} {a : Act} {w w' : World} {o : Oper} {toks toks' : Nat → Option Tok} {p q : Nat → Prop}
structure ReOn (p q : Nat → Prop) (env env' : Env) (toks toks' : Nat → Option Tok) (w w' : World) : Prop where
  V : ∀ b o, env.V b o → env'.V b o
  cell : ∀ b o, env.V b o → w'.cell? ⟨b, o, none⟩ = w.cell? ⟨b, o, none⟩
  ρ : ∀ k b, p k → env.ρ k = some b → env'.ρ k = some b
  tok : ∀ k t, q k → toks k = some t → ∃ t', toks' k = some t' ∧ t'.size = t.size ∧ t.n ≤ t'.n ∧ (t'.n = t.n → env'.τ k = env.τ k)
mutual
theorem RepA.re (h : ReOn p q env env' toks toks' w w') : ∀ {a : A} {v : Value}, a.only p q → RepA env toks w a v → RepA env' toks' w' a v
  | .c x, v, _, hr => RepC.mono h.V h.cell hr
  | .own k es, v, ho, hr => by
    obtain ⟨h1, t, ht, hl, hs, he⟩ := hr
    obtain ⟨t', ht', hsz, hn, hv⟩ := h.tok k t ho ht
    refine ⟨h1.mono h.V h.cell, t', ht', by omega, fun e m => by rw [hsz]; exact hs e m, fun e => ?_⟩
    have : t'.n = t.n := by omega
    rw [hv this]; exact he (by omega)
  | .nil, v, _, hr => hr
  | .ref k i off, v, ho, hr => by obtain ⟨b, s, hb, hv⟩ := hr; exact ⟨b, s, h.ρ k _ ho hb, hv⟩
  | .arr k off n cap, v, ho, hr => by obtain ⟨b, s, c, hb, hv⟩ := hr; exact ⟨b, s, c, h.ρ k _ ho hb, hv⟩
  | .mapr k, v, ho, hr => by obtain ⟨b, s, hb, hv⟩ := hr; exact ⟨b, s, h.ρ k _ ho hb, hv⟩
  | .elem es sp i off, v, _, hr => by
    obtain ⟨b, o, n, cap, s, h1, h2, h3, h4⟩ := hr
    exact ⟨b, o, n, cap, s, h1, h2, h3, h4.mono h.V h.cell⟩
  | .clo f fs cs, v, ho, hr => by
    obtain ⟨us, vs, h1, h2, h3⟩ := hr
    exact ⟨us, vs, h1, RepAs.re h ho.1 h2, RepAs.re h ho.2 h3⟩
  | .yld l ta ks xs, v, ho, hr => by
    obtain ⟨h1, h2⟩ := hr
    exact ⟨h1, RepAs.re h ho h2⟩
  | .ifc t a, v, ho, hr => by
    obtain ⟨u, h1, h2⟩ := hr
    exact ⟨u, h1, RepA.re (a := a) h ho h2⟩
  | .lost, v, _, hr => hr
theorem RepAs.re (h : ReOn p q env env' toks toks' w w') : ∀ {xs : List A} {vs : List Value}, onlyL p q xs → RepAs env toks w xs vs → RepAs env' toks' w' xs vs
  | [], [], _, _ => trivial
  | _ :: _, _ :: _, ho, hr => ⟨RepA.re h ho.1 hr.1, RepAs.re h ho.2 hr.2⟩
end
theorem onlyL_iff : ∀ {l : List A}, onlyL p q l ↔ ∀ x ∈ l, x.only p q
  | [] => by simp [onlyL]
  | x :: l => by simp only [onlyL, List.mem_cons, forall_eq_or_imp, onlyL_iff (l := l)]
mutual
theorem A.only_mono {p q p' q' : Nat → Prop} (hp : ∀ k, p k → p' k) (hq : ∀ k, q k → q' k) : ∀ {a : A}, a.only p q → a.only p' q'
  | .c _, _ => trivial
  | .nil, _ => trivial
  | .own k _, h => hq k h
  | .ref k _ _, h => hp k h
  | .arr k _ _ _, h => hp k h
  | .mapr k, h => hp k h
  | .elem _ _ _ _, _ => trivial
  | .clo _ _ _, h => ⟨onlyL_mono hp hq h.1, onlyL_mono hp hq h.2⟩
  | .yld _ _ _ xs, h => onlyL_mono hp hq (l := xs) h
  | .ifc _ a, h => A.only_mono (a := a) hp hq h
  | .lost, _ => trivial
theorem onlyL_mono {p q p' q' : Nat → Prop} (hp : ∀ k, p k → p' k) (hq : ∀ k, q k → q' k) : ∀ {l : List A}, onlyL p q l → onlyL p' q' l
  | [], _ => trivial
  | _ :: _, h => ⟨A.only_mono hp hq h.1, onlyL_mono hp hq h.2⟩
end
theorem X.only_mono {p q p' q' : Nat → Prop} (hp : ∀ k, p k → p' k) (hq : ∀ k, q k → q' k) {x : X} (h : x.only p q) : x.only p' q' := by
  cases x with
  | one a => exact A.only_mono hp hq h
  | agg cs => exact onlyL_mono hp hq h
theorem RepX.re (h : ReOn p q env env' toks toks' w w') {x : X} {v : Value} (ho : x.only p q) (hr : RepX env toks w x v) : RepX env' toks' w' x v := by
  cases x with
  | one a => exact RepA.re h ho hr
  | agg cs => obtain ⟨us, e, hu⟩ := hr; exact ⟨us, e, hu.imp fun x _ hx => RepA.re h (onlyL_iff.1 ho x hx)⟩
theorem RepR.re (h : ReOn p q env env' toks toks' w w') {r : R} {v : Value} (ho : r.only p q) (hr : RepR env toks w r v) : RepR env' toks' w' r v := by
  cases r with
  | x x => exact RepX.re h ho hr
  | tup xs => obtain ⟨us, e, hu⟩ := hr; exact ⟨us, e, hu.imp fun x _ hx => RepX.re h (ho x hx)⟩
theorem ownsRow_of_block {base size n : Nat} {e : TypeId} {v : Value} {xs : List Value} (h : w.ownsRow base e size v n xs) (hb : ∀ b, v.ownBlock = some b → w'.heap[b]? = w.heap[b]?) : w'.ownsRow base e size v n xs := by
  obtain ⟨h1, h2⟩ := h
  refine ⟨h1, h2.imp id ?_⟩
  rintro ⟨g, cap, cur, hv, hbg, hg, hrest⟩
  exact ⟨g, cap, cur, hv, hbg, (hb g (by rw [hv]; rfl)).trans hg, hrest⟩
end
end Go.Fx

namespace Go.Fx
open Go.RowKit
section
variable {P : Program} {w0 : World} {V0 : Base} {N : Nat} {env : Env} {σ σ' : S} {a : Act} {w : World} {o : Oper} {toks : Nat → Option Tok}
theorem RepT.tt {r : R} {v : Value} (h : RepT env toks w (.k true r) v) : RepR env toks w r v := by simpa [RepT] using h
theorem RepT.mk {r : R} {v : Value} (h : RepR env toks w r v) : RepT env toks w (.k true r) v := by simpa [RepT] using h
end
end Go.Fx

namespace Go.Fx
open Go.RowKit
section
variable {P : Program} {w0 : World} {V0 : Base} {N : Nat} {env : Env} {σ σ' : S} {a : Act} {w : World} {o : Oper} {toks : Nat → Option Tok}
end
end Go.Fx

namespace Go.Fx
open Go.RowKit
section
variable {P : Program} {w0 : World} {V0 : Base} {N : Nat} {env : Env} {σ σ' : S} {a : Act} {w : World} {o : Oper} {toks : Nat → Option Tok}
end
end Go.Fx

namespace Go.Fx
open Go.RowKit
section
variable {P : Program} {G : World → Prop} {w0 : World} {V0 : Base} {N : Nat} {env : Env} {σ σ' : S} {a : Act} {w : World} {o : Oper} {toks : Nat → Option Tok}
end
end Go.Fx

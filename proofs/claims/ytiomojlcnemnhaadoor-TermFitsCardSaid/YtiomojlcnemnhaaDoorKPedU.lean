/- Plain words: the way of a term through what names became, step by step. -/
import Derived.Test.YtiomojlcnemnhaaDoorKPedB
namespace Go.Ped

/-- The way of a term, in so many steps. -/
def Way (c : List Pr) : Nat → Tm → Prop
  | 0, t => nextOf c t.v = none ∧ endOf c t = t
  | n + 1, t => ∃ u, nextOf c t.v = some u ∧ endOf c t = endOf c u ∧ Way c n u

theorem next_snoc (c : List Pr) (p : Pr) (w : Name) : nextOf (c ++ [p]) w = match nextOf c w with | some x => some x | none => if p.v = w then some p.t else none := by
  unfold nextOf
  rw [find_snoc]
  cases c.find? (·.v == w) with
  | some q => rfl
  | none => simp

theorem next_out {c : List Pr} {v : Name} (h : v ∉ keys c) : nextOf c v = none := by
  unfold nextOf; rw [find_out h]; rfl
theorem Good.way {c : List Pr} (h : Good c) : ∀ t, ∃ n, Way c n t := by
  induction h with
  | nil => exact fun t => ⟨0, rfl, rfl⟩
  | @snoc c v u h h1 h2 h3 h4 h5 h6 ih =>
    have key : ∀ n t, Way c n t → ∃ m, Way (c ++ [⟨v, u⟩]) m t := by
      intro n
      induction n with
      | zero =>
        intro t ⟨w1, w2⟩
        by_cases hv : v = t.v
        · refine ⟨1, u, ?_, ?_, ?_, ?_⟩
          · rw [next_snoc, w1]; simp [hv]
          · rw [endOf_snoc, endOf_snoc, w2, if_pos hv.symm, endOf_out h4, if_neg h5]
          · rw [next_snoc, next_out h4]; simp [Ne.symm h5]
          · rw [endOf_snoc, endOf_out h4, if_neg h5]
        · refine ⟨0, ?_, ?_⟩
          · rw [next_snoc, w1]; simp [hv]
          · rw [endOf_snoc, w2, if_neg (fun e => hv e.symm)]
      | succ n ihn =>
        intro t ⟨u', w1, w2, w3⟩
        obtain ⟨m, hm⟩ := ihn u' w3
        refine ⟨m + 1, u', ?_, ?_, hm⟩
        · rw [next_snoc, w1]
        · rw [endOf_snoc, endOf_snoc, w2]
    intro t
    obtain ⟨n, hn⟩ := ih t
    exact key n t hn

/-- One more pair. -/
theorem Good.more {c : List Pr} (h : Good c) {a b : Tm} (ha : a.bare) (hb : b.bare) (h1 : (endOf c a).v ≠ us) (h3 : endOf c a ≠ endOf c b) (h0 : (endOf c a).v ≠ []) : Good (c ++ [⟨(endOf c a).v, endOf c b⟩]) := by
  refine .snoc h h0 h1 (h.end_out a) (h.end_out b) (fun e => h3 ?_) (h.end_bare hb)
  have ba := h.end_bare ha h0
  have bb := h.end_bare hb (by rw [e]; exact h0)
  generalize endOf c a = x at *
  generalize endOf c b = y at *
  obtain ⟨xv, xx⟩ := x
  obtain ⟨yv, yy⟩ := y
  simp only at *
  rw [e, ba, bb]
end Go.Ped

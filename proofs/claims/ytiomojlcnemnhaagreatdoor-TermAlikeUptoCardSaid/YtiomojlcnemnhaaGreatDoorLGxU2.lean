import Derived.Test.YtiomojlcnemnhaaGreatDoorLFxZ
import Derived.Test.YtiomojlcnemnhaaGreatDoorProg
import Derived.KernelRfl
import Derived.Test.YtiomojlcnemnhaaGreatDoorLGxM3
import Derived.Test.YtiomojlcnemnhaaGreatDoorLGxN3
namespace Go.Proofs.YtiomojlcnemnhaaGreatDoor
open Go.Fx
end Go.Proofs.YtiomojlcnemnhaaGreatDoor

namespace Go.Ped
def Way (c : List Pr) : Nat → Tm → Prop
  | 0, t => nextOf c t.v = none ∧ endOf c t = t
  | n + 1, t => ∃ u, nextOf c t.v = some u ∧ endOf c t = endOf c u ∧ Way c n u
theorem next_snoc (c : List Pr) (p : Pr) (w : Name) : nextOf (c ++ [p]) w = match nextOf c w with | some x => some x | none => if p.v = w then some p.t else none := by
  unfold nextOf
  rw [find_snoc]
  cases c.find? (·.v == w) with
  | some q => rfl
  | none => simp
theorem next_out {c : List Pr} {v : Name} (h : v ∉ keys c) : nextOf c v = none := by
  unfold nextOf; rw [find_out h]; rfl
theorem Good.way {c : List Pr} (h : Good c) : ∀ t, ∃ n, Way c n t := by
  induction h with
  | nil => exact fun t => ⟨0, rfl, rfl⟩
  | @snoc c v u h h1 h2 h3 h4 h5 h6 ih =>
    have key : ∀ n t, Way c n t → ∃ m, Way (c ++ [⟨v, u⟩]) m t := by
      intro n
      induction n with
      | zero =>
        intro t ⟨w1, w2⟩
        by_cases hv : v = t.v
        · refine ⟨1, u, ?_, ?_, ?_, ?_⟩
          · rw [next_snoc, w1]; simp [hv]
          · rw [endOf_snoc, endOf_snoc, w2, if_pos hv.symm, endOf_out h4, if_neg h5]
          · rw [next_snoc, next_out h4]; simp [Ne.symm h5]
          · rw [endOf_snoc, endOf_out h4, if_neg h5]
        · refine ⟨0, ?_, ?_⟩
          · rw [next_snoc, w1]; simp [hv]
          · rw [endOf_snoc, w2, if_neg (fun e => hv e.symm)]
      | succ n ihn =>
        intro t ⟨u', w1, w2, w3⟩
        obtain ⟨m, hm⟩ := ihn u' w3
        refine ⟨m + 1, u', ?_, ?_, hm⟩
        · rw [next_snoc, w1]
        · rw [endOf_snoc, endOf_snoc, w2]
    intro t
    obtain ⟨n, hn⟩ := ih t
    exact key n t hn
theorem Good.more {c : List Pr} (h : Good c) {a b : Tm} (ha : a.bare) (hb : b.bare) (h1 : (endOf c a).v ≠ us) (h3 : endOf c a ≠ endOf c b) (h0 : (endOf c a).v ≠ []) : Good (c ++ [⟨(endOf c a).v, endOf c b⟩]) := by
  refine .snoc h h0 h1 (h.end_out a) (h.end_out b) (fun e => h3 ?_) (h.end_bare hb)
  have ba := h.end_bare ha h0
  have bb := h.end_bare hb (by rw [e]; exact h0)
  generalize endOf c a = x at *
  generalize endOf c b = y at *
  obtain ⟨xv, xx⟩ := x
  obtain ⟨yv, yy⟩ := y
  simp only at *
  rw [e, ba, bb]
end Go.Ped

namespace Go.Proofs.YtiomojlcnemnhaaGreatDoor
open Go.Fx Go.RowKit Go.Ped
variable {G : World → Prop}
def nxRow (p : Pr) : List A := .c (cS (bs p.v)) :: p.t.row.map A.c
def _root_.Go.Ped.Pr.row (p : Pr) : List C := cS (bs p.v) :: p.t.row
abbrev zTm : List A := [.c (cS (bs [])), .c (cI .i8 0), .c (cI .i64 0), .c (cS (bs []))]
theorem nx_find (v : Name) (c : List Pr) : (c.map nxRow).find? (keyEq (.string (bs v))) = (c.find? (·.v == v)).map nxRow := by
  rw [List.find?_map]
  congr 2
  funext p
  simp [keyEq, nxRow]
theorem nx_get (v : Name) (c : List Pr) : mapGet (c.map nxRow) (.string (bs v)) zTm = ((nextOf c v).getD ⟨[], zeroV⟩).row.map A.c := by
  unfold mapGet nextOf
  rw [nx_find]
  cases c.find? (·.v == v) <;> simp [nxRow, zeroV, Tm.row]
theorem nx_any (v : Name) (c : List Pr) : (c.map nxRow).any (keyEq (.string (bs v))) = (nextOf c v).isSome := by
  unfold nextOf
  rw [Option.isSome_map, List.any_map, ← List.isSome_find?]
  congr 2
  funext p
  simp [keyEq, nxRow]
theorem nx_strike (ks : List Nat) (p : Pr) : strikeL ks (nxRow p) = nxRow p := by simp [nxRow]
theorem nx_strike' (ks : List Nat) : strikeL ks ∘ nxRow = nxRow := funext fun p => nx_strike ks p
theorem nx_any' (v : Name) (c : List Pr) : c.any (keyEq (.string (bs v)) ∘ nxRow) = (nextOf c v).isSome := by
  rw [← nx_any, List.any_map]
def nxt (c : List Pr) (v : Name) : Tm := (nextOf c v).getD ⟨[], zeroV⟩
theorem nx_get' (v : Name) (c : List Pr) : mapGet (c.map nxRow) (.string (bs v)) zTm = [.c (cS (bs (nxt c v).v)), .c (cI .i8 (nxt c v).x.k), .c (cI .i64 (nxt c v).x.n), .c (cS (bs (nxt c v).x.s))] := nx_get v c
end Go.Proofs.YtiomojlcnemnhaaGreatDoor

namespace Go.Proofs.YtiomojlcnemnhaaGreatDoor
open Go.Fx Go.RowKit Go.Ped
variable {G : World → Prop}
@[simp] theorem _root_.Go.Ped.Pr.row_length (p : Pr) : p.row.length = 5 := rfl
end Go.Proofs.YtiomojlcnemnhaaGreatDoor

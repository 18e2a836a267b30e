import Derived.Test.YtiomojlcnemnhaaAFxWb
import Derived.Test.YtiomojlcnemnhaaProg
import Derived.KernelRfl
import Derived.Test.YtiomojlcnemnhaaAFxZ
namespace Go.Proofs.Ytiomojlcnemnhaa
open Go.Fx
end Go.Proofs.Ytiomojlcnemnhaa

namespace Go.Proofs.Ytiomojlcnemnhaa
open Go.Fx Go.RowKit
variable {G : World → Prop}
def okN (n : Int) : Bool := decide (n ≥ 97) && decide (n ≤ 122) || decide (n ≥ 65) && decide (n ≤ 90) || decide (n ≥ 48) && decide (n ≤ 57) || n == 95
def valOk (k n : Int) (s : List UInt8) : Bool := if k = 1 then s == [] else decide (k = 2) && decide (n = 0) && decide (s.length ≤ 200)
def okB (b : UInt8) : Bool := okN b.toNat
def wordOk (a z : Int) : List UInt8 → Bool
  | [] => false
  | b :: l => decide ((b :: l).length ≤ 120) && decide (a ≤ b.toNat) && decide ((b.toNat : Int) ≤ z) && okB b && l.all okB
def termOk (v : List UInt8) (k n : Int) (s : List UInt8) : Bool := if v = [] then valOk k n s else (decide (v = [95]) || wordOk 65 90 v) && decide (k = 0) && decide (n = 0) && decide (s = [])
end Go.Proofs.Ytiomojlcnemnhaa

namespace Go.Proofs.Ytiomojlcnemnhaa
open Go.Fx Go.RowKit
variable {G : World → Prop}
end Go.Proofs.Ytiomojlcnemnhaa

namespace Go.Ped
structure Val where
  k : Int
  n : Int
  s : List UInt8
  deriving DecidableEq, Inhabited
structure Tm where
  v : List UInt8
  x : Val
  deriving DecidableEq, Inhabited
abbrev Name := List UInt8
def us : Name := [95]
def zeroV : Val := ⟨0, 0, []⟩
section
variable (valOk : Val → Bool)
end
end Go.Ped

namespace Go.Ped
structure Pr where
  v : Name
  t : Tm
  deriving DecidableEq, Inhabited
def keys (c : List Pr) : List Name := c.map (·.v)
def endOf : List Pr → Tm → Tm
  | [], t => t
  | p :: c, t => if t.v = p.v then endOf c p.t else endOf c t
def putS (s : List Pr) (t : Tm) : Tm := if t.v = [] ∨ t.v = us then t else match s.find? (·.v == t.v) with | some p => p.t | none => t
def takes (s : List Pr) (v : Name) (t : Tm) : List Pr := (s.map fun p => if p.t.v = v then ⟨p.v, t⟩ else p) ++ [⟨v, t⟩]
def Tm.bare (t : Tm) : Prop := t.v ≠ [] → t.x = zeroV
inductive Good : List Pr → Prop
  | nil : Good []
  | snoc {c : List Pr} {v : Name} {t : Tm} (h : Good c) (h1 : v ≠ []) (h2 : v ≠ us) (h3 : v ∉ keys c) (h4 : t.v ∉ keys c) (h5 : t.v ≠ v) (h6 : t.bare) : Good (c ++ [⟨v, t⟩])
theorem endOf_snoc : ∀ (c : List Pr) (p : Pr) (t : Tm), endOf (c ++ [p]) t = if (endOf c t).v = p.v then p.t else endOf c t
  | [], p, t => rfl
  | q :: c, p, t => by
    simp only [List.cons_append, endOf]
    split <;> exact endOf_snoc c p _
theorem endOf_out : ∀ {c : List Pr} {t : Tm}, t.v ∉ keys c → endOf c t = t
  | [], _, _ => rfl
  | p :: c, t, h => by
    simp only [keys, List.map_cons, List.mem_cons, not_or] at h
    simp only [endOf]
    rw [if_neg h.1]
    exact endOf_out h.2
def solve (c : List Pr) : List Pr := c.map fun p => ⟨p.v, endOf c p.t⟩
theorem solve_snoc {c : List Pr} {v : Name} {t : Tm} (h4 : t.v ∉ keys c) (h5 : t.v ≠ v) : solve (c ++ [⟨v, t⟩]) = takes (solve c) v t := by
  unfold solve takes
  simp only [List.map_append, List.map_map, List.map_cons, List.map_nil]
  congr 1
  · refine List.map_congr_left fun p _ => ?_
    simp only [endOf_snoc, Function.comp]
    split <;> rfl
  · rw [endOf_snoc, endOf_out h4, if_neg h5]
theorem find_snoc (s : List Pr) (p : Pr) (v : Name) : (s ++ [p]).find? (·.v == v) = match s.find? (·.v == v) with | some q => some q | none => if p.v = v then some p else none := by
  rw [List.find?_append]
  cases s.find? (·.v == v) with
  | some q => rfl
  | none =>
    simp only [Option.none_or, List.find?_cons, List.find?_nil]
    by_cases h : p.v = v
    · simp [h]
    · have h2 : (p.v == v) = false := by simpa using h
      simp [h, h2]
theorem find_out {s : List Pr} {v : Name} (h : v ∉ keys s) : s.find? (·.v == v) = none := by
  rw [List.find?_eq_none]
  intro p hp e
  exact h (by rw [beq_iff_eq] at e; rw [← e]; exact List.mem_map_of_mem hp)
theorem keys_solve (c : List Pr) : keys (solve c) = keys c := by simp [keys, solve, Function.comp_def]
theorem find_takes (s : List Pr) (v w : Name) (t : Tm) (h : w ≠ v) : (takes s v t).find? (·.v == w) = (s.find? (·.v == w)).map fun p => if p.t.v = v then ⟨p.v, t⟩ else p := by
  unfold takes
  rw [List.find?_append]
  have : ((s.map fun p => if p.t.v = v then (⟨p.v, t⟩ : Pr) else p).find? (·.v == w)) = (s.find? (·.v == w)).map fun p => if p.t.v = v then ⟨p.v, t⟩ else p := by
    rw [List.find?_map]
    congr 1
    congr 1
    funext p
    simp only [Function.comp]
    split <;> rfl
  rw [this]
  cases s.find? (·.v == w) with
  | some q => rfl
  | none => simp [Ne.symm h]
theorem Good.put {c : List Pr} (h : Good c) : ∀ t, putS (solve c) t = endOf c t := by
  induction h with
  | nil => intro t; simp [putS, solve, endOf]
  | @snoc c v u h h1 h2 h3 h4 h5 h6 ih =>
    intro t
    rw [solve_snoc h4 h5, endOf_snoc, ← ih t]
    unfold putS
    by_cases h0 : t.v = [] ∨ t.v = us
    · rw [if_pos h0, if_pos h0, if_neg (fun e => h0.elim (fun e2 => h1 (e.symm.trans e2)) fun e2 => h2 (e.symm.trans e2))]
    · rw [if_neg h0, if_neg h0]
      by_cases hv : t.v = v
      · have hn : (solve c).find? (·.v == t.v) = none := find_out (by rw [keys_solve, hv]; exact h3)
        have hm : ((solve c).map fun p => if p.t.v = v then (⟨p.v, u⟩ : Pr) else p).find? (·.v == t.v) = none := by
          rw [List.find?_eq_none] at hn ⊢
          intro p hp
          obtain ⟨q, hq, rfl⟩ := List.mem_map.1 hp
          have := hn q hq
          split <;> exact this
        have : (takes (solve c) v u).find? (·.v == t.v) = some ⟨v, u⟩ := by
          unfold takes
          rw [find_snoc, hm]
          simp [hv]
        rw [this, hn]
        simp only
        rw [if_pos hv]
      · rw [find_takes _ _ _ _ hv]
        cases (solve c).find? (·.v == t.v) with
        | none => simp only [Option.map_none]; rw [if_neg hv]
        | some p => simp only [Option.map_some]; split <;> rfl
end Go.Ped

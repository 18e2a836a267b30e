import Derived.Test.YtiomojlcnemnhaaGreatDoorPFxWb
import Derived.Test.YtiomojlcnemnhaaGreatDoorProg
import Derived.KernelRfl
import Derived.Test.YtiomojlcnemnhaaGreatDoorPGxQ7
import Derived.Sort.Walk0
/- Functions of the seat, as the small language has them. -/
namespace Go.Proofs.YtiomojlcnemnhaaGreatDoor
open Go.Fx
end Go.Proofs.YtiomojlcnemnhaaGreatDoor

/- Contracts, on: a rule as a user may hand it in, the program's way and the document's. (Labels of 2000 and more: seat ZD.) -/
namespace Go.Proofs.YtiomojlcnemnhaaGreatDoor
open Go.Fx Go.RowKit Go.Ped
variable {G : World → Prop}

end Go.Proofs.YtiomojlcnemnhaaGreatDoor

/- Functions of the seat, as the small language has them. -/
namespace Go.Proofs.YtiomojlcnemnhaaGreatDoor
open Go.Fx

end Go.Proofs.YtiomojlcnemnhaaGreatDoor

/- Contracts, on: a rule of a user, the document's way; both are one. (Labels of 2000 and more: seat ZD.) -/
namespace Go.Proofs.YtiomojlcnemnhaaGreatDoor
open Go.Fx Go.RowKit Go.Ped
variable {G : World → Prop}

/- Both are one. -/
end Go.Proofs.YtiomojlcnemnhaaGreatDoor

/- Contracts, on: the document's errors of a user's rule, fact, query. (Labels of 2000 and more: seat ZD.) -/
namespace Go.Proofs.YtiomojlcnemnhaaGreatDoor
open Go.Fx Go.RowKit Go.Ped
variable {G : World → Prop}

end Go.Proofs.YtiomojlcnemnhaaGreatDoor

/- Contracts, on: the document's first thing that is wrong with what a user hands in. (Labels of 2000 and more: seat ZD.) -/
namespace Go.Proofs.YtiomojlcnemnhaaGreatDoor
open Go.Fx Go.RowKit Go.Ped
variable {G : World → Prop}

structure Fc where
  p : Name
  l : List Val
  sp : Sp
def Fc.row (f : Fc) : List C := [cS (bs f.p), .sl (f.l.map Val.row) f.sp]
@[simp] theorem Fc.row_len (f : Fc) : f.row.length = 2 := rfl
@[simp] theorem fc_row0 (f : Fc) : f.row[0]? = some (cS (bs f.p)) := rfl
@[simp] theorem fc_row0' (f : Fc) (h : 0 < f.row.length) : f.row[0]'h = cS (bs f.p) := rfl
@[simp] theorem fc_row1 (f : Fc) : f.row[1]? = some (.sl (f.l.map Val.row) f.sp) := rfl
@[simp] theorem fc_row1' (f : Fc) (h : 1 < f.row.length) : f.row[1]'h = .sl (f.l.map Val.row) f.sp := rfl
@[simp] theorem fc_take (f : Fc) : (f.row.map A.c).take 2 = f.row.map A.c := rfl
def Fc.pd (f : Fc) : Pd := ⟨f.p, f.l.length⟩
end Go.Proofs.YtiomojlcnemnhaaGreatDoor

/- Contracts, on: the document's first thing that is wrong, whole. (Labels of 2000 and more: seat ZD.) -/
namespace Go.Proofs.YtiomojlcnemnhaaGreatDoor
open Go.Fx Go.RowKit Go.Ped
variable {G : World → Prop}

theorem refMeet_len {m m' : List Pd} {p : Pd} (h : refMeet ltN m p = some m') : m'.length ≤ m.length + 1 := by
  unfold refMeet at h
  split at h
  · split at h
    · injection h with h; subst h; omega
    · cases h
  · injection h with h; subst h; rw [insP_len]; omega
theorem refMeets_len : ∀ {l m m' : List Pd}, refMeets ltN m l = some m' → m'.length ≤ m.length + l.length
  | [], m, m', h => by injection h with h; subst h; simp
  | p :: l, m, m', h => by
    rw [refMeets] at h
    split at h
    · rename_i m1 h1
      have := refMeet_len h1
      have := refMeets_len h
      simp; omega
    · cases h
end Go.Proofs.YtiomojlcnemnhaaGreatDoor

/- Contracts, on: the first of a list with an error. (Labels of 2000 and more: seat ZD.) -/
namespace Go.Proofs.YtiomojlcnemnhaaGreatDoor
open Go.Fx Go.RowKit Go.Ped
variable {G : World → Prop} {σ : Type}

structure Qy where
  p : Name
  l : List Tm
  sp : Sp
def Qy.row (q : Qy) : List C := [cS (bs q.p), .sl (q.l.map Tm.row) q.sp]
@[simp] theorem Qy.row_len (q : Qy) : q.row.length = 2 := rfl
@[simp] theorem Qy.row_take (q : Qy) : (q.row.map A.c).take 2 = q.row.map A.c := rfl

end Go.Proofs.YtiomojlcnemnhaaGreatDoor

/- Contracts, on: a user's rules, facts and query against the predicates met so far. (Labels of 2000 and more: seat ZD.) -/
namespace Go.Proofs.YtiomojlcnemnhaaGreatDoor
open Go.Fx Go.RowKit Go.Ped
variable {G : World → Prop}

theorem rows_ren (f : Nat → Nat) (m : List Pd) : (m.map pdRow).map (renL f) = m.map pdRow := by
  rw [List.map_map]
  exact List.map_congr_left fun p _ => by simp [pdRow]
abbrev O9 (m : List Pd) : List (Nat × Box) := [(10007, ⟨151, 1, [[.mapr 10009]], none⟩), (10009, ⟨0, 2, m.map pdRow, some (.string, true)⟩)]
attribute [simp] O9
end Go.Proofs.YtiomojlcnemnhaaGreatDoor

/- Plain: the user's input, both ways one. (Labels of 2000 and more: seat ZD.) -/
namespace Go.Proofs.YtiomojlcnemnhaaGreatDoor
open Go.Fx Go.RowKit Go.Ped
variable {G : World → Prop}

theorem ltN_eq (a b : Name) : ltN a b = decide (a < b) := by
  unfold ltN
  exact Go.Proofs.bytesLess_eq a b
theorem ltN_irr (a : Name) : ltN a a = false := by
  rw [ltN_eq]; simp
theorem ltN_trans (a b c : Name) (h : ltN a b = true) (h' : ltN b c = true) : ltN a c = true := by
  rw [ltN_eq] at *
  simp at *
  exact List.lt_trans h h'
theorem ltN_total (a b : Name) (hne : a ≠ b) : ltN a b = true ∨ ltN b a = true := by
  rw [ltN_eq, ltN_eq]
  simp only [decide_eq_true_eq]
  by_cases h : a < b
  · exact .inl h
  · rcases List.le_iff_lt_or_eq.1 (List.not_lt.1 h) with h | h
    · exact .inr h
    · exact absurd h.symm hne

end Go.Proofs.YtiomojlcnemnhaaGreatDoor

/- Contracts, on: the program's first error of what a user hands in. (Labels of 2000 and more: seat ZD.) -/
namespace Go.Proofs.YtiomojlcnemnhaaGreatDoor
open Go.Fx Go.RowKit Go.Ped
variable {G : World → Prop}

end Go.Proofs.YtiomojlcnemnhaaGreatDoor

import Derived.Shelf.Small.Bits
import Derived.Shelf.Strconv.Itoa0
import Derived.Shelf.Sort.Plain
import Derived.Shelf.Strings.Prefix
import Derived.Ground.Names2Prog
import Derived.Shelf.Slices.Clone
import Derived.Shelf.Slices.In.SortNone
import Derived.Ground.SlgnProg
import Derived.Shelf.SlicesE.Clone
import Derived.Test.YtiomojlcnemnhaaProg
import Derived.Test.YtiomojlcnemnhaaFFxZ
import Derived.Shelf.Strconv.Itoa1
import Derived.KernelRfl
import Derived.Test.YtiomojlcnemnhaaFFxWb
import Derived.Test.YtiomojlcnemnhaaFHxM3
/-
  DERIVED: LAID BY THE SHELF's lay-shelf.mjs AT THE DUMP 'toys/ytiomojlcnemnhaa/ytiomojlcnemnhaa.cut.gsa' (alias 'Try'): THE LIBRARY CONTRACTS THAT ARE PROVED ONCE, OVER ANY PROGRAM AND ANY NUMBERING, AS THEOREMS OF THIS PROGRAM: WITHOUT A WALK: 'shelf_lay' reads the table of numbers off the bodies and has the kernel compare each body; then each contract is ONE APPLICATION. EACH COMMAND STANDS UNDER 'shelf_try': one that errs is rolled back and told in the build's print ('SHELF: NOT LAID: <name>: ..'); THE MODULE's LAST ROW OF PRINT COUNTS THEM ('SHELF: n LAID, m NOT LAID'): READ IT: a contract that is not laid is not there to be used.
-/
namespace Go.Proofs
open Go.Shelf
end Go.Proofs

/- No table is read here. (The plain seat; not reseated.) -/
namespace Go.Fx
open Go.RowKit

def tab10 (_ : Program) (_ : World) : Prop := True

end Go.Fx

/- Fx, part Sa: lists that are compared element by element, copied with a mark behind, and looked at again: once for all types of elements. -/
namespace Go.Fx
open Go.RowKit

section
variable {P : Program} {G : World → Prop} {α : Type} [DecidableEq α] {s : Nat} {ks : List Kd}

end
end Go.Fx

/- Fx, part Sb: copies with a mark behind, and looking at them again: once for all types of elements. -/
namespace Go.Fx
open Go.RowKit

section
variable {P : Program} {G : World → Prop} {α : Type} {s : Nat} {ks : List Kd}

end
end Go.Fx

/- Contracts, on: the marks. -/
namespace Go.Proofs.Ytiomojlcnemnhaa
open Go.Fx Go.RowKit
variable {G : World → Prop}
abbrev GT : World → Prop := tab10 Try.prog

end Go.Proofs.Ytiomojlcnemnhaa

/- Contracts, on: copies of lists of terms, values, binds, and looking at them again. -/
namespace Go.Proofs.Ytiomojlcnemnhaa
open Go.Fx Go.RowKit Go.Ped
variable {G : World → Prop}

end Go.Proofs.Ytiomojlcnemnhaa

/- Fx, part Sc: a list under appends, first nil. -/
namespace Go.Fx
open Go.RowKit
section
variable {P : Program} {G : World → Prop} {L : List (Nat × T)} {O : List (Nat × Box)} {U : List (Nat × Tok)} {H : FHp} {l : List IOper} {K : S → Prop} {d : Nat}

/-- A list that appends of rows at one place have made: nil, or its own. The row of the last append may be told yet. -/
def AccS (k j : Nat) (ty : TypeId) (size : Nat) (es : List (List C)) (a : A) (U : List (Nat × Tok)) : Prop :=
  (es = [] ∧ a = .nil ∧ U = []) ∨ (a = .own k es ∧ U = [(k, ⟨ty, size, es.length⟩), (j, ⟨ty, size, 1⟩)]) ∨ (a = .own k es ∧ U = [(j, ⟨ty, size, 1⟩), (k, ⟨ty, size, es.length⟩)])

theorem AccS.nil {k j size : Nat} {ty : TypeId} : AccS k j ty size [] .nil [] := .inl ⟨rfl, rfl, rfl⟩
theorem AccS.own {k j size : Nat} {ty : TypeId} {es : List (List C)} {n : Nat} (h : n = es.length) : AccS k j ty size es (.own k es) [(k, ⟨ty, size, n⟩), (j, ⟨ty, size, 1⟩)] := .inr (.inl ⟨rfl, by rw [h]⟩)
theorem AccS.close {k j size : Nat} {ty : TypeId} {es : List (List C)} {t : A} {U : List (Nat × Tok)} (h : AccS k j ty size es t U) : t.close = some (.sl es []) := by
  rcases h with ⟨rfl, rfl, rfl⟩ | ⟨rfl, rfl⟩ | ⟨rfl, rfl⟩ <;> rfl
theorem AccS.args {k j size : Nat} {ty : TypeId} {es : List (List C)} {t : A} {U : List (Nat × Tok)} (h : AccS k j ty size es t U) : (X.one t).close = some (.one (.sl es [])) := by
  simp only [X.close, h.close, Option.map_some]
theorem AccS.strike {k j size : Nat} {ty : TypeId} {es : List (List C)} {t : A} {U : List (Nat × Tok)} (h : AccS k j ty size es t U) {l : Nat} (hl : l ≠ k) : A.strike [l] t = t := by
  rcases h with ⟨rfl, rfl, rfl⟩ | ⟨rfl, rfl⟩ | ⟨rfl, rfl⟩
  · rfl
  all_goals simp [Ne.symm hl]
theorem AccS.strikeU {k j size : Nat} {ty : TypeId} {es : List (List C)} {t : A} {U : List (Nat × Tok)} (h : AccS k j ty size es t U) {l : Nat} (hl : l ≠ k) (hj : l ≠ j) : strikeU [l] U = U := by
  rcases h with ⟨rfl, rfl, rfl⟩ | ⟨rfl, rfl⟩ | ⟨rfl, rfl⟩
  · rfl
  all_goals simp [Ne.symm hl, Ne.symm hj]
end
end Go.Fx

/- Contracts, on: the document's atoms, variables, and what is bound. -/
namespace Go.Proofs.Ytiomojlcnemnhaa
open Go.Fx Go.RowKit Go.Ped
variable {G : World → Prop}

/-- The variables of a list, each once. -/
abbrev tmVars (l : List Tm) : List Name := varsOn [] (l.map Tm.v)
abbrev nmRow (v : Name) : List C := [cS (bs v)]

theorem varsOn_length : ∀ (l acc : List Name), (varsOn acc l).length ≤ acc.length + l.length
  | [], acc => by simp [varsOn]
  | v :: l, acc => by
    simp only [varsOn]
    split
    · have := varsOn_length l (acc ++ [v]); simp at this ⊢; omega
    · have := varsOn_length l acc; simp; omega

end Go.Proofs.Ytiomojlcnemnhaa

/- Contracts, on: the document's matching. -/
namespace Go.Proofs.Ytiomojlcnemnhaa
open Go.Fx Go.RowKit Go.Ped
variable {G : World → Prop}

end Go.Proofs.Ytiomojlcnemnhaa

/- Fx, part Sd: loops that forget what a round made. -/
namespace Go.Fx
open Go.RowKit
section

/-- A list under appends: nil, or its own; the rows are forgotten. -/
def AccN (k : Nat) (ty : TypeId) (size : Nat) (es : List (List C)) (a : A) (U : List (Nat × Tok)) : Prop :=
  (es = [] ∧ a = .nil ∧ U = []) ∨ (a = .own k es ∧ U = [(k, ⟨ty, size, es.length⟩)])
theorem AccN.nil {k size : Nat} {ty : TypeId} : AccN k ty size [] .nil [] := .inl ⟨rfl, rfl, rfl⟩
theorem AccN.own {k size : Nat} {ty : TypeId} {es : List (List C)} {n : Nat} (h : n = es.length) : AccN k ty size es (.own k es) [(k, ⟨ty, size, n⟩)] := .inr ⟨rfl, by rw [h]⟩
theorem AccN.args {k size : Nat} {ty : TypeId} {es : List (List C)} {t : A} {U : List (Nat × Tok)} (h : AccN k ty size es t U) : (X.one t).close = some (.one (.sl es [])) := by
  rcases h with ⟨rfl, rfl, rfl⟩ | ⟨rfl, rfl⟩ <;> rfl
theorem AccN.strike {k size : Nat} {ty : TypeId} {es : List (List C)} {t : A} {U : List (Nat × Tok)} (h : AccN k ty size es t U) {l : Nat} (hl : l ≠ k) : A.strike [l] t = t := by
  rcases h with ⟨rfl, rfl, rfl⟩ | ⟨rfl, rfl⟩
  · rfl
  · simp [Ne.symm hl]
theorem AccN.strikeU {k size : Nat} {ty : TypeId} {es : List (List C)} {t : A} {U : List (Nat × Tok)} (h : AccN k ty size es t U) {l : Nat} (hl : l ≠ k) : strikeU [l] U = U := by
  rcases h with ⟨rfl, rfl, rfl⟩ | ⟨rfl, rfl⟩
  · rfl
  · simp [Ne.symm hl]
end
end Go.Fx

/- Contracts, on: the program's matching. -/
namespace Go.Proofs.Ytiomojlcnemnhaa
open Go.Fx Go.RowKit Go.Ped
variable {G : World → Prop}

end Go.Proofs.Ytiomojlcnemnhaa

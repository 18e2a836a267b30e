import Derived.Test.YtiomojlcnemnhaaTHxIcT
import Derived.Test.YtiomojlcnemnhaaTPedC
import Derived.Test.YtiomojlcnemnhaaTFxWb
import Derived.Test.YtiomojlcnemnhaaProg
import Derived.KernelRfl
import Derived.Sort.Walk0
/- Contracts, on: predicates met in a map; sizes; facts as they may be. (Labels of 2000 and more: seat ZD.) -/
namespace Go.Proofs.Ytiomojlcnemnhaa
open Go.Fx Go.RowKit Go.Ped
variable {G : World → Prop}

def pdRow (p : Pd) : List A := [.c (cS (bs p.name)), .c (cI .i64 p.n)]
@[simp] theorem pdRow_strike (ks : List Nat) (p : Pd) : strikeL ks (pdRow p) = pdRow p := by simp [pdRow]
abbrev OM (k : Nat) (m : List Pd) : List (Nat × Box) := [(k, ⟨0, 2, m.map pdRow, some (.string, true)⟩)]
attribute [simp] OM
end Go.Proofs.Ytiomojlcnemnhaa

/- Contracts, on: prefixes, long names, sizes, facts, rules as a user may hand them in. (Labels of 2000 and more: seat ZD.) -/
namespace Go.Proofs.Ytiomojlcnemnhaa
open Go.Fx Go.RowKit Go.Ped
variable {G : World → Prop}

end Go.Proofs.Ytiomojlcnemnhaa

/- Contracts, on: the document's predicates: where they stand, met one behind the other. (Labels of 2000 and more: seat ZD.) -/
namespace Go.Proofs.Ytiomojlcnemnhaa
open Go.Fx Go.RowKit Go.Ped
variable {G : World → Prop}

def pdC (p : Pd) : List C := [cS (bs p.name), cI .i64 p.n]
@[simp] theorem pdC_len (p : Pd) : (pdC p).length = 2 := rfl
@[simp] theorem pdC_0 (p : Pd) : (pdC p)[0]? = some (cS (bs p.name)) := rfl
@[simp] theorem pdC_0' (p : Pd) (h : 0 < (pdC p).length) : (pdC p)[0]'h = cS (bs p.name) := rfl
@[simp] theorem pdC_1 (p : Pd) : (pdC p)[1]? = some (cI .i64 p.n) := rfl
@[simp] theorem pdC_1' (p : Pd) (h : 1 < (pdC p).length) : (pdC p)[1]'h = cI .i64 p.n := rfl
@[simp] theorem pdC_take (p : Pd) : ((pdC p).map A.c).take 2 = (pdC p).map A.c := rfl

end Go.Proofs.Ytiomojlcnemnhaa

/- Functions of the seat, as the small language has them. -/
namespace Go.Proofs.Ytiomojlcnemnhaa
open Go.Fx

end Go.Proofs.Ytiomojlcnemnhaa

/- Contracts, on: a rule as a user may hand it in, the program's way and the document's. (Labels of 2000 and more: seat ZD.) -/
namespace Go.Proofs.Ytiomojlcnemnhaa
open Go.Fx Go.RowKit Go.Ped
variable {G : World → Prop}

end Go.Proofs.Ytiomojlcnemnhaa

/- Functions of the seat, as the small language has them. -/
namespace Go.Proofs.Ytiomojlcnemnhaa
open Go.Fx

end Go.Proofs.Ytiomojlcnemnhaa

/- Contracts, on: a rule of a user, the document's way; both are one. (Labels of 2000 and more: seat ZD.) -/
namespace Go.Proofs.Ytiomojlcnemnhaa
open Go.Fx Go.RowKit Go.Ped
variable {G : World → Prop}

/- Both are one. -/
end Go.Proofs.Ytiomojlcnemnhaa

/- Contracts, on: the document's errors of a user's rule, fact, query. (Labels of 2000 and more: seat ZD.) -/
namespace Go.Proofs.Ytiomojlcnemnhaa
open Go.Fx Go.RowKit Go.Ped
variable {G : World → Prop}

end Go.Proofs.Ytiomojlcnemnhaa

/- Contracts, on: the document's first thing that is wrong with what a user hands in. (Labels of 2000 and more: seat ZD.) -/
namespace Go.Proofs.Ytiomojlcnemnhaa
open Go.Fx Go.RowKit Go.Ped
variable {G : World → Prop}

structure Fc where
  p : Name
  l : List Val
  sp : Sp
def Fc.row (f : Fc) : List C := [cS (bs f.p), .sl (f.l.map Val.row) f.sp]
@[simp] theorem Fc.row_len (f : Fc) : f.row.length = 2 := rfl
@[simp] theorem fc_row0 (f : Fc) : f.row[0]? = some (cS (bs f.p)) := rfl
@[simp] theorem fc_row0' (f : Fc) (h : 0 < f.row.length) : f.row[0]'h = cS (bs f.p) := rfl
@[simp] theorem fc_row1 (f : Fc) : f.row[1]? = some (.sl (f.l.map Val.row) f.sp) := rfl
@[simp] theorem fc_row1' (f : Fc) (h : 1 < f.row.length) : f.row[1]'h = .sl (f.l.map Val.row) f.sp := rfl
@[simp] theorem fc_take (f : Fc) : (f.row.map A.c).take 2 = f.row.map A.c := rfl
end Go.Proofs.Ytiomojlcnemnhaa

/- Contracts, on: the document's first thing that is wrong, whole. (Labels of 2000 and more: seat ZD.) -/
namespace Go.Proofs.Ytiomojlcnemnhaa
open Go.Fx Go.RowKit Go.Ped
variable {G : World → Prop}

end Go.Proofs.Ytiomojlcnemnhaa

/- Contracts, on: the first of a list with an error. (Labels of 2000 and more: seat ZD.) -/
namespace Go.Proofs.Ytiomojlcnemnhaa
open Go.Fx Go.RowKit Go.Ped
variable {G : World → Prop} {σ : Type}

structure Qy where
  p : Name
  l : List Tm
  sp : Sp
def Qy.row (q : Qy) : List C := [cS (bs q.p), .sl (q.l.map Tm.row) q.sp]
@[simp] theorem Qy.row_len (q : Qy) : q.row.length = 2 := rfl
@[simp] theorem Qy.row_take (q : Qy) : (q.row.map A.c).take 2 = q.row.map A.c := rfl

end Go.Proofs.Ytiomojlcnemnhaa

/- Contracts, on: a user's rules, facts and query against the predicates met so far. (Labels of 2000 and more: seat ZD.) -/
namespace Go.Proofs.Ytiomojlcnemnhaa
open Go.Fx Go.RowKit Go.Ped
variable {G : World → Prop}

abbrev O9 (m : List Pd) : List (Nat × Box) := [(10007, ⟨203, 1, [[.mapr 10009]], none⟩), (10009, ⟨0, 2, m.map pdRow, some (.string, true)⟩)]
attribute [simp] O9
end Go.Proofs.Ytiomojlcnemnhaa

/- Plain: the user's input, both ways one. (Labels of 2000 and more: seat ZD.) -/
namespace Go.Proofs.Ytiomojlcnemnhaa
open Go.Fx Go.RowKit Go.Ped
variable {G : World → Prop}

end Go.Proofs.Ytiomojlcnemnhaa

/- Contracts, on: the program's first error of what a user hands in. (Labels of 2000 and more: seat ZD.) -/
namespace Go.Proofs.Ytiomojlcnemnhaa
open Go.Fx Go.RowKit Go.Ped
variable {G : World → Prop}

end Go.Proofs.Ytiomojlcnemnhaa

/- Functions of the seat, as the small language has them. -/
namespace Go.Proofs.Ytiomojlcnemnhaa
open Go.Fx

end Go.Proofs.Ytiomojlcnemnhaa

/- Contracts, on: copies of programs and facts, looked at again; the law CheckInputs. (Labels of 2000 and more: seat ZD.) -/
namespace Go.Proofs.Ytiomojlcnemnhaa
open Go.Fx Go.RowKit Go.Ped
variable {G : World → Prop}

/- What is copied is as it was. -/
end Go.Proofs.Ytiomojlcnemnhaa

/- Functions of the seat, as the small language has them. -/
namespace Go.Proofs.Ytiomojlcnemnhaa
open Go.Fx

end Go.Proofs.Ytiomojlcnemnhaa

/- Functions of the seat, as the small language has them. -/
namespace Go.Proofs.Ytiomojlcnemnhaa
open Go.Fx

end Go.Proofs.Ytiomojlcnemnhaa

/- Contracts, on: do all of a list pass. (Labels of 2000 and more: seat ZD.) -/
namespace Go.Proofs.Ytiomojlcnemnhaa
open Go.Fx Go.RowKit Go.Ped
variable {G : World → Prop} {σ : Type}

end Go.Proofs.Ytiomojlcnemnhaa

import Derived.Test.YtiomojlcnemnhaaAPedB
import Derived.Test.YtiomojlcnemnhaaAFxZ
import Derived.Test.YtiomojlcnemnhaaATryShelf
import Derived.Shelf.Strconv.Itoa1
import Derived.KernelRfl
import Derived.Test.YtiomojlcnemnhaaAFxSd
namespace Go.Proofs.Ytiomojlcnemnhaa
open Go.Fx Go.RowKit Go.Ped
variable {G : World → Prop}
def _root_.Go.Ped.Val.row (x : Val) : List C := [cI .i8 x.k, cI .i64 x.n, cS (bs x.s)]
def _root_.Go.Ped.Tm.row (t : Tm) : List C := [cS (bs t.v), cI .i8 t.x.k, cI .i64 t.x.n, cS (bs t.x.s)]
def _root_.Go.Ped.Tm.ok (t : Tm) : Bool := termOk t.v t.x.k t.x.n t.x.s
def _root_.Go.Ped.Val.ok (x : Val) : Bool := valOk x.k x.n x.s
def _root_.Go.Ped.Tm.of : List C → Tm
  | [.v (.string a), .v (.int _ k), .v (.int _ n), .v (.string b)] => ⟨a.data.toList, ⟨k, n, b.data.toList⟩⟩
  | _ => ⟨[], ⟨0, 0, []⟩⟩
@[simp] theorem _root_.Go.Ped.Tm.of_row (t : Tm) : Tm.of t.row = t := by simp [Tm.row, Tm.of]
@[simp] theorem _root_.Go.Ped.Tm.row_length (t : Tm) : t.row.length = 4 := rfl
end Go.Proofs.Ytiomojlcnemnhaa

namespace Go.Fx
open Go.RowKit
def tab10 (_ : Program) (_ : World) : Prop := True
end Go.Fx

namespace Go.Proofs.Ytiomojlcnemnhaa
open Go.Fx Go.RowKit
variable {G : World → Prop}
end Go.Proofs.Ytiomojlcnemnhaa

namespace Go.Proofs.Ytiomojlcnemnhaa
open Go.Fx Go.RowKit Go.Ped
variable {G : World → Prop}
end Go.Proofs.Ytiomojlcnemnhaa

namespace Go.Proofs.Ytiomojlcnemnhaa
open Go.Fx Go.RowKit Go.Ped
abbrev Sp := List (List C)
inductive Ex where
  | mk (op : Int) (t : Tm) (kids : List Ex) (sp : Sp)
  deriving Inhabited
def Ex.op : Ex → Int | .mk op _ _ _ => op
def Ex.t : Ex → Tm | .mk _ t _ _ => t
def Ex.kids : Ex → List Ex | .mk _ _ kids _ => kids
def Ex.sp : Ex → Sp | .mk _ _ _ sp => sp
@[simp] theorem Ex.op_mk (op : Int) (t : Tm) (kids : List Ex) (sp : Sp) : (Ex.mk op t kids sp).op = op := rfl
@[simp] theorem Ex.t_mk (op : Int) (t : Tm) (kids : List Ex) (sp : Sp) : (Ex.mk op t kids sp).t = t := rfl
@[simp] theorem Ex.kids_mk (op : Int) (t : Tm) (kids : List Ex) (sp : Sp) : (Ex.mk op t kids sp).kids = kids := rfl
@[simp] theorem Ex.sp_mk (op : Int) (t : Tm) (kids : List Ex) (sp : Sp) : (Ex.mk op t kids sp).sp = sp := rfl
mutual
def Ex.row : Ex → List C
  | .mk op t kids sp => [cI .i8 op, cS (bs t.v), cI .i8 t.x.k, cI .i64 t.x.n, cS (bs t.x.s), .sl (exRows kids) sp]
def exRows : List Ex → List (List C)
  | [] => []
  | e :: l => e.row :: exRows l
end
theorem exRows_map : ∀ l : List Ex, exRows l = l.map Ex.row
  | [] => rfl
  | e :: l => by rw [exRows, exRows_map l]; rfl
theorem Ex.row_mk (op : Int) (t : Tm) (kids : List Ex) (sp : Sp) : (Ex.mk op t kids sp).row = [cI .i8 op, cS (bs t.v), cI .i8 t.x.k, cI .i64 t.x.n, cS (bs t.x.s), .sl (kids.map Ex.row) sp] := by
  rw [Ex.row, exRows_map]
theorem Ex.row_eq (e : Ex) : e.row = [cI .i8 e.op, cS (bs e.t.v), cI .i8 e.t.x.k, cI .i64 e.t.x.n, cS (bs e.t.x.s), .sl (e.kids.map Ex.row) e.sp] := by
  cases e; exact Ex.row_mk ..
@[simp] theorem Ex.row_length (e : Ex) : e.row.length = 6 := by rw [Ex.row_eq]; rfl
mutual
def Ex.same : Ex → Ex → Bool
  | .mk op t kids _, .mk op' t' kids' _ => op == op' && t == t' && exSame kids kids'
def exSame : List Ex → List Ex → Bool
  | [], [] => true
  | e :: l, e' :: l' => e.same e' && exSame l l'
  | _, _ => false
end
def arity (op : Int) : Int := if op = 1 ∨ op = 8 ∨ op = 9 ∨ op = 10 then 1 else if 2 ≤ op ∧ op ≤ 7 then 2 else -1
structure Lit where
  kind : Int
  p : Name
  l : List Tm
  sp : Sp
  rel : Int
  left : Ex
  right : Ex
  deriving Inhabited
def Lit.row (x : Lit) : List C := [cI .i8 x.kind, cS (bs x.p), .sl (x.l.map Tm.row) x.sp, cI .i8 x.rel] ++ x.left.row ++ x.right.row
@[simp] theorem Lit.row_length (x : Lit) : x.row.length = 16 := by simp [Lit.row]
structure Arg where
  agg : Int
  t : Tm
  deriving DecidableEq, Inhabited
def Arg.row (x : Arg) : List C := cI .i8 x.agg :: x.t.row
@[simp] theorem Arg.row_length (x : Arg) : x.row.length = 5 := rfl
structure Rule where
  p : Name
  head : List Arg
  hsp : Sp
  body : List Lit
  bsp : Sp
  deriving Inhabited
def Rule.row (r : Rule) : List C := [cS (bs r.p), .sl (r.head.map Arg.row) r.hsp, .sl (r.body.map Lit.row) r.bsp]
@[simp] theorem Rule.row_length (x : Rule) : x.row.length = 3 := rfl
end Go.Proofs.Ytiomojlcnemnhaa

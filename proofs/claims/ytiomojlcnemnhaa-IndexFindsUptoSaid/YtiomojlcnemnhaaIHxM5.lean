import Derived.Test.YtiomojlcnemnhaaIHxM2
import Derived.Test.YtiomojlcnemnhaaIPedB
import Derived.Test.YtiomojlcnemnhaaIFxZ
import Derived.Test.YtiomojlcnemnhaaITryShelf
import Derived.Shelf.Strconv.Itoa1
import Derived.KernelRfl
import Derived.Test.YtiomojlcnemnhaaIFxSd
namespace Go.Proofs.Ytiomojlcnemnhaa
open Go.Fx Go.RowKit Go.Ped
variable {G : World → Prop}
def _root_.Go.Ped.Val.row (x : Val) : List C := [cI .i8 x.k, cI .i64 x.n, cS (bs x.s)]
def _root_.Go.Ped.Tm.row (t : Tm) : List C := [cS (bs t.v), cI .i8 t.x.k, cI .i64 t.x.n, cS (bs t.x.s)]
def _root_.Go.Ped.Tm.ok (t : Tm) : Bool := termOk t.v t.x.k t.x.n t.x.s
def _root_.Go.Ped.Val.ok (x : Val) : Bool := valOk x.k x.n x.s
def _root_.Go.Ped.Tm.of : List C → Tm
  | [.v (.string a), .v (.int _ k), .v (.int _ n), .v (.string b)] => ⟨a.data.toList, ⟨k, n, b.data.toList⟩⟩
  | _ => ⟨[], ⟨0, 0, []⟩⟩
@[simp] theorem _root_.Go.Ped.Tm.of_row (t : Tm) : Tm.of t.row = t := by simp [Tm.row, Tm.of]
@[simp] theorem _root_.Go.Ped.Tm.row_length (t : Tm) : t.row.length = 4 := rfl
end Go.Proofs.Ytiomojlcnemnhaa

namespace Go.Fx
open Go.RowKit
def tab10 (_ : Program) (_ : World) : Prop := True
end Go.Fx

namespace Go.Proofs.Ytiomojlcnemnhaa
open Go.Fx Go.RowKit
variable {G : World → Prop}
end Go.Proofs.Ytiomojlcnemnhaa

namespace Go.Proofs.Ytiomojlcnemnhaa
open Go.Fx Go.RowKit Go.Ped
variable {G : World → Prop}
end Go.Proofs.Ytiomojlcnemnhaa

import Derived.Test.YtiomojlcnemnhaaGreatDoorRFxZ
import Derived.Test.YtiomojlcnemnhaaGreatDoorProg
import Derived.KernelRfl
import Derived.Test.YtiomojlcnemnhaaGreatDoorRGxM3
import Derived.Test.YtiomojlcnemnhaaGreatDoorRGxIcD
import Derived.Test.YtiomojlcnemnhaaGreatDoorRGxM8
namespace Go.Proofs.YtiomojlcnemnhaaGreatDoor
open Go.Fx
end Go.Proofs.YtiomojlcnemnhaaGreatDoor

namespace Go.Ped
end Go.Ped

namespace Go.Proofs.YtiomojlcnemnhaaGreatDoor
open Go.Fx Go.RowKit Go.Ped
variable {G:World→Prop}
def nxRow (p:Pr):List A:=.c (cS (bs p.v)) :: p.t.row.map A.c
def _root_.Go.Ped.Pr.row (p:Pr):List C:=cS (bs p.v) :: p.t.row
end Go.Proofs.YtiomojlcnemnhaaGreatDoor

namespace Go.Proofs.YtiomojlcnemnhaaGreatDoor
open Go.Fx Go.RowKit Go.Ped
variable {G:World→Prop}
@[simp] theorem _root_.Go.Ped.Pr.row_length (p:Pr):p.row.length = 5:=rfl
end Go.Proofs.YtiomojlcnemnhaaGreatDoor

namespace Go.Proofs.YtiomojlcnemnhaaGreatDoor
open Go.Fx Go.RowKit Go.Ped
variable {G:World→Prop}
@[simp] theorem strike_val (ks:List Nat):(strikeL ks ∘ fun v:Val=>v.row.map A.c) = fun v=>v.row.map A.c:=funext fun v=>strikeL_c ks _
end Go.Proofs.YtiomojlcnemnhaaGreatDoor

namespace Go.Proofs.YtiomojlcnemnhaaGreatDoor
open Go.Fx
-- BAD 280 pedigree/value.Arith: [range at value.go:156,next at value.go:156]
end Go.Proofs.YtiomojlcnemnhaaGreatDoor

namespace Go.Ped
section
variable (valOk:Val→Bool)
def gr (f:Name→Val) (nine:Val) (t:Tm):Val:=if t.v = [] then t.x else if t.v = us then nine else f t.v
end
end Go.Ped

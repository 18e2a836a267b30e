import Derived.Test.YtiomojlcnemnhaaDoorWFxZ
import Derived.Test.YtiomojlcnemnhaaDoorProg
import Derived.KernelRfl
import Derived.Test.YtiomojlcnemnhaaDoorWDxM8
import Derived.Test.YtiomojlcnemnhaaDoorWDxN3
namespace Go.Proofs.YtiomojlcnemnhaaDoor
open Go.Fx
end Go.Proofs.YtiomojlcnemnhaaDoor

namespace Go.Ped
end Go.Ped

namespace Go.Proofs.YtiomojlcnemnhaaDoor
open Go.Fx Go.RowKit Go.Ped
variable {G : World → Prop}
def nxRow (p : Pr) : List A := .c (cS (bs p.v)) :: p.t.row.map A.c
def _root_.Go.Ped.Pr.row (p : Pr) : List C := cS (bs p.v) :: p.t.row
end Go.Proofs.YtiomojlcnemnhaaDoor

namespace Go.Proofs.YtiomojlcnemnhaaDoor
open Go.Fx Go.RowKit Go.Ped
variable {G : World → Prop}
@[simp] theorem _root_.Go.Ped.Pr.row_length (p : Pr) : p.row.length = 5 := rfl
end Go.Proofs.YtiomojlcnemnhaaDoor

namespace Go.Proofs.YtiomojlcnemnhaaDoor
open Go.Fx Go.RowKit Go.Ped
variable {G : World → Prop}
end Go.Proofs.YtiomojlcnemnhaaDoor

namespace Go.Proofs.YtiomojlcnemnhaaDoor
open Go.Fx Go.RowKit Go.Ped
variable {G : World → Prop}
end Go.Proofs.YtiomojlcnemnhaaDoor

namespace Go.Proofs.YtiomojlcnemnhaaDoor
open Go.Fx Go.RowKit Go.Ped
variable {G : World → Prop}
end Go.Proofs.YtiomojlcnemnhaaDoor

namespace Go.Proofs.YtiomojlcnemnhaaDoor
open Go.Fx Go.RowKit Go.Ped
end Go.Proofs.YtiomojlcnemnhaaDoor

namespace Go.Proofs.YtiomojlcnemnhaaDoor
open Go.Fx
end Go.Proofs.YtiomojlcnemnhaaDoor

namespace Go.Ped
section
variable (val : Name → Val)
end
end Go.Ped

namespace Go.Ped
def valEnd (e : Tm) : Val := if e.v = [] then e.x else ⟨1, 0, []⟩
def valOf (c : List Pr) (v : Name) : Val := valEnd (endOf c ⟨v, zeroV⟩)
end Go.Ped

import Derived.Test.YtiomojlcnemnhaaDoorTDxY3
import Derived.Test.YtiomojlcnemnhaaDoorTDxIcI
import Derived.Test.YtiomojlcnemnhaaDoorTDxCardK
/- Contracts, on: variables that are found; lone sides of equations. -/
namespace Go.Proofs.YtiomojlcnemnhaaDoor
open Go.Fx Go.RowKit Go.Ped
variable {G : World → Prop}

abbrev OF (a b c : Nat) (acc : List Name) : List (Nat × Box) := [(a, ⟨174, 2, [[.own c (acc.map nmRow), .mapr b]], none⟩), (b, ⟨0, 2, thr 0 acc, some (.string, true)⟩)]
abbrev UF (c : Nat) (acc : List Name) : List (Nat × Fx.Tok) := [(c, ⟨9, 1, acc.length⟩)]
attribute [simp] thr_strike thr_get OF UF

end Go.Proofs.YtiomojlcnemnhaaDoor

/- Contracts, on: rounds over what waits. -/
namespace Go.Proofs.YtiomojlcnemnhaaDoor
open Go.Fx Go.RowKit Go.Ped
variable {G : World → Prop}

def Eqn.row (q : Eqn) : List C := [cS (bs q.left), cS (bs q.right), .sl (q.lefts.map nmRow) [], .sl (q.rights.map nmRow) []]
@[simp] theorem eqn_len (q : Eqn) : (Eqn.row q).length = 4 := rfl
end Go.Proofs.YtiomojlcnemnhaaDoor

/- Contracts, on: the variables that a body limits; the law on limits. -/
namespace Go.Proofs.YtiomojlcnemnhaaDoor
open Go.Fx Go.RowKit Go.Ped
variable {G : World → Prop}

end Go.Proofs.YtiomojlcnemnhaaDoor

import Derived.Test.YtiomojlcnemnhaaDoorKDxN3
import Derived.Test.YtiomojlcnemnhaaDoorKDxIcC
import Derived.Test.YtiomojlcnemnhaaDoorKPedU
/- Contracts, on: what unifies, the program's way. -/
namespace Go.Proofs.YtiomojlcnemnhaaDoor
open Go.Fx Go.RowKit Go.Ped
variable {G : World → Prop}

def _root_.Go.Ped.Pr.row (p : Pr) : List C := cS (bs p.v) :: p.t.row
end Go.Proofs.YtiomojlcnemnhaaDoor

/- Contracts, on: what unifies, the document's. -/
namespace Go.Proofs.YtiomojlcnemnhaaDoor
open Go.Fx Go.RowKit Go.Ped
variable {G : World → Prop}

@[simp] theorem _root_.Go.Ped.Pr.row_length (p : Pr) : p.row.length = 5 := rfl

end Go.Proofs.YtiomojlcnemnhaaDoor

/- Contracts, on: the document's unification. -/
namespace Go.Proofs.YtiomojlcnemnhaaDoor
open Go.Fx Go.RowKit Go.Ped
variable {G : World → Prop}

/-- Pairs in a variable. -/
def SlP (s : List Pr) (a : A) : Prop := (s = [] ∧ a = .nil) ∨ a = .c (.sl (s.map Pr.row) [])

theorem SlP.args {s : List Pr} {a : A} (h : SlP s a) : (X.one a).close = some (.one (.sl (s.map Pr.row) [])) := by
  rcases h with ⟨rfl, rfl⟩ | rfl <;> rfl
theorem SlP.strike {s : List Pr} {a : A} (h : SlP s a) (ks : List Nat) : A.strike ks a = a := by
  rcases h with ⟨rfl, rfl⟩ | rfl <;> rfl

end Go.Proofs.YtiomojlcnemnhaaDoor

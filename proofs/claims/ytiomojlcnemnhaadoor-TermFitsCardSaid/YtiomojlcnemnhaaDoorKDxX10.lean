import Derived.Test.YtiomojlcnemnhaaDoorKFxWb
import Derived.Test.YtiomojlcnemnhaaDoorProg
import Derived.KernelRfl
import Derived.Test.YtiomojlcnemnhaaDoorKDxX8
/- Functions of the seat, as the small language has them. -/
namespace Go.Proofs.YtiomojlcnemnhaaDoor
open Go.Fx

end Go.Proofs.YtiomojlcnemnhaaDoor

/- Contracts, on: the document's terms of an expression. -/
namespace Go.Proofs.YtiomojlcnemnhaaDoor
open Go.Fx Go.RowKit Go.Ped
variable {G : World → Prop}

end Go.Proofs.YtiomojlcnemnhaaDoor

/- Contracts, on: the document's terms of an expression, from nothing on. -/
namespace Go.Proofs.YtiomojlcnemnhaaDoor
open Go.Fx Go.RowKit Go.Ped
variable {G : World → Prop}

/-- Two names change places. -/
def swF (a b k : Nat) : Nat := if k = a then b else if k = b then a else k
theorem swF_swF (a b k : Nat) : swF a b (swF a b k) = k := by
  unfold swF; split <;> (try split) <;> (try split) <;> (try split) <;> simp_all
def swR (a b : Nat) : Ren := ⟨swF a b, swF a b, swF_swF a b, swF_swF a b⟩
@[simp] theorem swR_f (a b : Nat) : (swR a b).f = swF a b := rfl

end Go.Proofs.YtiomojlcnemnhaaDoor

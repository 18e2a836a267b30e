import Derived.Test.YtiomojlcnemnhaaDoorKDxH5
import Derived.Test.YtiomojlcnemnhaaDoorKDxH8
import Derived.Test.YtiomojlcnemnhaaDoorKDxW3
import Derived.Test.YtiomojlcnemnhaaDoorKDxIcO
/- Contracts, on: the document's values of expressions; the law TermEvals. -/
namespace Go.Proofs.YtiomojlcnemnhaaDoor
open Go.Fx Go.RowKit Go.Ped
variable {G : World → Prop}

theorem m25 (e : Ex) (hs : e.small 1048576) : Meets Tryd.prog G 25 [.agg e.row] (.x (.one (cB (decide (exParts e 1048576 > 1048576))))) := by
  refine meets Tryd.func25 ie25 ig25 (Nat.le_of_ble_eq_true rfl) ?_
  have h := m93 (G := G) e 1048576 (by omega) (by omega) hs
  rw [Ex.row_eq] at h ⊢
  simp [ic25, ir25]
  refine call_of h ?_
  simp

end Go.Proofs.YtiomojlcnemnhaaDoor

/- The law TermEvals. -/
namespace Go.Proofs.YtiomojlcnemnhaaDoor
open Go.Fx Go.RowKit Go.Ped
variable {G : World → Prop}

end Go.Proofs.YtiomojlcnemnhaaDoor

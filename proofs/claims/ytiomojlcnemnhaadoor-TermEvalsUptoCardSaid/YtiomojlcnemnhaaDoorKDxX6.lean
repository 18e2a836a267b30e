import Derived.Test.YtiomojlcnemnhaaDoorKFxWb
import Derived.Test.YtiomojlcnemnhaaDoorProg
import Derived.KernelRfl
import Derived.Test.YtiomojlcnemnhaaDoorKDxX2
import Derived.Test.YtiomojlcnemnhaaDoorKDxRow
import Derived.Test.YtiomojlcnemnhaaDoorKDxN3
/- Functions of the seat, as the small language has them. -/
namespace Go.Proofs.YtiomojlcnemnhaaDoor
open Go.Fx
end Go.Proofs.YtiomojlcnemnhaaDoor

/- Contracts, on: literals: what they may be. -/
namespace Go.Proofs.YtiomojlcnemnhaaDoor
open Go.Fx Go.RowKit Go.Ped
variable {G : World → Prop}

end Go.Proofs.YtiomojlcnemnhaaDoor

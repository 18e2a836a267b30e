/- Functions of the seat, as the small language has them. -/
import Derived.Test.YtiomojlcnemnhaaDoorTFxWb
import Derived.Test.YtiomojlcnemnhaaDoorProg
import Derived.KernelRfl
namespace Go.Proofs.YtiomojlcnemnhaaDoor
open Go.Fx

end Go.Proofs.YtiomojlcnemnhaaDoor

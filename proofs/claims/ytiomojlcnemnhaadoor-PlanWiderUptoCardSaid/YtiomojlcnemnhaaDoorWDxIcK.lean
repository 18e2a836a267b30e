import Derived.Test.YtiomojlcnemnhaaDoorWFxZ
import Derived.Test.YtiomojlcnemnhaaDoorProg
import Derived.KernelRfl
namespace Go.Proofs.YtiomojlcnemnhaaDoor
open Go.Fx
end Go.Proofs.YtiomojlcnemnhaaDoor

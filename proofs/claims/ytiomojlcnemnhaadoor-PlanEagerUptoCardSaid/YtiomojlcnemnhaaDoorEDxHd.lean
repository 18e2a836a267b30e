import Derived.Test.YtiomojlcnemnhaaDoorEDxH8
import Derived.Test.YtiomojlcnemnhaaDoorEDxW5
import Derived.Test.YtiomojlcnemnhaaDoorEDxIcO
namespace Go.Proofs.YtiomojlcnemnhaaDoor
open Go.Fx Go.RowKit Go.Ped
variable {G : World → Prop}
end Go.Proofs.YtiomojlcnemnhaaDoor

namespace Go.Proofs.YtiomojlcnemnhaaDoor
open Go.Fx Go.RowKit Go.Ped
variable {G : World → Prop}
end Go.Proofs.YtiomojlcnemnhaaDoor

import Derived.Test.YtiomojlcnemnhaaDoorGDxH8
import Derived.Test.YtiomojlcnemnhaaDoorGDxW5
import Derived.Test.YtiomojlcnemnhaaDoorGDxIcO
namespace Go.Proofs.YtiomojlcnemnhaaDoor
open Go.Fx Go.RowKit Go.Ped
variable {G : World → Prop}
end Go.Proofs.YtiomojlcnemnhaaDoor

namespace Go.Proofs.YtiomojlcnemnhaaDoor
open Go.Fx Go.RowKit Go.Ped
variable {G : World → Prop}
end Go.Proofs.YtiomojlcnemnhaaDoor

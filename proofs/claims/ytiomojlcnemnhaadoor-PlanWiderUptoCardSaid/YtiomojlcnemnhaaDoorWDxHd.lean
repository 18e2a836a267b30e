import Derived.Test.YtiomojlcnemnhaaDoorWDxH8
import Derived.Test.YtiomojlcnemnhaaDoorWDxW5
import Derived.Test.YtiomojlcnemnhaaDoorWDxIcO
namespace Go.Proofs.YtiomojlcnemnhaaDoor
open Go.Fx Go.RowKit Go.Ped
variable {G : World → Prop}
end Go.Proofs.YtiomojlcnemnhaaDoor

namespace Go.Proofs.YtiomojlcnemnhaaDoor
open Go.Fx Go.RowKit Go.Ped
variable {G : World → Prop}
end Go.Proofs.YtiomojlcnemnhaaDoor

import Derived.Test.YtiomojlcnemnhaaDoorSDxH8
import Derived.Test.YtiomojlcnemnhaaDoorSDxW5
import Derived.Test.YtiomojlcnemnhaaDoorSDxIcO
namespace Go.Proofs.YtiomojlcnemnhaaDoor
open Go.Fx Go.RowKit Go.Ped
variable {G : World → Prop}
end Go.Proofs.YtiomojlcnemnhaaDoor

namespace Go.Proofs.YtiomojlcnemnhaaDoor
open Go.Fx Go.RowKit Go.Ped
variable {G : World → Prop}
end Go.Proofs.YtiomojlcnemnhaaDoor

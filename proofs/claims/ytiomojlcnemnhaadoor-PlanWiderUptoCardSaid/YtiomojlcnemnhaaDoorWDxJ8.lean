import Derived.Test.YtiomojlcnemnhaaDoorWDxIc7
import Derived.Test.YtiomojlcnemnhaaDoorWDxLj
import Derived.Test.YtiomojlcnemnhaaDoorWDxB2
import Derived.Test.YtiomojlcnemnhaaDoorWDxJ3
import Derived.Test.YtiomojlcnemnhaaDoorWDxX11
import Derived.Test.YtiomojlcnemnhaaDoorWDxB1
import Derived.Test.YtiomojlcnemnhaaDoorWDxY3
import Derived.Test.YtiomojlcnemnhaaDoorWDxLb
namespace Go.Proofs.YtiomojlcnemnhaaDoor
open Go.Fx Go.RowKit Go.Ped
variable {G : World → Prop}
end Go.Proofs.YtiomojlcnemnhaaDoor

namespace Go.Proofs.YtiomojlcnemnhaaDoor
open Go.Fx Go.RowKit Go.Ped
variable {G : World → Prop}
end Go.Proofs.YtiomojlcnemnhaaDoor

namespace Go.Proofs.YtiomojlcnemnhaaDoor
open Go.Fx Go.RowKit Go.Ped
variable {G : World → Prop}
end Go.Proofs.YtiomojlcnemnhaaDoor

import Derived.Test.YtiomojlcnemnhaaDoorTDxH8
import Derived.Test.YtiomojlcnemnhaaDoorTDxCardK
import Derived.Test.YtiomojlcnemnhaaDoorTDxIcO
/- Contracts, on: the document's values of expressions; the law TermEvals. -/
namespace Go.Proofs.YtiomojlcnemnhaaDoor
open Go.Fx Go.RowKit Go.Ped
variable {G : World → Prop}

end Go.Proofs.YtiomojlcnemnhaaDoor

/- The law TermEvals. -/
namespace Go.Proofs.YtiomojlcnemnhaaDoor
open Go.Fx Go.RowKit Go.Ped
variable {G : World → Prop}

end Go.Proofs.YtiomojlcnemnhaaDoor

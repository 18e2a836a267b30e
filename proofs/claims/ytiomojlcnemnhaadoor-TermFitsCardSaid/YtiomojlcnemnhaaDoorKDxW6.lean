import Derived.Test.YtiomojlcnemnhaaDoorKDxU3
import Derived.Test.YtiomojlcnemnhaaDoorKPedB
import Derived.Test.YtiomojlcnemnhaaDoorKDxW5
/- Contracts, on: the program's unification. -/
namespace Go.Proofs.YtiomojlcnemnhaaDoor
open Go.Fx Go.RowKit Go.Ped
variable {G : World → Prop}

end Go.Proofs.YtiomojlcnemnhaaDoor

/- Contracts, on: the program's unification, whole. -/
namespace Go.Proofs.YtiomojlcnemnhaaDoor
open Go.Fx Go.RowKit Go.Ped
variable {G : World → Prop}

end Go.Proofs.YtiomojlcnemnhaaDoor

/- The law TermUnifies. -/
namespace Go.Proofs.YtiomojlcnemnhaaDoor
open Go.Fx Go.RowKit Go.Ped

end Go.Proofs.YtiomojlcnemnhaaDoor

/- Plain words for a most general one: an assignment under which two atoms become one fact is one of the kind that the pairs say. -/
namespace Go.Ped

section
variable (val : Name → Val)

end
end Go.Ped

/- Contracts, on: the law TermMost. -/
namespace Go.Proofs.YtiomojlcnemnhaaDoor
open Go.Fx Go.RowKit Go.Ped

end Go.Proofs.YtiomojlcnemnhaaDoor

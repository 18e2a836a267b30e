import Derived.Test.YtiomojlcnemnhaaDoorKDxW3
import Derived.Test.YtiomojlcnemnhaaDoorKDxIcH
/- Contracts, on: the program's walk over a rule; a rule's terms and variables. -/
namespace Go.Proofs.YtiomojlcnemnhaaDoor
open Go.Fx Go.RowKit Go.Ped
variable {G : World → Prop}

end Go.Proofs.YtiomojlcnemnhaaDoor

/- Contracts, on: rules: what they may be. -/
namespace Go.Proofs.YtiomojlcnemnhaaDoor
open Go.Fx Go.RowKit Go.Ped
variable {G : World → Prop}

end Go.Proofs.YtiomojlcnemnhaaDoor

/- Contracts, on: copies of rules, looked at again; heads; the law on rules. -/
namespace Go.Proofs.YtiomojlcnemnhaaDoor
open Go.Fx Go.RowKit Go.Ped
variable {G : World → Prop}

end Go.Proofs.YtiomojlcnemnhaaDoor

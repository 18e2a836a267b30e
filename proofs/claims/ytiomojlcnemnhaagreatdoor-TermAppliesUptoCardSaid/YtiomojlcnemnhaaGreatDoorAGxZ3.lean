/- Contracts, on: the variables that a body limits; the law on limits. -/
import Derived.Test.YtiomojlcnemnhaaGreatDoorAGxW4
namespace Go.Proofs.YtiomojlcnemnhaaGreatDoor
open Go.Fx Go.RowKit Go.Ped
variable {G : World → Prop}

end Go.Proofs.YtiomojlcnemnhaaGreatDoor

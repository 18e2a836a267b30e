/- Contracts, on: prefixes, long names, sizes, facts, rules as a user may hand them in. (Labels of 2000 and more: seat ZD.) -/
import Derived.Test.YtiomojlcnemnhaaGreatDoorPGxQ5
namespace Go.Proofs.YtiomojlcnemnhaaGreatDoor
open Go.Fx Go.RowKit Go.Ped
variable {G : World → Prop}

end Go.Proofs.YtiomojlcnemnhaaGreatDoor

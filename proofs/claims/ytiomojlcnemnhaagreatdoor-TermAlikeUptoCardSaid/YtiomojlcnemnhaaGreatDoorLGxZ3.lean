import Derived.Test.YtiomojlcnemnhaaGreatDoorLGxW4
namespace Go.Proofs.YtiomojlcnemnhaaGreatDoor
open Go.Fx Go.RowKit Go.Ped
variable {G : World → Prop}
end Go.Proofs.YtiomojlcnemnhaaGreatDoor

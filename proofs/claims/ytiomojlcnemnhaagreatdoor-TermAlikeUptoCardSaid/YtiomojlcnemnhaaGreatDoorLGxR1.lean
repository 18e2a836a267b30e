import Derived.Test.YtiomojlcnemnhaaGreatDoorLGxJa
import Derived.Test.YtiomojlcnemnhaaGreatDoorLGxIc3
namespace Go.Proofs.YtiomojlcnemnhaaGreatDoor
open Go.Fx Go.RowKit Go.Ped
variable {G : World → Prop}
end Go.Proofs.YtiomojlcnemnhaaGreatDoor

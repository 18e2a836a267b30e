import Derived.Test.YtiomojlcnemnhaaGreatDoorRFxZ
import Derived.Test.YtiomojlcnemnhaaGreatDoorProg
import Derived.KernelRfl
import Derived.Test.YtiomojlcnemnhaaGreatDoorRGxM3
import Derived.Test.YtiomojlcnemnhaaGreatDoorRPedF
namespace Go.Proofs.YtiomojlcnemnhaaGreatDoor
open Go.Fx
end Go.Proofs.YtiomojlcnemnhaaGreatDoor

namespace Go.Ped
section
variable (val:Name→Val)
end
end Go.Ped

namespace Go.Ped
def valEnd (e:Tm):Val:=if e.v = [] then e.x else ⟨1,0,[]⟩
def valOf (c:List Pr) (v:Name):Val:=valEnd (endOf c ⟨v,zeroV⟩)
end Go.Ped

import Derived.Test.YtiomojlcnemnhaaGreatDoorRPedF
import Derived.Test.YtiomojlcnemnhaaGreatDoorRGxW4
import Derived.Test.YtiomojlcnemnhaaGreatDoorRPedO
namespace Go.Proofs.YtiomojlcnemnhaaGreatDoor
open Go.Fx Go.RowKit Go.Ped
variable {G:World→Prop}
abbrev OP (k:Nat) (m:List Pr):List (Nat × Box):=[(k,⟨0,5,m.map nxRow,some (.string,false)⟩)]
attribute [simp] OP
def putP (m:List Pr) (t:Tm):Tm:=(nextOf m t.v).getD t
abbrev bxT (l:List Tm):Box:=⟨73,4,l.map fun t=>t.row.map A.c,none⟩
@[simp] theorem strike_tm (ks:List Nat):(strikeL ks ∘ fun t:Tm=>t.row.map A.c) = fun t=>t.row.map A.c:=funext fun t=>strikeL_c ks _
end Go.Proofs.YtiomojlcnemnhaaGreatDoor

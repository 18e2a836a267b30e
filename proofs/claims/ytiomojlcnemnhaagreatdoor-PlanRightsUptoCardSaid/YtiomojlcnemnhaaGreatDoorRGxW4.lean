import Derived.Test.YtiomojlcnemnhaaGreatDoorRGxG1
import Derived.Test.YtiomojlcnemnhaaGreatDoorRPedF
import Derived.Test.YtiomojlcnemnhaaGreatDoorRGxX13
import Derived.Test.YtiomojlcnemnhaaGreatDoorRGxFacts
import Derived.Lib.LaidTab
import Derived.Lib.AppendIntMem
import Derived.Test.YtiomojlcnemnhaaGreatDoorRGxX11
namespace Go.Fx
open Go.RowKit
section
variable {P:Program} {G:World→Prop}
section
variable {P:Program} {G:World→Prop} {L:List (Nat × T)} {O:List (Nat × Box)} {U:List (Nat × Tok)} {H:FHp} {l:List IOper} {K:S→Prop} {d:Nat}
end
end
end Go.Fx

namespace Go.Proofs.YtiomojlcnemnhaaGreatDoor
open Go.Fx Go.RowKit Go.Ped
variable {G:World→Prop}
end Go.Proofs.YtiomojlcnemnhaaGreatDoor

namespace Go.Proofs.YtiomojlcnemnhaaGreatDoor
open Go.Fx Go.RowKit Go.Ped
variable {G:World→Prop}
abbrev takesTab:List Int:=[0,1,2,2,2,2,2,4,3,3,3]
theorem w1:IntKind.i64.wrap 1 = 1:=by decide
theorem w2:IntKind.i64.wrap 2 = 2:=by decide
abbrev OB (m:List Tm):List (Nat × Box):=[(10040,⟨0,4,m.map mpRow,some (.string,false)⟩)]
attribute [simp] OB
end Go.Proofs.YtiomojlcnemnhaaGreatDoor

namespace Go.Proofs.YtiomojlcnemnhaaGreatDoor
open Go.Fx Go.RowKit Go.Ped
variable {G:World→Prop}
theorem hp_renX (π:Ren) (O:List (Nat × Box)) (U:List (Nat × Fx.Tok)) (E:XP):(hp O U (FX E)).ren π = hp (O.map fun p=>(π.f p.1,p.2.ren π.f)) (U.map fun p=>(π.f p.1,p.2)) (FX E):=by
  unfold Hp.ren hp
  simp only [Hp.mk.injEq]
  refine ⟨funext fun k=>?_,funext fun k=>?_,trivial⟩
  · rw [lookO_ren]
    show ((lookO O (π.g k)).or none).map _ = ((lookO O (π.g k)).map _).or none
    simp
  · rw [lookT_ren]; rfl
abbrev OY (a b:Nat) (m:List Tm):List (Nat × Box):=[(a,⟨252,1,[[.mapr b]],none⟩),(b,⟨0,4,m.map mpRow,some (.string,false)⟩)]
attribute [simp] OY
abbrev bX:Tm:=⟨[88],⟨1,1,[]⟩⟩
end Go.Proofs.YtiomojlcnemnhaaGreatDoor

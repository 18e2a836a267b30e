import Derived.Test.YtiomojlcnemnhaaGreatDoorRFxZ
import Derived.Test.YtiomojlcnemnhaaGreatDoorProg
import Derived.KernelRfl
namespace Go.Proofs.YtiomojlcnemnhaaGreatDoor
open Go.Fx
@[simp] abbrev kGxId3_0:List Nat:=[0,2,12,1,5,6,35,7,41,8,9,4]
def ic2009l0:IC:=(.seq (.seq (rG kGxId3_0 [oM 36 7,oF 37 3 5,oL 38 37,oN 39 38,oB 40 .quo (.t 39) (.k (rI .i64 2)),
 oB 41 .lss (.t 36) (.t 40)]) (.cond (.t 41) .skip (.exit 0))) (.seq (.block 1 (.seq (rG kGxId3_0 [oF 44 3 5,oL 45 44,oN 46 45,
 oB 47 .sub (.t 46) (.k (rI .i64 1)),oM 48 7,oB 49 .sub (.t 47) (.t 48),oM 8 49])
 (rG kGxId3_0 [oF 50 3 5,⟨(some 51),(.load none (.t 50)),none,(some [5])⟩,oM 52 7,
 oF 53 3 5,⟨(some 54),(.load none (.t 53)),none,(some [5])⟩,oM 55 8,oF 56 3 5,⟨(some 57),(.load none (.t 56)),none,(some [5])⟩,
 oM 58 8,⟨(some 59),(.iaddr 4 (.t 57) (.t 58)),none,(some [5008])⟩,⟨(some 60),(.load (some 4) (.t 59)),none,(some [5008])⟩,
 oF 61 3 5,⟨(some 62),(.load none (.t 61)),none,(some [5])⟩,oM 63 7,⟨(some 64),(.iaddr 4 (.t 62) (.t 63)),none,(some [5008])⟩,⟨(some 65),(.load (some 4)
 (.t 64)),none,(some [5008])⟩,⟨(some 66),(.iaddr 4 (.t 51) (.t 52)),none,(some [5008])⟩,⟨none,(.store (some 4) (.t 66)
 (.t 60)),none,(some [5008])⟩,⟨(some 67),(.iaddr 4 (.t 54) (.t 55)),none,(some [5008])⟩,⟨none,(.store (some 4) (.t 67) (.t 65)),none,(some [5008])⟩])))
 (rG kGxId3_0 [oM 42 7,oB 43 .add (.t 42) (.k (rI .i64 1)),oM 7 43])))
def ic2009:IC:=(.seq (rH [2] kGxId3_0 [oX 2 (.box 80 (.t 0)),oX 4 (.move (.k (rB false)))])
 (.seq (.seq (rG kGxId3_0 [oF 10 0 2,oR 11 3 10,oC 12 13 [(.t 11)]]) (.cond (.t 12)
 (.seq (rG kGxId3_0 [oX 4 (.move (.k (rB true)))]) .ret) .skip)) (.seq (rH [5] kGxId3_0 [oR 13 4 2,
 oX 14 (.call (.k (rF 50)) [(.t 13)]),oM 15 1,oC 16 51 [(.t 15)],oX 5 (.zero 80 [(.c (.v (.string (bs [])))),.nil,.nil,.nil]),oS 4 5 14,oM 6 16])
 (.seq (.seq (rG kGxId3_0 [⟨(some 17),(.load (some 4) (.t 5)),none,(some [5])⟩,
 oM 18 6,⟨(some 19),(.call (.k (rF 52)) [(.t 17),(.t 18)]),none,(some [5008])⟩,⟨(some 20),(.load (some 4) (.t 2)),none,(some [2])⟩,oM 21 1,
 oC 22 53 [(.t 20),(.t 21)],oX 23 (.eqb true (.t 19) (.t 22)),oM 24 23,⟨(some 25),(.load (some 4)
 (.t 5)),some (24,false),(some [5])⟩,⟨(some 26),(.load (some 4)
 (.t 2)),some (24,false),(some [2])⟩,⟨(some 27),(.call (.k (rF 54)) [(.t 25),(.t 26)]),some (24,false),(some [5008])⟩,oG 28 (.un .not (.t 27)) 24 false,
 oP 29 24 28,oM 30 29,oG 31 (.move (.t 6)) 30 false,oG 32 (.move (.t 1)) 30 false,oG 33 (.callp (.k (rF 55)) [(.t 31),(.t 32)]) 30 false,
 oG 34 (.un .not (.t 33)) 30 false,oP 35 30 34]) (.cond (.t 35) (.seq (rG kGxId3_0 [oX 4 (.move (.k (rB false)))]) .ret) .skip))
 (.seq (.seq (rG kGxId3_0 [oX 7 (.move (.k (rI .i64 0)))]) (.block 0 (.loop ic2009l0)))
 (.seq (.region [] [.fz [5008]] [0,2,12,1,5,6,35,7,41,8,9,4] [oR 68 4 5,oX 69 (.call (.k (rF 50)) [(.t 68)]),
 oM 70 1,⟨(some 71),(.call (.k (rF 53)) [(.t 69),(.t 70)]),none,(some [5009])⟩,oM 9 71]) (.seq (rG kGxId3_0 [oR 72 4 5,oM 73 6,
 oC 74 52 [(.t 72),(.t 73)],oM 75 9,oX 76 (.eqb false (.t 74) (.t 75)),oM 77 76,oG 78 (.callp (.k (rF 56)) []) 77 true,oQ 79 77 78,oM 4 79]) .ret)))))))
def ir2009:List IRes:=[.tmp 4]
theorem ie2009:cmpFunc Tryz.prog ⟨[(51,(some [5])),(54,(some [5])),(57,(some [5])),(62,(some [5])),(59,(some [5008])),(64,(some [5008])),(60,(some [5008])),(65,(some [5008])),(66,(some [5008])),(67,(some [5008])),(100066,(some [5008])),(100067,(some [5008])),(19,(some [5008])),(27,(some [5008])),(17,(some [5])),(25,(some [5])),(20,(some [2])),(26,(some [2])),(71,(some [5009])),(14,none),(69,none)],[(68,.fz [5008])]⟩ Tryz.f9 [0,2,12,1,5,6,35,7,41,8,9,4] = some ic2009:=by kernel_rfl
theorem ig2009:cmpRes Tryz.prog Tryz.f9.results.toList = some ir2009:=by kernel_rfl
end Go.Proofs.YtiomojlcnemnhaaGreatDoor

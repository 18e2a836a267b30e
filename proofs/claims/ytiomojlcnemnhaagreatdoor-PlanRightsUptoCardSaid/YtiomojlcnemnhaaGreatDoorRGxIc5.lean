import Derived.Test.YtiomojlcnemnhaaGreatDoorRFxZ
import Derived.Test.YtiomojlcnemnhaaGreatDoorProg
import Derived.KernelRfl
namespace Go.Proofs.YtiomojlcnemnhaaGreatDoor
open Go.Fx
@[simp] abbrev kGxIc5_0:List Nat:=[0,5,1,4]
@[simp] abbrev kGxIc5_1:List Nat:=[3,0,2]
@[simp] abbrev kGxIc5_2:List Nat:=[0,1,6,25,26,8,7,9,40,47,4,53,67,10,85,5]
@[simp] abbrev kGxIc5_3:List Nat:=[0,1,10,13,12,14,5,24,4]
@[simp] abbrev kGxIc5_4:List Nat:=[1,8,7,9,6,0,5]
@[simp] abbrev kGxIc5_5:List Nat:=[0,2]
@[simp] abbrev kGxIc5_6:List Nat:=[0,1,4]
@[simp] abbrev kGxIc5_7:List Nat:=[1,3,11,10,12,9,7,0,24,5,6,4]
@[simp] abbrev kGxIc5_8:List Nat:=[0,1,3,5,2,4]
@[simp] abbrev kGxIc5_9:List Nat:=[0,8,7,9,1,5,16,4]
@[simp] abbrev kGxIc5_10:List Nat:=[0,1,6,4]
@[simp] abbrev kGxIc5_11:List Nat:=[0,1,3,2,4,5]
def ic147:IC:=(.seq (rG kGxIc5_0 [oX 4 (.move (.k (.x (.one (.c (.v (.pointer none)))))))]) (.seq (rH [7,9] kGxIc5_0 [oM 6 0,
 oX 7 (.mkmap .string 1 false),oX 8 (.build [.nil,(.c (.v (.map none)))] [(0,1,(.t 6)),(1,1,(.t 7))]),oX 9 (.box 263 (.t 8)),oM 5 9])
 (.seq (rG kGxIc5_0 [oM 10 5,oM 11 1,oX 12 (.call (.k (rF 150)) [(.t 10),(.t 11)])]) (.seq (rG kGxIc5_0 [oM 13 5,oM 4 13]) .ret))))
def ir147:List IRes:=[.tmp 4]
theorem ie147:cmpFunc Tryz.prog ⟨[(12,none)],[]⟩ Tryz.f146 [0,5,1,4] = some ic147:=by kernel_rfl
theorem ig147:cmpRes Tryz.prog Tryz.f146.results.toList = some ir147:=by kernel_rfl
def ic148:IC:=(.seq (rG kGxIc5_1 [oX 2 (.move (.k (rI .u32 0)))]) (.seq (rG kGxIc5_1 [oX 3 (.move (.k (rI .u32 1)))])
 (.seq (rG kGxIc5_1 [oM 4 3,oM 5 0,oB 6 .shl (.t 4) (.t 5),oM 3 6]) (.seq (rG kGxIc5_1 [oM 7 3,oB 8 .sub (.t 7) (.k (rI .u32 1)),
 oM 2 8]) .ret))))
def ir148:List IRes:=[.tmp 2]
theorem ie148:cmpFunc Tryz.prog ⟨[],[]⟩ Tryz.f147 [3,0,2] = some ic148:=by kernel_rfl
theorem ig148:cmpRes Tryz.prog Tryz.f147.results.toList = some ir148:=by kernel_rfl
def ic149:IC:=(.seq (rH [4] kGxIc5_2 [oX 4 (.zero 90 [(.c (.v (.int .i8 0))),(.c (.v (.int .i64 0))),(.c (.v (.int .u32 0))),.nil]),
 oX 5 (.move (.k (rB false)))]) (.seq (rH [6] kGxIc5_2 [oM 11 0,oX 12 (.nilchk (.t 11)),oF 13 0 12,oL 14 13,oM 15 1,
 oA 16 16 14 15,oR 17 16 16,
 oX 6 (.zero 107 [(.c (.v (.int .i8 0))),(.c (.v (.string (bs [])))),.nil,(.c (.v (.int .i8 0))),(.c (.v (.int .i8 0))),(.c (.v (.string (bs [])))),(.c (.v (.int .i8 0))),(.c (.v (.int .i64 0))),(.c (.v (.string (bs [])))),.nil,(.c (.v (.int .i8 0))),(.c (.v (.string (bs [])))),(.c (.v (.int .i8 0))),(.c (.v (.int .i64 0))),(.c (.v (.string (bs [])))),.nil]),
 oS 16 6 17]) (.seq (rH [7] kGxIc5_2 [oM 18 1,
 oX 19 (.build [(.c (.v (.int .i8 0))),(.c (.v (.int .i64 0))),(.c (.v (.int .u32 0))),.nil] [(1,1,(.t 18))]),
 oX 7 (.zero 90 [(.c (.v (.int .i8 0))),(.c (.v (.int .i64 0))),(.c (.v (.int .u32 0))),.nil]),oS 4 7 19])
 (.seq (rG kGxIc5_2 [oM 20 0,oR 21 16 6,oC 22 229 [(.t 21)],oX 23 (.call (.k (rF 228)) [(.t 20),(.t 22)]),
 oM 8 23]) (.seq (.seq (rG kGxIc5_2 [oF 24 0 6,oL 25 24])
 (.block 0 (.seq (rG kGxIc5_2 [oB 27 .eql (.t 25) (.k (rI .i8 1)),oM 26 27]) (.cond (.t 26)
 (.seq (rG kGxIc5_2 [oM 28 0,oF 29 1 6,oR 30 2 29,oX 31 (.call (.k (rF 230)) [(.t 28),(.t 30)]),oM 32 8,
 oF 33 2 7,oS 1 33 31,oF 34 3 7,oS 1 34 32]) (.seq (.seq (rG kGxIc5_2 [oF 35 1 6,oF 36 1 35,oL 37 36,oN 38 37,
 oM 9 38]) (.block 1 (.seq (rG kGxIc5_2 [oF 41 2 7,oL 42 41,oM 43 9,oC 44 147 [(.t 43)],oB 45 .eql (.t 42)
 (.t 44),oM 40 45]) (.cond (.t 40) (rG kGxIc5_2 [oF 46 0 7,⟨none,(.store (some 1) (.t 46)
 (.k (rI .i8 3))),none,none⟩]) (.seq (rG kGxIc5_2 [oF 48 2 7,oL 49 48,oB 50 .eql (.t 49) (.k (rI .u32 0)),
 oM 47 50]) (.cond (.t 47) (rG kGxIc5_2 [oF 51 0 7,⟨none,(.store (some 1) (.t 51) (.k (rI .i8 1))),none,none⟩])
 (rG kGxIc5_2 [oF 39 0 7,⟨none,(.store (some 1) (.t 39) (.k (rI .i8 2))),none,none⟩])))))))
 (.seq (rG kGxIc5_2 [oR 52 4 7,oS 4 4 52,oX 5 (.move (.k (rB true)))]) .ret)))
 (.seq (rG kGxIc5_2 [oB 54 .eql (.t 25) (.k (rI .i8 2)),oM 53 54]) (.cond (.t 53)
 (.seq (rG kGxIc5_2 [oM 55 0,oF 56 1 6,oR 57 2 56,oX 58 (.call (.k (rF 230)) [(.t 55),(.t 57)]),
 oF 59 0 7,⟨none,(.store (some 1) (.t 59) (.k (rI .i8 4))),none,none⟩,oF 60 2 7,oS 1 60 58])
 (.seq (rG kGxIc5_2 [oR 61 4 7,oM 62 8,oN 63 62,oB 64 .eql (.t 63) (.k (rI .i64 0)),oS 4 4 61,
 oM 5 64]) .ret)) .skip)))))) (.seq (.seq (rG kGxIc5_2 [oM 65 8,oN 66 65,oB 67 .eql (.t 66) (.k (rI .i64 0))])
 (.cond (.t 67) (.seq (rG kGxIc5_2 [oF 68 0 7,⟨none,(.store (some 1) (.t 68) (.k (rI .i8 5))),none,none⟩])
 (.seq (rG kGxIc5_2 [oR 69 4 7,oS 4 4 69,oX 5 (.move (.k (rB true)))]) .ret)) .skip))
 (.seq (.seq (rG kGxIc5_2 [oM 70 8,oX 71 (.iaddr 1 (.t 70) (.k (rI .i64 0))),oL 72 71,oM 10 72])
 (.seq (rG kGxIc5_2 [oM 73 8,oN 74 73,oB 75 .eql (.t 74) (.k (rI .i64 1)),oM 76 75,
 oG 77 (.faddr 3 (.t 6)) 76 true,oG 78 (.load none (.t 77)) 76 true,oG 79 (.bin .eql (.t 78) (.k (rI .i8 1))) 76 true,oQ 80 76 79,oM 81 80,
 oG 82 (.load (some 16) (.t 6)) 81 true,oG 83 (.move (.t 10)) 81 true,oG 84 (.callp (.k (rF 231)) [(.t 82),(.t 83)]) 81 true,oQ 85 81 84]) (.cond (.t 85)
 (.seq (rH [87] kGxIc5_2 [oM 86 10,oX 87 (.row 9 1 [(.t 86)]),oF 88 0 7,⟨none,(.store (some 1) (.t 88)
 (.k (rI .i8 6))),none,none⟩,oF 89 3 7,oS 1 89 87]) (.seq (rG kGxIc5_2 [oR 90 4 7,oS 4 4 90,
 oX 5 (.move (.k (rB true)))]) .ret)) .skip))) (.seq (rG kGxIc5_2 [oR 91 4 7,oS 4 4 91,
 oX 5 (.move (.k (rB false)))]) .ret))))))))
def ir149:List IRes:=[.cell 4 (some 4),.tmp 5]
theorem ie149:cmpFunc Tryz.prog ⟨[(23,none),(31,none),(58,none)],[]⟩ Tryz.f148 [0,1,6,25,26,8,7,9,40,47,4,53,67,10,85,5] = some ic149:=by kernel_rfl
theorem ig149:cmpRes Tryz.prog Tryz.f148.results.toList = some ir149:=by kernel_rfl
def ic150l0:IC:=(.seq (rG kGxIc5_3 [oB 14 .lss (.t 13) (.t 12)]) (.seq (.cond (.t 14) .skip (.exit 0))
 (.seq (.block 1 (.seq (rG kGxIc5_3 [oM 15 13,oM 5 15]) (.seq (rG kGxIc5_3 [oM 16 0,oM 17 5,
 oA 18 1 16 17,oL 19 18,oM 20 1,oM 21 5,oA 22 1 20 21,oL 23 22,oB 24 .neq (.t 19) (.t 23)]) (.cond (.t 24)
 (.seq (rG kGxIc5_3 [oX 4 (.move (.k (rB false)))]) .ret) .skip)))) (rG kGxIc5_3 [oB 25 .add (.t 13)
 (.k (rI .i64 1)),oM 13 25]))))
def ic150:IC:=(.seq (rG kGxIc5_3 [oX 4 (.move (.k (rB false)))]) (.seq (.seq (rG kGxIc5_3 [oM 6 0,
 oN 7 6,oM 8 1,oN 9 8,oB 10 .neq (.t 7) (.t 9)]) (.cond (.t 10) (.seq (rG kGxIc5_3 [oX 4 (.move (.k (rB false)))]) .ret) .skip))
 (.seq (.seq (rG kGxIc5_3 [oM 11 0,oN 12 11,oX 13 (.move (.k (rI .i64 0)))]) (.block 0 (.loop ic150l0)))
 (.seq (rG kGxIc5_3 [oX 4 (.move (.k (rB true)))]) .ret))))
def ir150:List IRes:=[.tmp 4]
theorem ie150:cmpFunc Tryz.prog ⟨[],[]⟩ Tryz.f149 [0,1,10,13,12,14,5,24,4] = some ic150:=by kernel_rfl
theorem ig150:cmpRes Tryz.prog Tryz.f149.results.toList = some ir150:=by kernel_rfl
def ic151l0:IC:=(.seq (rG kGxIc5_4 [oB 9 .lss (.t 8) (.t 7)]) (.seq (.cond (.t 9) .skip (.exit 0))
 (.seq (.block 1 (.seq (rG kGxIc5_4 [oA 10 1 6 8,oL 11 10,oM 5 11]) (rG kGxIc5_4 [oM 12 0,oX 13 (.nilchk (.t 12)),
 oF 14 1 13,oL 15 14,oM 16 5,oX 17 (.build [] []),⟨none,(.mapup .string false (.t 15) (.t 16) (.t 17)),none,none⟩])))
 (rG kGxIc5_4 [oB 18 .add (.t 8) (.k (rI .i64 1)),oM 8 18]))))
def ic151:IC:=(.seq (rG kGxIc5_4 [oM 6 1,oN 7 6,oX 8 (.move (.k (rI .i64 0)))]) (.block 0 (.loop ic151l0)))
def ir151:List IRes:=[]
theorem ie151:cmpFunc Tryz.prog ⟨[],[]⟩ Tryz.f150 [1,8,7,9,6,0,5] = some ic151:=by kernel_rfl
theorem ig151:cmpRes Tryz.prog Tryz.f150.results.toList = some ir151:=by kernel_rfl
def ic191:IC:=(.seq (rG kGxIc5_5 [oX 2 (.move (.k (rB false)))]) (.seq (rG kGxIc5_5 [oM 3 0,
 oC 4 281 [(.t 3),(.k (rI .i32 65)),(.k (rI .i32 90))],oM 2 4]) .ret))
def ir191:List IRes:=[.tmp 2]
theorem ie191:cmpFunc Tryz.prog ⟨[],[]⟩ Tryz.f225 [0,2] = some ic191:=by kernel_rfl
theorem ig191:cmpRes Tryz.prog Tryz.f225.results.toList = some ir191:=by kernel_rfl
def ic192:IC:=(.seq (rG kGxIc5_6 [oX 4 (.move (.k (rB false)))]) (.seq (rG kGxIc5_6 [oM 5 0,oM 6 1,oC 7 282 [(.t 5),(.t 6)],
 oB 8 .geq (.t 7) (.k (rI .i64 0)),oM 4 8]) .ret))
def ir192:List IRes:=[.tmp 4]
theorem ie192:cmpFunc Tryz.prog ⟨[],[]⟩ Tryz.f226 [0,1,4] = some ic192:=by kernel_rfl
theorem ig192:cmpRes Tryz.prog Tryz.f226.results.toList = some ir192:=by kernel_rfl
def ic195l0:IC:=(.seq (rG kGxIc5_7 [oB 12 .lss (.t 11) (.t 10)]) (.seq (.cond (.t 12) .skip (.exit 0))
 (.seq (.block 1 (.seq (rH [7] kGxIc5_7 [oM 13 11,oA 14 4 9 11,oR 15 4 14,
 oX 7 (.zero 73 [(.c (.v (.string (bs [])))),(.c (.v (.int .i8 0))),(.c (.v (.int .i64 0))),(.c (.v (.string (bs []))))]),oM 6 13,oS 4 7 15])
 (.seq (rG kGxIc5_7 [oF 16 0 7,oL 17 16,oB 18 .eql (.t 17) (.k (rS (bs []))),oM 19 18,oG 20 (.move (.t 0)) 19 false,
 oG 21 (.faddr 0 (.t 7)) 19 false,oG 22 (.load none (.t 21)) 19 false,oG 23 (.call (.k (rF 285)) [(.t 20),(.t 22)]) 19 false,oP 24 19 23]) (.cond (.t 24)
 (rG kGxIc5_7 [oM 25 5,oM 26 6,oB 27 .shl (.k (rI .u32 1)) (.t 26),oB 28 .or (.t 25) (.t 27),oM 5 28]) .skip))))
 (rG kGxIc5_7 [oB 29 .add (.t 11) (.k (rI .i64 1)),oM 11 29]))))
def ic195:IC:=(.seq (rH [3] kGxIc5_7 [oX 3 (.box 25 (.t 1)),oX 4 (.move (.k (rI .u32 0)))])
 (.seq (rG kGxIc5_7 [oX 5 (.move (.k (rI .u32 0)))]) (.seq (.seq (rG kGxIc5_7 [oF 8 1 3,oL 9 8,
 oN 10 9,oX 11 (.move (.k (rI .i64 0)))]) (.block 0 (.loop ic195l0))) (.seq (rG kGxIc5_7 [oM 30 5,oM 4 30]) .ret))))
def ir195:List IRes:=[.tmp 4]
theorem ie195:cmpFunc Tryz.prog ⟨[(23,none)],[]⟩ Tryz.f230 [1,3,11,10,12,9,7,0,24,5,6,4] = some ic195:=by kernel_rfl
theorem ig195:cmpRes Tryz.prog Tryz.f230.results.toList = some ir195:=by kernel_rfl
def ic196:IC:=(.seq (rH [2,3] kGxIc5_8 [oX 2 (.box 107 (.t 0)),oX 3 (.box 9 (.t 1)),oX 4 (.move (.k (rB false)))])
 (.seq (rG kGxIc5_8 [oX 6 (.clo 286 [] [(.t 3)]),oM 5 6]) (.seq (rG kGxIc5_8 [oM 7 5,oF 8 4 2,oR 9 6 8,oF 10 10 2,
 oR 11 6 10,oX 12 (.call (.t 7) [(.t 9),(.t 11)]),oM 13 12,oG 14 (.move (.t 5)) 13 false,oG 15 (.faddr 10 (.t 2)) 13 false,oG 16 (.load (some 6)
 (.t 15)) 13 false,oG 17 (.faddr 4 (.t 2)) 13 false,oG 18 (.load (some 6) (.t 17)) 13 false,oG 19 (.call (.t 14) [(.t 16),(.t 18)]) 13 false,oP 20 13 19,
 oM 4 20]) .ret)))
def ir196:List IRes:=[.tmp 4]
theorem ie196:cmpFunc Tryz.prog ⟨[(12,none),(19,none)],[]⟩ Tryz.f231 [0,1,3,5,2,4] = some ic196:=by kernel_rfl
theorem ig196:cmpRes Tryz.prog Tryz.f231.results.toList = some ir196:=by kernel_rfl
def ic214l0:IC:=(.seq (rG kGxIc5_9 [oB 9 .lss (.t 8) (.t 7)]) (.seq (.cond (.t 9) .skip (.exit 0))
 (.seq (.block 1 (.seq (rG kGxIc5_9 [oM 10 8,oM 5 10]) (.seq (rG kGxIc5_9 [oM 11 1,oM 12 0,oM 13 5,oA 14 1 12 13,
 oL 15 14,oB 16 .eql (.t 11) (.t 15)]) (.cond (.t 16) (.seq (rG kGxIc5_9 [oM 17 5,oM 4 17]) .ret) .skip))))
 (rG kGxIc5_9 [oB 18 .add (.t 8) (.k (rI .i64 1)),oM 8 18]))))
def ic214:IC:=(.seq (rG kGxIc5_9 [oX 4 (.move (.k (rI .i64 0)))]) (.seq (.seq (rG kGxIc5_9 [oM 6 0,oN 7 6,
 oX 8 (.move (.k (rI .i64 0)))]) (.block 0 (.loop ic214l0))) (.seq (rG kGxIc5_9 [oX 4 (.move (.k (rI .i64 (-1))))]) .ret)))
def ir214:List IRes:=[.tmp 4]
theorem ie214:cmpFunc Tryz.prog ⟨[],[]⟩ Tryz.f282 [0,8,7,9,1,5,16,4] = some ic214:=by kernel_rfl
theorem ig214:cmpRes Tryz.prog Tryz.f282.results.toList = some ir214:=by kernel_rfl
def ic217:IC:=(.seq (rG kGxIc5_10 [oX 4 (.move (.k (rB false)))]) (.seq (rH [5] kGxIc5_10 [oM 8 0,oX 9 (.nilchk (.t 8)),oF 10 1 9,
 oL 11 10,oM 12 1,oX 13 (.mlook .string false true [] (.t 11) (.t 12)),oM 7 13,oX 14 (.ext (.t 7) 0),oX 15 (.ext (.t 7) 1),oX 5 (.zero 266 []),oS 0 5 14,
 oM 6 15]) (.seq (rG kGxIc5_10 [oM 16 6,oM 4 16]) .ret)))
def ir217:List IRes:=[.tmp 4]
theorem ie217:cmpFunc Tryz.prog ⟨[],[]⟩ Tryz.f285 [0,1,6,4] = some ic217:=by kernel_rfl
theorem ig217:cmpRes Tryz.prog Tryz.f285.results.toList = some ir217:=by kernel_rfl
def ic218:IC:=(.seq (rH [3,4] kGxIc5_11 [oX 3 (.box 105 (.t 0)),oX 4 (.box 105 (.t 1)),oX 5 (.move (.k (rB false)))])
 (.seq (rG kGxIc5_11 [oF 6 0 3,oL 7 6,oB 8 .eql (.t 7) (.k (rI .i8 0)),oM 9 8,oG 10 (.faddr 1 (.t 3)) 9 true,oG 11 (.faddr 0 (.t 10)) 9 true,
 oG 12 (.load none (.t 11)) 9 true,oG 13 (.load none (.t 2)) 9 true,oG 14 (.bin .eql (.t 12) (.t 13)) 9 true,oQ 15 9 14,oM 16 15,oG 17 (.load (some 6)
 (.t 4)) 16 true,oG 18 (.callp (.k (rF 190)) [(.t 17)]) 16 true,oG 19 (.load none (.t 2)) 16 true,oG 20 (.callp (.k (rF 226)) [(.t 18),(.t 19)]) 16 true,
 oG 21 (.un .not (.t 20)) 16 true,oQ 22 16 21,oM 5 22]) .ret))
def ir218:List IRes:=[.tmp 5]
theorem ie218:cmpFunc Tryz.prog ⟨[],[]⟩ Tryz.f286 [0,1,3,2,4,5] = some ic218:=by kernel_rfl
theorem ig218:cmpRes Tryz.prog Tryz.f286.results.toList = some ir218:=by kernel_rfl
end Go.Proofs.YtiomojlcnemnhaaGreatDoor

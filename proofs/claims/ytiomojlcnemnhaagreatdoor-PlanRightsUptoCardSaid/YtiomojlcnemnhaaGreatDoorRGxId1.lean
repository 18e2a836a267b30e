import Derived.Test.YtiomojlcnemnhaaGreatDoorRFxZ
import Derived.Test.YtiomojlcnemnhaaGreatDoorProg
import Derived.KernelRfl
namespace Go.Proofs.YtiomojlcnemnhaaGreatDoor
open Go.Fx
@[simp] abbrev kGxId1_0:List Nat:=[0,1,2]
@[simp] abbrev kGxId1_1:List Nat:=[0,4,12,3,2]
@[simp] abbrev kGxId1_2:List Nat:=[0,1,2,3,4]
@[simp] abbrev kGxId1_3:List Nat:=[0,1,4]
@[simp] abbrev kGxId1_4:List Nat:=[0,2]
@[simp] abbrev kGxId1_5:List Nat:=[0,1,10,5,14,26,4]
@[simp] abbrev kGxId1_6:List Nat:=[0,2,1,4]
def ic2050:IC:=(.seq (rH [1,2] kGxId1_0 [oX 1 (.box 80 (.t 0)),oX 2 (.zero 80 [(.c (.v (.string (bs [])))),.nil,.nil,.nil])])
 (.seq (rG kGxId1_0 [oF 3 0 1,oR 4 3 3,oC 5 16 [(.t 4)],oF 6 0 1,oS 3 6 5]) (.seq (rG kGxId1_0 [oF 7 3 1,oL 8 7,
 oX 9 (.call (.k (rF 143)) [(.t 8)]),oF 10 3 1,oS 1 10 9]) (.seq (rG kGxId1_0 [oR 11 4 1,oS 4 2 11]) .ret))))
def ir2050:List IRes:=[.cell 2 (some 4)]
theorem ie2050:cmpFunc Tryz.prog ⟨[(9,none)],[]⟩ Tryz.f50 [0,1,2] = some ic2050:=by kernel_rfl
theorem ig2050:cmpRes Tryz.prog Tryz.f50.results.toList = some ir2050:=by kernel_rfl
def ic2051l0:IC:=(.seq (.seq (rG kGxId1_1 [oM 9 4,oM 10 0,oN 11 10,oB 12 .lss (.t 9) (.t 11)]) (.cond (.t 12) .skip (.exit 0)))
 (.seq (.block 1 (rG kGxId1_1 [oM 15 3,oM 16 4,oM 17 0,oM 18 4,oA 19 1 17 18,oL 20 19,oA 21 1 15 16,oS 1 21 20]))
 (rG kGxId1_1 [oM 13 4,oB 14 .add (.t 13) (.k (rI .i64 1)),oM 4 14])))
def ic2051:IC:=(.seq (rG kGxId1_1 [oX 2 (.move (.k (.x (.one .nil))))]) (.seq (rH [8] kGxId1_1 [oM 5 0,oN 6 5,oB 7 .add (.t 6)
 (.k (rI .i64 1)),oX 8 (.make 9 1 16 [(.c (.v (.string (bs []))))] (.t 7) (.t 7)),oM 3 8])
 (.seq (.seq (rG kGxId1_1 [oX 4 (.move (.k (rI .i64 0)))]) (.block 0 (.loop ic2051l0))) (.seq (rG kGxId1_1 [oM 22 3,oM 23 0,
 oN 24 23,oC 25 144 [(.k (rI .i64 777777))],oA 26 1 22 24,oS 1 26 25]) (.seq (rG kGxId1_1 [oM 27 3,oM 28 0,oN 29 28,
 oX 30 (.vsl 1 (.t 27) none (some (.t 29))),oM 2 30]) .ret)))))
def ir2051:List IRes:=[.tmp 2]
theorem ie2051:cmpFunc Tryz.prog ⟨[],[]⟩ Tryz.f51 [0,4,12,3,2] = some ic2051:=by kernel_rfl
theorem ig2051:cmpRes Tryz.prog Tryz.f51.results.toList = some ir2051:=by kernel_rfl
def ic2054:IC:=(.seq (rH [2,3] kGxId1_2 [oX 2 (.box 80 (.t 0)),oX 3 (.box 80 (.t 1)),oX 4 (.move (.k (rB false)))])
 (.seq (rG kGxId1_2 [oF 5 0 2,oR 6 3 5,oF 7 0 3,oR 8 3 7,oC 9 25 [(.t 6),(.t 8)],oM 10 9,oG 11 (.faddr 3 (.t 2)) 10 true,
 oG 12 (.load none (.t 11)) 10 true,oG 13 (.faddr 3 (.t 3)) 10 true,oG 14 (.load none (.t 13)) 10 true,oG 15 (.callp (.k (rF 154)) [(.t 12),(.t 14)]) 10 true,
 oQ 16 10 15,oM 4 16]) .ret))
def ir2054:List IRes:=[.tmp 4]
theorem ie2054:cmpFunc Tryz.prog ⟨[],[]⟩ Tryz.f54 [0,1,2,3,4] = some ic2054:=by kernel_rfl
theorem ig2054:cmpRes Tryz.prog Tryz.f54.results.toList = some ir2054:=by kernel_rfl
def ic2055:IC:=(.seq (rG kGxId1_3 [oX 4 (.move (.k (rB false)))]) (.seq (rG kGxId1_3 [oM 5 0,oM 6 1,oC 7 155 [(.t 5),(.t 6)],oM 8 7,
 oG 9 (.move (.t 0)) 8 true,oG 10 (.move (.t 1)) 8 true,oG 11 (.len (.t 10)) 8 true,oG 12 (.bin .add (.t 11) (.k (rI .i64 1))) 8 true,
 oG 13 (.vsl 1 (.t 9) none (some (.t 12))) 8 true,oG 14 (.move (.t 1)) 8 true,oG 15 (.len (.t 14)) 8 true,oG 16 (.iaddr 1 (.t 13) (.t 15)) 8 true,
 oG 17 (.load none (.t 16)) 8 true,oG 18 (.callp (.k (rF 156)) [(.t 17),(.k (rI .i64 777777))]) 8 true,oQ 19 8 18,oM 4 19]) .ret))
def ir2055:List IRes:=[.tmp 4]
theorem ie2055:cmpFunc Tryz.prog ⟨[],[]⟩ Tryz.f55 [0,1,4] = some ic2055:=by kernel_rfl
theorem ig2055:cmpRes Tryz.prog Tryz.f55.results.toList = some ir2055:=by kernel_rfl
def ic2143l0:IC:=(.seq (.seq (rG kGxId1_1 [oM 9 4,oM 10 0,oN 11 10,oB 12 .lss (.t 9) (.t 11)]) (.cond (.t 12) .skip (.exit 0)))
 (.seq (.block 1 (rG kGxId1_1 [oM 15 3,oM 16 4,oM 17 0,oM 18 4,oA 19 4 17 18,oR 20 4 19,oC 21 223 [(.t 20)],oA 22 4 15 16,oS 4 22 21]))
 (rG kGxId1_1 [oM 13 4,oB 14 .add (.t 13) (.k (rI .i64 1)),oM 4 14])))
def ic2143:IC:=(.seq (rG kGxId1_1 [oX 2 (.move (.k (.x (.one .nil))))]) (.seq (rH [8] kGxId1_1 [oM 5 0,oN 6 5,oB 7 .add (.t 6)
 (.k (rI .i64 1)),oX 8 (.make 90 4 48 [(.c (.v (.int .i8 0))),(.c (.v (.int .i64 0))),(.c (.v (.int .u32 0))),.nil] (.t 7) (.t 7)),oM 3 8])
 (.seq (.seq (rG kGxId1_1 [oX 4 (.move (.k (rI .i64 0)))]) (.block 0 (.loop ic2143l0))) (.seq (rG kGxId1_1 [oM 23 3,oM 24 0,
 oN 25 24,oC 26 224 [(.k (rI .i64 777777))],oA 27 4 23 25,oS 4 27 26]) (.seq (rG kGxId1_1 [oM 28 3,oM 29 0,oN 30 29,
 oX 31 (.vsl 4 (.t 28) none (some (.t 30))),oM 2 31]) .ret)))))
def ir2143:List IRes:=[.tmp 2]
theorem ie2143:cmpFunc Tryz.prog ⟨[],[]⟩ Tryz.f143 [0,4,12,3,2] = some ic2143:=by kernel_rfl
theorem ig2143:cmpRes Tryz.prog Tryz.f143.results.toList = some ir2143:=by kernel_rfl
def ic2144:IC:=(.seq (rG kGxId1_4 [oX 2 (.move (.k (rS (bs []))))]) (.seq (rG kGxId1_4 [oM 3 0,oC 4 171 [(.t 3)],oM 2 4]) .ret))
def ir2144:List IRes:=[.tmp 2]
theorem ie2144:cmpFunc Tryz.prog ⟨[],[]⟩ Tryz.f144 [0,2] = some ic2144:=by kernel_rfl
theorem ig2144:cmpRes Tryz.prog Tryz.f144.results.toList = some ir2144:=by kernel_rfl
def ic2154l0:IC:=(.seq (.seq (rG kGxId1_5 [oM 11 5,oM 12 1,oN 13 12,oB 14 .lss (.t 11) (.t 13)]) (.cond (.t 14) .skip (.exit 0)))
 (.seq (.block 1 (.seq (rG kGxId1_5 [oM 17 0,oM 18 5,oA 19 4 17 18,oR 20 4 19,oM 21 1,oM 22 5,oA 23 4 21 22,oR 24 4 23,
 oC 25 239 [(.t 20),(.t 24)],oX 26 (.un .not (.t 25))]) (.cond (.t 26) (.seq (rG kGxId1_5 [oX 4 (.move (.k (rB false)))]) .ret) .skip)))
 (rG kGxId1_5 [oM 15 5,oB 16 .add (.t 15) (.k (rI .i64 1)),oM 5 16])))
def ic2154:IC:=(.seq (rG kGxId1_5 [oX 4 (.move (.k (rB false)))]) (.seq (.seq (rG kGxId1_5 [oM 6 0,oN 7 6,oM 8 1,
 oN 9 8,oB 10 .neq (.t 7) (.t 9)]) (.cond (.t 10) (.seq (rG kGxId1_5 [oX 4 (.move (.k (rB false)))]) .ret) .skip))
 (.seq (.seq (rG kGxId1_5 [oX 5 (.move (.k (rI .i64 0)))]) (.block 0 (.loop ic2154l0))) (.seq (rG kGxId1_5 [oM 27 0,
 oM 28 1,oN 29 28,oB 30 .add (.t 29) (.k (rI .i64 1)),oX 31 (.vsl 4 (.t 27) none (some (.t 30))),oM 32 1,oN 33 32,oA 34 4 31 33,oR 35 4 34,
 oC 36 240 [(.t 35),(.k (rI .i64 777777))],oM 4 36]) .ret))))
def ir2154:List IRes:=[.tmp 4]
theorem ie2154:cmpFunc Tryz.prog ⟨[],[]⟩ Tryz.f154 [0,1,10,5,14,26,4] = some ic2154:=by kernel_rfl
theorem ig2154:cmpRes Tryz.prog Tryz.f154.results.toList = some ir2154:=by kernel_rfl
def ic2156:IC:=(.seq (rG kGxId1_3 [oX 4 (.move (.k (rB false)))]) (.seq (rG kGxId1_3 [oM 5 0,oM 6 1,oC 7 171 [(.t 6)],oB 8 .eql (.t 5)
 (.t 7),oM 4 8]) .ret))
def ir2156:List IRes:=[.tmp 4]
theorem ie2156:cmpFunc Tryz.prog ⟨[],[]⟩ Tryz.f156 [0,1,4] = some ic2156:=by kernel_rfl
theorem ig2156:cmpRes Tryz.prog Tryz.f156.results.toList = some ir2156:=by kernel_rfl
def ic2223:IC:=(.seq (rH [1,2] kGxId1_0 [oX 1 (.box 90 (.t 0)),
 oX 2 (.zero 90 [(.c (.v (.int .i8 0))),(.c (.v (.int .i64 0))),(.c (.v (.int .u32 0))),.nil])]) (.seq (rG kGxId1_0 [oF 3 3 1,oL 4 3,
 oC 5 51 [(.t 4)],oF 6 3 1,oS 1 6 5]) (.seq (rG kGxId1_0 [oR 7 4 1,oS 4 2 7]) .ret)))
def ir2223:List IRes:=[.cell 2 (some 4)]
theorem ie2223:cmpFunc Tryz.prog ⟨[],[]⟩ Tryz.f223 [0,1,2] = some ic2223:=by kernel_rfl
theorem ig2223:cmpRes Tryz.prog Tryz.f223.results.toList = some ir2223:=by kernel_rfl
def ic2224:IC:=(.seq (rH [2] kGxId1_4 [oX 2 (.zero 90 [(.c (.v (.int .i8 0))),(.c (.v (.int .i64 0))),(.c (.v (.int .u32 0))),.nil])])
 (.seq (rG kGxId1_4 [oM 3 0,oX 4 (.un .neg (.t 3)),
 oX 5 (.build [(.c (.v (.int .i8 0))),(.c (.v (.int .i64 0))),(.c (.v (.int .u32 0))),.nil] [(1,1,(.t 4))]),oS 4 2 5]) .ret))
def ir2224:List IRes:=[.cell 2 (some 4)]
theorem ie2224:cmpFunc Tryz.prog ⟨[],[]⟩ Tryz.f224 [0,2] = some ic2224:=by kernel_rfl
theorem ig2224:cmpRes Tryz.prog Tryz.f224.results.toList = some ir2224:=by kernel_rfl
def ic2239:IC:=(.seq (rH [2,3] kGxId1_2 [oX 2 (.box 90 (.t 0)),oX 3 (.box 90 (.t 1)),oX 4 (.move (.k (rB false)))])
 (.seq (rG kGxId1_2 [oF 5 0 2,oL 6 5,oF 7 0 3,oL 8 7,oB 9 .eql (.t 6) (.t 8),oM 10 9,oG 11 (.faddr 1 (.t 2)) 10 true,
 oG 12 (.load none (.t 11)) 10 true,oG 13 (.faddr 1 (.t 3)) 10 true,oG 14 (.load none (.t 13)) 10 true,oG 15 (.bin .eql (.t 12) (.t 14)) 10 true,oQ 16 10 15,
 oM 17 16,oG 18 (.faddr 2 (.t 2)) 17 true,oG 19 (.load none (.t 18)) 17 true,oG 20 (.faddr 2 (.t 3)) 17 true,oG 21 (.load none (.t 20)) 17 true,
 oG 22 (.bin .eql (.t 19) (.t 21)) 17 true,oQ 23 17 22,oM 24 23,oG 25 (.faddr 3 (.t 2)) 24 true,oG 26 (.load none (.t 25)) 24 true,
 oG 27 (.faddr 3 (.t 3)) 24 true,oG 28 (.load none (.t 27)) 24 true,oG 29 (.callp (.k (rF 55)) [(.t 26),(.t 28)]) 24 true,oQ 30 24 29,oM 4 30]) .ret))
def ir2239:List IRes:=[.tmp 4]
theorem ie2239:cmpFunc Tryz.prog ⟨[],[]⟩ Tryz.f239 [0,1,2,3,4] = some ic2239:=by kernel_rfl
theorem ig2239:cmpRes Tryz.prog Tryz.f239.results.toList = some ir2239:=by kernel_rfl
def ic2240:IC:=(.seq (rH [2] kGxId1_6 [oX 2 (.box 90 (.t 0)),oX 4 (.move (.k (rB false)))]) (.seq (rG kGxId1_6 [oF 5 0 2,oL 6 5,
 oB 7 .eql (.t 6) (.k (rI .i8 0)),oM 8 7,oG 9 (.faddr 1 (.t 2)) 8 true,oG 10 (.load none (.t 9)) 8 true,oG 11 (.move (.t 1)) 8 true,
 oG 12 (.un .neg (.t 11)) 8 true,oG 13 (.bin .eql (.t 10) (.t 12)) 8 true,oQ 14 8 13,oM 15 14,oG 16 (.faddr 3 (.t 2)) 15 true,
 oG 17 (.load none (.t 16)) 15 true,oG 18 (.len (.t 17)) 15 true,oG 19 (.bin .eql (.t 18) (.k (rI .i64 0))) 15 true,oQ 20 15 19,oM 4 20]) .ret))
def ir2240:List IRes:=[.tmp 4]
theorem ie2240:cmpFunc Tryz.prog ⟨[],[]⟩ Tryz.f240 [0,2,1,4] = some ic2240:=by kernel_rfl
theorem ig2240:cmpRes Tryz.prog Tryz.f240.results.toList = some ir2240:=by kernel_rfl
end Go.Proofs.YtiomojlcnemnhaaGreatDoor

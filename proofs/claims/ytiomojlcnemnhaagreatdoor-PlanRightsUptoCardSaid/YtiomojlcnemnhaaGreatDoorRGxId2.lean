import Derived.Test.YtiomojlcnemnhaaGreatDoorRFxZ
import Derived.Test.YtiomojlcnemnhaaGreatDoorProg
import Derived.KernelRfl
namespace Go.Proofs.YtiomojlcnemnhaaGreatDoor
open Go.Fx
@[simp] abbrev kGxId2_0:List Nat:=[0,2,1,25,7,38,8,6,62,5,10,9,95,4]
@[simp] abbrev kGxId2_1:List Nat:=[0,2,7,1,10,18,4]
@[simp] abbrev kGxId2_2:List Nat:=[0,3,1,8,23,2,9,30,31,10,6,38,43,11,60,69,82,91,7]
@[simp] abbrev kGxId2_3:List Nat:=[0,1,10,5,14,25,4]
@[simp] abbrev kGxId2_4:List Nat:=[3,0,7,25,2]
@[simp] abbrev kGxId2_5:List Nat:=[5,0,9,1,18,4]
@[simp] abbrev kGxId2_6:List Nat:=[1,6,0,16,24,5,7,32,8,36,9,46,4]
@[simp] abbrev kGxId2_7:List Nat:=[0,7,2,12,1,31,5,6,4]
@[simp] abbrev kGxId2_8:List Nat:=[0,2,14,5,1,35,6,51,4]
@[simp] abbrev kGxId2_9:List Nat:=[5,0,9,1,17,4]
@[simp] abbrev kGxId2_10:List Nat:=[4,0,7,3,2]
@[simp] abbrev kGxId2_11:List Nat:=[0,2]
@[simp] abbrev kGxId2_12:List Nat:=[0,1,5,2]
@[simp] abbrev kGxId2_13:List Nat:=[1,5,0,16,4]
def ic2053l0:IC:=(.seq (.seq (rG kGxId2_0 [oM 34 7,oF 35 3 2,oL 36 35,oN 37 36,oB 38 .lss (.t 34) (.t 37)])
 (.cond (.t 38) .skip (.exit 0))) (.seq (.block 1 (.seq (rH [8] kGxId2_0 [oF 41 3 2,oL 42 41,oM 43 7,oA 44 4 42 43,
 oR 45 4 44,oX 8 (.zero 90 [(.c (.v (.int .i8 0))),(.c (.v (.int .i64 0))),(.c (.v (.int .u32 0))),.nil]),oS 4 8 45])
 (.seq (.seq (rG kGxId2_0 [oF 46 1 8,oL 47 46,oB 48 .lss (.t 47) (.k (rI .i64 0)),oM 49 48,
 oG 50 (.faddr 1 (.t 8)) 49 false,oG 51 (.load none (.t 50)) 49 false,oG 52 (.move (.t 6)) 49 false,oG 53 (.len (.t 52)) 49 false,oG 54 (.bin .geq (.t 51)
 (.t 53)) 49 false,oP 55 49 54,oM 56 55,oG 57 (.move (.t 6)) 56 false,oG 58 (.faddr 1 (.t 8)) 56 false,oG 59 (.load none (.t 58)) 56 false,
 oG 60 (.iaddr 1 (.t 57) (.t 59)) 56 false,oG 61 (.load none (.t 60)) 56 false,oP 62 56 61]) (.cond (.t 62)
 (.seq (rG kGxId2_0 [oX 4 (.move (.k (rB false)))]) .ret) .skip))
 (.seq (rH [9] kGxId2_0 [oF 64 0 2,oR 65 3 64,oF 66 1 8,oL 67 66,oM 68 5,oC 69 152 [(.t 65),(.t 67),(.t 68)],oM 63 69,
 oX 70 (.ext (.t 63) 0),oX 71 (.ext (.t 63) 1),oX 9 (.zero 90 [(.c (.v (.int .i8 0))),(.c (.v (.int .i64 0))),(.c (.v (.int .u32 0))),.nil]),oS 4 9 70,
 oM 10 71]) (.seq (.seq (rG kGxId2_0 [oM 72 10,oX 73 (.un .not (.t 72)),oM 74 73,oG 75 (.faddr 0 (.t 9)) 74 false,
 oG 76 (.load none (.t 75)) 74 false,oG 77 (.faddr 0 (.t 8)) 74 false,oG 78 (.load none (.t 77)) 74 false,oG 79 (.bin .neq (.t 76) (.t 78)) 74 false,
 oP 80 74 79,oM 81 80,oG 82 (.faddr 2 (.t 9)) 81 false,oG 83 (.load none (.t 82)) 81 false,oG 84 (.faddr 2 (.t 8)) 81 false,
 oG 85 (.load none (.t 84)) 81 false,oG 86 (.bin .neq (.t 83) (.t 85)) 81 false,oP 87 81 86,oM 88 87,oG 89 (.faddr 3 (.t 9)) 88 false,
 oG 90 (.load none (.t 89)) 88 false,oG 91 (.faddr 3 (.t 8)) 88 false,oG 92 (.load none (.t 91)) 88 false,
 oG 93 (.callp (.k (rF 153)) [(.t 90),(.t 92)]) 88 false,oG 94 (.un .not (.t 93)) 88 false,oP 95 88 94]) (.cond (.t 95)
 (.seq (rG kGxId2_0 [oX 4 (.move (.k (rB false)))]) .ret) .skip))
 (.seq (rG kGxId2_0 [oM 96 6,oF 97 1 8,oL 98 97,oA 99 1 96 98,⟨none,(.store (some 1) (.t 99) (.k (rB true))),none,none⟩])
 (rG kGxId2_0 [oM 100 5,oF 101 3 9,oL 102 101,oX 103 (.app 9 1 16 (.t 100) (.t 102)),oM 5 103])))))))
 (rG kGxId2_0 [oM 39 7,oB 40 .add (.t 39) (.k (rI .i64 1)),oM 7 40])))
def ic2053:IC:=(.seq (rH [2] kGxId2_0 [oX 2 (.box 80 (.t 0)),oX 4 (.move (.k (rB false)))])
 (.seq (.seq (rG kGxId2_0 [oF 11 0 2,oR 12 3 11,oM 13 1,oC 14 151 [(.t 12),(.t 13)],oB 15 .neq (.t 14) (.k (rI .i64 0)),
 oM 16 15,oG 17 (.faddr 3 (.t 2)) 16 false,oG 18 (.load none (.t 17)) 16 false,oG 19 (.len (.t 18)) 16 false,oG 20 (.faddr 0 (.t 2)) 16 false,
 oG 21 (.faddr 2 (.t 20)) 16 false,oG 22 (.load none (.t 21)) 16 false,oG 23 (.len (.t 22)) 16 false,oG 24 (.bin .neq (.t 19) (.t 23)) 16 false,oP 25 16 24])
 (.cond (.t 25) (.seq (rG kGxId2_0 [oX 4 (.move (.k (rB false)))]) .ret) .skip))
 (.seq (rH [26] kGxId2_0 [oX 26 (.row 9 1 []),oM 27 1,oX 28 (.app 9 1 16 (.t 26) (.t 27)),oM 5 28])
 (.seq (rH [33] kGxId2_0 [oF 29 0 2,oF 30 2 29,oL 31 30,oN 32 31,oX 33 (.make 4 1 1 [(.c (.v (.bool false)))] (.t 32)
 (.t 32)),oM 6 33]) (.seq (.seq (rG kGxId2_0 [oX 7 (.move (.k (rI .i64 0)))]) (.block 0 (.loop ic2053l0)))
 (.seq (rG kGxId2_0 [oX 4 (.move (.k (rB true)))]) .ret))))))
def ir2053:List IRes:=[.tmp 4]
theorem ie2053:cmpFunc Tryz.prog ⟨[],[]⟩ Tryz.f53 [0,2,1,25,7,38,8,6,62,5,10,9,95,4] = some ic2053:=by kernel_rfl
theorem ig2053:cmpRes Tryz.prog Tryz.f53.results.toList = some ir2053:=by kernel_rfl
def ic2151:IC:=(.seq (rH [2] kGxId2_1 [oX 2 (.box 29 (.t 0)),oX 4 (.move (.k (rI .i64 0)))])
 (.seq (.seq (rG kGxId2_1 [oR 5 3 2,oC 6 46 [(.t 5)],oB 7 .neq (.t 6) (.k (rI .i64 0))]) (.cond (.t 7)
 (.seq (rG kGxId2_1 [oX 4 (.move (.k (rI .i64 40)))]) .ret) .skip)) (.seq (.seq (rG kGxId2_1 [oM 8 1,oC 9 232 [(.t 8)],
 oX 10 (.un .not (.t 9))]) (.cond (.t 10) (.seq (rG kGxId2_1 [oX 4 (.move (.k (rI .i64 1)))]) .ret) .skip))
 (.seq (.seq (rG kGxId2_1 [oR 11 3 2,oC 12 48 [(.t 11)],oF 13 2 2,oL 14 13,oM 15 1,oC 16 234 [(.t 14),(.t 15)],
 oC 17 233 [(.t 12),(.t 16)],oX 18 (.un .not (.t 17))]) (.cond (.t 18) (.seq (rG kGxId2_1 [oX 4 (.move (.k (rI .i64 73)))]) .ret) .skip))
 (.seq (rG kGxId2_1 [oX 4 (.move (.k (rI .i64 0)))]) .ret)))))
def ir2151:List IRes:=[.tmp 4]
theorem ie2151:cmpFunc Tryz.prog ⟨[],[]⟩ Tryz.f151 [0,2,7,1,10,18,4] = some ic2151:=by kernel_rfl
theorem ig2151:cmpRes Tryz.prog Tryz.f151.results.toList = some ir2151:=by kernel_rfl
def ic2152l0:IC:=(.seq (.seq (rG kGxId2_2 [oM 57 11,oM 58 10,oN 59 58,oB 60 .lss (.t 57) (.t 59)])
 (.cond (.t 60) .skip (.exit 1))) (.seq (.block 2 (.seq (rG kGxId2_2 [oM 63 2,oM 64 10,oM 65 11,
 oA 66 1 64 65,oL 67 66,oC 68 237 [(.t 63),(.t 67)],oX 69 (.un .not (.t 68))]) (.cond (.t 69)
 (rH [76] kGxId2_2 [oF 70 3 9,oL 71 70,oM 72 10,oM 73 11,oA 74 1 72 73,oL 75 74,
 oX 76 (.row 9 1 [(.t 75)]),oX 77 (.app 9 1 16 (.t 71) (.t 76)),oF 78 3 9,oS 1 78 77]) .skip)))
 (rG kGxId2_2 [oM 61 11,oB 62 .add (.t 61) (.k (rI .i64 1)),oM 11 62])))
def ic2152:IC:=(.seq (rH [3,6] kGxId2_2 [oX 3 (.box 29 (.t 0)),
 oX 6 (.zero 90 [(.c (.v (.int .i8 0))),(.c (.v (.int .i64 0))),(.c (.v (.int .u32 0))),.nil]),oX 7 (.move (.k (rB false)))])
 (.seq (rH [8] kGxId2_2 [oF 12 2 3,oL 13 12,oM 14 1,oA 15 16 13 14,oR 16 16 15,
 oX 8 (.zero 107 [(.c (.v (.int .i8 0))),(.c (.v (.string (bs [])))),.nil,(.c (.v (.int .i8 0))),(.c (.v (.int .i8 0))),(.c (.v (.string (bs [])))),(.c (.v (.int .i8 0))),(.c (.v (.int .i64 0))),(.c (.v (.string (bs [])))),.nil,(.c (.v (.int .i8 0))),(.c (.v (.string (bs [])))),(.c (.v (.int .i8 0))),(.c (.v (.int .i64 0))),(.c (.v (.string (bs [])))),.nil]),
 oS 16 8 16]) (.seq (rH [9] kGxId2_2 [oM 17 1,
 oX 18 (.build [(.c (.v (.int .i8 0))),(.c (.v (.int .i64 0))),(.c (.v (.int .u32 0))),.nil] [(1,1,(.t 17))]),
 oX 9 (.zero 90 [(.c (.v (.int .i8 0))),(.c (.v (.int .i64 0))),(.c (.v (.int .u32 0))),.nil]),oS 4 9 18])
 (.seq (rG kGxId2_2 [oR 19 16 8,oC 20 69 [(.t 19)],oM 10 20])
 (.seq (.seq (rG kGxId2_2 [oF 21 0 8,oL 22 21,oB 23 .neq (.t 22) (.k (rI .i8 3))]) (.cond (.t 23)
 (rG kGxId2_2 [oF 24 1 8,oR 25 2 24,oM 26 2,oC 27 235 [(.t 25),(.t 26)],oF 28 2 9,oS 1 28 27]) .skip))
 (.seq (.seq (rG kGxId2_2 [oF 29 0 8,oL 30 29])
 (.block 0 (.seq (rG kGxId2_2 [oB 32 .eql (.t 30) (.k (rI .i8 2)),oM 31 32]) (.cond (.t 31)
 (.seq (rG kGxId2_2 [oF 33 0 9,⟨none,(.store (some 1) (.t 33) (.k (rI .i8 4))),none,none⟩])
 (.seq (rG kGxId2_2 [oR 34 4 9,oM 35 10,oM 36 2,oC 37 233 [(.t 35),(.t 36)],⟨none,(.store (some 4) (.t 6)
 (.t 34)),none,(some [6])⟩,oM 7 37]) .ret)) (.seq (rG kGxId2_2 [oB 39 .eql (.t 30) (.k (rI .i8 3)),
 oM 38 39]) (.cond (.t 38) (.seq (rG kGxId2_2 [oF 40 0 9,⟨none,(.store (some 1) (.t 40)
 (.k (rI .i8 5))),none,none⟩]) (.seq (.seq (rG kGxId2_2 [oM 41 10,oM 42 2,oC 43 233 [(.t 41),(.t 42)]])
 (.cond (.t 43) (.seq (rG kGxId2_2 [oR 44 4 9,⟨none,(.store (some 4) (.t 6) (.t 44)),none,(some [6])⟩,
 oX 7 (.move (.k (rB true)))]) .ret) .skip)) (.seq (rG kGxId2_2 [oF 45 0 9,⟨none,(.store (some 1) (.t 45)
 (.k (rI .i8 6))),none,none⟩]) (.seq (rH [49] kGxId2_2 [oR 46 16 8,oM 47 2,oC 48 236 [(.t 46),(.t 47)],
 oX 49 (.row 9 1 [(.t 48)]),oF 50 3 9,oS 1 50 49]) (.seq (rG kGxId2_2 [⟨(some 51),(.load (some 4)
 (.t 9)),none,(some [9])⟩,oF 52 3 9,⟨(some 53),(.load none (.t 52)),none,(some [9])⟩,⟨(some 54),(.iaddr 1 (.t 53)
 (.k (rI .i64 0))),none,(some [49])⟩,⟨(some 55),(.load none (.t 54)),none,(some [49])⟩,oB 56 .neq (.t 55) (.k (rS (bs []))),⟨none,(.store (some 4) (.t 6)
 (.t 51)),none,(some [6])⟩,oM 7 56]) .ret))))) .skip))))))
 (.seq (.seq (rG kGxId2_2 [oX 11 (.move (.k (rI .i64 0)))]) (.block 1 (.loop ic2152l0)))
 (.seq (rG kGxId2_2 [oF 79 0 9,⟨none,(.store (some 1) (.t 79) (.k (rI .i8 2))),none,none⟩])
 (.seq (.seq (rG kGxId2_2 [oF 80 2 9,oL 81 80,oB 82 .eql (.t 81) (.k (rI .u32 0))]) (.cond (.t 82)
 (rG kGxId2_2 [oF 83 0 9,⟨none,(.store (some 1) (.t 83) (.k (rI .i8 1))),none,none⟩]) .skip))
 (.seq (.seq (rG kGxId2_2 [oF 84 2 9,oL 85 84,oF 86 1 8,oF 87 1 86,oL 88 87,oN 89 88,
 oC 90 238 [(.t 89)],oB 91 .eql (.t 85) (.t 90)]) (.cond (.t 91)
 (rG kGxId2_2 [oF 92 0 9,⟨none,(.store (some 1) (.t 92) (.k (rI .i8 3))),none,none⟩]) .skip))
 (.seq (rG kGxId2_2 [oR 93 4 9,⟨none,(.store (some 4) (.t 6) (.t 93)),none,(some [6])⟩,
 oX 7 (.move (.k (rB true)))]) .ret)))))))))))
def ir2152:List IRes:=[.cell 6 (some 4),.tmp 7]
theorem ie2152:cmpFunc Tryz.prog ⟨[(51,(some [9])),(53,(some [9])),(54,(some [49])),(55,(some [49])),(100006,(some [6]))],[]⟩ Tryz.f152 [0,3,1,8,23,2,9,30,31,10,6,38,43,11,60,69,82,91,7] = some ic2152:=by kernel_rfl
theorem ig2152:cmpRes Tryz.prog Tryz.f152.results.toList = some ir2152:=by kernel_rfl
def ic2153l0:IC:=(.seq (.seq (rG kGxId2_3 [oM 11 5,oM 12 0,oN 13 12,oB 14 .lss (.t 11) (.t 13)]) (.cond (.t 14) .skip (.exit 0)))
 (.seq (.block 1 (.seq (rG kGxId2_3 [oM 17 0,oM 18 5,oA 19 1 17 18,oL 20 19,oM 21 1,oM 22 5,oA 23 1 21 22,oL 24 23,
 oB 25 .neq (.t 20) (.t 24)]) (.cond (.t 25) (.seq (rG kGxId2_3 [oX 4 (.move (.k (rB false)))]) .ret) .skip)))
 (rG kGxId2_3 [oM 15 5,oB 16 .add (.t 15) (.k (rI .i64 1)),oM 5 16])))
def ic2153:IC:=(.seq (rG kGxId2_3 [oX 4 (.move (.k (rB false)))]) (.seq (.seq (rG kGxId2_3 [oM 6 0,oN 7 6,oM 8 1,
 oN 9 8,oB 10 .neq (.t 7) (.t 9)]) (.cond (.t 10) (.seq (rG kGxId2_3 [oX 4 (.move (.k (rB false)))]) .ret) .skip))
 (.seq (.seq (rG kGxId2_3 [oX 5 (.move (.k (rI .i64 0)))]) (.block 0 (.loop ic2153l0)))
 (.seq (rG kGxId2_3 [oX 4 (.move (.k (rB true)))]) .ret))))
def ir2153:List IRes:=[.tmp 4]
theorem ie2153:cmpFunc Tryz.prog ⟨[],[]⟩ Tryz.f153 [0,1,10,5,14,25,4] = some ic2153:=by kernel_rfl
theorem ig2153:cmpRes Tryz.prog Tryz.f153.results.toList = some ir2153:=by kernel_rfl
def ic2232l0:IC:=(.seq (.seq (rG kGxId2_4 [oM 4 3,oM 5 0,oN 6 5,oB 7 .lss (.t 4) (.t 6)]) (.cond (.t 7) .skip (.exit 0)))
 (.seq (.block 1 (.seq (rG kGxId2_4 [oM 10 0,oM 11 3,oA 12 1 10 11,oL 13 12,oC 14 287 [(.t 13)],oX 15 (.un .not (.t 14)),oM 16 15,
 oG 17 (.move (.t 0)) 16 false,oG 18 (.move (.t 3)) 16 false,oG 19 (.vsl 1 (.t 17) none (some (.t 18))) 16 false,oG 20 (.move (.t 0)) 16 false,
 oG 21 (.move (.t 3)) 16 false,oG 22 (.iaddr 1 (.t 20) (.t 21)) 16 false,oG 23 (.load none (.t 22)) 16 false,
 oG 24 (.callp (.k (rF 237)) [(.t 19),(.t 23)]) 16 false,oP 25 16 24]) (.cond (.t 25)
 (.seq (rG kGxId2_4 [oX 2 (.move (.k (rB false)))]) .ret) .skip))) (rG kGxId2_4 [oM 8 3,oB 9 .add (.t 8) (.k (rI .i64 1)),
 oM 3 9])))
def ic2232:IC:=(.seq (rG kGxId2_4 [oX 2 (.move (.k (rB false)))]) (.seq (.seq (rG kGxId2_4 [oX 3 (.move (.k (rI .i64 0)))])
 (.block 0 (.loop ic2232l0))) (.seq (rG kGxId2_4 [oX 2 (.move (.k (rB true)))]) .ret)))
def ir2232:List IRes:=[.tmp 2]
theorem ie2232:cmpFunc Tryz.prog ⟨[],[]⟩ Tryz.f232 [3,0,7,25,2] = some ic2232:=by kernel_rfl
theorem ig2232:cmpRes Tryz.prog Tryz.f232.results.toList = some ir2232:=by kernel_rfl
def ic2233l0:IC:=(.seq (.seq (rG kGxId2_5 [oM 6 5,oM 7 0,oN 8 7,oB 9 .lss (.t 6) (.t 8)]) (.cond (.t 9) .skip (.exit 0)))
 (.seq (.block 1 (.seq (rG kGxId2_5 [oM 12 1,oM 13 0,oM 14 5,oA 15 1 13 14,oL 16 15,oC 17 237 [(.t 12),(.t 16)],oX 18 (.un .not (.t 17))])
 (.cond (.t 18) (.seq (rG kGxId2_5 [oX 4 (.move (.k (rB false)))]) .ret) .skip))) (rG kGxId2_5 [oM 10 5,oB 11 .add (.t 10)
 (.k (rI .i64 1)),oM 5 11])))
def ic2233:IC:=(.seq (rG kGxId2_5 [oX 4 (.move (.k (rB false)))]) (.seq (.seq (rG kGxId2_5 [oX 5 (.move (.k (rI .i64 0)))])
 (.block 0 (.loop ic2233l0))) (.seq (rG kGxId2_5 [oX 4 (.move (.k (rB true)))]) .ret)))
def ir2233:List IRes:=[.tmp 4]
theorem ie2233:cmpFunc Tryz.prog ⟨[],[]⟩ Tryz.f233 [5,0,9,1,18,4] = some ic2233:=by kernel_rfl
theorem ig2233:cmpRes Tryz.prog Tryz.f233.results.toList = some ir2233:=by kernel_rfl
def ic2234l0:IC:=(.seq (.seq (rG kGxId2_6 [oM 13 6,oM 14 0,oN 15 14,oB 16 .lss (.t 13) (.t 15)])
 (.cond (.t 16) .skip (.exit 0))) (.seq (.block 1 (.seq (rG kGxId2_6 [oM 19 0,oM 20 6,oA 21 16 19 20,oF 22 0 21,oL 23 22,
 oB 24 .eql (.t 23) (.k (rI .i8 1))]) (.cond (.t 24) (rG kGxId2_6 [oM 25 5,oM 26 0,oM 27 6,oA 28 16 26 27,oR 29 16 28,
 oC 30 69 [(.t 29)],oX 31 (.app 9 1 16 (.t 25) (.t 30)),oM 5 31]) .skip))) (rG kGxId2_6 [oM 17 6,oB 18 .add (.t 17)
 (.k (rI .i64 1)),oM 6 18])))
def ic2234l1:IC:=(.seq (.seq (rG kGxId2_6 [oM 33 8,oM 34 0,oN 35 34,oB 36 .lss (.t 33) (.t 35)])
 (.cond (.t 36) .skip (.exit 4))) (.seq (.block 5 (.seq (rG kGxId2_6 [oM 39 0,oM 40 8,oA 41 16 39 40,oR 42 16 41,oM 43 5,
 oC 44 236 [(.t 42),(.t 43)],oM 9 44]) (.seq (rG kGxId2_6 [oM 45 9,oB 46 .neq (.t 45) (.k (rS (bs [])))]) (.cond (.t 46)
 (.seq (rH [49] kGxId2_6 [oM 47 5,oM 48 9,oX 49 (.row 9 1 [(.t 48)]),oX 50 (.app 9 1 16 (.t 47) (.t 49)),oM 5 50])
 (rG kGxId2_6 [oX 7 (.move (.k (rB true)))])) .skip)))) (rG kGxId2_6 [oM 37 8,
 oB 38 .add (.t 37) (.k (rI .i64 1)),oM 8 38])))
def ic2234l2:IC:=(.seq (.seq (rG kGxId2_6 [oM 32 7]) (.cond (.t 32) .skip (.exit 2)))
 (.block 3 (.seq (rG kGxId2_6 [oX 7 (.move (.k (rB false)))])
 (.seq (rG kGxId2_6 [oX 8 (.move (.k (rI .i64 0)))]) (.block 4 (.loop ic2234l1))))))
def ic2234:IC:=(.seq (rG kGxId2_6 [oX 4 (.move (.k (.x (.one .nil))))])
 (.seq (rH [10] kGxId2_6 [oX 10 (.row 9 1 []),oM 11 1,oX 12 (.app 9 1 16 (.t 10) (.t 11)),oM 5 12])
 (.seq (.seq (rG kGxId2_6 [oX 6 (.move (.k (rI .i64 0)))]) (.block 0 (.loop ic2234l0)))
 (.seq (.seq (rG kGxId2_6 [oX 7 (.move (.k (rB true)))]) (.block 2 (.loop ic2234l2)))
 (.seq (rG kGxId2_6 [oM 51 5,oM 4 51]) .ret)))))
def ir2234:List IRes:=[.tmp 4]
theorem ie2234:cmpFunc Tryz.prog ⟨[],[]⟩ Tryz.f234 [1,6,0,16,24,5,7,32,8,36,9,46,4] = some ic2234:=by kernel_rfl
theorem ig2234:cmpRes Tryz.prog Tryz.f234.results.toList = some ir2234:=by kernel_rfl
def ic2235l0:IC:=(.seq (.seq (rG kGxId2_7 [oM 8 7,oF 9 1 2,oL 10 9,oN 11 10,oB 12 .lss (.t 8) (.t 11)])
 (.cond (.t 12) .skip (.exit 0))) (.seq (.block 1 (.seq (.seq (rG kGxId2_7 [oF 15 1 2,oL 16 15,oM 17 7,oA 18 4 16 17,oF 19 0 18,
 oL 20 19,oB 21 .eql (.t 20) (.k (rS (bs []))),oM 22 21,oG 23 (.move (.t 1)) 22 false,oG 24 (.faddr 1 (.t 2)) 22 false,oG 25 (.load none (.t 24)) 22 false,
 oG 26 (.move (.t 7)) 22 false,oG 27 (.iaddr 4 (.t 25) (.t 26)) 22 false,oG 28 (.faddr 0 (.t 27)) 22 false,oG 29 (.load none (.t 28)) 22 false,
 oG 30 (.callp (.k (rF 237)) [(.t 23),(.t 29)]) 22 false,oP 31 22 30]) (.cond (.t 31) (rG kGxId2_7 [oM 32 5,oM 33 6,oB 34 .add (.t 32)
 (.t 33),oM 5 34]) .skip)) (rG kGxId2_7 [oM 35 6,oB 36 .mul (.t 35) (.k (rI .u32 2)),oM 6 36])))
 (rG kGxId2_7 [oM 13 7,oB 14 .add (.t 13) (.k (rI .i64 1)),oM 7 14])))
def ic2235:IC:=(.seq (rH [2] kGxId2_7 [oX 2 (.box 25 (.t 0)),oX 4 (.move (.k (rI .u32 0)))])
 (.seq (rG kGxId2_7 [oX 5 (.move (.k (rI .u32 0)))]) (.seq (rG kGxId2_7 [oX 6 (.move (.k (rI .u32 1)))])
 (.seq (.seq (rG kGxId2_7 [oX 7 (.move (.k (rI .i64 0)))]) (.block 0 (.loop ic2235l0)))
 (.seq (rG kGxId2_7 [oM 37 5,oM 4 37]) .ret)))))
def ir2235:List IRes:=[.tmp 4]
theorem ie2235:cmpFunc Tryz.prog ⟨[],[]⟩ Tryz.f235 [0,7,2,12,1,31,5,6,4] = some ic2235:=by kernel_rfl
theorem ig2235:cmpRes Tryz.prog Tryz.f235.results.toList = some ir2235:=by kernel_rfl
def ic2236:IC:=(.seq (rH [2] kGxId2_8 [oX 2 (.box 107 (.t 0)),oX 4 (.move (.k (rS (bs []))))])
 (.seq (.seq (rG kGxId2_8 [oF 7 0 2,oL 8 7,oB 9 .neq (.t 8) (.k (rI .i8 3)),oM 10 9,oG 11 (.faddr 3 (.t 2)) 10 false,
 oG 12 (.load none (.t 11)) 10 false,oG 13 (.bin .neq (.t 12) (.k (rI .i8 1))) 10 false,oP 14 10 13]) (.cond (.t 14)
 (.seq (rG kGxId2_8 [oX 4 (.move (.k (rS (bs []))))]) .ret) .skip)) (.seq (rG kGxId2_8 [oF 15 4 2,oR 16 6 15,
 oC 17 288 [(.t 16)],oF 18 10 2,oR 19 6 18,oC 20 288 [(.t 19)],oM 5 17,oM 6 20]) (.seq (.seq (rG kGxId2_8 [oM 21 5,
 oB 22 .neq (.t 21) (.k (rS (bs []))),oM 23 22,oG 24 (.move (.t 1)) 23 true,oG 25 (.move (.t 5)) 23 true,
 oG 26 (.callp (.k (rF 237)) [(.t 24),(.t 25)]) 23 true,oG 27 (.un .not (.t 26)) 23 true,oQ 28 23 27,oM 29 28,oG 30 (.faddr 10 (.t 2)) 29 true,
 oG 31 (.load (some 6) (.t 30)) 29 true,oG 32 (.callp (.k (rF 166)) [(.t 31)]) 29 true,oG 33 (.move (.t 1)) 29 true,
 oG 34 (.callp (.k (rF 233)) [(.t 32),(.t 33)]) 29 true,oQ 35 29 34]) (.cond (.t 35) (.seq (rG kGxId2_8 [oM 36 5,
 oM 4 36]) .ret) .skip)) (.seq (.seq (rG kGxId2_8 [oM 37 6,oB 38 .neq (.t 37) (.k (rS (bs []))),oM 39 38,
 oG 40 (.move (.t 1)) 39 true,oG 41 (.move (.t 6)) 39 true,oG 42 (.callp (.k (rF 237)) [(.t 40),(.t 41)]) 39 true,oG 43 (.un .not (.t 42)) 39 true,
 oQ 44 39 43,oM 45 44,oG 46 (.faddr 4 (.t 2)) 45 true,oG 47 (.load (some 6) (.t 46)) 45 true,oG 48 (.callp (.k (rF 166)) [(.t 47)]) 45 true,
 oG 49 (.move (.t 1)) 45 true,oG 50 (.callp (.k (rF 233)) [(.t 48),(.t 49)]) 45 true,oQ 51 45 50]) (.cond (.t 51)
 (.seq (rG kGxId2_8 [oM 52 6,oM 4 52]) .ret) .skip))
 (.seq (rG kGxId2_8 [oX 4 (.move (.k (rS (bs []))))]) .ret))))))
def ir2236:List IRes:=[.tmp 4]
theorem ie2236:cmpFunc Tryz.prog ⟨[],[]⟩ Tryz.f236 [0,2,14,5,1,35,6,51,4] = some ic2236:=by kernel_rfl
theorem ig2236:cmpRes Tryz.prog Tryz.f236.results.toList = some ir2236:=by kernel_rfl
def ic2237l0:IC:=(.seq (.seq (rG kGxId2_9 [oM 6 5,oM 7 0,oN 8 7,oB 9 .lss (.t 6) (.t 8)]) (.cond (.t 9) .skip (.exit 0)))
 (.seq (.block 1 (.seq (rG kGxId2_9 [oM 12 0,oM 13 5,oA 14 1 12 13,oL 15 14,oM 16 1,oB 17 .eql (.t 15) (.t 16)]) (.cond (.t 17)
 (.seq (rG kGxId2_9 [oX 4 (.move (.k (rB true)))]) .ret) .skip))) (rG kGxId2_9 [oM 10 5,oB 11 .add (.t 10) (.k (rI .i64 1)),
 oM 5 11])))
def ic2237:IC:=(.seq (rG kGxId2_9 [oX 4 (.move (.k (rB false)))]) (.seq (.seq (rG kGxId2_9 [oX 5 (.move (.k (rI .i64 0)))])
 (.block 0 (.loop ic2237l0))) (.seq (rG kGxId2_9 [oX 4 (.move (.k (rB false)))]) .ret)))
def ir2237:List IRes:=[.tmp 4]
theorem ie2237:cmpFunc Tryz.prog ⟨[],[]⟩ Tryz.f237 [5,0,9,1,17,4] = some ic2237:=by kernel_rfl
theorem ig2237:cmpRes Tryz.prog Tryz.f237.results.toList = some ir2237:=by kernel_rfl
def ic2238l0:IC:=(.seq (.seq (rG kGxId2_10 [oM 5 4,oM 6 0,oB 7 .lss (.t 5) (.t 6)]) (.cond (.t 7) .skip (.exit 0)))
 (.seq (.block 1 (rG kGxId2_10 [oM 10 3,oB 11 .mul (.t 10) (.k (rI .u32 2)),oB 12 .add (.t 11) (.k (rI .u32 1)),oM 3 12]))
 (rG kGxId2_10 [oM 8 4,oB 9 .add (.t 8) (.k (rI .i64 1)),oM 4 9])))
def ic2238:IC:=(.seq (rG kGxId2_10 [oX 2 (.move (.k (rI .u32 0)))]) (.seq (rG kGxId2_10 [oX 3 (.move (.k (rI .u32 0)))])
 (.seq (.seq (rG kGxId2_10 [oX 4 (.move (.k (rI .i64 0)))]) (.block 0 (.loop ic2238l0))) (.seq (rG kGxId2_10 [oM 13 3,
 oM 2 13]) .ret))))
def ir2238:List IRes:=[.tmp 2]
theorem ie2238:cmpFunc Tryz.prog ⟨[],[]⟩ Tryz.f238 [4,0,7,3,2] = some ic2238:=by kernel_rfl
theorem ig2238:cmpRes Tryz.prog Tryz.f238.results.toList = some ir2238:=by kernel_rfl
def ic2287:IC:=(.seq (rG kGxId2_11 [oX 2 (.move (.k (rB false)))]) (.seq (rG kGxId2_11 [oM 3 0,oX 4 (.slen (.t 3)),oB 5 .gtr (.t 4)
 (.k (rI .i64 0)),oM 6 5,oG 7 (.move (.t 0)) 6 true,oG 8 (.slen (.t 7)) 6 true,oG 9 (.bin .leq (.t 8) (.k (rI .i64 120))) 6 true,oQ 10 6 9,oM 11 10,
 oG 12 (.move (.t 0)) 11 true,oG 13 (.sindex (.t 12) (.k (rI .i64 0))) 11 true,oG 14 (.callp (.k (rF 325)) [(.t 13)]) 11 true,oQ 15 11 14,oM 16 15,
 oG 17 (.move (.t 0)) 16 true,oG 18 (.callp (.k (rF 326)) [(.t 17),(.k (rI .i64 0))]) 16 true,oG 19 (.move (.t 0)) 16 true,oG 20 (.bin .eql (.t 18)
 (.t 19)) 16 true,oQ 21 16 20,oM 2 21]) .ret))
def ir2287:List IRes:=[.tmp 2]
theorem ie2287:cmpFunc Tryz.prog ⟨[],[]⟩ Tryz.f287 [0,2] = some ic2287:=by kernel_rfl
theorem ig2287:cmpRes Tryz.prog Tryz.f287.results.toList = some ir2287:=by kernel_rfl
def ic2288:IC:=(.seq (rH [1] kGxId2_12 [oX 1 (.box 105 (.t 0)),oX 2 (.move (.k (rS (bs []))))]) (.seq (.seq (rG kGxId2_12 [oF 3 0 1,
 oL 4 3,oB 5 .eql (.t 4) (.k (rI .i8 0))]) (.cond (.t 5) (.seq (rG kGxId2_12 [oF 6 1 1,oF 7 0 6,oL 8 7,oM 2 8]) .ret) .skip))
 (.seq (rG kGxId2_12 [oX 2 (.move (.k (rS (bs []))))]) .ret)))
def ir2288:List IRes:=[.tmp 2]
theorem ie2288:cmpFunc Tryz.prog ⟨[],[]⟩ Tryz.f288 [0,1,5,2] = some ic2288:=by kernel_rfl
theorem ig2288:cmpRes Tryz.prog Tryz.f288.results.toList = some ir2288:=by kernel_rfl
def ic2325:IC:=(.seq (rG kGxId2_11 [oX 2 (.move (.k (rB false)))]) (.seq (rG kGxId2_11 [oM 3 0,oB 4 .geq (.t 3) (.k (rI .u8 65)),oM 5 4,
 oG 6 (.move (.t 0)) 5 true,oG 7 (.bin .leq (.t 6) (.k (rI .u8 90))) 5 true,oQ 8 5 7,oM 2 8]) .ret))
def ir2325:List IRes:=[.tmp 2]
theorem ie2325:cmpFunc Tryz.prog ⟨[],[]⟩ Tryz.f325 [0,2] = some ic2325:=by kernel_rfl
theorem ig2325:cmpRes Tryz.prog Tryz.f325.results.toList = some ir2325:=by kernel_rfl
def ic2326l0:IC:=(.seq (.seq (rG kGxId2_13 [oM 7 5,oM 8 0,oX 9 (.slen (.t 8)),oB 10 .lss (.t 7) (.t 9),oM 11 10,
 oG 12 (.move (.t 0)) 11 true,oG 13 (.move (.t 5)) 11 true,oG 14 (.sindex (.t 12) (.t 13)) 11 true,oG 15 (.callp (.k (rF 348)) [(.t 14)]) 11 true,
 oQ 16 11 15]) (.cond (.t 16) .skip (.exit 0))) (.block 1 (rG kGxId2_13 [oM 17 5,oB 18 .add (.t 17) (.k (rI .i64 1)),oM 5 18])))
def ic2326:IC:=(.seq (rG kGxId2_13 [oX 4 (.move (.k (rS (bs []))))]) (.seq (rG kGxId2_13 [oM 6 1,oM 5 6])
 (.seq (.block 0 (.loop ic2326l0)) (.seq (rG kGxId2_13 [oM 19 0,oM 20 1,oM 21 5,oX 22 (.ssl (.t 19) (some (.t 20)) (some (.t 21))),
 oM 4 22]) .ret))))
def ir2326:List IRes:=[.tmp 4]
theorem ie2326:cmpFunc Tryz.prog ⟨[],[]⟩ Tryz.f326 [1,5,0,16,4] = some ic2326:=by kernel_rfl
theorem ig2326:cmpRes Tryz.prog Tryz.f326.results.toList = some ir2326:=by kernel_rfl
def ic2348:IC:=(.seq (rG kGxId2_11 [oX 2 (.move (.k (rB false)))]) (.seq (rG kGxId2_11 [oM 3 0,oC 4 352 [(.t 3)],oM 5 4,
 oG 6 (.move (.t 0)) 5 false,oG 7 (.callp (.k (rF 325)) [(.t 6)]) 5 false,oP 8 5 7,oM 9 8,oG 10 (.move (.t 0)) 9 false,
 oG 11 (.callp (.k (rF 353)) [(.t 10)]) 9 false,oP 12 9 11,oM 13 12,oG 14 (.move (.t 0)) 13 false,oG 15 (.bin .eql (.t 14) (.k (rI .u8 95))) 13 false,
 oP 16 13 15,oM 2 16]) .ret))
def ir2348:List IRes:=[.tmp 2]
theorem ie2348:cmpFunc Tryz.prog ⟨[],[]⟩ Tryz.f348 [0,2] = some ic2348:=by kernel_rfl
theorem ig2348:cmpRes Tryz.prog Tryz.f348.results.toList = some ir2348:=by kernel_rfl
def ic2352:IC:=(.seq (rG kGxId2_11 [oX 2 (.move (.k (rB false)))]) (.seq (rG kGxId2_11 [oM 3 0,oB 4 .geq (.t 3) (.k (rI .u8 97)),oM 5 4,
 oG 6 (.move (.t 0)) 5 true,oG 7 (.bin .leq (.t 6) (.k (rI .u8 122))) 5 true,oQ 8 5 7,oM 2 8]) .ret))
def ir2352:List IRes:=[.tmp 2]
theorem ie2352:cmpFunc Tryz.prog ⟨[],[]⟩ Tryz.f352 [0,2] = some ic2352:=by kernel_rfl
theorem ig2352:cmpRes Tryz.prog Tryz.f352.results.toList = some ir2352:=by kernel_rfl
def ic2353:IC:=(.seq (rG kGxId2_11 [oX 2 (.move (.k (rB false)))]) (.seq (rG kGxId2_11 [oM 3 0,oB 4 .geq (.t 3) (.k (rI .u8 48)),oM 5 4,
 oG 6 (.move (.t 0)) 5 true,oG 7 (.bin .leq (.t 6) (.k (rI .u8 57))) 5 true,oQ 8 5 7,oM 2 8]) .ret))
def ir2353:List IRes:=[.tmp 2]
theorem ie2353:cmpFunc Tryz.prog ⟨[],[]⟩ Tryz.f353 [0,2] = some ic2353:=by kernel_rfl
theorem ig2353:cmpRes Tryz.prog Tryz.f353.results.toList = some ir2353:=by kernel_rfl
end Go.Proofs.YtiomojlcnemnhaaGreatDoor

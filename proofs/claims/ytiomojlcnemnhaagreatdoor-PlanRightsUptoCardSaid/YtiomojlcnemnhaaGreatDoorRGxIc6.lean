import Derived.Test.YtiomojlcnemnhaaGreatDoorRFxZ
import Derived.Test.YtiomojlcnemnhaaGreatDoorProg
import Derived.KernelRfl
namespace Go.Proofs.YtiomojlcnemnhaaGreatDoor
open Go.Fx
@[simp] abbrev kGxIc6_0:List Nat:=[0,2,1,15,29,28,30,27,8,6,52,5,10,9,83,4]
@[simp] abbrev kGxIc6_1:List Nat:=[2,1,0]
@[simp] abbrev kGxIc6_2:List Nat:=[0,2,15,1,18,17,19,16,6,5,32,39,38,40,37,7,9,57,56,58,55,10,12,64,4]
@[simp] abbrev kGxIc6_3:List Nat:=[0,3,1,8,19,6,2,43,9,11,58,68,10,12,13,7]
@[simp] abbrev kGxIc6_4:List Nat:=[2,3,4,1,5,0]
@[simp] abbrev kGxIc6_5:List Nat:=[0,1,10,11,2,6,20,5,22,8,30,4]
@[simp] abbrev kGxIc6_6:List Nat:=[0,1,2]
@[simp] abbrev kGxIc6_7:List Nat:=[1,5,0,3,11]
@[simp] abbrev kGxIc6_8:List Nat:=[0,4,2]
def ic78l0:IC:=(.seq (rG kGxIc6_0 [oB 30 .lss (.t 29) (.t 28)]) (.seq (.cond (.t 30) .skip (.exit 0))
 (.seq (.block 1 (.seq (rH [8] kGxIc6_0 [oA 31 4 27 29,oR 32 4 31,
 oX 8 (.zero 90 [(.c (.v (.int .i8 0))),(.c (.v (.int .i64 0))),(.c (.v (.int .u32 0))),.nil]),oS 4 8 32])
 (.seq (.seq (rG kGxIc6_0 [oF 33 1 8,oL 34 33,oB 35 .lss (.t 34) (.k (rI .i64 0)),oM 36 35,
 oG 37 (.faddr 1 (.t 8)) 36 false,oG 38 (.load none (.t 37)) 36 false,oG 39 (.faddr 0 (.t 2)) 36 false,oG 40 (.faddr 2 (.t 39)) 36 false,
 oG 41 (.load none (.t 40)) 36 false,oG 42 (.len (.t 41)) 36 false,oG 43 (.bin .geq (.t 38) (.t 42)) 36 false,oP 44 36 43,oM 45 44,
 oG 46 (.move (.t 6)) 45 false,oG 47 (.faddr 1 (.t 8)) 45 false,oG 48 (.load none (.t 47)) 45 false,oG 49 (.bin .shl (.k (rI .u32 1)) (.t 48)) 45 false,
 oG 50 (.bin .and (.t 46) (.t 49)) 45 false,oG 51 (.bin .eql (.t 50) (.k (rI .u32 0))) 45 false,oP 52 45 51]) (.cond (.t 52)
 (.seq (rG kGxIc6_0 [oX 4 (.move (.k (rB false)))]) .ret) .skip))
 (.seq (rH [9] kGxIc6_0 [oM 54 5,oF 55 1 8,oL 56 55,oX 57 (.call (.k (rF 148)) [(.t 54),(.t 56)]),oM 53 57,
 oX 58 (.ext (.t 53) 0),oX 59 (.ext (.t 53) 1),oX 9 (.zero 90 [(.c (.v (.int .i8 0))),(.c (.v (.int .i64 0))),(.c (.v (.int .u32 0))),.nil]),oS 4 9 58,
 oM 10 59]) (.seq (.seq (rG kGxIc6_0 [oM 60 10,oX 61 (.un .not (.t 60)),oM 62 61,oG 63 (.faddr 0 (.t 8)) 62 false,
 oG 64 (.load none (.t 63)) 62 false,oG 65 (.faddr 0 (.t 9)) 62 false,oG 66 (.load none (.t 65)) 62 false,oG 67 (.bin .neq (.t 64) (.t 66)) 62 false,
 oP 68 62 67,oM 69 68,oG 70 (.faddr 2 (.t 8)) 69 false,oG 71 (.load none (.t 70)) 69 false,oG 72 (.faddr 2 (.t 9)) 69 false,
 oG 73 (.load none (.t 72)) 69 false,oG 74 (.bin .neq (.t 71) (.t 73)) 69 false,oP 75 69 74,oM 76 75,oG 77 (.faddr 3 (.t 8)) 76 false,
 oG 78 (.load none (.t 77)) 76 false,oG 79 (.faddr 3 (.t 9)) 76 false,oG 80 (.load none (.t 79)) 76 false,
 oG 81 (.callp (.k (rF 149)) [(.t 78),(.t 80)]) 76 false,oG 82 (.un .not (.t 81)) 76 false,oP 83 76 82]) (.cond (.t 83)
 (.seq (rG kGxIc6_0 [oX 4 (.move (.k (rB false)))]) .ret) .skip))
 (.seq (rG kGxIc6_0 [oM 84 5,oF 85 3 9,oL 86 85,oX 87 (.call (.k (rF 150)) [(.t 84),(.t 86)])])
 (rG kGxIc6_0 [oM 88 6,oF 89 1 8,oL 90 89,oB 91 .shl (.k (rI .u32 1)) (.t 90),oX 92 (.bin .andNot (.t 88)
 (.t 91)),oM 6 92]))))))) (rG kGxIc6_0 [oB 93 .add (.t 29) (.k (rI .i64 1)),oM 29 93]))))
def ic78:IC:=(.seq (rH [2] kGxIc6_0 [oX 2 (.box 80 (.t 0)),oX 4 (.move (.k (rB false)))])
 (.seq (.seq (rG kGxIc6_0 [oF 11 0 2,oR 12 3 11,oM 13 1,oC 14 145 [(.t 12),(.t 13)],oB 15 .neq (.t 14)
 (.k (rI .i64 0))]) (.cond (.t 15) (.seq (rG kGxIc6_0 [oX 4 (.move (.k (rB false)))]) .ret) .skip))
 (.seq (rG kGxIc6_0 [oF 16 0 2,oF 17 2 16,oL 18 17,oM 19 1,oX 20 (.call (.k (rF 146)) [(.t 18),(.t 19)]),
 oM 5 20]) (.seq (rG kGxIc6_0 [oF 21 0 2,oF 22 2 21,oL 23 22,oN 24 23,oC 25 147 [(.t 24)],oM 6 25])
 (.seq (.seq (rG kGxIc6_0 [oF 26 3 2,oL 27 26,oN 28 27,oX 29 (.move (.k (rI .i64 0)))]) (.block 0 (.loop ic78l0)))
 (.seq (rG kGxIc6_0 [oM 94 6,oB 95 .eql (.t 94) (.k (rI .u32 0)),oM 4 95]) .ret))))))
def ir78:List IRes:=[.tmp 4]
theorem ie78:cmpFunc Tryz.prog ⟨[(20,none),(57,none),(87,none)],[]⟩ Tryz.f52 [0,2,1,15,29,28,30,27,8,6,52,5,10,9,83,4] = some ic78:=by kernel_rfl
theorem ig78:cmpRes Tryz.prog Tryz.f52.results.toList = some ir78:=by kernel_rfl
def ic79:IC:=(.seq (rG kGxIc6_1 [oX 0 (.move (.k (rB false)))]) (.seq (rH [5,1] kGxIc6_1 [oC 4 158 [],
 oX 5 (.row 9 1 [(.k (rS (bs [88])))]),oC 6 157 [(.t 4),(.t 5),(.k (rI .i64 (-1)))],oM 3 6,oX 7 (.ext (.t 3) 0),oX 8 (.ext (.t 3) 1),
 oX 1 (.zero 80 [(.c (.v (.string (bs [])))),.nil,.nil,.nil]),oS 4 1 7,oM 2 8]) (.seq (rH [70] kGxIc6_1 [oM 9 2,oB 10 .eql (.t 9) (.k (rI .i64 0)),
 oM 11 10,oG 12 (.faddr 3 (.t 1)) 11 true,oG 13 (.load none (.t 12)) 11 true,oG 14 (.len (.t 13)) 11 true,oG 15 (.bin .eql (.t 14) (.k (rI .i64 2))) 11 true,
 oQ 16 11 15,oM 17 16,oG 18 (.faddr 3 (.t 1)) 17 true,oG 19 (.load none (.t 18)) 17 true,oG 20 (.iaddr 4 (.t 19) (.k (rI .i64 0))) 17 true,
 oG 21 (.faddr 0 (.t 20)) 17 true,oG 22 (.load none (.t 21)) 17 true,oG 23 (.bin .eql (.t 22) (.k (rI .i8 2))) 17 true,oQ 24 17 23,oM 25 24,
 oG 26 (.faddr 3 (.t 1)) 25 true,oG 27 (.load none (.t 26)) 25 true,oG 28 (.iaddr 4 (.t 27) (.k (rI .i64 0))) 25 true,oG 29 (.faddr 1 (.t 28)) 25 true,
 oG 30 (.load none (.t 29)) 25 true,oG 31 (.bin .eql (.t 30) (.k (rI .i64 1))) 25 true,oQ 32 25 31,oM 33 32,oG 34 (.faddr 3 (.t 1)) 33 true,
 oG 35 (.load none (.t 34)) 33 true,oG 36 (.iaddr 4 (.t 35) (.k (rI .i64 0))) 33 true,oG 37 (.faddr 2 (.t 36)) 33 true,oG 38 (.load none (.t 37)) 33 true,
 oG 39 (.bin .eql (.t 38) (.k (rI .u32 1))) 33 true,oQ 40 33 39,oM 41 40,oG 42 (.faddr 3 (.t 1)) 41 true,oG 43 (.load none (.t 42)) 41 true,
 oG 44 (.iaddr 4 (.t 43) (.k (rI .i64 0))) 41 true,oG 45 (.faddr 3 (.t 44)) 41 true,oG 46 (.load none (.t 45)) 41 true,oG 47 (.len (.t 46)) 41 true,
 oG 48 (.bin .eql (.t 47) (.k (rI .i64 1))) 41 true,oQ 49 41 48,oM 50 49,oG 51 (.faddr 3 (.t 1)) 50 true,oG 52 (.load none (.t 51)) 50 true,
 oG 53 (.iaddr 4 (.t 52) (.k (rI .i64 0))) 50 true,oG 54 (.faddr 3 (.t 53)) 50 true,oG 55 (.load none (.t 54)) 50 true,oG 56 (.iaddr 1 (.t 55)
 (.k (rI .i64 0))) 50 true,oG 57 (.load none (.t 56)) 50 true,oG 58 (.bin .eql (.t 57) (.k (rS (bs [77])))) 50 true,oQ 59 50 58,oM 60 59,
 oG 61 (.faddr 3 (.t 1)) 60 true,oG 62 (.load none (.t 61)) 60 true,oG 63 (.iaddr 4 (.t 62) (.k (rI .i64 1))) 60 true,oG 64 (.faddr 0 (.t 63)) 60 true,
 oG 65 (.load none (.t 64)) 60 true,oG 66 (.bin .eql (.t 65) (.k (rI .i8 6))) 60 true,oQ 67 60 66,oM 68 67,oG 69 (.load (some 4) (.t 1)) 68 true,
 oG 70 (.row 9 1 [(.k (rS (bs [88])))]) 68 true,oG 71 (.callp (.k (rF 52)) [(.t 69),(.t 70)]) 68 true,oQ 72 68 71,oM 73 72,oG 74 (.load (some 4)
 (.t 1)) 73 true,oG 75 (.callp (.k (rF 52)) [(.t 74),(.k (.x (.one .nil)))]) 73 true,oG 76 (.un .not (.t 75)) 73 true,oQ 77 73 76,oM 0 77]) .ret)))
def ir79:List IRes:=[.tmp 0]
theorem ie79:cmpFunc Tryz.prog ⟨[],[]⟩ Tryz.f56 [2,1,0] = some ic79:=by kernel_rfl
theorem ig79:cmpRes Tryz.prog Tryz.f56.results.toList = some ir79:=by kernel_rfl
def ic146l0:IC:=(.seq (rG kGxIc6_2 [oB 19 .lss (.t 18) (.t 17)])
 (.seq (.cond (.t 19) .skip (.exit 0)) (.seq (.block 1 (.seq (rG kGxIc6_2 [oM 20 18,
 oA 21 1 16 18,oL 22 21,oM 5 20,oM 6 22]) (.seq (rG kGxIc6_2 [oM 23 6,
 oC 24 225 [(.t 23)],oX 25 (.un .not (.t 24)),oM 26 25,oG 27 (.move (.t 1)) 26 false,oG 28 (.move (.t 5)) 26 false,
 oG 29 (.vsl 1 (.t 27) none (some (.t 28))) 26 false,oG 30 (.move (.t 6)) 26 false,oG 31 (.callp (.k (rF 226)) [(.t 29),(.t 30)]) 26 false,oP 32 26 31])
 (.cond (.t 32) (.seq (rG kGxIc6_2 [oX 4 (.move (.k (rI .i64 1)))]) .ret) .skip))))
 (rG kGxIc6_2 [oB 33 .add (.t 18) (.k (rI .i64 1)),oM 18 33]))))
def ic146l1:IC:=(.seq (rG kGxIc6_2 [oB 40 .lss (.t 39) (.t 38)])
 (.seq (.cond (.t 40) .skip (.exit 2)) (.seq (.block 3 (.seq (rG kGxIc6_2 [oA 41 1 37 39,
 oL 42 41,oM 9 42]) (rH [46,49] kGxIc6_2 [oM 43 7,oM 44 9,
 oX 45 (.build [(.c (.v (.string (bs [])))),(.c (.v (.int .i8 0))),(.c (.v (.int .i64 0))),(.c (.v (.string (bs []))))] [(0,1,(.t 44))]),
 oX 46 (.row 73 4 [(.t 45)]),oX 47 (.build [(.c (.v (.string (bs [])))),.nil] [(0,1,(.k (rS (bs [107])))),(1,1,(.t 46))]),
 oX 48 (.build [(.c (.v (.int .i8 0))),(.c (.v (.string (bs [])))),.nil,(.c (.v (.int .i8 0))),(.c (.v (.int .i8 0))),(.c (.v (.string (bs [])))),(.c (.v (.int .i8 0))),(.c (.v (.int .i64 0))),(.c (.v (.string (bs [])))),.nil,(.c (.v (.int .i8 0))),(.c (.v (.string (bs [])))),(.c (.v (.int .i8 0))),(.c (.v (.int .i64 0))),(.c (.v (.string (bs [])))),.nil] [(0,1,(.k (rI .i8 1))),(1,2,(.t 47))]),
 oX 49 (.row 107 16 [(.t 48)]),oX 50 (.app 107 16 216 (.t 43) (.t 49)),oM 7 50])))
 (rG kGxIc6_2 [oB 51 .add (.t 39) (.k (rI .i64 1)),oM 39 51]))))
def ic146l2:IC:=(.seq (rG kGxIc6_2 [oB 58 .lss (.t 57) (.t 56)])
 (.seq (.cond (.t 58) .skip (.exit 4)) (.seq (.block 5 (.seq (rG kGxIc6_2 [oA 59 1 55 57,
 oL 60 59,oM 12 60]) (.seq (rG kGxIc6_2 [oM 61 10,oM 62 12,oC 63 226 [(.t 61),(.t 62)],
 oX 64 (.un .not (.t 63))]) (.cond (.t 64)
 (.seq (rG kGxIc6_2 [oX 4 (.move (.k (rI .i64 73)))]) .ret) .skip))))
 (rG kGxIc6_2 [oB 65 .add (.t 57) (.k (rI .i64 1)),oM 57 65]))))
def ic146:IC:=(.seq (rH [2] kGxIc6_2 [oX 2 (.box 29 (.t 0)),
 oX 4 (.move (.k (rI .i64 0)))]) (.seq (.seq (rG kGxIc6_2 [oR 13 3 2,oC 14 93 [(.t 13)],
 oB 15 .neq (.t 14) (.k (rI .i64 0))]) (.cond (.t 15)
 (.seq (rG kGxIc6_2 [oX 4 (.move (.k (rI .i64 40)))]) .ret) .skip))
 (.seq (.seq (rG kGxIc6_2 [oM 16 1,oN 17 16,oX 18 (.move (.k (rI .i64 0)))])
 (.block 0 (.loop ic146l0))) (.seq (rG kGxIc6_2 [oF 34 2 2,oL 35 34,
 oX 36 (.call (.k (rF 227)) [(.t 35)]),oM 7 36]) (.seq (.seq (rG kGxIc6_2 [oM 37 1,
 oN 38 37,oX 39 (.move (.k (rI .i64 0)))]) (.block 2 (.loop ic146l1)))
 (.seq (rG kGxIc6_2 [oM 52 7,oC 53 63 [(.t 52)],oM 10 53])
 (.seq (.seq (rG kGxIc6_2 [oR 54 3 2,oC 55 96 [(.t 54)],oN 56 55,
 oX 57 (.move (.k (rI .i64 0)))]) (.block 4 (.loop ic146l2)))
 (.seq (rG kGxIc6_2 [oX 4 (.move (.k (rI .i64 0)))]) .ret))))))))
def ir146:List IRes:=[.tmp 4]
theorem ie146:cmpFunc Tryz.prog ⟨[(36,none)],[]⟩ Tryz.f145 [0,2,15,1,18,17,19,16,6,5,32,39,38,40,37,7,9,57,56,58,55,10,12,64,4] = some ic146:=by kernel_rfl
theorem ig146:cmpRes Tryz.prog Tryz.f145.results.toList = some ir146:=by kernel_rfl
def ic82l0:IC:=(.seq (.seq (rG kGxIc6_3 [oM 57 11,oB 58 .neq (.t 57) (.k (rI .u32 0))])
 (.cond (.t 58) .skip (.exit 0))) (.block 1 (.seq (rG kGxIc6_3 [oM 59 2,oM 12 59])
 (.seq (.seq (rG kGxIc6_3 [oM 60 2,oB 61 .lss (.t 60) (.k (rI .i64 0)),oM 62 61,oG 63 (.move (.t 11)) 62 false,
 oG 64 (.move (.t 2)) 62 false,oG 65 (.bin .shl (.k (rI .u32 1)) (.t 64)) 62 false,oG 66 (.bin .and (.t 63) (.t 65)) 62 false,oG 67 (.bin .eql (.t 66)
 (.k (rI .u32 0))) 62 false,oP 68 62 67]) (.cond (.t 68) (rG kGxIc6_3 [oM 69 10,oM 70 11,
 oX 71 (.call (.k (rF 242)) [(.t 69),(.t 70)]),oM 12 71]) .skip)) (.seq (rH [13] kGxIc6_3 [oM 73 10,oM 74 12,
 oX 75 (.call (.k (rF 148)) [(.t 73),(.t 74)]),oM 72 75,oX 76 (.ext (.t 72) 0),oX 77 (.ext (.t 72) 1),
 oX 13 (.zero 90 [(.c (.v (.int .i8 0))),(.c (.v (.int .i64 0))),(.c (.v (.int .u32 0))),.nil]),oS 4 13 76,oM 14 77])
 (.seq (rH [81] kGxIc6_3 [oF 78 3 9,oL 79 78,oR 80 4 13,oX 81 (.row 90 4 [(.t 80)]),oX 82 (.app 90 4 48 (.t 79)
 (.t 81)),oF 83 3 9,oS 1 83 82]) (.seq (rG kGxIc6_3 [oM 84 10,oF 85 3 13,oL 86 85,
 oX 87 (.call (.k (rF 150)) [(.t 84),(.t 86)])]) (rG kGxIc6_3 [oM 88 11,oM 89 12,oB 90 .shl (.k (rI .u32 1))
 (.t 89),oX 91 (.bin .andNot (.t 88) (.t 90)),oM 11 91]))))))))
def ic82:IC:=(.seq (rH [3,6] kGxIc6_3 [oX 3 (.box 29 (.t 0)),
 oX 6 (.zero 80 [(.c (.v (.string (bs [])))),.nil,.nil,.nil]),oX 7 (.move (.k (rI .i64 0)))])
 (.seq (.seq (rG kGxIc6_3 [oR 15 3 3,oM 16 1,oC 17 145 [(.t 15),(.t 16)],oM 8 17])
 (.seq (rG kGxIc6_3 [oM 18 8,oB 19 .neq (.t 18) (.k (rI .i64 0))]) (.cond (.t 19)
 (.seq (rG kGxIc6_3 [oX 20 (.build [(.c (.v (.string (bs [])))),.nil,.nil,.nil] []),oM 21 8,oS 4 6 20,
 oM 7 21]) .ret) .skip))) (.seq (.seq (rG kGxIc6_3 [oM 22 2,oB 23 .lss (.t 22) (.k (rI .i64 (-1))),oM 24 23,
 oG 25 (.move (.t 2)) 24 false,oG 26 (.faddr 2 (.t 3)) 24 false,oG 27 (.load none (.t 26)) 24 false,oG 28 (.len (.t 27)) 24 false,oG 29 (.bin .geq (.t 25)
 (.t 28)) 24 false,oP 30 24 29,oM 31 30,oG 32 (.move (.t 2)) 31 false,oG 33 (.bin .geq (.t 32) (.k (rI .i64 0))) 31 false,oG 34 (.move (.t 33)) 31 false,
 oG 35 (.faddr 2 (.t 3)) 34 true,oG 36 (.load none (.t 35)) 34 true,oG 37 (.move (.t 2)) 34 true,oG 38 (.iaddr 16 (.t 36) (.t 37)) 34 true,
 oG 39 (.faddr 0 (.t 38)) 34 true,oG 40 (.load none (.t 39)) 34 true,oG 41 (.bin .neq (.t 40) (.k (rI .i8 1))) 34 true,oG 42 (.pick (.t 34) (.t 41)
 (.k (rB false))) 31 false,oP 43 31 42]) (.cond (.t 43)
 (.seq (rG kGxIc6_3 [oX 44 (.build [(.c (.v (.string (bs [])))),.nil,.nil,.nil] []),oS 4 6 44,
 oX 7 (.move (.k (rI .i64 120)))]) .ret) .skip)) (.seq (rH [9] kGxIc6_3 [oR 45 3 3,oC 46 241 [(.t 45)],
 oX 47 (.build [(.c (.v (.string (bs [])))),.nil,.nil,.nil] [(0,3,(.t 46))]),oX 9 (.zero 80 [(.c (.v (.string (bs [])))),.nil,.nil,.nil]),oS 4 9 47])
 (.seq (rG kGxIc6_3 [oF 48 0 9,oF 49 2 48,oL 50 49,oM 51 1,oX 52 (.call (.k (rF 146)) [(.t 50),(.t 51)]),
 oM 10 52]) (.seq (rG kGxIc6_3 [oF 53 2 3,oL 54 53,oN 55 54,oC 56 147 [(.t 55)],oM 11 56])
 (.seq (.block 0 (.loop ic82l0)) (.seq (rG kGxIc6_3 [oR 92 4 9,oS 4 6 92,
 oX 7 (.move (.k (rI .i64 0)))]) .ret))))))))
def ir82:List IRes:=[.cell 6 (some 4),.tmp 7]
theorem ie82:cmpFunc Tryz.prog ⟨[(52,none),(71,none),(75,none),(87,none)],[]⟩ Tryz.f157 [0,3,1,8,19,6,2,43,9,11,58,68,10,12,13,7] = some ic82:=by kernel_rfl
theorem ig82:cmpRes Tryz.prog Tryz.f157.results.toList = some ir82:=by kernel_rfl
def ic152:IC:=(.seq (rH [0] kGxIc6_4 [oX 0 (.zero 29 [(.c (.v (.string (bs [])))),.nil,.nil])])
 (.seq (rH [1,2,3] kGxIc6_4 [oX 6 (.build [(.c (.v (.string (bs [])))),(.c (.v (.int .i8 0))),(.c (.v (.int .i64 0))),(.c (.v (.string (bs []))))] [(0,1,(.k (rS (bs [88]))))]),
 oX 7 (.build [(.c (.v (.string (bs [])))),(.c (.v (.int .i8 0))),(.c (.v (.int .i64 0))),(.c (.v (.string (bs []))))] [(0,1,(.k (rS (bs [78]))))]),
 oX 8 (.build [(.c (.v (.string (bs [])))),(.c (.v (.int .i8 0))),(.c (.v (.int .i64 0))),(.c (.v (.string (bs []))))] [(0,1,(.k (rS (bs [77]))))]),
 oX 1 (.zero 73 [(.c (.v (.string (bs [])))),(.c (.v (.int .i8 0))),(.c (.v (.int .i64 0))),(.c (.v (.string (bs []))))]),
 oX 2 (.zero 73 [(.c (.v (.string (bs [])))),(.c (.v (.int .i8 0))),(.c (.v (.int .i64 0))),(.c (.v (.string (bs []))))]),
 oX 3 (.zero 73 [(.c (.v (.string (bs [])))),(.c (.v (.int .i8 0))),(.c (.v (.int .i64 0))),(.c (.v (.string (bs []))))]),oS 4 1 6,oS 4 2 7,oS 4 3 8])
 (.seq (rH [4] kGxIc6_4 [oX 9 (.build [(.c (.v (.int .i8 0))),(.c (.v (.int .i64 0))),(.c (.v (.string (bs []))))] [(0,1,(.k (rI .i8 1))),(1,1,(.k (rI .i64 1)))]),
 oX 10 (.build [(.c (.v (.string (bs [])))),(.c (.v (.int .i8 0))),(.c (.v (.int .i64 0))),(.c (.v (.string (bs []))))] [(1,3,(.t 9))]),
 oX 11 (.build [(.c (.v (.int .i8 0))),(.c (.v (.string (bs [])))),(.c (.v (.int .i8 0))),(.c (.v (.int .i64 0))),(.c (.v (.string (bs [])))),.nil] [(1,4,(.t 10))]),
 oX 4 (.zero 105 [(.c (.v (.int .i8 0))),(.c (.v (.string (bs [])))),(.c (.v (.int .i8 0))),(.c (.v (.int .i64 0))),(.c (.v (.string (bs [])))),.nil]),
 oS 6 4 11]) (.seq (rH [17,5] kGxIc6_4 [oR 12 4 2,
 oX 13 (.build [(.c (.v (.int .i8 0))),(.c (.v (.string (bs [])))),(.c (.v (.int .i8 0))),(.c (.v (.int .i64 0))),(.c (.v (.string (bs [])))),.nil] [(1,4,(.t 12))]),
 oR 14 4 3,
 oX 15 (.build [(.c (.v (.int .i8 0))),(.c (.v (.string (bs [])))),(.c (.v (.int .i8 0))),(.c (.v (.int .i64 0))),(.c (.v (.string (bs [])))),.nil] [(1,4,(.t 14))]),
 oR 16 6 4,oX 17 (.row 105 6 [(.t 15),(.t 16)]),
 oX 18 (.build [(.c (.v (.int .i8 0))),(.c (.v (.string (bs [])))),(.c (.v (.int .i8 0))),(.c (.v (.int .i64 0))),(.c (.v (.string (bs [])))),.nil] [(0,1,(.k (rI .i8 2))),(5,1,(.t 17))]),
 oX 19 (.build [(.c (.v (.int .i8 0))),(.c (.v (.string (bs [])))),.nil,(.c (.v (.int .i8 0))),(.c (.v (.int .i8 0))),(.c (.v (.string (bs [])))),(.c (.v (.int .i8 0))),(.c (.v (.int .i64 0))),(.c (.v (.string (bs [])))),.nil,(.c (.v (.int .i8 0))),(.c (.v (.string (bs [])))),(.c (.v (.int .i8 0))),(.c (.v (.int .i64 0))),(.c (.v (.string (bs [])))),.nil] [(0,1,(.k (rI .i8 3))),(3,1,(.k (rI .i8 1))),(4,6,(.t 13)),(10,6,(.t 18))]),
 oX 5 (.zero 107 [(.c (.v (.int .i8 0))),(.c (.v (.string (bs [])))),.nil,(.c (.v (.int .i8 0))),(.c (.v (.int .i8 0))),(.c (.v (.string (bs [])))),(.c (.v (.int .i8 0))),(.c (.v (.int .i64 0))),(.c (.v (.string (bs [])))),.nil,(.c (.v (.int .i8 0))),(.c (.v (.string (bs [])))),(.c (.v (.int .i8 0))),(.c (.v (.int .i64 0))),(.c (.v (.string (bs [])))),.nil]),
 oS 16 5 19]) (.seq (rH [24,28,31] kGxIc6_4 [oR 20 4 1,
 oX 21 (.build [(.c (.v (.int .i8 0))),(.c (.v (.string (bs [])))),(.c (.v (.int .i8 0))),(.c (.v (.int .i64 0))),(.c (.v (.string (bs []))))] [(1,4,(.t 20))]),
 oR 22 4 2,
 oX 23 (.build [(.c (.v (.int .i8 0))),(.c (.v (.string (bs [])))),(.c (.v (.int .i8 0))),(.c (.v (.int .i64 0))),(.c (.v (.string (bs []))))] [(1,4,(.t 22))]),
 oX 24 (.row 137 5 [(.t 21),(.t 23)]),oR 25 16 5,oR 26 4 1,oR 27 4 3,oX 28 (.row 73 4 [(.t 26),(.t 27)]),
 oX 29 (.build [(.c (.v (.string (bs [])))),.nil] [(0,1,(.k (rS (bs [101])))),(1,1,(.t 28))]),
 oX 30 (.build [(.c (.v (.int .i8 0))),(.c (.v (.string (bs [])))),.nil,(.c (.v (.int .i8 0))),(.c (.v (.int .i8 0))),(.c (.v (.string (bs [])))),(.c (.v (.int .i8 0))),(.c (.v (.int .i64 0))),(.c (.v (.string (bs [])))),.nil,(.c (.v (.int .i8 0))),(.c (.v (.string (bs [])))),(.c (.v (.int .i8 0))),(.c (.v (.int .i64 0))),(.c (.v (.string (bs [])))),.nil] [(0,1,(.k (rI .i8 1))),(1,2,(.t 29))]),
 oX 31 (.row 107 16 [(.t 25),(.t 30)]),oX 32 (.build [(.c (.v (.string (bs [])))),.nil,.nil] [(0,1,(.k (rS (bs [112])))),(1,1,(.t 24)),(2,1,(.t 31))]),
 oS 3 0 32]) .ret)))))
def ir152:List IRes:=[.cell 0 (some 3)]
theorem ie152:cmpFunc Tryz.prog ⟨[],[]⟩ Tryz.f158 [2,3,4,1,5,0] = some ic152:=by kernel_rfl
theorem ig152:cmpRes Tryz.prog Tryz.f158.results.toList = some ir152:=by kernel_rfl
def ic154a0:IC:=(rG kGxIc6_5 [oM 6 11])
def ic154l0:IC:=(.block 1 (.seq (rG kGxIc6_5 [oL 12 2,oX 13 (.nilchk (.t 12)),oF 14 0 13,oL 15 14,oM 16 6,
 oA 17 16 15 16,oF 18 0 17,oL 19 18,oB 20 .eql (.t 19) (.k (rI .i8 1))]) (.cond (.t 20) (.seq (rG kGxIc6_5 [oL 21 5,
 oB 22 .lss (.t 21) (.k (rI .i64 0))]) (.cond (.t 22) (rG kGxIc6_5 [oM 23 6,oS 1 5 23]) .skip))
 (.seq (rH [7] kGxIc6_5 [oL 25 2,oM 26 6,oX 27 (.call (.k (rF 148)) [(.t 25),(.t 26)]),oM 24 27,oX 28 (.ext (.t 24) 0),
 oX 29 (.ext (.t 24) 1),oX 7 (.zero 90 [(.c (.v (.int .i8 0))),(.c (.v (.int .i64 0))),(.c (.v (.int .u32 0))),.nil]),oS 4 7 28,oM 8 29])
 (.seq (rG kGxIc6_5 [oM 30 8]) (.cond (.t 30) (.seq (rG kGxIc6_5 [oM 31 6,
 oS 1 4 31]) .ret) .skip))))))
def ic154:IC:=(.seq (rH [2,4] kGxIc6_5 [oX 2 (.box 188 (.t 0)),oX 4 (.zero 3 [(.c (.v (.int .i64 0)))])])
 (.seq (rH [5] kGxIc6_5 [oX 5 (.zero 3 [(.c (.v (.int .i64 0)))]),⟨none,(.store (some 1) (.t 5) (.k (rI .i64 (-1)))),none,none⟩])
 (.seq (.seq (rG kGxIc6_5 [oM 9 1,oX 10 (.call (.k (rF 290)) [(.t 9)])]) (.block 0 (.rangeF (.t 10) [11] ic154a0 ic154l0)))
 (.seq (rG kGxIc6_5 [oL 32 5,oS 1 4 32]) .ret))))
def ir154:List IRes:=[.cell 4 none]
theorem ie154:cmpFunc Tryz.prog ⟨[(10,none),(27,none)],[]⟩ Tryz.f242 [0,1,10,11,2,6,20,5,22,8,30,4] = some ic154:=by kernel_rfl
theorem ig154:cmpRes Tryz.prog Tryz.f242.results.toList = some ir154:=by kernel_rfl
def ic199:IC:=(.seq (rH [1] kGxIc6_6 [oX 1 (.box 190 (.t 0)),oX 2 (.move (.k (.x (.one (.c (.v .nilFunc))))))])
 (.seq (rG kGxIc6_6 [oX 3 (.clo 328 [] [(.t 1)]),oM 2 3]) .ret))
def ir199:List IRes:=[.tmp 2]
theorem ie199:cmpFunc Tryz.prog ⟨[],[]⟩ Tryz.f290 [0,1,2] = some ic199:=by kernel_rfl
theorem ig199:cmpRes Tryz.prog Tryz.f290.results.toList = some ir199:=by kernel_rfl
def ic220l0:IC:=(.seq (.seq (rG kGxIc6_7 [oL 4 1,oB 5 .neq (.t 4) (.k (rI .u32 0))]) (.cond (.t 5) .skip (.exit 0)))
 (.block 1 (.seq (rG kGxIc6_7 [oL 6 1,oC 7 329 [(.t 6)],oM 3 7]) (.seq (.seq (rG kGxIc6_7 [oM 8 0,oM 9 3,
 oX 10 (.call (.t 8) [(.t 9)]),oX 11 (.un .not (.t 10))]) (.cond (.t 11) .ret .skip)) (rG kGxIc6_7 [oL 12 1,oM 13 3,oB 14 .shl (.k (rI .u32 1))
 (.t 13),oX 15 (.bin .andNot (.t 12) (.t 14)),oS 1 1 15])))))
def ic220:IC:=(.block 0 (.loop ic220l0))
def ir220:List IRes:=[]
theorem ie220:cmpFunc Tryz.prog ⟨[(10,none)],[]⟩ Tryz.f328 [1,5,0,3,11] = some ic220:=by kernel_rfl
theorem ig220:cmpRes Tryz.prog Tryz.f328.results.toList = some ir220:=by kernel_rfl
def ic221:IC:=(.seq (rG kGxIc6_8 [oX 2 (.move (.k (rI .i64 0)))]) (.seq (.seq (rG kGxIc6_8 [oM 3 0,oB 4 .eql (.t 3) (.k (rI .u32 0))])
 (.cond (.t 4) (.seq (rG kGxIc6_8 [oX 2 (.move (.k (rI .i64 32)))]) .ret) .skip)) (.seq (rG kGxIc6_8 [oM 5 0,oM 6 0,oX 7 (.un .neg (.t 6)),
 oB 8 .and (.t 5) (.t 7),oB 9 .mul (.t 8) (.k (rI .u32 125613361)),oB 10 .shr (.t 9) (.k (rI .u64 27)),
 oX 11 (.gidx 32 1 2 (.t 10)),⟨some 12,(.gload (.t 11)),none,(some [88888])⟩,oX 13 (.conv .i64 (.t 12)),oM 2 13]) .ret)))
def ir221:List IRes:=[.tmp 2]
theorem ie221:cmpFunc Tryz.prog ⟨[(12,(some [88888]))],[]⟩ Tryz.f329 [0,4,2] = some ic221:=by kernel_rfl
theorem ig221:cmpRes Tryz.prog Tryz.f329.results.toList = some ir221:=by kernel_rfl
end Go.Proofs.YtiomojlcnemnhaaGreatDoor

import Derived.Test.YtiomojlcnemnhaaGreatDoorRFxZ
import Derived.Test.YtiomojlcnemnhaaGreatDoorProg
import Derived.KernelRfl
namespace Go.Proofs.YtiomojlcnemnhaaGreatDoor
open Go.Fx
@[simp] abbrev kGxIcA_0:List Nat:=[0,1,2]
@[simp] abbrev kGxIcA_1:List Nat:=[0,1,2,3,4]
@[simp] abbrev kGxIcA_2:List Nat:=[5,1,9,0,17,4]
@[simp] abbrev kGxIcA_3:List Nat:=[0,4,12,3,2]
@[simp] abbrev kGxIcA_4:List Nat:=[0,1,10,5,14,25,4]
@[simp] abbrev kGxIcA_5:List Nat:=[0,1,4]
@[simp] abbrev kGxIcA_6:List Nat:=[4,0,9,5,3,28,2]
@[simp] abbrev kGxIcA_7:List Nat:=[0,2]
@[simp] abbrev kGxIcA_8:List Nat:=[0,2,1,4]
@[simp] abbrev kGxIcA_9:List Nat:=[0,3,4,2]
@[simp] abbrev kGxIcA_10:List Nat:=[0,3,2]
@[simp] abbrev kGxIcA_11:List Nat:=[0,1,4,5,9,10,20,2]
@[simp] abbrev kGxIcA_12:List Nat:=[0,1,5,2]
@[simp] abbrev kGxIcA_13:List Nat:=[0,1,26,2]
@[simp] abbrev kGxIcA_14:List Nat:=[0,1,2,27,7,31,38,6]
@[simp] abbrev kGxIcA_15:List Nat:=[0,1,6,7,13,3,2]
@[simp] abbrev kGxIcA_16:List Nat:=[0,1,13,3,18,27,2]
@[simp] abbrev kGxIcA_17:List Nat:=[0,1,2,28,32,31,33,30,8,61,6]
@[simp] abbrev kGxIcA_18:List Nat:=[0,8,7,9,1,5,16,4]
def ic37:IC:=(.seq (rH [1,2] kGxIcA_0 [oX 1 (.box 25 (.t 0)),oX 2 (.zero 25 [(.c (.v (.string (bs [])))),.nil])])
 (.seq (rG kGxIcA_0 [oF 3 1 1,oL 4 3,oC 5 75 [(.t 4)],oF 6 1 1,oS 1 6 5]) (.seq (rG kGxIcA_0 [oR 7 2 1,oS 2 2 7]) .ret)))
def ir37:List IRes:=[.cell 2 (some 2)]
theorem ie37:cmpFunc Tryz.prog ⟨[],[]⟩ Tryz.f15 [0,1,2] = some ic37:=by kernel_rfl
theorem ig37:cmpRes Tryz.prog Tryz.f15.results.toList = some ir37:=by kernel_rfl
def ic40:IC:=(.seq (rH [2,3] kGxIcA_1 [oX 2 (.box 25 (.t 0)),oX 3 (.box 25 (.t 1)),oX 4 (.move (.k (rB false)))])
 (.seq (rG kGxIcA_1 [oF 5 0 2,oL 6 5,oF 7 0 3,oL 8 7,oB 9 .eql (.t 6) (.t 8),oM 10 9,oG 11 (.faddr 1 (.t 2)) 10 true,
 oG 12 (.load none (.t 11)) 10 true,oG 13 (.faddr 1 (.t 3)) 10 true,oG 14 (.load none (.t 13)) 10 true,oG 15 (.callp (.k (rF 90)) [(.t 12),(.t 14)]) 10 true,
 oQ 16 10 15,oM 4 16]) .ret))
def ir40:List IRes:=[.tmp 4]
theorem ie40:cmpFunc Tryz.prog ⟨[],[]⟩ Tryz.f24 [0,1,2,3,4] = some ic40:=by kernel_rfl
theorem ig40:cmpRes Tryz.prog Tryz.f24.results.toList = some ir40:=by kernel_rfl
abbrev ks30 (t5 t1 t9 t0 t17 t4:T) (O:List (Nat × Box)) (U:List (Nat × Fx.Tok)) (H:FHp):S:=st [(5,t5),(1,t1),(9,t9),(0,t0),(17,t17),(4,t4)] O U H
def ic30l0:IC:=(.seq (.seq (rG kGxIcA_2 [oM 6 5,oM 7 1,oN 8 7,oB 9 .lss (.t 6) (.t 8)]) (.cond (.t 9) .skip (.exit 0)))
 (.seq (.block 1 (.seq (rG kGxIcA_2 [oM 12 1,oM 13 5,oA 14 1 12 13,oL 15 14,oM 16 0,oB 17 .eql (.t 15) (.t 16)]) (.cond (.t 17)
 (.seq (rG kGxIcA_2 [oX 4 (.move (.k (rB true)))]) .ret) .skip))) (rG kGxIcA_2 [oM 10 5,oB 11 .add (.t 10) (.k (rI .i64 1)),
 oM 5 11])))
def ic30:IC:=(.seq (rG kGxIcA_2 [oX 4 (.move (.k (rB false)))]) (.seq (.seq (rG kGxIcA_2 [oX 5 (.move (.k (rI .i64 0)))])
 (.block 0 (.loop ic30l0))) (.seq (rG kGxIcA_2 [oX 4 (.move (.k (rB false)))]) .ret)))
def ir30:List IRes:=[.tmp 4]
theorem ie30:cmpFunc Tryz.prog ⟨[],[]⟩ Tryz.f67 [5,1,9,0,17,4] = some ic30:=by kernel_rfl
theorem ig30:cmpRes Tryz.prog Tryz.f67.results.toList = some ir30:=by kernel_rfl
def ic108l0:IC:=(.seq (.seq (rG kGxIcA_3 [oM 9 4,oM 10 0,oN 11 10,oB 12 .lss (.t 9) (.t 11)]) (.cond (.t 12) .skip (.exit 0)))
 (.seq (.block 1 (rG kGxIcA_3 [oM 15 3,oM 16 4,oM 17 0,oM 18 4,oA 19 4 17 18,oR 20 4 19,oA 21 4 15 16,oS 4 21 20]))
 (rG kGxIcA_3 [oM 13 4,oB 14 .add (.t 13) (.k (rI .i64 1)),oM 4 14])))
def ic108:IC:=(.seq (rG kGxIcA_3 [oX 2 (.move (.k (.x (.one .nil))))]) (.seq (rH [8] kGxIcA_3 [oM 5 0,oN 6 5,oB 7 .add (.t 6)
 (.k (rI .i64 1)),oX 8 (.make 73 4 48 [(.c (.v (.string (bs [])))),(.c (.v (.int .i8 0))),(.c (.v (.int .i64 0))),(.c (.v (.string (bs []))))] (.t 7) (.t 7)),
 oM 3 8]) (.seq (.seq (rG kGxIcA_3 [oX 4 (.move (.k (rI .i64 0)))]) (.block 0 (.loop ic108l0))) (.seq (rG kGxIcA_3 [oM 22 3,
 oM 23 0,oN 24 23,oC 25 172 [(.k (rI .i64 777777))],oA 26 4 22 24,oS 4 26 25]) (.seq (rG kGxIcA_3 [oM 27 3,oM 28 0,oN 29 28,
 oX 30 (.vsl 4 (.t 27) none (some (.t 29))),oM 2 30]) .ret)))))
def ir108:List IRes:=[.tmp 2]
theorem ie108:cmpFunc Tryz.prog ⟨[],[]⟩ Tryz.f75 [0,4,12,3,2] = some ic108:=by kernel_rfl
theorem ig108:cmpRes Tryz.prog Tryz.f75.results.toList = some ir108:=by kernel_rfl
def ic129l0:IC:=(.seq (.seq (rG kGxIcA_4 [oM 11 5,oM 12 0,oN 13 12,oB 14 .lss (.t 11) (.t 13)]) (.cond (.t 14) .skip (.exit 0)))
 (.seq (.block 1 (.seq (rG kGxIcA_4 [oM 17 0,oM 18 5,oA 19 4 17 18,oR 20 4 19,oM 21 1,oM 22 5,oA 23 4 21 22,oR 24 4 23,
 oX 25 (.eqs true [.s,.i .i8,.i .i64,.s] (.t 20) (.t 24))]) (.cond (.t 25) (.seq (rG kGxIcA_4 [oX 4 (.move (.k (rB false)))]) .ret) .skip)))
 (rG kGxIcA_4 [oM 15 5,oB 16 .add (.t 15) (.k (rI .i64 1)),oM 5 16])))
def ic129:IC:=(.seq (rG kGxIcA_4 [oX 4 (.move (.k (rB false)))]) (.seq (.seq (rG kGxIcA_4 [oM 6 0,oN 7 6,oM 8 1,
 oN 9 8,oB 10 .neq (.t 7) (.t 9)]) (.cond (.t 10) (.seq (rG kGxIcA_4 [oX 4 (.move (.k (rB false)))]) .ret) .skip))
 (.seq (.seq (rG kGxIcA_4 [oX 5 (.move (.k (rI .i64 0)))]) (.block 0 (.loop ic129l0)))
 (.seq (rG kGxIcA_4 [oX 4 (.move (.k (rB true)))]) .ret))))
def ir129:List IRes:=[.tmp 4]
theorem ie129:cmpFunc Tryz.prog ⟨[],[]⟩ Tryz.f84 [0,1,10,5,14,25,4] = some ic129:=by kernel_rfl
theorem ig129:cmpRes Tryz.prog Tryz.f84.results.toList = some ir129:=by kernel_rfl
def ic110:IC:=(.seq (rG kGxIcA_5 [oX 4 (.move (.k (rB false)))]) (.seq (rG kGxIcA_5 [oM 5 0,oM 6 1,oC 7 84 [(.t 5),(.t 6)],oM 8 7,
 oG 9 (.move (.t 0)) 8 true,oG 10 (.move (.t 1)) 8 true,oG 11 (.len (.t 10)) 8 true,oG 12 (.bin .add (.t 11) (.k (rI .i64 1))) 8 true,
 oG 13 (.vsl 4 (.t 9) none (some (.t 12))) 8 true,oG 14 (.move (.t 1)) 8 true,oG 15 (.len (.t 14)) 8 true,oG 16 (.iaddr 4 (.t 13) (.t 15)) 8 true,
 oG 17 (.load (some 4) (.t 16)) 8 true,oG 18 (.callp (.k (rF 180)) [(.t 17),(.k (rI .i64 777777))]) 8 true,oQ 19 8 18,oM 4 19]) .ret))
def ir110:List IRes:=[.tmp 4]
theorem ie110:cmpFunc Tryz.prog ⟨[],[]⟩ Tryz.f90 [0,1,4] = some ic110:=by kernel_rfl
theorem ig110:cmpRes Tryz.prog Tryz.f90.results.toList = some ir110:=by kernel_rfl
def ic44:IC:=(.seq (rH [1] kGxIcA_0 [oX 1 (.box 25 (.t 0)),oX 2 (.move (.k (rI .i64 0)))]) (.seq (rG kGxIcA_0 [oF 3 0 1,oL 4 3,
 oC 5 184 [(.t 4)],oM 6 5,oG 7 (.faddr 1 (.t 1)) 6 true,oG 8 (.load none (.t 7)) 6 true,oG 9 (.len (.t 8)) 6 true,oG 10 (.bin .leq (.t 9)
 (.k (rI .i64 24))) 6 true,oQ 11 6 10,oM 12 11,oG 13 (.faddr 1 (.t 1)) 12 true,oG 14 (.load none (.t 13)) 12 true,
 oG 15 (.call (.k (rF 206)) [(.t 14),(.k (rF 207))]) 12 true,oG 16 (.un .not (.t 15)) 12 true,oQ 17 12 16,oC 18 187 [(.t 17)],oM 2 18]) .ret))
def ir44:List IRes:=[.tmp 2]
theorem ie44:cmpFunc Tryz.prog ⟨[(15,none)],[]⟩ Tryz.f121 [0,1,2] = some ic44:=by kernel_rfl
theorem ig44:cmpRes Tryz.prog Tryz.f121.results.toList = some ir44:=by kernel_rfl
abbrev ks98 (t4 t0 t9 t5 t3 t28 t2:T) (O:List (Nat × Box)) (U:List (Nat × Fx.Tok)) (H:FHp):S:=st [(4,t4),(0,t0),(9,t9),(5,t5),(3,t3),(28,t28),(2,t2)] O U H
def ic98l0:IC:=(.seq (.seq (rG kGxIcA_6 [oM 6 4,oM 7 0,oN 8 7,oB 9 .lss (.t 6) (.t 8)]) (.cond (.t 9) .skip (.exit 0)))
 (.seq (.block 1 (.seq (rG kGxIcA_6 [oM 12 0,oM 13 4,oA 14 4 12 13,oF 15 0 14,oL 16 15,oM 5 16])
 (.seq (rG kGxIcA_6 [oM 17 5,oB 18 .neq (.t 17) (.k (rS (bs []))),oM 19 18,oG 20 (.move (.t 5)) 19 true,oG 21 (.bin .neq (.t 20)
 (.k (rS (bs [95])))) 19 true,oQ 22 19 21,oM 23 22,oG 24 (.move (.t 5)) 23 true,oG 25 (.move (.t 3)) 23 true,
 oG 26 (.callp (.k (rF 67)) [(.t 24),(.t 25)]) 23 true,oG 27 (.un .not (.t 26)) 23 true,oQ 28 23 27]) (.cond (.t 28)
 (rH [31] kGxIcA_6 [oM 29 3,oM 30 5,oX 31 (.row 9 1 [(.t 30)]),oX 32 (.app 9 1 16 (.t 29) (.t 31)),oM 3 32]) .skip))))
 (rG kGxIcA_6 [oM 10 4,oB 11 .add (.t 10) (.k (rI .i64 1)),oM 4 11])))
def ic98:IC:=(.seq (rG kGxIcA_6 [oX 2 (.move (.k (.x (.one .nil))))])
 (.seq (rG kGxIcA_6 [oX 3 (.move (.k (.x (.one .nil))))]) (.seq (.seq (rG kGxIcA_6 [oX 4 (.move (.k (rI .i64 0)))])
 (.block 0 (.loop ic98l0))) (.seq (rG kGxIcA_6 [oM 33 3,oM 2 33]) .ret))))
def ir98:List IRes:=[.tmp 2]
theorem ie98:cmpFunc Tryz.prog ⟨[],[]⟩ Tryz.f141 [4,0,9,5,3,28,2] = some ic98:=by kernel_rfl
theorem ig98:cmpRes Tryz.prog Tryz.f141.results.toList = some ir98:=by kernel_rfl
def ic172:IC:=(.seq (rG kGxIcA_7 [oX 2 (.move (.k (rS (bs []))))]) (.seq (rG kGxIcA_7 [oM 3 0,oC 4 99 [(.t 3)],
 oB 5 .add (.k (rS (bs [35]))) (.t 4),oM 2 5]) .ret))
def ir172:List IRes:=[.tmp 2]
theorem ie172:cmpFunc Tryz.prog ⟨[],[]⟩ Tryz.f171 [0,2] = some ic172:=by kernel_rfl
theorem ig172:cmpRes Tryz.prog Tryz.f171.results.toList = some ir172:=by kernel_rfl
def ic163:IC:=(.seq (rH [2] kGxIcA_7 [oX 2 (.zero 73 [(.c (.v (.string (bs [])))),(.c (.v (.int .i8 0))),(.c (.v (.int .i64 0))),(.c (.v (.string (bs []))))])])
 (.seq (rG kGxIcA_7 [oM 3 0,oC 4 171 [(.t 3)],
 oX 5 (.build [(.c (.v (.string (bs [])))),(.c (.v (.int .i8 0))),(.c (.v (.int .i64 0))),(.c (.v (.string (bs []))))] [(0,1,(.t 4))]),oS 4 2 5]) .ret))
def ir163:List IRes:=[.cell 2 (some 4)]
theorem ie163:cmpFunc Tryz.prog ⟨[],[]⟩ Tryz.f172 [0,2] = some ic163:=by kernel_rfl
theorem ig163:cmpRes Tryz.prog Tryz.f172.results.toList = some ir163:=by kernel_rfl
def ic156:IC:=(.seq (rG kGxIcA_7 [oX 2 (.move (.k (rB false)))]) (.seq (rG kGxIcA_7 [oM 3 0,
 oC 4 248 [(.t 3),(.k (rI .u8 97)),(.k (rI .u8 122))],oM 5 4,oG 6 (.move (.t 0)) 5 true,oG 7 (.callp (.k (rF 249)) [(.t 6)]) 5 true,
 oG 8 (.un .not (.t 7)) 5 true,oQ 9 5 8,oM 2 9]) .ret))
def ir156:List IRes:=[.tmp 2]
theorem ie156:cmpFunc Tryz.prog ⟨[],[]⟩ Tryz.f174 [0,2] = some ic156:=by kernel_rfl
theorem ig156:cmpRes Tryz.prog Tryz.f174.results.toList = some ir156:=by kernel_rfl
def ic165:IC:=(.seq (rH [2] kGxIcA_8 [oX 2 (.box 73 (.t 0)),oX 4 (.move (.k (rB false)))]) (.seq (rG kGxIcA_8 [oR 5 4 2,oM 6 1,
 oC 7 171 [(.t 6)],oX 8 (.build [(.c (.v (.string (bs [])))),(.c (.v (.int .i8 0))),(.c (.v (.int .i64 0))),(.c (.v (.string (bs []))))] [(0,1,(.t 7))]),
 oX 9 (.eqs false [.s,.i .i8,.i .i64,.s] (.t 5) (.t 8)),oM 4 9]) .ret))
def ir165:List IRes:=[.tmp 4]
theorem ie165:cmpFunc Tryz.prog ⟨[],[]⟩ Tryz.f180 [0,2,1,4] = some ic165:=by kernel_rfl
theorem ig165:cmpRes Tryz.prog Tryz.f180.results.toList = some ir165:=by kernel_rfl
def ic114:IC:=(.seq (rG kGxIcA_9 [oX 2 (.move (.k (rB false)))]) (.seq (.seq (rG kGxIcA_9 [oM 3 0])
 (.block 0 (.seq (.seq (rG kGxIcA_9 [oB 5 .eql (.t 3) (.k (rS (bs [110,111,116]))),oM 4 5])
 (.cond (.t 4) .skip (.seq (rG kGxIcA_9 [oB 6 .eql (.t 3) (.k (rS (bs [99,111,117,110,116]))),oM 4 6])
 (.cond (.t 4) .skip (.seq (rG kGxIcA_9 [oB 7 .eql (.t 3) (.k (rS (bs [115,117,109]))),oM 4 7])
 (.cond (.t 4) .skip (.seq (rG kGxIcA_9 [oB 8 .eql (.t 3) (.k (rS (bs [109,105,110]))),oM 4 8])
 (.cond (.t 4) .skip (.seq (rG kGxIcA_9 [oB 9 .eql (.t 3) (.k (rS (bs [109,97,120]))),oM 4 9])
 (.cond (.t 4) .skip (.seq (rG kGxIcA_9 [oB 10 .eql (.t 3) (.k (rS (bs [108,101,110]))),oM 4 10])
 (.cond (.t 4) .skip (.seq (rG kGxIcA_9 [oB 11 .eql (.t 3) (.k (rS (bs [99,104,97,114,115]))),oM 4 11])
 (.cond (.t 4) .skip (rG kGxIcA_9 [oB 12 .eql (.t 3) (.k (rS (bs [98,97,99,107]))),oM 4 12]))))))))))))))) (.cond (.t 4)
 (.seq (rG kGxIcA_9 [oX 2 (.move (.k (rB false)))]) .ret) .skip)))) (.seq (rG kGxIcA_9 [oM 13 0,
 oC 14 259 [(.t 13),(.k (rI .u8 97)),(.k (rI .u8 122))],oM 2 14]) .ret)))
def ir114:List IRes:=[.tmp 2]
theorem ie114:cmpFunc Tryz.prog ⟨[],[]⟩ Tryz.f184 [0,3,4,2] = some ic114:=by kernel_rfl
theorem ig114:cmpRes Tryz.prog Tryz.f184.results.toList = some ir114:=by kernel_rfl
def ic113:IC:=(.seq (rG kGxIcA_10 [oX 2 (.move (.k (rI .i64 0)))]) (.seq (.seq (rG kGxIcA_10 [oM 3 0]) (.cond (.t 3)
 (.seq (rG kGxIcA_10 [oX 2 (.move (.k (rI .i64 0)))]) .ret) .skip)) (.seq (rG kGxIcA_10 [oX 2 (.move (.k (rI .i64 40)))]) .ret)))
def ir113:List IRes:=[.tmp 2]
theorem ie113:cmpFunc Tryz.prog ⟨[],[]⟩ Tryz.f187 [0,3,2] = some ic113:=by kernel_rfl
theorem ig113:cmpRes Tryz.prog Tryz.f187.results.toList = some ir113:=by kernel_rfl
def ic92:IC:=(.seq (rH [1] kGxIcA_11 [oX 1 (.box 71 (.t 0)),oX 2 (.move (.k (rI .i64 0)))])
 (.seq (.seq (rG kGxIcA_11 [oF 3 0 1,oL 4 3]) (.block 0 (.seq (rG kGxIcA_11 [oB 6 .eql (.t 4) (.k (rI .i8 1)),
 oM 5 6]) (.cond (.t 5) (.seq (rG kGxIcA_11 [oF 7 2 1,oL 8 7,oB 9 .eql (.t 8) (.k (rS (bs [])))]) (.cond (.t 9)
 (.seq (rG kGxIcA_11 [oX 2 (.move (.k (rI .i64 0)))]) .ret) .skip)) (.seq (rG kGxIcA_11 [oB 11 .eql (.t 4)
 (.k (rI .i8 2)),oM 10 11]) (.cond (.t 10) (.seq (rG kGxIcA_11 [oF 12 1 1,oL 13 12,oB 14 .eql (.t 13) (.k (rI .i64 0)),oM 15 14,
 oG 16 (.faddr 2 (.t 1)) 15 true,oG 17 (.load none (.t 16)) 15 true,oG 18 (.slen (.t 17)) 15 true,oG 19 (.bin .leq (.t 18) (.k (rI .i64 200))) 15 true,
 oQ 20 15 19]) (.cond (.t 20) (.seq (rG kGxIcA_11 [oX 2 (.move (.k (rI .i64 0)))]) .ret) .skip)) .skip))))))
 (.seq (rG kGxIcA_11 [oX 2 (.move (.k (rI .i64 10)))]) .ret)))
def ir92:List IRes:=[.tmp 2]
theorem ie92:cmpFunc Tryz.prog ⟨[],[]⟩ Tryz.f204 [0,1,4,5,9,10,20,2] = some ic92:=by kernel_rfl
theorem ig92:cmpRes Tryz.prog Tryz.f204.results.toList = some ir92:=by kernel_rfl
def ic115:IC:=(.seq (rG kGxIcA_5 [oX 4 (.move (.k (rB false)))]) (.seq (rG kGxIcA_5 [oM 5 0,oM 6 1,
 oX 7 (.call (.k (rF 271)) [(.t 5),(.t 6)]),oB 8 .geq (.t 7) (.k (rI .i64 0)),oM 4 8]) .ret))
def ir115:List IRes:=[.tmp 4]
theorem ie115:cmpFunc Tryz.prog ⟨[(7,none)],[]⟩ Tryz.f206 [0,1,4] = some ic115:=by kernel_rfl
theorem ig115:cmpRes Tryz.prog Tryz.f206.results.toList = some ir115:=by kernel_rfl
def ic116:IC:=(.seq (rH [1] kGxIcA_0 [oX 1 (.box 73 (.t 0)),oX 2 (.move (.k (rB false)))]) (.seq (rG kGxIcA_0 [oR 3 4 1,oC 4 208 [(.t 3)],
 oB 5 .neq (.t 4) (.k (rI .i64 0)),oM 2 5]) .ret))
def ir116:List IRes:=[.tmp 2]
theorem ie116:cmpFunc Tryz.prog ⟨[],[]⟩ Tryz.f207 [0,1,2] = some ic116:=by kernel_rfl
theorem ig116:cmpRes Tryz.prog Tryz.f207.results.toList = some ir116:=by kernel_rfl
def ic117:IC:=(.seq (rH [1] kGxIcA_12 [oX 1 (.box 73 (.t 0)),oX 2 (.move (.k (rI .i64 0)))]) (.seq (.seq (rG kGxIcA_12 [oF 3 0 1,oL 4 3,
 oB 5 .eql (.t 4) (.k (rS (bs [])))]) (.cond (.t 5) (.seq (rG kGxIcA_12 [oF 6 1 1,oR 7 3 6,oC 8 204 [(.t 7)],oB 9 .eql (.t 8) (.k (rI .i64 0)),
 oC 10 187 [(.t 9)],oM 2 10]) .ret) .skip)) (.seq (rG kGxIcA_12 [oF 11 1 1,oR 12 3 11,
 oX 13 (.build [(.c (.v (.int .i8 0))),(.c (.v (.int .i64 0))),(.c (.v (.string (bs []))))] []),oX 14 (.eqs false [.i .i8,.i .i64,.s] (.t 12) (.t 13)),
 oM 15 14,oG 16 (.faddr 0 (.t 1)) 15 true,oG 17 (.load none (.t 16)) 15 true,oG 18 (.bin .eql (.t 17) (.k (rS (bs [95])))) 15 true,
 oG 19 (.move (.t 18)) 15 true,oG 20 (.faddr 0 (.t 1)) 19 false,oG 21 (.load none (.t 20)) 19 false,
 oG 22 (.callp (.k (rF 259)) [(.t 21),(.k (rI .u8 65)),(.k (rI .u8 90))]) 19 false,oG 23 (.pick (.t 19) (.k (rB true)) (.t 22)) 15 true,oQ 24 15 23,
 oC 25 187 [(.t 24)],oM 2 25]) .ret)))
def ir117:List IRes:=[.tmp 2]
theorem ie117:cmpFunc Tryz.prog ⟨[],[]⟩ Tryz.f208 [0,1,5,2] = some ic117:=by kernel_rfl
theorem ig117:cmpRes Tryz.prog Tryz.f208.results.toList = some ir117:=by kernel_rfl
def ic29:IC:=(.seq (rH [1] kGxIcA_13 [oX 1 (.box 71 (.t 0)),oX 2 (.move (.k (rI .i64 0)))]) (.seq (.seq (rG kGxIcA_13 [oF 3 0 1,
 oL 4 3,oB 5 .eql (.t 4) (.k (rI .i8 1)),oM 6 5,oG 7 (.faddr 2 (.t 1)) 6 true,oG 8 (.load none (.t 7)) 6 true,oG 9 (.bin .eql (.t 8)
 (.k (rS (bs [])))) 6 true,oQ 10 6 9,oM 11 10,oG 12 (.faddr 0 (.t 1)) 11 false,oG 13 (.load none (.t 12)) 11 false,oG 14 (.bin .eql (.t 13)
 (.k (rI .i8 2))) 11 false,oG 15 (.move (.t 14)) 11 false,oG 16 (.faddr 1 (.t 1)) 15 true,oG 17 (.load none (.t 16)) 15 true,oG 18 (.bin .eql (.t 17)
 (.k (rI .i64 0))) 15 true,oG 19 (.pick (.t 15) (.t 18) (.k (rB false))) 11 false,oG 20 (.move (.t 19)) 11 false,oG 21 (.faddr 2 (.t 1)) 20 true,
 oG 22 (.load none (.t 21)) 20 true,oG 23 (.slen (.t 22)) 20 true,oG 24 (.bin .leq (.t 23) (.k (rI .i64 200))) 20 true,oG 25 (.pick (.t 20) (.t 24)
 (.k (rB false))) 11 false,oP 26 11 25]) (.cond (.t 26) (.seq (rG kGxIcA_13 [oX 2 (.move (.k (rI .i64 0)))]) .ret) .skip))
 (.seq (rG kGxIcA_13 [oX 2 (.move (.k (rI .i64 10)))]) .ret)))
def ir29:List IRes:=[.tmp 2]
theorem ie29:cmpFunc Tryz.prog ⟨[],[]⟩ Tryz.f243 [0,1,26,2] = some ic29:=by kernel_rfl
theorem ig29:cmpRes Tryz.prog Tryz.f243.results.toList = some ir29:=by kernel_rfl
abbrev ks201 (t0 t1 t2 t27 t7 t31 t38 t6:T) (O:List (Nat × Box)) (U:List (Nat × Fx.Tok)) (H:FHp):S:=st [(0,t0),(1,t1),(2,t2),(27,t27),(7,t7),(31,t31),(38,t38),(6,t6)] O U H
def ic201l0:IC:=(.seq (.seq (rG kGxIcA_14 [oM 28 7,oM 29 0,oX 30 (.slen (.t 29)),oB 31 .lss (.t 28) (.t 30)])
 (.cond (.t 31) .skip (.exit 0))) (.seq (.block 1 (.seq (rG kGxIcA_14 [oM 34 0,oM 35 7,oX 36 (.sindex (.t 34) (.t 35)),
 oC 37 296 [(.t 36)],oX 38 (.un .not (.t 37))]) (.cond (.t 38) (.seq (rG kGxIcA_14 [oX 6 (.move (.k (rB false)))]) .ret) .skip)))
 (rG kGxIcA_14 [oM 32 7,oB 33 .add (.t 32) (.k (rI .i64 1)),oM 7 33])))
def ic201:IC:=(.seq (rG kGxIcA_14 [oX 6 (.move (.k (rB false)))]) (.seq (.seq (rG kGxIcA_14 [oM 8 0,
 oX 9 (.slen (.t 8)),oB 10 .lss (.t 9) (.k (rI .i64 1)),oM 11 10,oG 12 (.move (.t 0)) 11 false,oG 13 (.slen (.t 12)) 11 false,oG 14 (.bin .gtr (.t 13)
 (.k (rI .i64 120))) 11 false,oP 15 11 14,oM 16 15,oG 17 (.move (.t 0)) 16 false,oG 18 (.sindex (.t 17) (.k (rI .i64 0))) 16 false,
 oG 19 (.move (.t 1)) 16 false,oG 20 (.bin .lss (.t 18) (.t 19)) 16 false,oP 21 16 20,oM 22 21,oG 23 (.move (.t 0)) 22 false,oG 24 (.sindex (.t 23)
 (.k (rI .i64 0))) 22 false,oG 25 (.move (.t 2)) 22 false,oG 26 (.bin .gtr (.t 24) (.t 25)) 22 false,oP 27 22 26]) (.cond (.t 27)
 (.seq (rG kGxIcA_14 [oX 6 (.move (.k (rB false)))]) .ret) .skip))
 (.seq (.seq (rG kGxIcA_14 [oX 7 (.move (.k (rI .i64 1)))]) (.block 0 (.loop ic201l0)))
 (.seq (rG kGxIcA_14 [oX 6 (.move (.k (rB true)))]) .ret))))
def ir201:List IRes:=[.tmp 6]
theorem ie201:cmpFunc Tryz.prog ⟨[],[]⟩ Tryz.f248 [0,1,2,27,7,31,38,6] = some ic201:=by kernel_rfl
theorem ig201:cmpRes Tryz.prog Tryz.f248.results.toList = some ir201:=by kernel_rfl
def ic202:IC:=(.seq (rG kGxIcA_7 [oX 2 (.move (.k (rB false)))]) (.seq (rG kGxIcA_7 [oM 3 0,oB 4 .eql (.t 3) (.k (rS (bs [110,111,116]))),
 oM 5 4,oG 6 (.move (.t 0)) 5 false,oG 7 (.bin .eql (.t 6) (.k (rS (bs [99,111,117,110,116])))) 5 false,oP 8 5 7,oM 9 8,oG 10 (.move (.t 0)) 9 false,
 oG 11 (.bin .eql (.t 10) (.k (rS (bs [115,117,109])))) 9 false,oP 12 9 11,oM 13 12,oG 14 (.move (.t 0)) 13 false,oG 15 (.bin .eql (.t 14)
 (.k (rS (bs [109,105,110])))) 13 false,oP 16 13 15,oM 17 16,oG 18 (.move (.t 0)) 17 false,oG 19 (.bin .eql (.t 18) (.k (rS (bs [109,97,120])))) 17 false,
 oP 20 17 19,oM 21 20,oG 22 (.move (.t 0)) 21 false,oG 23 (.bin .eql (.t 22) (.k (rS (bs [108,101,110])))) 21 false,oP 24 21 23,oM 25 24,
 oG 26 (.move (.t 0)) 25 false,oG 27 (.bin .eql (.t 26) (.k (rS (bs [99,104,97,114,115])))) 25 false,oP 28 25 27,oM 29 28,oG 30 (.move (.t 0)) 29 false,
 oG 31 (.bin .eql (.t 30) (.k (rS (bs [98,97,99,107])))) 29 false,oP 32 29 31,oM 2 32]) .ret))
def ir202:List IRes:=[.tmp 2]
theorem ie202:cmpFunc Tryz.prog ⟨[],[]⟩ Tryz.f249 [0,2] = some ic202:=by kernel_rfl
theorem ig202:cmpRes Tryz.prog Tryz.f249.results.toList = some ir202:=by kernel_rfl
def ic157:IC:=(.seq (rH [1] kGxIcA_15 [oX 1 (.box 73 (.t 0)),oX 2 (.move (.k (rB false)))])
 (.seq (rH [3] kGxIcA_15 [oX 4 (.build [(.c (.v (.int .i8 0))),(.c (.v (.int .i64 0))),(.c (.v (.string (bs []))))] []),
 oX 3 (.zero 71 [(.c (.v (.int .i8 0))),(.c (.v (.int .i64 0))),(.c (.v (.string (bs []))))]),oS 3 3 4]) (.seq (.seq (rG kGxIcA_15 [oF 5 0 1,
 oL 6 5]) (.block 0 (.seq (rG kGxIcA_15 [oB 8 .eql (.t 6) (.k (rS (bs []))),oM 7 8]) (.cond (.t 7)
 (.seq (rG kGxIcA_15 [oF 9 1 1,oR 10 3 9,oC 11 243 [(.t 10)],oB 12 .eql (.t 11) (.k (rI .i64 0)),oM 2 12]) .ret)
 (.seq (rG kGxIcA_15 [oB 14 .eql (.t 6) (.k (rS (bs [95]))),oM 13 14]) (.cond (.t 13) (.seq (rG kGxIcA_15 [oF 15 1 1,
 oR 16 3 15,oR 17 3 3,oX 18 (.eqs false [.i .i8,.i .i64,.s] (.t 16) (.t 17)),oM 2 18]) .ret) .skip)))))) (.seq (rG kGxIcA_15 [oF 19 0 1,
 oL 20 19,oC 21 297 [(.t 20)],oM 22 21,oG 23 (.faddr 1 (.t 1)) 22 true,oG 24 (.load (some 3) (.t 23)) 22 true,oG 25 (.load (some 3) (.t 3)) 22 true,
 oG 26 (.eqs false [.i .i8,.i .i64,.s] (.t 24) (.t 25)) 22 true,oQ 27 22 26,oM 2 27]) .ret))))
def ir157:List IRes:=[.tmp 2]
theorem ie157:cmpFunc Tryz.prog ⟨[],[]⟩ Tryz.f250 [0,1,6,7,13,3,2] = some ic157:=by kernel_rfl
theorem ig157:cmpRes Tryz.prog Tryz.f250.results.toList = some ir157:=by kernel_rfl
abbrev ks91 (t0 t1 t13 t3 t18 t27 t2:T) (O:List (Nat × Box)) (U:List (Nat × Fx.Tok)) (H:FHp):S:=st [(0,t0),(1,t1),(13,t13),(3,t3),(18,t18),(27,t27),(2,t2)] O U H
def ic91l0:IC:=(.seq (.seq (rG kGxIcA_16 [oM 14 3,oF 15 1 1,oL 16 15,oN 17 16,oB 18 .lss (.t 14) (.t 17)])
 (.cond (.t 18) .skip (.exit 0))) (.seq (.block 1 (.seq (rG kGxIcA_16 [oF 21 1 1,oL 22 21,oM 23 3,oA 24 4 22 23,oR 25 4 24,
 oC 26 250 [(.t 25)],oX 27 (.un .not (.t 26))]) (.cond (.t 27) (.seq (rG kGxIcA_16 [oX 2 (.move (.k (rB false)))]) .ret) .skip)))
 (rG kGxIcA_16 [oM 19 3,oB 20 .add (.t 19) (.k (rI .i64 1)),oM 3 20])))
def ic91:IC:=(.seq (rH [1] kGxIcA_16 [oX 1 (.box 25 (.t 0)),oX 2 (.move (.k (rB false)))])
 (.seq (.seq (rG kGxIcA_16 [oF 4 0 1,oL 5 4,oC 6 174 [(.t 5)],oX 7 (.un .not (.t 6)),oM 8 7,oG 9 (.faddr 1 (.t 1)) 8 false,
 oG 10 (.load none (.t 9)) 8 false,oG 11 (.len (.t 10)) 8 false,oG 12 (.bin .gtr (.t 11) (.k (rI .i64 24))) 8 false,oP 13 8 12]) (.cond (.t 13)
 (.seq (rG kGxIcA_16 [oX 2 (.move (.k (rB false)))]) .ret) .skip))
 (.seq (.seq (rG kGxIcA_16 [oX 3 (.move (.k (rI .i64 0)))]) (.block 0 (.loop ic91l0)))
 (.seq (rG kGxIcA_16 [oX 2 (.move (.k (rB true)))]) .ret))))
def ir91:List IRes:=[.tmp 2]
theorem ie91:cmpFunc Tryz.prog ⟨[],[]⟩ Tryz.f251 [0,1,13,3,18,27,2] = some ic91:=by kernel_rfl
theorem ig91:cmpRes Tryz.prog Tryz.f251.results.toList = some ir91:=by kernel_rfl
abbrev ks168 (t0 t1 t2 t28 t32 t31 t33 t30 t8 t61 t6:T) (O:List (Nat × Box)) (U:List (Nat × Fx.Tok)) (H:FHp):S:=st [(0,t0),(1,t1),(2,t2),(28,t28),(32,t32),(31,t31),(33,t33),(30,t30),(8,t8),(61,t61),(6,t6)] O U H
def ic168l0:IC:=(.seq (rG kGxIcA_17 [oB 33 .lss (.t 32) (.t 31)]) (.seq (.cond (.t 33) .skip (.exit 0))
 (.seq (.block 1 (.seq (rG kGxIcA_17 [oA 34 1 30 32,oL 35 34,oM 8 35])
 (.seq (rG kGxIcA_17 [oM 36 8,oB 37 .lss (.t 36) (.k (rI .u8 97)),oM 38 37,oG 39 (.move (.t 8)) 38 false,
 oG 40 (.bin .gtr (.t 39) (.k (rI .u8 122))) 38 false,oP 41 38 40,oM 42 41,oG 43 (.move (.t 8)) 42 true,oG 44 (.bin .lss (.t 43) (.k (rI .u8 65))) 42 true,
 oG 45 (.move (.t 44)) 42 true,oG 46 (.move (.t 8)) 45 false,oG 47 (.bin .gtr (.t 46) (.k (rI .u8 90))) 45 false,oG 48 (.pick (.t 45) (.k (rB true))
 (.t 47)) 42 true,oQ 49 42 48,oM 50 49,oG 51 (.move (.t 8)) 50 true,oG 52 (.bin .lss (.t 51) (.k (rI .u8 48))) 50 true,oG 53 (.move (.t 52)) 50 true,
 oG 54 (.move (.t 8)) 53 false,oG 55 (.bin .gtr (.t 54) (.k (rI .u8 57))) 53 false,oG 56 (.pick (.t 53) (.k (rB true)) (.t 55)) 50 true,oQ 57 50 56,oM 58 57,
 oG 59 (.move (.t 8)) 58 true,oG 60 (.bin .neq (.t 59) (.k (rI .u8 95))) 58 true,oQ 61 58 60]) (.cond (.t 61)
 (.seq (rG kGxIcA_17 [oX 6 (.move (.k (rB false)))]) .ret) .skip))))
 (rG kGxIcA_17 [oB 62 .add (.t 32) (.k (rI .i64 1)),oM 32 62]))))
def ic168:IC:=(.seq (rG kGxIcA_17 [oX 6 (.move (.k (rB false)))])
 (.seq (.seq (rG kGxIcA_17 [oM 9 0,oX 10 (.slen (.t 9)),oB 11 .eql (.t 10) (.k (rI .i64 0)),oM 12 11,
 oG 13 (.move (.t 0)) 12 false,oG 14 (.slen (.t 13)) 12 false,oG 15 (.bin .gtr (.t 14) (.k (rI .i64 120))) 12 false,oP 16 12 15,oM 17 16,
 oG 18 (.move (.t 0)) 17 false,oG 19 (.sindex (.t 18) (.k (rI .i64 0))) 17 false,oG 20 (.move (.t 1)) 17 false,oG 21 (.bin .lss (.t 19) (.t 20)) 17 false,
 oP 22 17 21,oM 23 22,oG 24 (.move (.t 0)) 23 false,oG 25 (.sindex (.t 24) (.k (rI .i64 0))) 23 false,oG 26 (.move (.t 2)) 23 false,oG 27 (.bin .gtr (.t 25)
 (.t 26)) 23 false,oP 28 23 27]) (.cond (.t 28) (.seq (rG kGxIcA_17 [oX 6 (.move (.k (rB false)))]) .ret) .skip))
 (.seq (.seq (rG kGxIcA_17 [oM 29 0,oX 30 (.bytes (.t 29)),oN 31 30,oX 32 (.move (.k (rI .i64 0)))])
 (.block 0 (.loop ic168l0))) (.seq (rG kGxIcA_17 [oX 6 (.move (.k (rB true)))]) .ret))))
def ir168:List IRes:=[.tmp 6]
theorem ie168:cmpFunc Tryz.prog ⟨[],[]⟩ Tryz.f259 [0,1,2,28,32,31,33,30,8,61,6] = some ic168:=by kernel_rfl
theorem ig168:cmpRes Tryz.prog Tryz.f259.results.toList = some ir168:=by kernel_rfl
abbrev ks169 (t0 t8 t7 t9 t1 t5 t16 t4:T) (O:List (Nat × Box)) (U:List (Nat × Fx.Tok)) (H:FHp):S:=st [(0,t0),(8,t8),(7,t7),(9,t9),(1,t1),(5,t5),(16,t16),(4,t4)] O U H
def ic169l0:IC:=(.seq (rG kGxIcA_18 [oB 9 .lss (.t 8) (.t 7)]) (.seq (.cond (.t 9) .skip (.exit 0))
 (.seq (.block 1 (.seq (rG kGxIcA_18 [oM 10 8,oM 5 10]) (.seq (rG kGxIcA_18 [oM 11 1,oM 12 0,oM 13 5,oA 14 4 12 13,
 oR 15 4 14,oX 16 (.call (.t 11) [(.t 15)])]) (.cond (.t 16) (.seq (rG kGxIcA_18 [oM 17 5,oM 4 17]) .ret) .skip))))
 (rG kGxIcA_18 [oB 18 .add (.t 8) (.k (rI .i64 1)),oM 8 18]))))
def ic169:IC:=(.seq (rG kGxIcA_18 [oX 4 (.move (.k (rI .i64 0)))]) (.seq (.seq (rG kGxIcA_18 [oM 6 0,oN 7 6,
 oX 8 (.move (.k (rI .i64 0)))]) (.block 0 (.loop ic169l0))) (.seq (rG kGxIcA_18 [oX 4 (.move (.k (rI .i64 (-1))))]) .ret)))
def ir169:List IRes:=[.tmp 4]
theorem ie169:cmpFunc Tryz.prog ⟨[(16,none)],[]⟩ Tryz.f271 [0,8,7,9,1,5,16,4] = some ic169:=by kernel_rfl
theorem ig169:cmpRes Tryz.prog Tryz.f271.results.toList = some ir169:=by kernel_rfl
def ic222:IC:=(.seq (rG kGxIcA_7 [oX 2 (.move (.k (rB false)))]) (.seq (rG kGxIcA_7 [oM 3 0,oB 4 .geq (.t 3) (.k (rI .u8 97)),oM 5 4,
 oG 6 (.move (.t 0)) 5 true,oG 7 (.bin .leq (.t 6) (.k (rI .u8 122))) 5 true,oQ 8 5 7,oM 9 8,oG 10 (.move (.t 0)) 9 false,oG 11 (.bin .geq (.t 10)
 (.k (rI .u8 65))) 9 false,oG 12 (.move (.t 11)) 9 false,oG 13 (.move (.t 0)) 12 true,oG 14 (.bin .leq (.t 13) (.k (rI .u8 90))) 12 true,oG 15 (.pick (.t 12)
 (.t 14) (.k (rB false))) 9 false,oP 16 9 15,oM 17 16,oG 18 (.move (.t 0)) 17 false,oG 19 (.bin .geq (.t 18) (.k (rI .u8 48))) 17 false,
 oG 20 (.move (.t 19)) 17 false,oG 21 (.move (.t 0)) 20 true,oG 22 (.bin .leq (.t 21) (.k (rI .u8 57))) 20 true,oG 23 (.pick (.t 20) (.t 22)
 (.k (rB false))) 17 false,oP 24 17 23,oM 25 24,oG 26 (.move (.t 0)) 25 false,oG 27 (.bin .eql (.t 26) (.k (rI .u8 95))) 25 false,oP 28 25 27,
 oM 2 28]) .ret))
def ir222:List IRes:=[.tmp 2]
theorem ie222:cmpFunc Tryz.prog ⟨[],[]⟩ Tryz.f296 [0,2] = some ic222:=by kernel_rfl
theorem ig222:cmpRes Tryz.prog Tryz.f296.results.toList = some ir222:=by kernel_rfl
def ic203:IC:=(.seq (rG kGxIcA_7 [oX 2 (.move (.k (rB false)))]) (.seq (rG kGxIcA_7 [oM 3 0,
 oC 4 248 [(.t 3),(.k (rI .u8 65)),(.k (rI .u8 90))],oM 2 4]) .ret))
def ir203:List IRes:=[.tmp 2]
theorem ie203:cmpFunc Tryz.prog ⟨[],[]⟩ Tryz.f297 [0,2] = some ic203:=by kernel_rfl
theorem ig203:cmpRes Tryz.prog Tryz.f297.results.toList = some ir203:=by kernel_rfl
end Go.Proofs.YtiomojlcnemnhaaGreatDoor

namespace Go.Ped
structure Val where
  k:Int
  n:Int
  s:List UInt8
  deriving DecidableEq,Inhabited
structure Tm where
  v:List UInt8
  x:Val
  deriving DecidableEq,Inhabited
abbrev Name:=List UInt8
def us:Name:=[95]
def isVar (v:Name):Bool:=v != [] && v != us
def zeroV:Val:=⟨0,0,[]⟩
def varsOn:List Name→List Name→List Name
  | acc,[]=>acc
  | acc,v :: l=>varsOn (if isVar v && !acc.contains v then acc++[v] else acc) l
theorem varsOn_append:∀ (acc l m:List Name),varsOn acc (l++m) = varsOn (varsOn acc l) m
  | _,[],_=>rfl
  | acc,v :: l,m=>by simp only [List.cons_append,varsOn]; exact varsOn_append _ l m
theorem mem_varsOn:∀ {acc l:List Name} {v:Name},v∈varsOn acc l↔v∈acc∨(isVar v = true∧v∈l)
  | acc,[],v=>by simp [varsOn]
  | acc,u :: l,v=>by
    simp only [varsOn]
    split
    · rename_i h
      simp only [Bool.and_eq_true] at h
      rw [mem_varsOn,List.mem_append,List.mem_singleton,List.mem_cons]
      constructor
      · rintro ((h1 | rfl) | h1)
        · exact .inl h1
        · exact .inr ⟨h.1,.inl rfl⟩
        · exact .inr ⟨h1.1,.inr h1.2⟩
      · rintro (h1 | ⟨h1,rfl | h2⟩)
        · exact .inl (.inl h1)
        · exact .inl (.inr rfl)
        · exact .inr ⟨h1,h2⟩
    · rename_i h
      rw [mem_varsOn,List.mem_cons]
      constructor
      · rintro (h1 | h1)
        · exact .inl h1
        · exact .inr ⟨h1.1,.inr h1.2⟩
      · rintro (h1 | ⟨h1,rfl | h2⟩)
        · exact .inl h1
        · simp only [h1,Bool.true_and,Bool.not_eq_true',List.contains_eq_mem,decide_eq_false_iff_not,Classical.not_not] at h
          exact .inl h
        · exact .inr ⟨h1,h2⟩
def bindOf (out:List Tm) (v:Name):Option Val:=(out.find? (·.v == v)).map (·.x)
section
variable (valOk:Val→Bool)
end
end Go.Ped

namespace Go.Ped
structure Pr where
  v:Name
  t:Tm
  deriving DecidableEq,Inhabited
def keys (c:List Pr):List Name:=c.map (·.v)
def nextOf (c:List Pr) (v:Name):Option Tm:=(c.find? (·.v == v)).map (·.t)
def endOf:List Pr→Tm→Tm
  | [],t=>t
  | p :: c,t=>if t.v = p.v then endOf c p.t else endOf c t
def putS (s:List Pr) (t:Tm):Tm:=if t.v = []∨t.v = us then t else match s.find? (·.v == t.v) with | some p=>p.t | none=>t
def Tm.bare (t:Tm):Prop:=t.v≠[]→t.x = zeroV
inductive Good:List Pr→Prop
  | nil:Good []
  | snoc {c:List Pr} {v:Name} {t:Tm} (h:Good c) (h1:v≠[]) (h2:v≠us) (h3:v ∉ keys c) (h4:t.v ∉ keys c) (h5:t.v≠v) (h6:t.bare):Good (c++[⟨v,t⟩])
end Go.Ped

namespace Go.Proofs.YtiomojlcnemnhaaGreatDoor
open Go.Fx Go.RowKit
variable {G:World→Prop}
theorem m113 (b:Bool):Meets Tryz.prog G 187 [.one (cB b)] (.x (.one (cI .i64 (if b then 0 else 40)))):=by
  refine meets Tryz.func187 ie113 ig113 (Nat.le_of_ble_eq_true rfl) ?_
  simp [ic113,ir113]
def okN (n:Int):Bool:=decide (n≥97) && decide (n≤122) || decide (n≥65) && decide (n≤90) || decide (n≥48) && decide (n≤57) || n == 95
theorem m222 (n:Int):Meets Tryz.prog G 296 [.one (cI .u8 n)] (.x (.one (cB (okN n)))):=by
  refine meets Tryz.func296 ie222 ig222 (Nat.le_of_ble_eq_true rfl) ?_
  simp [ic222,ir222,okN]
  omega
def valOk (k n:Int) (s:List UInt8):Bool:=if k = 1 then s == [] else decide (k = 2) && decide (n = 0) && decide (s.length≤200)
theorem m92 (k n:Int) (s:List UInt8):Meets Tryz.prog G 204 [.agg [cI .i8 k,cI .i64 n,cS (bs s)]] (.x (.one (cI .i64 (if valOk k n s then 0 else 10)))):=by
  refine meets Tryz.func204 ie92 ig92 (Nat.le_of_ble_eq_true rfl) ?_
  simp [ic92,ir92,valOk]
  grind
theorem m29 (k n:Int) (s:List UInt8):Meets Tryz.prog G 243 [.agg [cI .i8 k,cI .i64 n,cS (bs s)]] (.x (.one (cI .i64 (if valOk k n s then 0 else 10)))):=by
  refine meets Tryz.func243 ie29 ig29 (Nat.le_of_ble_eq_true rfl) ?_
  simp [ic29,ir29,valOk]
  grind
def okB (b:UInt8):Bool:=okN b.toNat
def wordOk (a z:Int):List UInt8→Bool
  | []=>false
  | b :: l=>decide ((b :: l).length≤120) && decide (a≤b.toNat) && decide ((b.toNat:Int)≤z) && okB b && l.all okB
theorem m168 (s:List UInt8) (a z:Int):Meets Tryz.prog G 259 [.one (cS (bs s)),.one (cI .u8 a),.one (cI .u8 z)] (.x (.one (cB (wordOk a z s)))):=by
  refine meets Tryz.func259 ie168 ig168 (Nat.le_of_ble_eq_true rfl) ?_
  simp [ic168,ir168]
  cases s with
  | nil=>simp [wordOk]
  | cons b l =>
    have hl:(b :: l).length = l.length + 1:=rfl
    have hw:wordOk a z (b :: l) = (decide ((b :: l).length≤120) && decide (a≤b.toNat) && decide ((b.toNat:Int)≤z) && ((b :: l).drop 0).all okB):=by simp [wordOk,Bool.and_assoc]
    have h0:(b :: l)[0]? = some b:=rfl
    have hne:b :: l≠[]:=List.cons_ne_nil _ _
    generalize b :: l = L at *
    simp [h0,hne]
    refine ⟨fun hlen=>by simp [hw]; omega,fun hlen=>⟨by omega,fun hb=>by simp [hw]; omega,fun hb=>⟨by omega,fun hz=>by simp [hw]; omega,fun hz=>⟨by unfold maxLen; omega,?_⟩⟩⟩⟩
    refine w_loopK (fun n σ=>∃ (i:Nat) (t28 t33 t8 t61:T),i + n = L.length∧wordOk a z L = (L.drop i).all okB∧σ = ks168 (tS L) (tI .u8 a) (tI .u8 z) t28 (tI .i64 i) (tI .i64 L.length) t33 (tL (L.map byteRow)) t8 t61 (tB false) [] [] F0)
      L.length ⟨0,_,_,_,_,by simp,by rw [hw]; simp; omega,rfl⟩ ?_
    rintro n σ1 K hK ⟨i,t28,t33,t8,t61,hi,hd,rfl⟩
    obtain hn | hn:=Nat.lt_or_ge i L.length
    · obtain ⟨c,hc,hdr⟩:=at_list hn
      rw [hdr] at hd
      have hI:∀ t28 t33 t8 t61,wordOk a z L = (L.drop (i + 1)).all okB→K (ks168 (tS L) (tI .u8 a) (tI .u8 z) t28 (tI .i64 (i + 1)) (tI .i64 L.length) t33 (tL (L.map byteRow)) t8 t61 (tB false) [] [] F0) :=
        fun t28 t33 t8 t61 h=>hK _ (n - 1) (by omega) ⟨i + 1,t28,t33,t8,t61,by omega,h,rfl⟩
      clear hK
      simp only [List.all_cons] at hd
      have hb:okB c = true∨okB c = false:=by cases okB c <;> simp
      simp [ic168l0,hn,hc,byteRow,wrap_next hn (by omega)]
      repeat' (first | apply And.intro | intro _)
      all_goals first
        | (apply hI; grind [okB,okN])
        | grind [okB,okN]
    · simp [ic168l0,Nat.not_lt.mpr hn,hd,List.drop_eq_nil_of_le hn]
def writtenOk (a z:Int):List UInt8→Bool
  | []=>false
  | b :: l=>decide ((b :: l).length≤120) && decide (a≤b.toNat) && decide ((b.toNat:Int)≤z) && l.all okB
theorem m201 (s:List UInt8) (a z:Int):Meets Tryz.prog G 248 [.one (cS (bs s)),.one (cI .u8 a),.one (cI .u8 z)] (.x (.one (cB (writtenOk a z s)))):=by
  refine meets Tryz.func248 ie201 ig201 (Nat.le_of_ble_eq_true rfl) ?_
  cases s with
  | nil=>simp [ic201,ir201,writtenOk]
  | cons b l =>
    have hl:(b :: l).length = l.length + 1:=rfl
    have hw:writtenOk a z (b :: l) = (decide ((b :: l).length≤120) && decide (a≤b.toNat) && decide ((b.toNat:Int)≤z) && ((b :: l).drop 1).all okB):=by simp [writtenOk]
    have h0:(b :: l)[0]? = some b:=rfl
    have hne:b :: l≠[]:=List.cons_ne_nil _ _
    generalize b :: l = L at *
    simp [ic201,ir201,h0,hne]
    repeat' (first | apply And.intro | intro _)
    all_goals first
      | omega
      | (simp [hw]; omega)
      | skip
    refine w_loopK (fun n σ=>∃ (i:Nat) (t27 t31 t38:T),1≤i∧i + n = L.length∧writtenOk a z L = (L.drop i).all okB∧σ = ks201 (tS L) (tI .u8 a) (tI .u8 z) t27 (tI .i64 i) t31 t38 (tB false) [] [] F0)
      l.length ⟨1,_,_,_,by simp,by omega,by rw [hw]; simp; omega,rfl⟩ ?_
    rintro n σ1 K hK ⟨i,t27,t31,t38,h1,hi,hd,rfl⟩
    obtain hn | hn:=Nat.lt_or_ge i L.length
    · obtain ⟨c,hc,hdr⟩:=at_list hn
      rw [hdr] at hd
      have hI:∀ t27 t31 t38,writtenOk a z L = (L.drop (i + 1)).all okB→K (ks201 (tS L) (tI .u8 a) (tI .u8 z) t27 (tI .i64 (i + 1)) t31 t38 (tB false) [] [] F0) :=
        fun t27 t31 t38 h=>hK _ (n - 1) (by omega) ⟨i + 1,t27,t31,t38,by omega,by omega,h,rfl⟩
      clear hK
      simp only [List.all_cons] at hd
      simp [ic201l0,hn,hc]
      refine r_call 296 true _ _ (m222 _) rfl rfl rfl rfl ?_
      simp [wrap_next hn (by omega)]
      repeat' (first | apply And.intro | intro _)
      all_goals first
        | (apply hI; grind [okB])
        | grind [okB]
    · simp [ic201l0,Nat.not_lt.mpr hn,hd,List.drop_eq_nil_of_le hn]
theorem written_word (a z:Int) (s:List UInt8) (h:∀ b:UInt8,a≤b.toNat→(b.toNat:Int)≤z→okB b = true):writtenOk a z s = wordOk a z s:=by
  cases s with
  | nil=>rfl
  | cons b l =>
    unfold writtenOk wordOk
    by_cases h1:a≤b.toNat
    · by_cases h2:(b.toNat:Int)≤z
      · simp [h1,h2,h b h1 h2]
      · simp [h2]
    · simp [h1]
theorem m203 (s:List UInt8):Meets Tryz.prog G 297 [.one (cS (bs s))] (.x (.one (cB (wordOk 65 90 s)))):=by
  rw [← written_word _ _ _ (fun b h1 h2=>by simp [okB,okN]; omega)]
  refine meets Tryz.func297 ie203 ig203 (Nat.le_of_ble_eq_true rfl) ?_
  simp [ic203,ir203]
  refine r_call 248 true _ _ (m201 _ _ _) rfl rfl rfl rfl ?_
  simp
def termOk (v:List UInt8) (k n:Int) (s:List UInt8):Bool:=if v = [] then valOk k n s else (decide (v = [95]) || wordOk 65 90 v) && decide (k = 0) && decide (n = 0) && decide (s = [])
theorem m117 (v:List UInt8) (k n:Int) (s:List UInt8):Meets Tryz.prog G 208 [.agg [cS (bs v),cI .i8 k,cI .i64 n,cS (bs s)]] (.x (.one (cI .i64 (if termOk v k n s then 0 else 40)))):=by
  refine meets Tryz.func208 ie117 ig117 (Nat.le_of_ble_eq_true rfl) ?_
  simp [ic117,ir117]
  repeat' (first
    | apply And.intro
    | intro _
    | (refine r_callF (.x (.one (cB false))) rfl ?_; try simp)
    | (refine r_call 259 true _ _ (m168 _ _ _) rfl rfl rfl rfl ?_; try simp)
    | (refine r_call 204 true _ _ (m92 _ _ _) rfl rfl rfl rfl ?_; try simp)
    | (refine r_call 187 true _ _ (m113 _) rfl rfl rfl rfl ?_; try simp))
  all_goals grind [termOk]
theorem m157 (v:List UInt8) (k n:Int) (s:List UInt8):Meets Tryz.prog G 250 [.agg [cS (bs v),cI .i8 k,cI .i64 n,cS (bs s)]] (.x (.one (cB (termOk v k n s)))):=by
  refine meets Tryz.func250 ie157 ig157 (Nat.le_of_ble_eq_true rfl) ?_
  simp [ic157,ir157]
  repeat' (first
    | apply And.intro
    | intro _
    | (refine r_callF (.x (.one (cB false))) rfl ?_; try simp)
    | (refine r_call 297 true _ _ (m203 _) rfl rfl rfl rfl ?_; try simp)
    | (refine r_call 243 true _ _ (m29 _ _ _) rfl rfl rfl rfl ?_; try simp))
  all_goals grind [termOk]
end Go.Proofs.YtiomojlcnemnhaaGreatDoor

namespace Go.Proofs.YtiomojlcnemnhaaGreatDoor
open Go.Fx Go.RowKit
variable {G:World→Prop}
def kwOk (s:List UInt8):Bool :=
  s == [110,111,116] || s == [99,111,117,110,116] || s == [115,117,109] || s == [109,105,110] || s == [109,97,120] || s == [108,101,110] || s == [99,104,97,114,115] || s == [98,97,99,107]
def nameOk (s:List UInt8):Bool:=!kwOk s && wordOk 97 122 s
theorem m202 (s:List UInt8):Meets Tryz.prog G 249 [.one (cS (bs s))] (.x (.one (cB (kwOk s)))):=by
  refine meets Tryz.func249 ie202 ig202 (Nat.le_of_ble_eq_true rfl) ?_
  simp [ic202,ir202]
  grind [kwOk]
theorem m114 (s:List UInt8):Meets Tryz.prog G 184 [.one (cS (bs s))] (.x (.one (cB (nameOk s)))):=by
  refine meets Tryz.func184 ie114 ig114 (Nat.le_of_ble_eq_true rfl) ?_
  simp [ic114,ir114]
  repeat' (first
    | apply And.intro
    | intro _
    | (refine r_call 259 true _ _ (m168 _ _ _) rfl rfl rfl rfl ?_; try simp))
  all_goals grind [kwOk,nameOk]
theorem m156 (s:List UInt8):Meets Tryz.prog G 174 [.one (cS (bs s))] (.x (.one (cB (nameOk s)))):=by
  refine meets Tryz.func174 ie156 ig156 (Nat.le_of_ble_eq_true rfl) ?_
  simp [ic156,ir156]
  have hw:=written_word 97 122 s (fun b h1 h2=>by simp [okB,okN]; omega)
  repeat' (first
    | apply And.intro
    | intro _
    | (refine r_callF (.x (.one (cB false))) rfl ?_; try simp)
    | (refine r_call 248 true _ _ (m201 _ _ _) rfl rfl rfl rfl ?_; try simp)
    | (refine r_call 249 true _ _ (m202 _) rfl rfl rfl rfl ?_; try simp))
  all_goals grind [nameOk]
theorem m116 (v:List UInt8) (k n:Int) (s:List UInt8):Meets Tryz.prog G 207 [.agg [cS (bs v),cI .i8 k,cI .i64 n,cS (bs s)]] (.x (.one (cB (!termOk v k n s)))):=by
  refine meets Tryz.func207 ie116 ig116 (Nat.le_of_ble_eq_true rfl) ?_
  simp [ic116,ir116]
  refine r_call 208 true _ _ (m117 _ _ _ _) rfl rfl rfl rfl ?_
  simp
  grind
end Go.Proofs.YtiomojlcnemnhaaGreatDoor

namespace Go.Proofs.YtiomojlcnemnhaaGreatDoor
open Go.Fx Go.RowKit Go.Ped
variable {G:World→Prop}
def _root_.Go.Ped.Val.row (x:Val):List C:=[cI .i8 x.k,cI .i64 x.n,cS (bs x.s)]
def _root_.Go.Ped.Tm.row (t:Tm):List C:=[cS (bs t.v),cI .i8 t.x.k,cI .i64 t.x.n,cS (bs t.x.s)]
def _root_.Go.Ped.Tm.ok (t:Tm):Bool:=termOk t.v t.x.k t.x.n t.x.s
def _root_.Go.Ped.Val.ok (x:Val):Bool:=valOk x.k x.n x.s
def idxOr {α:Type} (p:α→Bool):Nat→List α→Int
  | _,[]=>-1
  | i,t :: l=>if p t then i else idxOr p (i + 1) l
theorem idxOr_nonneg {α:Type} (p:α→Bool):∀ (l:List α) (i:Nat),(0≤idxOr p i l↔l.any p = true)
  | [],i=>by simp [idxOr]
  | t :: l,i=>by
    unfold idxOr
    by_cases h:p t = true
    · simp [h]
    · simp [h,idxOr_nonneg p l (i + 1)]
theorem m169 {H:FHp} {fv:A} (hfv:fv.only farKey (fun k=>H.toks k≠none)) (p:List C→Bool) (l sp:List (List C)) (hl:l.length≤maxLen) (hs:∀ r∈l,r.length = 4)
    (hf:∀ r∈l,MeetsV Tryz.prog G fv [.agg (r.map A.c)] (hp [] [] H) (rB (p r)) (hp [] [] H)) :
    MeetsH Tryz.prog G 271 [.one (.c (.sl l sp)),.one fv] (hp [] [] H) (rI .i64 (idxOr p 0 l)) (hp [] [] H):=by
  refine meetsH [] Tryz.func271 ie169 ig169 (Nat.le_of_ble_eq_true rfl) (by simp) (by simp) ?_ (by simp) (by simp) (sameKeys_refl H) (by simp) (by simp) ?_
  · simp
    exact A.only_mono (fun _=>far_not_own) (fun _ h=>h) hfv
  simp [ic169,ir169]
  refine w_loopK (fun n σ=>∃ (i:Nat) (t9 t5 t16:T),i + n = l.length∧idxOr p 0 l = idxOr p i (l.drop i)∧σ = ks169 (.k true (.x (.one (.c (.sl l sp))))) (tI .i64 i) (tI .i64 l.length) t9 (.k true (.x (.one fv))) t5 t16 (tI .i64 0) [] [] H)
    l.length ⟨0,_,_,_,by simp,by simp,rfl⟩ ?_
  rintro n σ1 K hK ⟨i,t9,t5,t16,hi,hd,rfl⟩
  obtain hn | hn:=Nat.lt_or_ge i l.length
  · obtain ⟨c,hc,hdr⟩:=at_list hn
    rw [hdr] at hd
    have hI:∀ t9 t5 t16,idxOr p 0 l = idxOr p (i + 1) (l.drop (i + 1))→K (ks169 (.k true (.x (.one (.c (.sl l sp))))) (tI .i64 (i + 1)) (tI .i64 l.length) t9 (.k true (.x (.one fv))) t5 t16 (tI .i64 0) [] [] H) :=
      fun t9 t5 t16 h=>hK _ (n - 1) (by omega) ⟨i + 1,t9,t5,t16,by omega,h,rfl⟩
    clear hK
    obtain ⟨_,rfl⟩:=List.getElem?_eq_some_iff.1 hc
    have h4:=hs l[i] (List.getElem_mem hn)
    have htk:(l[i].map A.c).take 4 = l[i].map A.c:=List.take_of_length_le (by simp [h4])
    simp [ic169l0,hn,h4]
    refine r_call0 (hf l[i] (List.getElem_mem hn)) rfl rfl rfl (by simp [htk]) (by simp) (by simp) ?_
    simp [wrap_next hn (by unfold maxLen at hl; omega)]
    rw [show ∀ t r,idxOr p i (t :: r) = if p t then (i:Int) else idxOr p (i + 1) r from fun _ _=>rfl] at hd
    refine ⟨fun h=>?_,fun h=>?_⟩
    · rw [if_pos h] at hd
      rw [hd]
      exact ret_st (by simp) (by simp) (by simp) (by simp) (by simp) (by simp)
    · rw [if_neg (by simp [h])] at hd; exact hI _ _ _ hd
  · simp [ic169l0,Nat.not_lt.mpr hn]
    rw [hd,List.drop_eq_nil_of_le hn]
    exact ret_st (by simp) (by simp [idxOr]) (by simp) (by simp) (by simp) (by simp)
theorem m115 {H:FHp} {fv:A} (hfv:fv.only farKey (fun k=>H.toks k≠none)) (p:List C→Bool) (l sp:List (List C)) (hl:l.length≤maxLen) (hs:∀ r∈l,r.length = 4)
    (hf:∀ r∈l,MeetsV Tryz.prog G fv [.agg (r.map A.c)] (hp [] [] H) (rB (p r)) (hp [] [] H)) :
    MeetsH Tryz.prog G 206 [.one (.c (.sl l sp)),.one fv] (hp [] [] H) (rB (l.any p)) (hp [] [] H):=by
  refine meetsH [] Tryz.func206 ie115 ig115 (Nat.le_of_ble_eq_true rfl) (by simp) (by simp) ?_ (by simp) (by simp) (sameKeys_refl H) (by simp) (by simp) ?_
  · simp
    exact A.only_mono (fun _=>far_not_own) (fun _ h=>h) hfv
  simp [ic115,ir115]
  refine r_call0 (MeetsV.of_fun (m169 hfv p l sp hl hs hf)) rfl rfl rfl (by simp) (by simp) (by simp) ?_
  simp
  refine ret_st (by simp) ?_ (by simp) (by simp) (by simp) (by simp)
  have:=idxOr_nonneg p l 0
  simp
  rw [show (l.any p) = decide (0≤idxOr p 0 l) from by rw [Bool.eq_iff_iff,decide_eq_true_iff,this]]
  exact X.fits_refl _
def atomOk (p:List UInt8) (l:List Tm):Bool:=nameOk p && decide (l.length≤24) && l.all Tm.ok
def _root_.Go.Ped.Tm.of:List C→Tm
  | [.v (.string a),.v (.int _ k),.v (.int _ n),.v (.string b)]=>⟨a.data.toList,⟨k,n,b.data.toList⟩⟩
  | _=>⟨[],⟨0,0,[]⟩⟩
@[simp] theorem _root_.Go.Ped.Tm.of_row (t:Tm):Tm.of t.row = t:=by simp [Tm.row,Tm.of]
@[simp] theorem _root_.Go.Ped.Tm.row_length (t:Tm):t.row.length = 4:=rfl
theorem any_term {f:FuncId} {p:Tm→Bool} (hf:∀ t,Meets Tryz.prog G f [.agg t.row] (.x (.one (cB (p t))))) (l:List Tm) (sp:List (List C)) (hl:l.length≤maxLen) :
    MeetsV Tryz.prog G (fnA 206) [.one (.c (.sl (l.map Tm.row) sp)),.one (fnA f)] (hp [] [] F0) (rB (l.any p)) (hp [] [] F0):=by
  have h:=m115 (G:=G) (H:=F0) (fv:=fnA f) trivial (fun r=>p (Tm.of r)) (l.map Tm.row) sp (by simpa using hl) (by simp) (fun r hr=>by
    obtain ⟨t,_,rfl⟩:=List.mem_map.1 hr
    simpa [CX.open,CR.open] using plainV (hf t) F0)
  have e:(l.map Tm.row).any (fun r=>p (Tm.of r)) = l.any p:=by simp [List.any_map,Function.comp_def]
  rw [e] at h
  exact MeetsV.of_fun h
theorem m44 (p:List UInt8) (l:List Tm) (sp:List (List C)) (hl:l.length≤maxLen) :
    Meets Tryz.prog G 121 [.agg [cS (bs p),.sl (l.map Tm.row) sp]] (.x (.one (cI .i64 (if atomOk p l then 0 else 40)))):=by
  refine meets Tryz.func121 ie44 ig44 (Nat.le_of_ble_eq_true rfl) ?_
  have h116:∀ t:Tm,Meets Tryz.prog G 207 [.agg t.row] (.x (.one (cB (!t.ok)))):=fun t=>m116 t.v t.x.k t.x.n t.x.s
  have hany:(l.any fun t=>!t.ok) = !l.all Tm.ok:=by simp [List.any_eq_not_all_not]
  simp [ic44,ir44]
  repeat' (first
    | apply And.intro
    | intro _
    | (refine r_callF (.x (.one (cB false))) rfl ?_; try simp)
    | (refine r_callVF (rB false) rfl ?_; try simp)
    | (refine r_call 184 true _ _ (m114 _) rfl rfl rfl rfl ?_; try simp)
    | (refine r_call0 (any_term h116 l sp hl) rfl rfl rfl (by simp) (by simp) (by simp) ?_; try simp)
    | (refine r_call 187 true _ _ (m113 _) rfl rfl rfl rfl ?_; try simp))
  all_goals grind [atomOk]
end Go.Proofs.YtiomojlcnemnhaaGreatDoor

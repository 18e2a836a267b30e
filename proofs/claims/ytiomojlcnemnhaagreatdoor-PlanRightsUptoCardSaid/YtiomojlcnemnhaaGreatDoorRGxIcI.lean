import Derived.Test.YtiomojlcnemnhaaGreatDoorRFxZ
import Derived.Test.YtiomojlcnemnhaaGreatDoorProg
import Derived.KernelRfl
namespace Go.Proofs.YtiomojlcnemnhaaGreatDoor
open Go.Fx
@[simp] abbrev kGxIcI_0:List Nat:=[0,2]
@[simp] abbrev kGxIcI_1:List Nat:=[0,12,11,13,10,6,16,3,25,4,55,2]
@[simp] abbrev kGxIcI_2:List Nat:=[1,9,8,10,7,0,6,16,4]
@[simp] abbrev kGxIcI_3:List Nat:=[0,1,2]
@[simp] abbrev kGxIcI_4:List Nat:=[1,8,7,9,6,0,5,15]
@[simp] abbrev kGxIcI_5:List Nat:=[0,1,17,2]
@[simp] abbrev kGxIcI_6:List Nat:=[0,19,18,20,17,1,8,26,6,5,4]
@[simp] abbrev kGxIcI_7:List Nat:=[1,3,0,5,27,4]
@[simp] abbrev kGxIcI_8:List Nat:=[0,1,4]
def ic50:IC:=(.seq (rG kGxIcI_0 [oX 2 (.move (.k (.x (.one .nil))))]) (.seq (rG kGxIcI_0 [oM 3 0,oX 4 (.call (.k (rF 94)) [(.t 3)]),
 oX 5 (.nilchk (.t 4)),oF 6 0 5,oL 7 6,oM 2 7]) .ret))
def ir50:List IRes:=[.tmp 2]
theorem ie50:cmpFunc Tryz.prog ⟨[(4,none)],[]⟩ Tryz.f63 [0,2] = some ic50:=by kernel_rfl
theorem ig50:cmpRes Tryz.prog Tryz.f63.results.toList = some ir50:=by kernel_rfl
def ic121l0:IC:=(.seq (rG kGxIcI_1 [oB 13 .lss (.t 12) (.t 11)]) (.seq (.cond (.t 13) .skip (.exit 0))
 (.seq (.block 1 (.seq (rH [6] kGxIcI_1 [oA 14 16 10 12,oR 15 16 14,
 oX 6 (.zero 107 [(.c (.v (.int .i8 0))),(.c (.v (.string (bs [])))),.nil,(.c (.v (.int .i8 0))),(.c (.v (.int .i8 0))),(.c (.v (.string (bs [])))),(.c (.v (.int .i8 0))),(.c (.v (.int .i64 0))),(.c (.v (.string (bs [])))),.nil,(.c (.v (.int .i8 0))),(.c (.v (.string (bs [])))),(.c (.v (.int .i8 0))),(.c (.v (.int .i64 0))),(.c (.v (.string (bs [])))),.nil]),
 oS 16 6 15]) (.block 2 (.seq (rG kGxIcI_1 [oF 17 0 6,oL 18 17,oB 19 .eql (.t 18) (.k (rI .i8 1)),oM 16 19]) (.cond (.t 16)
 (rG kGxIcI_1 [oM 20 3,oF 21 1 6,oR 22 2 21,oC 23 123 [(.t 22)],oX 24 (.call (.k (rF 188)) [(.t 20),(.t 23)])])
 (.seq (rG kGxIcI_1 [oF 26 0 6,oL 27 26,oB 28 .eql (.t 27) (.k (rI .i8 3)),oM 29 28,oG 30 (.faddr 3 (.t 6)) 29 true,
 oG 31 (.load none (.t 30)) 29 true,oG 32 (.bin .eql (.t 31) (.k (rI .i8 1))) 29 true,oQ 33 29 32,oM 25 33]) (.cond (.t 25)
 (rH [49] kGxIcI_1 [oF 34 0 4,oL 35 34,oF 36 4 6,oR 37 6 36,oC 38 189 [(.t 37)],oF 39 10 6,oR 40 6 39,oC 41 189 [(.t 40)],
 oF 42 4 6,oR 43 6 42,oC 44 190 [(.t 43)],oF 45 10 6,oR 46 6 45,oC 47 190 [(.t 46)],
 oX 48 (.build [(.c (.v (.string (bs [])))),(.c (.v (.string (bs [])))),.nil,.nil] [(0,1,(.t 38)),(1,1,(.t 41)),(2,1,(.t 44)),(3,1,(.t 47))]),
 oX 49 (.row 234 4 [(.t 48)]),oX 50 (.app 234 4 80 (.t 35) (.t 49)),oF 51 0 4,oS 1 51 50]) .skip)))))))
 (rG kGxIcI_1 [oB 52 .add (.t 12) (.k (rI .i64 1)),oM 12 52]))))
def ic121l1:IC:=(.seq (.seq (rG kGxIcI_1 [oM 53 3,oX 54 (.clo 192 [(.t 53)] []),
 oX 55 (.call (.k (rF 191)) [(.t 4),(.t 54)])]) (.cond (.t 55) .skip (.exit 3))) (.block 4 .skip))
def ic121:IC:=(.seq (rG kGxIcI_1 [oX 2 (.move (.k (.x (.one (.c (.v (.pointer none)))))))])
 (.seq (rH [7,9] kGxIcI_1 [oX 7 (.mkmap .string 2 true),oX 8 (.build [.nil,(.c (.v (.map none)))] [(1,1,(.t 7))]),
 oX 9 (.box 203 (.t 8)),oM 3 9]) (.seq (rH [4] kGxIcI_1 [oX 4 (.zero 230 [.nil])])
 (.seq (.seq (rG kGxIcI_1 [oM 10 0,oN 11 10,oX 12 (.move (.k (rI .i64 0)))]) (.block 0 (.loop ic121l0)))
 (.seq (.block 3 (.loop ic121l1)) (.seq (rG kGxIcI_1 [oM 56 3,oM 2 56]) .ret))))))
def ir121:List IRes:=[.tmp 2]
theorem ie121:cmpFunc Tryz.prog ⟨[(24,none),(55,none)],[]⟩ Tryz.f94 [0,12,11,13,10,6,16,3,25,4,55,2] = some ic121:=by kernel_rfl
theorem ig121:cmpRes Tryz.prog Tryz.f94.results.toList = some ir121:=by kernel_rfl
def ic155l0:IC:=(.seq (rG kGxIcI_2 [oB 10 .lss (.t 9) (.t 8)]) (.seq (.cond (.t 10) .skip (.exit 0))
 (.seq (.block 1 (.seq (rG kGxIcI_2 [oA 11 1 7 9,oL 12 11,oM 6 12]) (.seq (rG kGxIcI_2 [oM 13 0,oM 14 6,
 oX 15 (.call (.k (rF 193)) [(.t 13),(.t 14)]),oX 16 (.un .not (.t 15))]) (.cond (.t 16)
 (.seq (rG kGxIcI_2 [oX 4 (.move (.k (rB false)))]) .ret) .skip)))) (rG kGxIcI_2 [oB 17 .add (.t 9)
 (.k (rI .i64 1)),oM 9 17]))))
def ic155:IC:=(.seq (rG kGxIcI_2 [oX 4 (.move (.k (rB false)))]) (.seq (.seq (rG kGxIcI_2 [oM 7 1,oN 8 7,
 oX 9 (.move (.k (rI .i64 0)))]) (.block 0 (.loop ic155l0))) (.seq (rG kGxIcI_2 [oX 4 (.move (.k (rB true)))]) .ret)))
def ir155:List IRes:=[.tmp 4]
theorem ie155:cmpFunc Tryz.prog ⟨[(15,none)],[]⟩ Tryz.f95 [1,9,8,10,7,0,6,16,4] = some ic155:=by kernel_rfl
theorem ig155:cmpRes Tryz.prog Tryz.f95.results.toList = some ir155:=by kernel_rfl
def ic28:IC:=(.seq (rH [1] kGxIcI_3 [oX 1 (.box 105 (.t 0)),oX 2 (.move (.k (.x (.one .nil))))]) (.seq (rG kGxIcI_3 [oR 3 6 1,
 oX 4 (.call (.k (rF 245)) [(.k (.x (.one .nil))),(.t 3)]),oC 5 141 [(.t 4)],oM 2 5]) .ret))
def ir28:List IRes:=[.tmp 2]
theorem ie28:cmpFunc Tryz.prog ⟨[(4,none)],[]⟩ Tryz.f166 [0,1,2] = some ic28:=by kernel_rfl
theorem ig28:cmpRes Tryz.prog Tryz.f166.results.toList = some ir28:=by kernel_rfl
def ic173l0:IC:=(.seq (rG kGxIcI_4 [oB 9 .lss (.t 8) (.t 7)]) (.seq (.cond (.t 9) .skip (.exit 0))
 (.seq (.block 1 (.seq (rG kGxIcI_4 [oA 10 1 6 8,oL 11 10,oM 5 11]) (.seq (rG kGxIcI_4 [oM 12 0,oM 13 5,
 oX 14 (.call (.k (rF 193)) [(.t 12),(.t 13)]),oX 15 (.un .not (.t 14))]) (.cond (.t 15) (.seq (rH [22] kGxIcI_4 [oM 16 0,oM 17 0,
 oX 18 (.nilchk (.t 17)),oF 19 0 18,oL 20 19,oM 21 5,oX 22 (.row 9 1 [(.t 21)]),oX 23 (.app 9 1 16 (.t 20) (.t 22)),oX 24 (.nilchk (.t 16)),oF 25 0 24,
 oS 1 25 23]) (rG kGxIcI_4 [oM 26 0,oX 27 (.nilchk (.t 26)),oF 28 1 27,oL 29 28,oM 30 5,oM 31 0,oX 32 (.nilchk (.t 31)),oF 33 0 32,
 oL 34 33,oN 35 34,⟨none,(.mapup .string true (.t 29) (.t 30) (.t 35)),none,none⟩])) .skip)))) (rG kGxIcI_4 [oB 36 .add (.t 8)
 (.k (rI .i64 1)),oM 8 36]))))
def ic173:IC:=(.seq (rG kGxIcI_4 [oM 6 1,oN 7 6,oX 8 (.move (.k (rI .i64 0)))]) (.block 0 (.loop ic173l0)))
def ir173:List IRes:=[]
theorem ie173:cmpFunc Tryz.prog ⟨[(14,none)],[]⟩ Tryz.f188 [1,8,7,9,6,0,5,15] = some ic173:=by kernel_rfl
theorem ig173:cmpRes Tryz.prog Tryz.f188.results.toList = some ir173:=by kernel_rfl
def ic174:IC:=(.seq (rH [1] kGxIcI_5 [oX 1 (.box 105 (.t 0)),oX 2 (.move (.k (rS (bs []))))]) (.seq (.seq (rG kGxIcI_5 [oF 3 0 1,
 oL 4 3,oB 5 .neq (.t 4) (.k (rI .i8 0)),oM 6 5,oG 7 (.faddr 5 (.t 1)) 6 false,oG 8 (.load none (.t 7)) 6 false,oG 9 (.len (.t 8)) 6 false,
 oG 10 (.bin .gtr (.t 9) (.k (rI .i64 0))) 6 false,oP 11 6 10,oM 12 11,oG 13 (.faddr 1 (.t 1)) 12 false,oG 14 (.faddr 0 (.t 13)) 12 false,
 oG 15 (.load none (.t 14)) 12 false,oG 16 (.bin .eql (.t 15) (.k (rS (bs [95])))) 12 false,oP 17 12 16]) (.cond (.t 17)
 (.seq (rG kGxIcI_5 [oX 2 (.move (.k (rS (bs []))))]) .ret) .skip)) (.seq (rG kGxIcI_5 [oF 18 1 1,oF 19 0 18,oL 20 19,
 oM 2 20]) .ret)))
def ir174:List IRes:=[.tmp 2]
theorem ie174:cmpFunc Tryz.prog ⟨[],[]⟩ Tryz.f189 [0,1,17,2] = some ic174:=by kernel_rfl
theorem ig174:cmpRes Tryz.prog Tryz.f189.results.toList = some ir174:=by kernel_rfl
def ic175:IC:=(.seq (rH [1] kGxIcI_3 [oX 1 (.box 105 (.t 0)),oX 2 (.move (.k (.x (.one .nil))))])
 (.seq (.region [] [.fz [1]] [0,1,2] [oX 3 (.mki 222 (.t 1)),oX 4 (.call (.k (rF 194)) [(.t 3)]),oM 2 4]) .ret))
def ir175:List IRes:=[.tmp 2]
theorem ie175:cmpFunc Tryz.prog ⟨[(4,none)],[(3,.fz [1])]⟩ Tryz.f190 [0,1,2] = some ic175:=by kernel_rfl
theorem ig175:cmpRes Tryz.prog Tryz.f190.results.toList = some ir175:=by kernel_rfl
def ic176l0:IC:=(.seq (rG kGxIcI_6 [oB 20 .lss (.t 19) (.t 18)]) (.seq (.cond (.t 20) .skip (.exit 0))
 (.seq (.block 1 (.seq (rH [8] kGxIcI_6 [oA 21 4 17 19,oR 22 4 21,
 oX 8 (.zero 234 [(.c (.v (.string (bs [])))),(.c (.v (.string (bs [])))),.nil,.nil]),oS 4 8 22]) (.seq (rG kGxIcI_6 [oM 23 1,
 oR 24 4 8,oX 25 (.call (.t 23) [(.t 24)]),oX 26 (.un .not (.t 25))]) (.cond (.t 26) (rH [29] kGxIcI_6 [oM 27 6,oR 28 4 8,
 oX 29 (.row 234 4 [(.t 28)]),oX 30 (.app 234 4 80 (.t 27) (.t 29)),oM 6 30]) .skip)))) (rG kGxIcI_6 [oB 31 .add (.t 19)
 (.k (rI .i64 1)),oM 19 31]))))
def ic176:IC:=(.seq (rG kGxIcI_6 [oX 4 (.move (.k (rB false)))]) (.seq (rG kGxIcI_6 [oM 9 0,
 oX 10 (.nilchk (.t 9)),oF 11 0 10,oL 12 11,oN 13 12,oM 5 13]) (.seq (rG kGxIcI_6 [oX 6 (.move (.k (.x (.one .nil))))])
 (.seq (.seq (rG kGxIcI_6 [oM 14 0,oX 15 (.nilchk (.t 14)),oF 16 0 15,oL 17 16,oN 18 17,oX 19 (.move (.k (rI .i64 0)))])
 (.block 0 (.loop ic176l0))) (.seq (rG kGxIcI_6 [oM 32 0,oM 33 6,oX 34 (.nilchk (.t 32)),oF 35 0 34,oS 1 35 33])
 (.seq (rG kGxIcI_6 [oM 36 6,oN 37 36,oM 38 5,oB 39 .lss (.t 37) (.t 38),oM 4 39]) .ret))))))
def ir176:List IRes:=[.tmp 4]
theorem ie176:cmpFunc Tryz.prog ⟨[(25,none)],[]⟩ Tryz.f191 [0,19,18,20,17,1,8,26,6,5,4] = some ic176:=by kernel_rfl
theorem ig176:cmpRes Tryz.prog Tryz.f191.results.toList = some ir176:=by kernel_rfl
def ic177:IC:=(.seq (rH [3] kGxIcI_7 [oX 3 (.box 234 (.t 1)),oX 4 (.move (.k (rB false)))])
 (.seq (.block 0 (.seq (rG kGxIcI_7 [oF 6 0 3,oL 7 6,oB 8 .neq (.t 7) (.k (rS (bs []))),oM 9 8,oG 10 (.move (.t 0)) 9 true,
 oG 11 (.faddr 0 (.t 3)) 9 true,oG 12 (.load none (.t 11)) 9 true,oG 13 (.call (.k (rF 193)) [(.t 10),(.t 12)]) 9 true,oG 14 (.un .not (.t 13)) 9 true,
 oQ 15 9 14,oM 16 15,oG 17 (.move (.t 0)) 16 true,oG 18 (.faddr 3 (.t 3)) 16 true,oG 19 (.load none (.t 18)) 16 true,
 oG 20 (.call (.k (rF 95)) [(.t 17),(.t 19)]) 16 true,oQ 21 16 20,oM 5 21]) (.cond (.t 5) (rH [25] kGxIcI_7 [oM 22 0,oF 23 0 3,oL 24 23,
 oX 25 (.row 9 1 [(.t 24)]),oX 26 (.call (.k (rF 188)) [(.t 22),(.t 25)])]) (.seq (rG kGxIcI_7 [oF 28 1 3,oL 29 28,oB 30 .neq (.t 29)
 (.k (rS (bs []))),oM 31 30,oG 32 (.move (.t 0)) 31 true,oG 33 (.faddr 1 (.t 3)) 31 true,oG 34 (.load none (.t 33)) 31 true,
 oG 35 (.call (.k (rF 193)) [(.t 32),(.t 34)]) 31 true,oG 36 (.un .not (.t 35)) 31 true,oQ 37 31 36,oM 38 37,oG 39 (.move (.t 0)) 38 true,
 oG 40 (.faddr 2 (.t 3)) 38 true,oG 41 (.load none (.t 40)) 38 true,oG 42 (.call (.k (rF 95)) [(.t 39),(.t 41)]) 38 true,oQ 43 38 42,oM 27 43])
 (.cond (.t 27) (rH [47] kGxIcI_7 [oM 44 0,oF 45 1 3,oL 46 45,oX 47 (.row 9 1 [(.t 46)]),oX 48 (.call (.k (rF 188)) [(.t 44),(.t 47)])])
 (.seq (rG kGxIcI_7 [oX 4 (.move (.k (rB false)))]) .ret)))))) (.seq (rG kGxIcI_7 [oX 4 (.move (.k (rB true)))]) .ret)))
def ir177:List IRes:=[.tmp 4]
theorem ie177:cmpFunc Tryz.prog ⟨[(13,none),(20,none),(26,none),(35,none),(42,none),(48,none)],[]⟩ Tryz.f192 [1,3,0,5,27,4] = some ic177:=by kernel_rfl
theorem ig177:cmpRes Tryz.prog Tryz.f192.results.toList = some ir177:=by kernel_rfl
def ic200:IC:=(.seq (rG kGxIcI_8 [oX 4 (.move (.k (rB false)))]) (.seq (rG kGxIcI_8 [oM 5 0,oX 6 (.nilchk (.t 5)),oF 7 1 6,oL 8 7,
 oM 9 1,oX 10 (.mlook .string true false [(.c (.v (.int .i64 0)))] (.t 8) (.t 9)),oB 11 .gtr (.t 10) (.k (rI .i64 0)),oM 4 11]) .ret))
def ir200:List IRes:=[.tmp 4]
theorem ie200:cmpFunc Tryz.prog ⟨[],[]⟩ Tryz.f193 [0,1,4] = some ic200:=by kernel_rfl
theorem ig200:cmpRes Tryz.prog Tryz.f193.results.toList = some ir200:=by kernel_rfl
end Go.Proofs.YtiomojlcnemnhaaGreatDoor

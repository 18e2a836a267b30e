import Derived.Test.YtiomojlcnemnhaaGreatDoorRFxZ
import Derived.Test.YtiomojlcnemnhaaGreatDoorProg
import Derived.KernelRfl
namespace Go.Proofs.YtiomojlcnemnhaaGreatDoor
open Go.Fx
@[simp] abbrev kGxIcH_0:List Nat:=[0,1,2]
@[simp] abbrev kGxIcH_1:List Nat:=[0,1,2,3,4]
@[simp] abbrev kGxIcH_2:List Nat:=[0,4,12,3,2]
@[simp] abbrev kGxIcH_3:List Nat:=[0,1,20,3,25,34,4,39,48,2]
@[simp] abbrev kGxIcH_4:List Nat:=[0,1,10,5,14,25,4]
@[simp] abbrev kGxIcH_5:List Nat:=[0,1,4]
@[simp] abbrev kGxIcH_6:List Nat:=[0,1,10,5,14,26,4]
@[simp] abbrev kGxIcH_7:List Nat:=[0,1,23,27,26,28,25,4,33,38,37,39,36,6,7,45,2]
@[simp] abbrev kGxIcH_8:List Nat:=[0,4,1,10,3,5,26,2]
@[simp] abbrev kGxIcH_9:List Nat:=[0,2]
@[simp] abbrev kGxIcH_10:List Nat:=[0,1,6,7,18,3,24,2]
@[simp] abbrev kGxIcH_11:List Nat:=[0,2,1,4]
@[simp] abbrev kGxIcH_12:List Nat:=[0,1,4,5,10,15,2]
def ic62:IC:=(.seq (rH [1] kGxIcH_0 [oX 1 (.box 29 (.t 0)),oX 2 (.move (.k (rB false)))]) (.seq (rG kGxIcH_0 [oR 3 3 1,
 oC 4 73 [(.t 3),(.k (rI .i64 1048576))],oB 5 .gtr (.t 4) (.k (rI .i64 1048576)),oM 2 5]) .ret))
def ir62:List IRes:=[.tmp 2]
theorem ie62:cmpFunc Tryz.prog ⟨[],[]⟩ Tryz.f13 [0,1,2] = some ic62:=by kernel_rfl
theorem ig62:cmpRes Tryz.prog Tryz.f13.results.toList = some ir62:=by kernel_rfl
def ic63:IC:=(.seq (rH [1,2] kGxIcH_0 [oX 1 (.box 29 (.t 0)),oX 2 (.zero 29 [(.c (.v (.string (bs [])))),.nil,.nil])])
 (.seq (rG kGxIcH_0 [oF 3 1 1,oL 4 3,oC 5 76 [(.t 4)],oF 6 1 1,oS 1 6 5]) (.seq (rG kGxIcH_0 [oF 7 2 1,oL 8 7,oC 9 64 [(.t 8)],
 oF 10 2 1,oS 1 10 9]) (.seq (rG kGxIcH_0 [oR 11 3 1,oS 3 2 11]) .ret))))
def ir63:List IRes:=[.cell 2 (some 3)]
theorem ie63:cmpFunc Tryz.prog ⟨[],[]⟩ Tryz.f16 [0,1,2] = some ic63:=by kernel_rfl
theorem ig63:cmpRes Tryz.prog Tryz.f16.results.toList = some ir63:=by kernel_rfl
def ic70:IC:=(.seq (rH [2,3] kGxIcH_1 [oX 2 (.box 29 (.t 0)),oX 3 (.box 29 (.t 1)),oX 4 (.move (.k (rB false)))])
 (.seq (rG kGxIcH_1 [oF 5 0 2,oL 6 5,oF 7 0 3,oL 8 7,oB 9 .eql (.t 6) (.t 8),oM 10 9,oG 11 (.faddr 1 (.t 2)) 10 true,
 oG 12 (.load none (.t 11)) 10 true,oG 13 (.faddr 1 (.t 3)) 10 true,oG 14 (.load none (.t 13)) 10 true,oG 15 (.callp (.k (rF 91)) [(.t 12),(.t 14)]) 10 true,
 oQ 16 10 15,oM 17 16,oG 18 (.faddr 2 (.t 2)) 17 true,oG 19 (.load none (.t 18)) 17 true,oG 20 (.faddr 2 (.t 3)) 17 true,oG 21 (.load none (.t 20)) 17 true,
 oG 22 (.callp (.k (rF 92)) [(.t 19),(.t 21)]) 17 true,oQ 23 17 22,oM 4 23]) .ret))
def ir70:List IRes:=[.tmp 4]
theorem ie70:cmpFunc Tryz.prog ⟨[],[]⟩ Tryz.f25 [0,1,2,3,4] = some ic70:=by kernel_rfl
theorem ig70:cmpRes Tryz.prog Tryz.f25.results.toList = some ir70:=by kernel_rfl
def ic67:IC:=(.seq (rH [1] kGxIcH_0 [oX 1 (.box 29 (.t 0)),oX 2 (.move (.k (rI .i64 0)))]) (.seq (rG kGxIcH_0 [oR 3 3 1,oC 4 77 [(.t 3)],
 oC 5 140 [(.t 4)],oM 2 5]) .ret))
def ir67:List IRes:=[.tmp 2]
theorem ie67:cmpFunc Tryz.prog ⟨[],[]⟩ Tryz.f46 [0,1,2] = some ic67:=by kernel_rfl
theorem ig67:cmpRes Tryz.prog Tryz.f46.results.toList = some ir67:=by kernel_rfl
def ic69:IC:=(.seq (rH [1] kGxIcH_0 [oX 1 (.box 29 (.t 0)),oX 2 (.move (.k (.x (.one .nil))))]) (.seq (rG kGxIcH_0 [oR 3 3 1,
 oC 4 142 [(.t 3)],oC 5 141 [(.t 4)],oM 2 5]) .ret))
def ir69:List IRes:=[.tmp 2]
theorem ie69:cmpFunc Tryz.prog ⟨[],[]⟩ Tryz.f48 [0,1,2] = some ic69:=by kernel_rfl
theorem ig69:cmpRes Tryz.prog Tryz.f48.results.toList = some ir69:=by kernel_rfl
def ic49l0:IC:=(.seq (.seq (rG kGxIcH_2 [oM 9 4,oM 10 0,oN 11 10,oB 12 .lss (.t 9) (.t 11)]) (.cond (.t 12) .skip (.exit 0)))
 (.seq (.block 1 (rG kGxIcH_2 [oM 15 3,oM 16 4,oM 17 0,oM 18 4,oA 19 16 17 18,oR 20 16 19,oC 21 162 [(.t 20)],oA 22 16 15 16,
 oS 16 22 21])) (rG kGxIcH_2 [oM 13 4,oB 14 .add (.t 13) (.k (rI .i64 1)),oM 4 14])))
def ic49:IC:=(.seq (rG kGxIcH_2 [oX 2 (.move (.k (.x (.one .nil))))]) (.seq (rH [8] kGxIcH_2 [oM 5 0,oN 6 5,oB 7 .add (.t 6)
 (.k (rI .i64 1)),
 oX 8 (.make 107 16 216 [(.c (.v (.int .i8 0))),(.c (.v (.string (bs [])))),.nil,(.c (.v (.int .i8 0))),(.c (.v (.int .i8 0))),(.c (.v (.string (bs [])))),(.c (.v (.int .i8 0))),(.c (.v (.int .i64 0))),(.c (.v (.string (bs [])))),.nil,(.c (.v (.int .i8 0))),(.c (.v (.string (bs [])))),(.c (.v (.int .i8 0))),(.c (.v (.int .i64 0))),(.c (.v (.string (bs [])))),.nil] (.t 7)
 (.t 7)),oM 3 8]) (.seq (.seq (rG kGxIcH_2 [oX 4 (.move (.k (rI .i64 0)))]) (.block 0 (.loop ic49l0)))
 (.seq (rG kGxIcH_2 [oM 23 3,oM 24 0,oN 25 24,oC 26 163 [(.k (rI .i64 777777))],oA 27 16 23 25,oS 16 27 26])
 (.seq (rG kGxIcH_2 [oM 28 3,oM 29 0,oN 30 29,oX 31 (.vsl 16 (.t 28) none (some (.t 30))),oM 2 31]) .ret)))))
def ir49:List IRes:=[.tmp 2]
theorem ie49:cmpFunc Tryz.prog ⟨[],[]⟩ Tryz.f64 [0,4,12,3,2] = some ic49:=by kernel_rfl
theorem ig49:cmpRes Tryz.prog Tryz.f64.results.toList = some ir49:=by kernel_rfl
def ic133l0:IC:=(.seq (.seq (rG kGxIcH_2 [oM 9 4,oM 10 0,oN 11 10,oB 12 .lss (.t 9) (.t 11)]) (.cond (.t 12) .skip (.exit 0)))
 (.seq (.block 1 (rG kGxIcH_2 [oM 15 3,oM 16 4,oM 17 0,oM 18 4,oA 19 5 17 18,oR 20 5 19,oA 21 5 15 16,oS 5 21 20]))
 (rG kGxIcH_2 [oM 13 4,oB 14 .add (.t 13) (.k (rI .i64 1)),oM 4 14])))
def ic133:IC:=(.seq (rG kGxIcH_2 [oX 2 (.move (.k (.x (.one .nil))))]) (.seq (rH [8] kGxIcH_2 [oM 5 0,oN 6 5,oB 7 .add (.t 6)
 (.k (rI .i64 1)),
 oX 8 (.make 137 5 56 [(.c (.v (.int .i8 0))),(.c (.v (.string (bs [])))),(.c (.v (.int .i8 0))),(.c (.v (.int .i64 0))),(.c (.v (.string (bs []))))] (.t 7)
 (.t 7)),oM 3 8]) (.seq (.seq (rG kGxIcH_2 [oX 4 (.move (.k (rI .i64 0)))]) (.block 0 (.loop ic133l0)))
 (.seq (rG kGxIcH_2 [oM 22 3,oM 23 0,oN 24 23,oC 25 173 [(.k (rI .i64 777777))],oA 26 5 22 24,oS 5 26 25])
 (.seq (rG kGxIcH_2 [oM 27 3,oM 28 0,oN 29 28,oX 30 (.vsl 5 (.t 27) none (some (.t 29))),oM 2 30]) .ret)))))
def ir133:List IRes:=[.tmp 2]
theorem ie133:cmpFunc Tryz.prog ⟨[],[]⟩ Tryz.f76 [0,4,12,3,2] = some ic133:=by kernel_rfl
theorem ig133:cmpRes Tryz.prog Tryz.f76.results.toList = some ir133:=by kernel_rfl
def ic135l0:IC:=(.seq (.seq (rG kGxIcH_3 [oM 21 3,oF 22 1 1,oL 23 22,oN 24 23,oB 25 .lss (.t 21) (.t 24)])
 (.cond (.t 25) .skip (.exit 0))) (.seq (.block 1 (.seq (rG kGxIcH_3 [oF 28 1 1,oL 29 28,oM 30 3,oA 31 5 29 30,oR 32 5 31,
 oC 33 175 [(.t 32)],oX 34 (.un .not (.t 33))]) (.cond (.t 34) (.seq (rG kGxIcH_3 [oX 2 (.move (.k (rB false)))]) .ret) .skip)))
 (rG kGxIcH_3 [oM 26 3,oB 27 .add (.t 26) (.k (rI .i64 1)),oM 3 27])))
def ic135l1:IC:=(.seq (.seq (rG kGxIcH_3 [oM 35 4,oF 36 2 1,oL 37 36,oN 38 37,oB 39 .lss (.t 35) (.t 38)])
 (.cond (.t 39) .skip (.exit 2))) (.seq (.block 3 (.seq (rG kGxIcH_3 [oF 42 2 1,oL 43 42,oM 44 4,oA 45 16 43 44,oR 46 16 45,
 oC 47 176 [(.t 46)],oX 48 (.un .not (.t 47))]) (.cond (.t 48) (.seq (rG kGxIcH_3 [oX 2 (.move (.k (rB false)))]) .ret) .skip)))
 (rG kGxIcH_3 [oM 40 4,oB 41 .add (.t 40) (.k (rI .i64 1)),oM 4 41])))
def ic135:IC:=(.seq (rH [1] kGxIcH_3 [oX 1 (.box 29 (.t 0)),oX 2 (.move (.k (rB false)))])
 (.seq (.seq (rG kGxIcH_3 [oF 5 0 1,oL 6 5,oC 7 174 [(.t 6)],oX 8 (.un .not (.t 7)),oM 9 8,oG 10 (.faddr 1 (.t 1)) 9 false,
 oG 11 (.load none (.t 10)) 9 false,oG 12 (.len (.t 11)) 9 false,oG 13 (.bin .gtr (.t 12) (.k (rI .i64 24))) 9 false,oP 14 9 13,oM 15 14,
 oG 16 (.faddr 2 (.t 1)) 15 false,oG 17 (.load none (.t 16)) 15 false,oG 18 (.len (.t 17)) 15 false,oG 19 (.bin .gtr (.t 18) (.k (rI .i64 16))) 15 false,
 oP 20 15 19]) (.cond (.t 20) (.seq (rG kGxIcH_3 [oX 2 (.move (.k (rB false)))]) .ret) .skip))
 (.seq (.seq (rG kGxIcH_3 [oX 3 (.move (.k (rI .i64 0)))]) (.block 0 (.loop ic135l0)))
 (.seq (.seq (rG kGxIcH_3 [oX 4 (.move (.k (rI .i64 0)))]) (.block 2 (.loop ic135l1)))
 (.seq (rG kGxIcH_3 [oR 49 3 1,oC 50 48 [(.t 49)],oN 51 50,oB 52 .leq (.t 51) (.k (rI .i64 24)),oM 2 52]) .ret)))))
def ir135:List IRes:=[.tmp 2]
theorem ie135:cmpFunc Tryz.prog ⟨[],[]⟩ Tryz.f77 [0,1,20,3,25,34,4,39,48,2] = some ic135:=by kernel_rfl
theorem ig135:cmpRes Tryz.prog Tryz.f77.results.toList = some ir135:=by kernel_rfl
def ic139l0:IC:=(.seq (.seq (rG kGxIcH_4 [oM 11 5,oM 12 0,oN 13 12,oB 14 .lss (.t 11) (.t 13)]) (.cond (.t 14) .skip (.exit 0)))
 (.seq (.block 1 (.seq (rG kGxIcH_4 [oM 17 0,oM 18 5,oA 19 5 17 18,oR 20 5 19,oM 21 1,oM 22 5,oA 23 5 21 22,oR 24 5 23,
 oX 25 (.eqs true [.i .i8,.s,.i .i8,.i .i64,.s] (.t 20) (.t 24))]) (.cond (.t 25)
 (.seq (rG kGxIcH_4 [oX 4 (.move (.k (rB false)))]) .ret) .skip))) (rG kGxIcH_4 [oM 15 5,oB 16 .add (.t 15)
 (.k (rI .i64 1)),oM 5 16])))
def ic139:IC:=(.seq (rG kGxIcH_4 [oX 4 (.move (.k (rB false)))]) (.seq (.seq (rG kGxIcH_4 [oM 6 0,oN 7 6,oM 8 1,
 oN 9 8,oB 10 .neq (.t 7) (.t 9)]) (.cond (.t 10) (.seq (rG kGxIcH_4 [oX 4 (.move (.k (rB false)))]) .ret) .skip))
 (.seq (.seq (rG kGxIcH_4 [oX 5 (.move (.k (rI .i64 0)))]) (.block 0 (.loop ic139l0)))
 (.seq (rG kGxIcH_4 [oX 4 (.move (.k (rB true)))]) .ret))))
def ir139:List IRes:=[.tmp 4]
theorem ie139:cmpFunc Tryz.prog ⟨[],[]⟩ Tryz.f86 [0,1,10,5,14,25,4] = some ic139:=by kernel_rfl
theorem ig139:cmpRes Tryz.prog Tryz.f86.results.toList = some ir139:=by kernel_rfl
def ic137:IC:=(.seq (rG kGxIcH_5 [oX 4 (.move (.k (rB false)))]) (.seq (rG kGxIcH_5 [oM 5 0,oM 6 1,oC 7 86 [(.t 5),(.t 6)],oM 8 7,
 oG 9 (.move (.t 0)) 8 true,oG 10 (.move (.t 1)) 8 true,oG 11 (.len (.t 10)) 8 true,oG 12 (.bin .add (.t 11) (.k (rI .i64 1))) 8 true,
 oG 13 (.vsl 5 (.t 9) none (some (.t 12))) 8 true,oG 14 (.move (.t 1)) 8 true,oG 15 (.len (.t 14)) 8 true,oG 16 (.iaddr 5 (.t 13) (.t 15)) 8 true,
 oG 17 (.load (some 5) (.t 16)) 8 true,oG 18 (.callp (.k (rF 181)) [(.t 17),(.k (rI .i64 777777))]) 8 true,oQ 19 8 18,oM 4 19]) .ret))
def ir137:List IRes:=[.tmp 4]
theorem ie137:cmpFunc Tryz.prog ⟨[],[]⟩ Tryz.f91 [0,1,4] = some ic137:=by kernel_rfl
theorem ig137:cmpRes Tryz.prog Tryz.f91.results.toList = some ir137:=by kernel_rfl
def ic52l0:IC:=(.seq (.seq (rG kGxIcH_6 [oM 11 5,oM 12 1,oN 13 12,oB 14 .lss (.t 11) (.t 13)]) (.cond (.t 14) .skip (.exit 0)))
 (.seq (.block 1 (.seq (rG kGxIcH_6 [oM 17 0,oM 18 5,oA 19 16 17 18,oR 20 16 19,oM 21 1,oM 22 5,oA 23 16 21 22,oR 24 16 23,
 oC 25 182 [(.t 20),(.t 24)],oX 26 (.un .not (.t 25))]) (.cond (.t 26) (.seq (rG kGxIcH_6 [oX 4 (.move (.k (rB false)))]) .ret) .skip)))
 (rG kGxIcH_6 [oM 15 5,oB 16 .add (.t 15) (.k (rI .i64 1)),oM 5 16])))
def ic52:IC:=(.seq (rG kGxIcH_6 [oX 4 (.move (.k (rB false)))]) (.seq (.seq (rG kGxIcH_6 [oM 6 0,oN 7 6,oM 8 1,
 oN 9 8,oB 10 .neq (.t 7) (.t 9)]) (.cond (.t 10) (.seq (rG kGxIcH_6 [oX 4 (.move (.k (rB false)))]) .ret) .skip))
 (.seq (.seq (rG kGxIcH_6 [oX 5 (.move (.k (rI .i64 0)))]) (.block 0 (.loop ic52l0))) (.seq (rG kGxIcH_6 [oM 27 0,
 oM 28 1,oN 29 28,oB 30 .add (.t 29) (.k (rI .i64 1)),oX 31 (.vsl 16 (.t 27) none (some (.t 30))),oM 32 1,oN 33 32,oA 34 16 31 33,oR 35 16 34,
 oC 36 183 [(.t 35),(.k (rI .i64 777777))],oM 4 36]) .ret))))
def ir52:List IRes:=[.tmp 4]
theorem ie52:cmpFunc Tryz.prog ⟨[],[]⟩ Tryz.f92 [0,1,10,5,14,26,4] = some ic52:=by kernel_rfl
theorem ig52:cmpRes Tryz.prog Tryz.f92.results.toList = some ir52:=by kernel_rfl
def ic66l0:IC:=(.seq (rG kGxIcH_7 [oB 28 .lss (.t 27) (.t 26)]) (.seq (.cond (.t 28) .skip (.exit 0))
 (.seq (.block 1 (.seq (rH [4] kGxIcH_7 [oA 29 5 25 27,oR 30 5 29,
 oX 4 (.zero 137 [(.c (.v (.int .i8 0))),(.c (.v (.string (bs [])))),(.c (.v (.int .i8 0))),(.c (.v (.int .i64 0))),(.c (.v (.string (bs []))))]),oS 5 4 30])
 (.seq (rG kGxIcH_7 [oR 31 5 4,oC 32 185 [(.t 31)],oX 33 (.un .not (.t 32))]) (.cond (.t 33)
 (.seq (rG kGxIcH_7 [oX 2 (.move (.k (rI .i64 40)))]) .ret) .skip))))
 (rG kGxIcH_7 [oB 34 .add (.t 27) (.k (rI .i64 1)),oM 27 34]))))
def ic66l1:IC:=(.seq (rG kGxIcH_7 [oB 39 .lss (.t 38) (.t 37)]) (.seq (.cond (.t 39) .skip (.exit 2))
 (.seq (.block 3 (.seq (rH [6] kGxIcH_7 [oA 40 16 36 38,oR 41 16 40,
 oX 6 (.zero 107 [(.c (.v (.int .i8 0))),(.c (.v (.string (bs [])))),.nil,(.c (.v (.int .i8 0))),(.c (.v (.int .i8 0))),(.c (.v (.string (bs [])))),(.c (.v (.int .i8 0))),(.c (.v (.int .i64 0))),(.c (.v (.string (bs [])))),.nil,(.c (.v (.int .i8 0))),(.c (.v (.string (bs [])))),(.c (.v (.int .i8 0))),(.c (.v (.int .i64 0))),(.c (.v (.string (bs [])))),.nil]),
 oS 16 6 41]) (.seq (rG kGxIcH_7 [oR 42 16 6,oC 43 186 [(.t 42)],oM 7 43])
 (.seq (rG kGxIcH_7 [oM 44 7,oB 45 .neq (.t 44) (.k (rI .i64 0))]) (.cond (.t 45)
 (.seq (rG kGxIcH_7 [oM 46 7,oM 2 46]) .ret) .skip)))))
 (rG kGxIcH_7 [oB 47 .add (.t 38) (.k (rI .i64 1)),oM 38 47]))))
def ic66:IC:=(.seq (rH [1] kGxIcH_7 [oX 1 (.box 29 (.t 0)),oX 2 (.move (.k (rI .i64 0)))])
 (.seq (.seq (rG kGxIcH_7 [oF 8 0 1,oL 9 8,oC 10 184 [(.t 9)],oX 11 (.un .not (.t 10)),oM 12 11,
 oG 13 (.faddr 1 (.t 1)) 12 false,oG 14 (.load none (.t 13)) 12 false,oG 15 (.len (.t 14)) 12 false,oG 16 (.bin .gtr (.t 15) (.k (rI .i64 24))) 12 false,
 oP 17 12 16,oM 18 17,oG 19 (.faddr 2 (.t 1)) 18 false,oG 20 (.load none (.t 19)) 18 false,oG 21 (.len (.t 20)) 18 false,oG 22 (.bin .gtr (.t 21)
 (.k (rI .i64 16))) 18 false,oP 23 18 22]) (.cond (.t 23)
 (.seq (rG kGxIcH_7 [oX 2 (.move (.k (rI .i64 40)))]) .ret) .skip))
 (.seq (.seq (rG kGxIcH_7 [oF 24 1 1,oL 25 24,oN 26 25,oX 27 (.move (.k (rI .i64 0)))])
 (.block 0 (.loop ic66l0))) (.seq (.seq (rG kGxIcH_7 [oF 35 2 1,oL 36 35,oN 37 36,
 oX 38 (.move (.k (rI .i64 0)))]) (.block 2 (.loop ic66l1))) (.seq (rG kGxIcH_7 [oR 48 3 1,oC 49 96 [(.t 48)],
 oN 50 49,oB 51 .leq (.t 50) (.k (rI .i64 24)),oC 52 187 [(.t 51)],oM 2 52]) .ret)))))
def ir66:List IRes:=[.tmp 2]
theorem ie66:cmpFunc Tryz.prog ⟨[],[]⟩ Tryz.f93 [0,1,23,27,26,28,25,4,33,38,37,39,36,6,7,45,2] = some ic66:=by kernel_rfl
theorem ig66:cmpRes Tryz.prog Tryz.f93.results.toList = some ir66:=by kernel_rfl
def ic68:IC:=(.seq (rH [1] kGxIcH_0 [oX 1 (.box 29 (.t 0)),oX 2 (.move (.k (.x (.one .nil))))])
 (.seq (.region [] [.fz [1]] [0,1,2] [oX 3 (.mki 143 (.t 1)),oX 4 (.call (.k (rF 194)) [(.t 3)]),oM 2 4]) .ret))
def ir68:List IRes:=[.tmp 2]
theorem ie68:cmpFunc Tryz.prog ⟨[(4,none)],[(3,.fz [1])]⟩ Tryz.f96 [0,1,2] = some ic68:=by kernel_rfl
theorem ig68:cmpRes Tryz.prog Tryz.f96.results.toList = some ir68:=by kernel_rfl
def ic136l0:IC:=(.seq (.seq (rG kGxIcH_8 [oM 6 4,oF 7 1 1,oL 8 7,oN 9 8,oB 10 .lss (.t 6) (.t 9)]) (.cond (.t 10) .skip (.exit 0)))
 (.seq (.block 1 (rH [20] kGxIcH_8 [oM 13 3,oF 14 1 1,oL 15 14,oM 16 4,oA 17 5 15 16,oF 18 1 17,oR 19 4 18,oX 20 (.row 73 4 [(.t 19)]),
 oX 21 (.app 73 4 48 (.t 13) (.t 20)),oM 3 21])) (rG kGxIcH_8 [oM 11 4,oB 12 .add (.t 11) (.k (rI .i64 1)),oM 4 12])))
def ic136l1:IC:=(.seq (.seq (rG kGxIcH_8 [oM 22 5,oF 23 2 1,oL 24 23,oN 25 24,oB 26 .lss (.t 22) (.t 25)])
 (.cond (.t 26) .skip (.exit 2))) (.seq (.block 3 (rG kGxIcH_8 [oM 29 3,oF 30 2 1,oL 31 30,oM 32 5,oA 33 16 31 32,oR 34 16 33,
 oX 35 (.call (.k (rF 167)) [(.t 29),(.t 34)]),oM 3 35])) (rG kGxIcH_8 [oM 27 5,oB 28 .add (.t 27) (.k (rI .i64 1)),oM 5 28])))
def ic136:IC:=(.seq (rH [1] kGxIcH_8 [oX 1 (.box 29 (.t 0)),oX 2 (.move (.k (.x (.one .nil))))])
 (.seq (rG kGxIcH_8 [oX 3 (.move (.k (.x (.one .nil))))]) (.seq (.seq (rG kGxIcH_8 [oX 4 (.move (.k (rI .i64 0)))])
 (.block 0 (.loop ic136l0))) (.seq (.seq (rG kGxIcH_8 [oX 5 (.move (.k (rI .i64 0)))]) (.block 2 (.loop ic136l1)))
 (.seq (rG kGxIcH_8 [oM 36 3,oM 2 36]) .ret)))))
def ir136:List IRes:=[.tmp 2]
theorem ie136:cmpFunc Tryz.prog ⟨[(35,none)],[]⟩ Tryz.f142 [0,4,1,10,3,5,26,2] = some ic136:=by kernel_rfl
theorem ig136:cmpRes Tryz.prog Tryz.f142.results.toList = some ir136:=by kernel_rfl
def ic120:IC:=(.seq (rH [2] kGxIcH_9 [oX 2 (.zero 107 [(.c (.v (.int .i8 0))),(.c (.v (.string (bs [])))),.nil,(.c (.v (.int .i8 0))),(.c (.v (.int .i8 0))),(.c (.v (.string (bs [])))),(.c (.v (.int .i8 0))),(.c (.v (.int .i64 0))),(.c (.v (.string (bs [])))),.nil,(.c (.v (.int .i8 0))),(.c (.v (.string (bs [])))),(.c (.v (.int .i8 0))),(.c (.v (.int .i64 0))),(.c (.v (.string (bs [])))),.nil])])
 (.seq (rG kGxIcH_9 [oM 3 0,oC 4 171 [(.t 3)],oX 5 (.build [(.c (.v (.string (bs [])))),.nil] [(0,1,(.t 4))]),
 oX 6 (.build [(.c (.v (.int .i8 0))),(.c (.v (.string (bs [])))),.nil,(.c (.v (.int .i8 0))),(.c (.v (.int .i8 0))),(.c (.v (.string (bs [])))),(.c (.v (.int .i8 0))),(.c (.v (.int .i64 0))),(.c (.v (.string (bs [])))),.nil,(.c (.v (.int .i8 0))),(.c (.v (.string (bs [])))),(.c (.v (.int .i8 0))),(.c (.v (.int .i64 0))),(.c (.v (.string (bs [])))),.nil] [(0,1,(.k (rI .i8 99))),(1,2,(.t 5))]),
 oS 16 2 6]) .ret))
def ir120:List IRes:=[.cell 2 (some 16)]
theorem ie120:cmpFunc Tryz.prog ⟨[],[]⟩ Tryz.f163 [0,2] = some ic120:=by kernel_rfl
theorem ig120:cmpRes Tryz.prog Tryz.f163.results.toList = some ir120:=by kernel_rfl
def ic182:IC:=(.seq (rH [2] kGxIcH_9 [oX 2 (.zero 137 [(.c (.v (.int .i8 0))),(.c (.v (.string (bs [])))),(.c (.v (.int .i8 0))),(.c (.v (.int .i64 0))),(.c (.v (.string (bs []))))])])
 (.seq (rG kGxIcH_9 [oM 3 0,oC 4 171 [(.t 3)],
 oX 5 (.build [(.c (.v (.string (bs [])))),(.c (.v (.int .i8 0))),(.c (.v (.int .i64 0))),(.c (.v (.string (bs []))))] [(0,1,(.t 4))]),
 oX 6 (.build [(.c (.v (.int .i8 0))),(.c (.v (.string (bs [])))),(.c (.v (.int .i8 0))),(.c (.v (.int .i64 0))),(.c (.v (.string (bs []))))] [(1,4,(.t 5))]),
 oS 5 2 6]) .ret))
def ir182:List IRes:=[.cell 2 (some 5)]
theorem ie182:cmpFunc Tryz.prog ⟨[],[]⟩ Tryz.f173 [0,2] = some ic182:=by kernel_rfl
theorem ig182:cmpRes Tryz.prog Tryz.f173.results.toList = some ir182:=by kernel_rfl
def ic184:IC:=(.seq (rH [1] kGxIcH_10 [oX 1 (.box 137 (.t 0)),oX 2 (.move (.k (rB false)))])
 (.seq (rH [3] kGxIcH_10 [oX 4 (.build [(.c (.v (.string (bs [])))),(.c (.v (.int .i8 0))),(.c (.v (.int .i64 0))),(.c (.v (.string (bs []))))] []),
 oX 3 (.zero 73 [(.c (.v (.string (bs [])))),(.c (.v (.int .i8 0))),(.c (.v (.int .i64 0))),(.c (.v (.string (bs []))))]),oS 4 3 4])
 (.seq (.seq (rG kGxIcH_10 [oF 5 0 1,oL 6 5]) (.block 0 (.seq (rG kGxIcH_10 [oB 8 .eql (.t 6) (.k (rI .i8 0)),
 oM 7 8]) (.cond (.t 7) (.seq (rG kGxIcH_10 [oF 9 1 1,oF 10 0 9,oL 11 10,oB 12 .neq (.t 11) (.k (rS (bs [95]))),oM 13 12,
 oG 14 (.faddr 1 (.t 1)) 13 true,oG 15 (.load (some 4) (.t 14)) 13 true,oG 16 (.callp (.k (rF 250)) [(.t 15)]) 13 true,oQ 17 13 16,oM 2 17]) .ret)
 (.seq (rG kGxIcH_10 [oB 19 .eql (.t 6) (.k (rI .i8 1)),oM 18 19]) (.cond (.t 18) (.seq (rG kGxIcH_10 [oF 20 1 1,
 oR 21 4 20,oR 22 4 3,oX 23 (.eqs false [.s,.i .i8,.i .i64,.s] (.t 21) (.t 22)),oM 2 23]) .ret)
 (.seq (.seq (rG kGxIcH_10 [oB 25 .eql (.t 6) (.k (rI .i8 2)),oM 24 25])
 (.cond (.t 24) .skip (.seq (rG kGxIcH_10 [oB 26 .eql (.t 6) (.k (rI .i8 3)),oM 24 26])
 (.cond (.t 24) .skip (rG kGxIcH_10 [oB 27 .eql (.t 6) (.k (rI .i8 4)),oM 24 27]))))) (.cond (.t 24)
 (.seq (rG kGxIcH_10 [oF 28 1 1,oF 29 0 28,oL 30 29,oB 31 .neq (.t 30) (.k (rS (bs []))),oM 32 31,oG 33 (.faddr 1 (.t 1)) 32 true,
 oG 34 (.faddr 0 (.t 33)) 32 true,oG 35 (.load none (.t 34)) 32 true,oG 36 (.bin .neq (.t 35) (.k (rS (bs [95])))) 32 true,oQ 37 32 36,oM 38 37,
 oG 39 (.faddr 1 (.t 1)) 38 true,oG 40 (.load (some 4) (.t 39)) 38 true,oG 41 (.callp (.k (rF 250)) [(.t 40)]) 38 true,oQ 42 38 41,
 oM 2 42]) .ret) .skip)))))))) (.seq (rG kGxIcH_10 [oX 2 (.move (.k (rB false)))]) .ret))))
def ir184:List IRes:=[.tmp 2]
theorem ie184:cmpFunc Tryz.prog ⟨[],[]⟩ Tryz.f175 [0,1,6,7,18,3,24,2] = some ic184:=by kernel_rfl
theorem ig184:cmpRes Tryz.prog Tryz.f175.results.toList = some ir184:=by kernel_rfl
def ic185:IC:=(.seq (rH [2] kGxIcH_11 [oX 2 (.box 137 (.t 0)),oX 4 (.move (.k (rB false)))]) (.seq (rG kGxIcH_11 [oR 5 5 2,oM 6 1,
 oC 7 171 [(.t 6)],oX 8 (.build [(.c (.v (.string (bs [])))),(.c (.v (.int .i8 0))),(.c (.v (.int .i64 0))),(.c (.v (.string (bs []))))] [(0,1,(.t 7))]),
 oX 9 (.build [(.c (.v (.int .i8 0))),(.c (.v (.string (bs [])))),(.c (.v (.int .i8 0))),(.c (.v (.int .i64 0))),(.c (.v (.string (bs []))))] [(1,4,(.t 8))]),
 oX 10 (.eqs false [.i .i8,.s,.i .i8,.i .i64,.s] (.t 5) (.t 9)),oM 4 10]) .ret))
def ir185:List IRes:=[.tmp 4]
theorem ie185:cmpFunc Tryz.prog ⟨[],[]⟩ Tryz.f181 [0,2,1,4] = some ic185:=by kernel_rfl
theorem ig185:cmpRes Tryz.prog Tryz.f181.results.toList = some ir185:=by kernel_rfl
def ic124:IC:=(.seq (rH [2] kGxIcH_11 [oX 2 (.box 107 (.t 0)),oX 4 (.move (.k (rB false)))]) (.seq (rG kGxIcH_11 [oF 5 0 2,oL 6 5,
 oB 7 .eql (.t 6) (.k (rI .i8 99)),oM 8 7,oG 9 (.faddr 1 (.t 2)) 8 true,oG 10 (.faddr 0 (.t 9)) 8 true,oG 11 (.load none (.t 10)) 8 true,
 oG 12 (.move (.t 1)) 8 true,oG 13 (.callp (.k (rF 171)) [(.t 12)]) 8 true,oG 14 (.bin .eql (.t 11) (.t 13)) 8 true,oQ 15 8 14,oM 16 15,
 oG 17 (.faddr 1 (.t 2)) 16 true,oG 18 (.faddr 1 (.t 17)) 16 true,oG 19 (.load none (.t 18)) 16 true,oG 20 (.len (.t 19)) 16 true,oG 21 (.bin .eql (.t 20)
 (.k (rI .i64 0))) 16 true,oQ 22 16 21,oM 4 22]) .ret))
def ir124:List IRes:=[.tmp 4]
theorem ie124:cmpFunc Tryz.prog ⟨[],[]⟩ Tryz.f183 [0,2,1,4] = some ic124:=by kernel_rfl
theorem ig124:cmpRes Tryz.prog Tryz.f183.results.toList = some ir124:=by kernel_rfl
def ic134:IC:=(.seq (rH [1] kGxIcH_12 [oX 1 (.box 137 (.t 0)),oX 2 (.move (.k (rB false)))])
 (.seq (.seq (rG kGxIcH_12 [oF 3 0 1,oL 4 3]) (.block 0 (.seq (rG kGxIcH_12 [oB 6 .eql (.t 4) (.k (rI .i8 0)),oM 5 6])
 (.cond (.t 5) (.seq (rG kGxIcH_12 [oF 7 1 1,oR 8 4 7,oC 9 260 [(.t 8)],oM 2 9]) .ret)
 (.seq (rG kGxIcH_12 [oB 11 .eql (.t 4) (.k (rI .i8 1)),oM 10 11]) (.cond (.t 10) (.seq (rG kGxIcH_12 [oF 12 1 1,
 oR 13 4 12,oC 14 261 [(.t 13)],oM 2 14]) .ret) (.seq (.seq (rG kGxIcH_12 [oB 16 .eql (.t 4) (.k (rI .i8 2)),oM 15 16])
 (.cond (.t 15) .skip (.seq (rG kGxIcH_12 [oB 17 .eql (.t 4) (.k (rI .i8 3)),oM 15 17])
 (.cond (.t 15) .skip (rG kGxIcH_12 [oB 18 .eql (.t 4) (.k (rI .i8 4)),oM 15 18]))))) (.cond (.t 15)
 (.seq (rG kGxIcH_12 [oF 19 1 1,oF 20 0 19,oL 21 20,oB 22 .neq (.t 21) (.k (rS (bs []))),oM 23 22,oG 24 (.faddr 1 (.t 1)) 23 true,
 oG 25 (.load (some 4) (.t 24)) 23 true,oG 26 (.callp (.k (rF 260)) [(.t 25)]) 23 true,oQ 27 23 26,oM 2 27]) .ret) .skip))))))))
 (.seq (rG kGxIcH_12 [oX 2 (.move (.k (rB false)))]) .ret)))
def ir134:List IRes:=[.tmp 2]
theorem ie134:cmpFunc Tryz.prog ⟨[],[]⟩ Tryz.f185 [0,1,4,5,10,15,2] = some ic134:=by kernel_rfl
theorem ig134:cmpRes Tryz.prog Tryz.f185.results.toList = some ir134:=by kernel_rfl
end Go.Proofs.YtiomojlcnemnhaaGreatDoor

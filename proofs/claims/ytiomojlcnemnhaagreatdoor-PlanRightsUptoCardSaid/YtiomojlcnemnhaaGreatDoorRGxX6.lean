import Derived.Test.YtiomojlcnemnhaaGreatDoorRFxZ
import Derived.Test.YtiomojlcnemnhaaGreatDoorProg
import Derived.KernelRfl
import Derived.Test.YtiomojlcnemnhaaGreatDoorRGxFacts
import Derived.Test.YtiomojlcnemnhaaGreatDoorRGxRow
import Derived.Test.YtiomojlcnemnhaaGreatDoorRGxIcD
namespace Go.Proofs.YtiomojlcnemnhaaGreatDoor
open Go.Fx
@[simp] abbrev kGxIcG_0:List Nat:=[0,1,4,5,26,2]
@[simp] abbrev kGxIcG_1:List Nat:=[0,1,4,5,22,26,54,2]
def ic131c0f:IC:=(.seq (rG kGxIcG_0 [oF 8 1 1,oR 9 2 8,oC 10 251 [(.t 9)],oM 11 10,oG 12 (.faddr 3 (.t 1)) 11 true,
 oG 13 (.load none (.t 12)) 11 true,oG 14 (.bin .eql (.t 13) (.k (rI .i8 0))) 11 true,oQ 15 11 14,oM 16 15,oG 17 (.faddr 4 (.t 1)) 16 true,
 oG 18 (.load (some 6) (.t 17)) 16 true,oG 19 (.callp (.k (rF 252)) [(.t 18)]) 16 true,oQ 20 16 19,oM 21 20,oG 22 (.faddr 10 (.t 1)) 21 true,
 oG 23 (.load (some 6) (.t 22)) 21 true,oG 24 (.callp (.k (rF 252)) [(.t 23)]) 21 true,oQ 25 21 24,oM 2 25]) .ret)
def ic131c1f:IC:=(.seq (rG kGxIcG_0 [oF 28 1 1,oF 29 0 28,oL 30 29,oB 31 .eql (.t 30) (.k (rS (bs []))),oM 32 31,
 oG 33 (.faddr 1 (.t 1)) 32 true,oG 34 (.faddr 1 (.t 33)) 32 true,oG 35 (.load none (.t 34)) 32 true,oG 36 (.len (.t 35)) 32 true,oG 37 (.bin .eql (.t 36)
 (.k (rI .i64 0))) 32 true,oQ 38 32 37,oM 39 38,oG 40 (.faddr 3 (.t 1)) 39 true,oG 41 (.load none (.t 40)) 39 true,oG 42 (.bin .geq (.t 41)
 (.k (rI .i8 1))) 39 true,oQ 43 39 42,oM 44 43,oG 45 (.faddr 3 (.t 1)) 44 true,oG 46 (.load none (.t 45)) 44 true,oG 47 (.bin .leq (.t 46)
 (.k (rI .i8 6))) 44 true,oQ 48 44 47,oM 49 48,oG 50 (.faddr 4 (.t 1)) 49 true,oG 51 (.load (some 6) (.t 50)) 49 true,
 oG 52 (.callp (.k (rF 253)) [(.t 51),(.k (rI .i64 8))]) 49 true,oQ 53 49 52,oM 54 53,oG 55 (.faddr 10 (.t 1)) 54 true,oG 56 (.load (some 6)
 (.t 55)) 54 true,oG 57 (.callp (.k (rF 253)) [(.t 56),(.k (rI .i64 8))]) 54 true,oQ 58 54 57,oM 2 58]) .ret)
def ic131c2f:IC:=(.seq (rG kGxIcG_0 [oB 27 .eql (.t 4) (.k (rI .i8 3)),oM 26 27]) (.cond (.t 26) ic131c1f .skip))
def ic131f:IC:=(.seq (rH [1] kGxIcG_0 [oX 1 (.box 107 (.t 0)),oX 2 (.move (.k (rB false)))])
 (.seq (.seq (rG kGxIcG_0 [oF 3 0 1,oL 4 3]) (.block 0 (.seq (.seq (rG kGxIcG_0 [oB 6 .eql (.t 4) (.k (rI .i8 1)),oM 5 6])
 (.cond (.t 5) .skip (rG kGxIcG_0 [oB 7 .eql (.t 4) (.k (rI .i8 2)),oM 5 7]))) (.cond (.t 5) ic131c0f ic131c2f))))
 (.seq (rG kGxIcG_0 [oX 2 (.move (.k (rB false)))]) .ret)))
def ir131f:List IRes:=[.tmp 2]
theorem ie131f:cmpFunc Tryz.prog ⟨[],[]⟩ Tryz.f176 [0,1,4,5,26,2] = some ic131f:=by kernel_rfl
theorem ig131f:cmpRes Tryz.prog Tryz.f176.results.toList = some ir131f:=by kernel_rfl
def ic57c0f:IC:=(.seq (.seq (rG kGxIcG_1 [oF 8 3 1,oL 9 8,oB 10 .neq (.t 9) (.k (rI .i8 0)),oM 11 10,
 oG 12 (.faddr 4 (.t 1)) 11 false,oG 13 (.load (some 6) (.t 12)) 11 false,oG 14 (.callp (.k (rF 262)) [(.t 13)]) 11 false,oG 15 (.un .not (.t 14)) 11 false,
 oP 16 11 15,oM 17 16,oG 18 (.faddr 10 (.t 1)) 17 false,oG 19 (.load (some 6) (.t 18)) 17 false,oG 20 (.callp (.k (rF 262)) [(.t 19)]) 17 false,
 oG 21 (.un .not (.t 20)) 17 false,oP 22 17 21]) (.cond (.t 22) (.seq (rG kGxIcG_1 [oX 2 (.move (.k (rI .i64 40)))]) .ret) .skip))
 (.seq (rG kGxIcG_1 [oF 23 1 1,oR 24 2 23,oC 25 121 [(.t 24)],oM 2 25]) .ret))
def ic57c1f:IC:=(.seq (.seq (rG kGxIcG_1 [oF 28 1 1,oF 29 0 28,oL 30 29,oB 31 .neq (.t 30) (.k (rS (bs []))),oM 32 31,
 oG 33 (.faddr 1 (.t 1)) 32 false,oG 34 (.faddr 1 (.t 33)) 32 false,oG 35 (.load none (.t 34)) 32 false,oG 36 (.len (.t 35)) 32 false,
 oG 37 (.bin .gtr (.t 36) (.k (rI .i64 0))) 32 false,oP 38 32 37,oM 39 38,oG 40 (.faddr 3 (.t 1)) 39 false,oG 41 (.load none (.t 40)) 39 false,
 oG 42 (.bin .lss (.t 41) (.k (rI .i8 1))) 39 false,oP 43 39 42,oM 44 43,oG 45 (.faddr 3 (.t 1)) 44 false,oG 46 (.load none (.t 45)) 44 false,
 oG 47 (.bin .gtr (.t 46) (.k (rI .i8 6))) 44 false,oP 48 44 47,oM 49 48,oG 50 (.faddr 4 (.t 1)) 49 false,oG 51 (.load (some 6) (.t 50)) 49 false,
 oG 52 (.callp (.k (rF 220)) [(.t 51)]) 49 false,oG 53 (.bin .neq (.t 52) (.k (rI .i64 0))) 49 false,oP 54 49 53]) (.cond (.t 54)
 (.seq (rG kGxIcG_1 [oX 2 (.move (.k (rI .i64 40)))]) .ret) .skip)) (.seq (rG kGxIcG_1 [oF 55 10 1,oR 56 6 55,
 oC 57 220 [(.t 56)],oM 2 57]) .ret))
def ic57c2f:IC:=(.seq (rG kGxIcG_1 [oB 27 .eql (.t 4) (.k (rI .i8 3)),oM 26 27]) (.cond (.t 26) ic57c1f .skip))
def ic57f:IC:=(.seq (rH [1] kGxIcG_1 [oX 1 (.box 107 (.t 0)),oX 2 (.move (.k (rI .i64 0)))])
 (.seq (.seq (rG kGxIcG_1 [oF 3 0 1,oL 4 3]) (.block 0 (.seq (.seq (rG kGxIcG_1 [oB 6 .eql (.t 4) (.k (rI .i8 1)),
 oM 5 6]) (.cond (.t 5) .skip (rG kGxIcG_1 [oB 7 .eql (.t 4) (.k (rI .i8 2)),oM 5 7]))) (.cond (.t 5) ic57c0f ic57c2f))))
 (.seq (rG kGxIcG_1 [oX 2 (.move (.k (rI .i64 40)))]) .ret)))
def ir57f:List IRes:=[.tmp 2]
theorem ie57f:cmpFunc Tryz.prog ⟨[],[]⟩ Tryz.f186 [0,1,4,5,22,26,54,2] = some ic57f:=by kernel_rfl
theorem ig57f:cmpRes Tryz.prog Tryz.f186.results.toList = some ir57f:=by kernel_rfl
end Go.Proofs.YtiomojlcnemnhaaGreatDoor

namespace Go.Proofs.YtiomojlcnemnhaaGreatDoor
open Go.Fx Go.RowKit Go.Ped
variable {G:World→Prop}
theorem m131 (x:Lit) (hs:x.small 1048576):Meets Tryz.prog G 176 [.agg x.row] (.x (.one (cB (litOk x)))):=by
  refine meets Tryz.func176 ie131f ig131f (Nat.le_of_ble_eq_true rfl) ?_
  have ha:=m91 (G:=G) x.p x.l x.sp
  have e1:=m97 (G:=G) 8 x.left hs.2.1 (by omega)
  have e2:=m97 (G:=G) 8 x.right hs.2.2 (by omega)
  by_cases k1:x.kind = 1∨x.kind = 2
  · have h0:litOk x = (atomOk x.p x.l && x.rel == 0 && exNone x.left && exNone x.right):=by simp [litOk,k1]
    rw [h0]
    rcases k1 with k1 | k1 <;> simp [ic131f,ir131f,ic131c0f,k1]
    all_goals
      refine call_of ha ?_
      simp
      refine call_i (fun _=>m181 x.left) ?_
      simp
      refine call_i (fun _=>m181 x.right) ?_
      simp
  · by_cases k3:x.kind = 3
    · have h0:litOk x = (x.p == [] && x.l.isEmpty && decide (1≤x.rel) && decide (x.rel≤6) && exOk 8 x.left && exOk 8 x.right):=by simp [litOk,k3]
      rw [h0]
      simp [ic131f,ir131f,ic131c2f,ic131c1f,k3]
      refine call_i (fun _=>e1) ?_
      simp
      refine call_i (fun _=>e2) ?_
      simp
    · have h0:litOk x = false:=by simp [litOk,k1,k3]
      rw [h0]
      have k1':¬ x.kind = 1:=fun h=>k1 (.inl h)
      have k2':¬ x.kind = 2:=fun h=>k1 (.inr h)
      simp [ic131f,ir131f,ic131c2f,k1',k2',k3]
end Go.Proofs.YtiomojlcnemnhaaGreatDoor

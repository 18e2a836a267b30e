import Derived.Test.YtiomojlcnemnhaaGreatDoorLFxZ
import Derived.Test.YtiomojlcnemnhaaGreatDoorProg
import Derived.KernelRfl
import Derived.Test.YtiomojlcnemnhaaGreatDoorLGxW1
import Derived.Test.YtiomojlcnemnhaaGreatDoorLGxRow
import Derived.Test.YtiomojlcnemnhaaGreatDoorLGxN3
namespace Go.Proofs.YtiomojlcnemnhaaGreatDoor
open Go.Fx
def ic131c0f : IC :=
 (.seq
 (.region [] [] [0, 1, 4, 5, 26, 2] [⟨some 8, (.faddr 1 (.t 1)), none, none⟩,⟨some 9, (.load (some 2) (.t 8)), none, none⟩,⟨some 10, (.callp (.k (rF 251)) [(.t 9)]), none, none⟩,⟨some 11, (.move (.t 10)), none, none⟩,⟨some 12, (.faddr 3 (.t 1)), some (11, true), none⟩,⟨some 13, (.load none (.t 12)), some (11, true), none⟩,⟨some 14, (.bin .eql (.t 13) (.k (rI .i8 0))), some (11, true), none⟩,⟨some 15, (.pick (.t 11) (.t 14) (.k (rB false))), none, none⟩,⟨some 16, (.move (.t 15)), none, none⟩,⟨some 17, (.faddr 4 (.t 1)), some (16, true), none⟩,⟨some 18, (.load (some 6) (.t 17)), some (16, true), none⟩,⟨some 19, (.callp (.k (rF 252)) [(.t 18)]), some (16, true), none⟩,⟨some 20, (.pick (.t 16) (.t 19) (.k (rB false))), none, none⟩,⟨some 21, (.move (.t 20)), none, none⟩,⟨some 22, (.faddr 10 (.t 1)), some (21, true), none⟩,⟨some 23, (.load (some 6) (.t 22)), some (21, true), none⟩,⟨some 24, (.callp (.k (rF 252)) [(.t 23)]), some (21, true), none⟩,⟨some 25, (.pick (.t 21) (.t 24) (.k (rB false))), none, none⟩,⟨some 2, (.move (.t 25)), none, none⟩])
 .ret)
def ic131c1f : IC :=
 (.seq
 (.region [] [] [0, 1, 4, 5, 26, 2] [⟨some 28, (.faddr 1 (.t 1)), none, none⟩,⟨some 29, (.faddr 0 (.t 28)), none, none⟩,⟨some 30, (.load none (.t 29)), none, none⟩,⟨some 31, (.bin .eql (.t 30) (.k (rS (bs [])))), none, none⟩,⟨some 32, (.move (.t 31)), none, none⟩,⟨some 33, (.faddr 1 (.t 1)), some (32, true), none⟩,⟨some 34, (.faddr 1 (.t 33)), some (32, true), none⟩,⟨some 35, (.load none (.t 34)), some (32, true), none⟩,⟨some 36, (.len (.t 35)), some (32, true), none⟩,⟨some 37, (.bin .eql (.t 36) (.k (rI .i64 0))), some (32, true), none⟩,⟨some 38, (.pick (.t 32) (.t 37) (.k (rB false))), none, none⟩,⟨some 39, (.move (.t 38)), none, none⟩,⟨some 40, (.faddr 3 (.t 1)), some (39, true), none⟩,⟨some 41, (.load none (.t 40)), some (39, true), none⟩,⟨some 42, (.bin .geq (.t 41) (.k (rI .i8 1))), some (39, true), none⟩,⟨some 43, (.pick (.t 39) (.t 42) (.k (rB false))), none, none⟩,⟨some 44, (.move (.t 43)), none, none⟩,⟨some 45, (.faddr 3 (.t 1)), some (44, true), none⟩,⟨some 46, (.load none (.t 45)), some (44, true), none⟩,⟨some 47, (.bin .leq (.t 46) (.k (rI .i8 6))), some (44, true), none⟩,⟨some 48, (.pick (.t 44) (.t 47) (.k (rB false))), none, none⟩,⟨some 49, (.move (.t 48)), none, none⟩,⟨some 50, (.faddr 4 (.t 1)), some (49, true), none⟩,⟨some 51, (.load (some 6) (.t 50)), some (49, true), none⟩,⟨some 52, (.callp (.k (rF 253)) [(.t 51), (.k (rI .i64 8))]), some (49, true), none⟩,⟨some 53, (.pick (.t 49) (.t 52) (.k (rB false))), none, none⟩,⟨some 54, (.move (.t 53)), none, none⟩,⟨some 55, (.faddr 10 (.t 1)), some (54, true), none⟩,⟨some 56, (.load (some 6) (.t 55)), some (54, true), none⟩,⟨some 57, (.callp (.k (rF 253)) [(.t 56), (.k (rI .i64 8))]), some (54, true), none⟩,⟨some 58, (.pick (.t 54) (.t 57) (.k (rB false))), none, none⟩,⟨some 2, (.move (.t 58)), none, none⟩])
 .ret)
def ic131c2f : IC :=
 (.seq
 (.region [] [] [0, 1, 4, 5, 26, 2] [⟨some 27, (.bin .eql (.t 4) (.k (rI .i8 3))), none, none⟩,⟨some 26, (.move (.t 27)), none, none⟩])
 (.cond (.t 26)
 ic131c1f
 .skip))
def ic131f : IC :=
 (.seq
 (.region [1] [] [0, 1, 4, 5, 26, 2] [⟨some 1, (.box 107 (.t 0)), none, none⟩,⟨some 2, (.move (.k (rB false))), none, none⟩])
 (.seq
 (.seq
 (.region [] [] [0, 1, 4, 5, 26, 2] [⟨some 3, (.faddr 0 (.t 1)), none, none⟩,⟨some 4, (.load none (.t 3)), none, none⟩])
 (.block 0
 (.seq
 (.seq
 (.region [] [] [0, 1, 4, 5, 26, 2] [⟨some 6, (.bin .eql (.t 4) (.k (rI .i8 1))), none, none⟩,⟨some 5, (.move (.t 6)), none, none⟩])
 (.cond (.t 5)
 .skip
 (.region [] [] [0, 1, 4, 5, 26, 2] [⟨some 7, (.bin .eql (.t 4) (.k (rI .i8 2))), none, none⟩,⟨some 5, (.move (.t 7)), none, none⟩])))
 (.cond (.t 5)
 ic131c0f
 ic131c2f))))
 (.seq
 (.region [] [] [0, 1, 4, 5, 26, 2] [⟨some 2, (.move (.k (rB false))), none, none⟩])
 .ret)))
def ir131f : List IRes := [.tmp 2]
theorem ie131f : cmpFunc Go.Proofs.Tryz.prog ⟨[], []⟩ Go.Proofs.Tryz.f176 [0, 1, 4, 5, 26, 2] = some ic131f := by kernel_rfl
theorem ig131f : cmpRes Go.Proofs.Tryz.prog Go.Proofs.Tryz.f176.results.toList = some ir131f := by kernel_rfl
def ic57c0f : IC :=
 (.seq
 (.seq
 (.region [] [] [0, 1, 4, 5, 22, 26, 54, 2] [⟨some 8, (.faddr 3 (.t 1)), none, none⟩,⟨some 9, (.load none (.t 8)), none, none⟩,⟨some 10, (.bin .neq (.t 9) (.k (rI .i8 0))), none, none⟩,⟨some 11, (.move (.t 10)), none, none⟩,⟨some 12, (.faddr 4 (.t 1)), some (11, false), none⟩,⟨some 13, (.load (some 6) (.t 12)), some (11, false), none⟩,⟨some 14, (.callp (.k (rF 262)) [(.t 13)]), some (11, false), none⟩,⟨some 15, (.un .not (.t 14)), some (11, false), none⟩,⟨some 16, (.pick (.t 11) (.k (rB true)) (.t 15)), none, none⟩,⟨some 17, (.move (.t 16)), none, none⟩,⟨some 18, (.faddr 10 (.t 1)), some (17, false), none⟩,⟨some 19, (.load (some 6) (.t 18)), some (17, false), none⟩,⟨some 20, (.callp (.k (rF 262)) [(.t 19)]), some (17, false), none⟩,⟨some 21, (.un .not (.t 20)), some (17, false), none⟩,⟨some 22, (.pick (.t 17) (.k (rB true)) (.t 21)), none, none⟩])
 (.cond (.t 22)
 (.seq
 (.region [] [] [0, 1, 4, 5, 22, 26, 54, 2] [⟨some 2, (.move (.k (rI .i64 40))), none, none⟩])
 .ret)
 .skip))
 (.seq
 (.region [] [] [0, 1, 4, 5, 22, 26, 54, 2] [⟨some 23, (.faddr 1 (.t 1)), none, none⟩,⟨some 24, (.load (some 2) (.t 23)), none, none⟩,⟨some 25, (.callp (.k (rF 121)) [(.t 24)]), none, none⟩,⟨some 2, (.move (.t 25)), none, none⟩])
 .ret))
def ic57c1f : IC :=
 (.seq
 (.seq
 (.region [] [] [0, 1, 4, 5, 22, 26, 54, 2] [⟨some 28, (.faddr 1 (.t 1)), none, none⟩,⟨some 29, (.faddr 0 (.t 28)), none, none⟩,⟨some 30, (.load none (.t 29)), none, none⟩,⟨some 31, (.bin .neq (.t 30) (.k (rS (bs [])))), none, none⟩,⟨some 32, (.move (.t 31)), none, none⟩,⟨some 33, (.faddr 1 (.t 1)), some (32, false), none⟩,⟨some 34, (.faddr 1 (.t 33)), some (32, false), none⟩,⟨some 35, (.load none (.t 34)), some (32, false), none⟩,⟨some 36, (.len (.t 35)), some (32, false), none⟩,⟨some 37, (.bin .gtr (.t 36) (.k (rI .i64 0))), some (32, false), none⟩,⟨some 38, (.pick (.t 32) (.k (rB true)) (.t 37)), none, none⟩,⟨some 39, (.move (.t 38)), none, none⟩,⟨some 40, (.faddr 3 (.t 1)), some (39, false), none⟩,⟨some 41, (.load none (.t 40)), some (39, false), none⟩,⟨some 42, (.bin .lss (.t 41) (.k (rI .i8 1))), some (39, false), none⟩,⟨some 43, (.pick (.t 39) (.k (rB true)) (.t 42)), none, none⟩,⟨some 44, (.move (.t 43)), none, none⟩,⟨some 45, (.faddr 3 (.t 1)), some (44, false), none⟩,⟨some 46, (.load none (.t 45)), some (44, false), none⟩,⟨some 47, (.bin .gtr (.t 46) (.k (rI .i8 6))), some (44, false), none⟩,⟨some 48, (.pick (.t 44) (.k (rB true)) (.t 47)), none, none⟩,⟨some 49, (.move (.t 48)), none, none⟩,⟨some 50, (.faddr 4 (.t 1)), some (49, false), none⟩,⟨some 51, (.load (some 6) (.t 50)), some (49, false), none⟩,⟨some 52, (.callp (.k (rF 220)) [(.t 51)]), some (49, false), none⟩,⟨some 53, (.bin .neq (.t 52) (.k (rI .i64 0))), some (49, false), none⟩,⟨some 54, (.pick (.t 49) (.k (rB true)) (.t 53)), none, none⟩])
 (.cond (.t 54)
 (.seq
 (.region [] [] [0, 1, 4, 5, 22, 26, 54, 2] [⟨some 2, (.move (.k (rI .i64 40))), none, none⟩])
 .ret)
 .skip))
 (.seq
 (.region [] [] [0, 1, 4, 5, 22, 26, 54, 2] [⟨some 55, (.faddr 10 (.t 1)), none, none⟩,⟨some 56, (.load (some 6) (.t 55)), none, none⟩,⟨some 57, (.callp (.k (rF 220)) [(.t 56)]), none, none⟩,⟨some 2, (.move (.t 57)), none, none⟩])
 .ret))
def ic57c2f : IC :=
 (.seq
 (.region [] [] [0, 1, 4, 5, 22, 26, 54, 2] [⟨some 27, (.bin .eql (.t 4) (.k (rI .i8 3))), none, none⟩,⟨some 26, (.move (.t 27)), none, none⟩])
 (.cond (.t 26)
 ic57c1f
 .skip))
def ic57f : IC :=
 (.seq
 (.region [1] [] [0, 1, 4, 5, 22, 26, 54, 2] [⟨some 1, (.box 107 (.t 0)), none, none⟩,⟨some 2, (.move (.k (rI .i64 0))), none, none⟩])
 (.seq
 (.seq
 (.region [] [] [0, 1, 4, 5, 22, 26, 54, 2] [⟨some 3, (.faddr 0 (.t 1)), none, none⟩,⟨some 4, (.load none (.t 3)), none, none⟩])
 (.block 0
 (.seq
 (.seq
 (.region [] [] [0, 1, 4, 5, 22, 26, 54, 2] [⟨some 6, (.bin .eql (.t 4) (.k (rI .i8 1))), none, none⟩,⟨some 5, (.move (.t 6)), none, none⟩])
 (.cond (.t 5)
 .skip
 (.region [] [] [0, 1, 4, 5, 22, 26, 54, 2] [⟨some 7, (.bin .eql (.t 4) (.k (rI .i8 2))), none, none⟩,⟨some 5, (.move (.t 7)), none, none⟩])))
 (.cond (.t 5)
 ic57c0f
 ic57c2f))))
 (.seq
 (.region [] [] [0, 1, 4, 5, 22, 26, 54, 2] [⟨some 2, (.move (.k (rI .i64 40))), none, none⟩])
 .ret)))
def ir57f : List IRes := [.tmp 2]
theorem ie57f : cmpFunc Go.Proofs.Tryz.prog ⟨[], []⟩ Go.Proofs.Tryz.f186 [0, 1, 4, 5, 22, 26, 54, 2] = some ic57f := by kernel_rfl
theorem ig57f : cmpRes Go.Proofs.Tryz.prog Go.Proofs.Tryz.f186.results.toList = some ir57f := by kernel_rfl
end Go.Proofs.YtiomojlcnemnhaaGreatDoor

namespace Go.Proofs.YtiomojlcnemnhaaGreatDoor
open Go.Fx Go.RowKit Go.Ped
variable {G : World → Prop}
theorem m131 (x : Lit) (hs : x.small 1048576) : Meets Tryz.prog G 176 [.agg x.row] (.x (.one (cB (litOk x)))) := by
  refine meets Tryz.func176 ie131f ig131f (Nat.le_of_ble_eq_true rfl) ?_
  have ha := m91 (G := G) x.p x.l x.sp
  have e1 := m97 (G := G) 8 x.left hs.2.1 (by omega)
  have e2 := m97 (G := G) 8 x.right hs.2.2 (by omega)
  by_cases k1 : x.kind = 1 ∨ x.kind = 2
  · have h0 : litOk x = (atomOk x.p x.l && x.rel == 0 && exNone x.left && exNone x.right) := by simp [litOk, k1]
    rw [h0]
    rcases k1 with k1 | k1 <;> simp [ic131f, ir131f, ic131c0f, k1]
    all_goals
      refine call_of ha ?_
      simp
      refine call_i (fun _ => m181 x.left) ?_
      simp
      refine call_i (fun _ => m181 x.right) ?_
      simp
  · by_cases k3 : x.kind = 3
    · have h0 : litOk x = (x.p == [] && x.l.isEmpty && decide (1 ≤ x.rel) && decide (x.rel ≤ 6) && exOk 8 x.left && exOk 8 x.right) := by simp [litOk, k3]
      rw [h0]
      simp [ic131f, ir131f, ic131c2f, ic131c1f, k3]
      refine call_i (fun _ => e1) ?_
      simp
      refine call_i (fun _ => e2) ?_
      simp
    · have h0 : litOk x = false := by simp [litOk, k1, k3]
      rw [h0]
      have k1' : ¬ x.kind = 1 := fun h => k1 (.inl h)
      have k2' : ¬ x.kind = 2 := fun h => k1 (.inr h)
      simp [ic131f, ir131f, ic131c2f, k1', k2', k3]
end Go.Proofs.YtiomojlcnemnhaaGreatDoor

import Derived.Test.YtckhkfchgcdajaaGreatDoorYJxH3
import Derived.Test.YtckhkfchgcdajaaGreatDoorYJxH4
import Derived.Test.YtckhkfchgcdajaaGreatDoorYJxZ2
import Derived.Test.YtckhkfchgcdajaaGreatDoorYJxZ3
import Derived.Test.YtckhkfchgcdajaaGreatDoorYJxI1
namespace Go.Proofs.YtckhkfchgcdajaaGreatDoor
open Go.Fx Go.RowKit
def bookS (TI TM : Value × Value × Nat → Thing) (kb n : Nat) (vI vM : Value) (LI LM : List (Value × Value × Nat)) : List Thing :=
  cellsT kb (keepCells n vI vM) 55 :: ((ownT 202 3 vI LI.length (hold3V LI) :: LI.map TI) ++ (ownT 245 3 vM LM.length (hold3V LM) :: LM.map TM))
section
variable {TI TM : Value × Value × Nat → Thing} {kb n : Nat} {vI vM : Value} {LI LM : List (Value × Value × Nat)} {R : List Thing}
theorem permI : (bookS TI TM kb n vI vM LI LM ++ R).Perm (cellsT kb (keepCells n vI vM) 55 :: ownT 202 3 vI LI.length (hold3V LI) :: (LI.map TI ++ ((ownT 245 3 vM LM.length (hold3V LM) :: LM.map TM) ++ R))) := by
  unfold bookS
  rw [List.cons_append, List.append_assoc]
  exact List.Perm.refl _
theorem permM : (bookS TI TM kb n vI vM LI LM ++ R).Perm (cellsT kb (keepCells n vI vM) 55 :: ownT 245 3 vM LM.length (hold3V LM) :: (LM.map TM ++ ((ownT 202 3 vI LI.length (hold3V LI) :: LI.map TI) ++ R))) := by
  unfold bookS
  rw [List.cons_append, List.append_assoc]
  exact List.Perm.cons _ (List.perm_append_comm_assoc _ _ _)
end
def FitsAll (L : List (Value × Value × Nat)) : Prop := ∀ p ∈ L, ∃ a n c, p.1 = .slice a n c ∧ n ≤ 1099511627776
def Slices2 (L : List (Value × Value × Nat)) : Prop := ∀ p ∈ L, ∃ a n c, p.2.1 = .slice a n c
abbrev rI := rawT 3 1
abbrev rM := rawT 61 1
abbrev fI := filT 3 1 fun n => [mkInt n]
abbrev fM := filT 61 1 fun n => [mkMask n]
abbrev lI := lonT 3 1 fun n => [mkInt n]
abbrev lM := lonT 61 1 fun n => [mkMask n]
set_option maxRecDepth 100000 in
set_option maxHeartbeats 4000000 in
theorem growAll_calls {w0 w : World} {F0 : Nat → Prop} {kb n : Nat} {vI vM : Value} {LI LM : List (Value × Value × Nat)} {R : List Thing} (h : Mid w0 F0 (bookS fI fM kb n vI vM LI LM ++ R) w) (hsI : Slices2 LI) (hsM : Slices2 LM) (hmI : FitsAll LI) (hmM : FitsAll LM) :
    Calls Tryz.prog 51 #[.pointer (some ⟨kb, 0, none⟩)] w fun e w' => e = .returned (.tuple #[]) ∧ ∃ LI' LM', Longer LI LI' ∧ Longer LM LM' ∧ Mid w0 F0 (bookS lI lM kb n vI vM LI' LM' ++ R) w' := by
  have HM := Lib.hid h
  clear h
  go_enter Tryz.func51, Tryz.ntmps51
  go_wp2_with fail
  refine (growz1 (HM.out.cellAt (List.mem_cons_self ..) rfl)).mono ?_
  rintro e w2 ⟨rfl, hw⟩
  rw [hw]
  clear hw w2
  go_wp2_with fail
  refine (growz2 (HM.out.cellAt (List.mem_cons_self ..) rfl)).mono ?_
  rintro e w2 ⟨rfl, hw⟩
  rw [hw]
  clear hw w2
  go_wp2_with fail
  refine (growz3 (HM.out.cellAt (List.mem_cons_self ..) rfl)).mono ?_
  rintro e w2 ⟨rfl, hw⟩
  rw [hw]
  clear hw w2
  go_wp2_with fail
  refine (growz4 (HM.out.cellAt (List.mem_cons_self ..) rfl)).mono ?_
  rintro e w2 ⟨rfl, hw⟩
  rw [hw]
  clear hw w2
  go_wp2_with fail
  refine (growz5 (HM.out.cellAt (List.mem_cons_self ..) rfl)).mono ?_
  rintro e w2 ⟨rfl, hw⟩
  rw [hw]
  clear hw w2
  go_wp2_with fail
  refine (growz6 (HM.out.cellAt (List.mem_cons_self ..) rfl)).mono ?_
  rintro e w2 ⟨rfl, hw⟩
  rw [hw]
  clear hw w2
  go_wp2_with fail
  refine (growz7 (HM.out.cellAt (List.mem_cons_self ..) rfl)).mono ?_
  rintro e w2 ⟨rfl, hw⟩
  rw [hw]
  clear hw w2
  go_wp2_with fail
  refine (growz8 (HM.out.cellAt (List.mem_cons_self ..) rfl)).mono ?_
  rintro e w2 ⟨rfl, hw⟩
  rw [hw]
  clear hw w2
  go_wp2_with fail
  refine (growz9 (HM.out.cellAt (List.mem_cons_self ..) rfl)).mono ?_
  rintro e w2 ⟨rfl, hw⟩
  rw [hw]
  clear hw w2
  go_wp2_with fail
  refine (growz10 (HM.out.cellAt (List.mem_cons_self ..) rfl)).mono ?_
  rintro e w2 ⟨rfl, hw⟩
  rw [hw]
  clear hw w2
  go_wp2_with fail
  refine (growz11 (HM.out.cellAt (List.mem_cons_self ..) rfl)).mono ?_
  rintro e w2 ⟨rfl, hw⟩
  rw [hw]
  clear hw w2
  go_wp2_with fail
  refine (growz12 (HM.out.cellAt (List.mem_cons_self ..) rfl)).mono ?_
  rintro e w2 ⟨rfl, hw⟩
  rw [hw]
  clear hw w2
  go_wp2_with fail
  refine (growz13 (HM.out.cellAt (List.mem_cons_self ..) rfl)).mono ?_
  rintro e w2 ⟨rfl, hw⟩
  rw [hw]
  clear hw w2
  go_wp2_with fail
  refine (growInt_calls (HM.out.perm permI) rfl hsI hmI).mono ?_
  rintro e w14 ⟨rfl, LI', hLI, h⟩
  have HL := Lib.hid hLI
  clear HM hLI
  have HM := Lib.hid (h.perm (permI (TM := fM)).symm)
  clear h
  go_wp2_with fail
  refine (growz15 (HM.out.cellAt (List.mem_cons_self ..) rfl)).mono ?_
  rintro e w2 ⟨rfl, hw⟩
  rw [hw]
  clear hw w2
  go_wp2_with fail
  refine (growz16 (HM.out.cellAt (List.mem_cons_self ..) rfl)).mono ?_
  rintro e w2 ⟨rfl, hw⟩
  rw [hw]
  clear hw w2
  go_wp2_with fail
  refine (growz17 (HM.out.cellAt (List.mem_cons_self ..) rfl)).mono ?_
  rintro e w2 ⟨rfl, hw⟩
  rw [hw]
  clear hw w2
  go_wp2_with fail
  refine (growz18 (HM.out.cellAt (List.mem_cons_self ..) rfl)).mono ?_
  rintro e w2 ⟨rfl, hw⟩
  rw [hw]
  clear hw w2
  go_wp2_with fail
  refine (growz19 (HM.out.cellAt (List.mem_cons_self ..) rfl)).mono ?_
  rintro e w2 ⟨rfl, hw⟩
  rw [hw]
  clear hw w2
  go_wp2_with fail
  refine (growz20 (HM.out.cellAt (List.mem_cons_self ..) rfl)).mono ?_
  rintro e w2 ⟨rfl, hw⟩
  rw [hw]
  clear hw w2
  go_wp2_with fail
  refine (growz21 (HM.out.cellAt (List.mem_cons_self ..) rfl)).mono ?_
  rintro e w2 ⟨rfl, hw⟩
  rw [hw]
  clear hw w2
  go_wp2_with fail
  refine (growMask_calls (HM.out.perm permM) rfl hsM hmM).mono ?_
  rintro e w22 ⟨rfl, LM', hLM, h⟩
  have HL2 := Lib.hid hLM
  clear HM hLM
  have HM := Lib.hid (h.perm (permM (TI := lI)).symm)
  clear h
  go_wp2_with fail
  refine (growz23 (HM.out.cellAt (List.mem_cons_self ..) rfl)).mono ?_
  rintro e w2 ⟨rfl, hw⟩
  rw [hw]
  clear hw w2
  go_wp2_with fail
  refine (growz24 (HM.out.cellAt (List.mem_cons_self ..) rfl)).mono ?_
  rintro e w2 ⟨rfl, hw⟩
  rw [hw]
  clear hw w2
  go_wp2_with fail
  refine (growz25 (HM.out.cellAt (List.mem_cons_self ..) rfl)).mono ?_
  rintro e w2 ⟨rfl, hw⟩
  rw [hw]
  clear hw w2
  go_wp2_with fail
  refine (growz26 (HM.out.cellAt (List.mem_cons_self ..) rfl)).mono ?_
  rintro e w2 ⟨rfl, hw⟩
  rw [hw]
  clear hw w2
  go_wp2_with fail
  refine (growz27 (HM.out.cellAt (List.mem_cons_self ..) rfl)).mono ?_
  rintro e w2 ⟨rfl, hw⟩
  rw [hw]
  clear hw w2
  go_wp2_with fail
  refine (growz28 (HM.out.cellAt (List.mem_cons_self ..) rfl)).mono ?_
  rintro e w2 ⟨rfl, hw⟩
  rw [hw]
  clear hw w2
  go_wp2_with fail
  refine (growz29 (HM.out.cellAt (List.mem_cons_self ..) rfl)).mono ?_
  rintro e w2 ⟨rfl, hw⟩
  rw [hw]
  clear hw w2
  go_wp2_with fail
  refine (growz30 (HM.out.cellAt (List.mem_cons_self ..) rfl)).mono ?_
  rintro e w2 ⟨rfl, hw⟩
  rw [hw]
  clear hw w2
  go_wp2_with fail
  refine (growz31 (HM.out.cellAt (List.mem_cons_self ..) rfl)).mono ?_
  rintro e w2 ⟨rfl, hw⟩
  rw [hw]
  clear hw w2
  go_wp2_with fail
  go_end0
  exact ⟨rfl, LI', LM', HL.out, HL2.out, HM.out⟩
set_option maxRecDepth 100000 in
set_option maxHeartbeats 4000000 in
theorem lookOne_calls {w0 w : World} {F0 : Nat → Prop} {kb n : Nat} {vI vM : Value} {LI LM : List (Value × Value × Nat)} {R : List Thing} (h : Mid w0 F0 (bookS lI lM kb n vI vM LI LM ++ R) w) (hmI : FitsAll LI) (hmM : FitsAll LM) :
    Calls Tryz.prog 52 #[.pointer (some ⟨kb, 0, none⟩)] w fun e w' => e = .returned (.bool true) ∧ Below w.heap.size w w' := by
  have HM := Lib.hid h
  have HB := Lib.hid (Below.refl w.heap.size w)
  clear h
  go_enter Tryz.func52, Tryz.ntmps52
  go_wp2_with fail
  refine (lookz1 (HM.out.cellAt (List.mem_cons_self ..) rfl)).mono ?_
  rintro e w2 ⟨rfl, hw⟩
  rw [hw]
  clear hw w2
  go_wp2_with fail
  refine (lookz2 (HM.out.cellAt (List.mem_cons_self ..) rfl)).mono ?_
  rintro e w2 ⟨rfl, hw⟩
  rw [hw]
  clear hw w2
  go_wp2_with fail
  refine (lookz3 (HM.out.cellAt (List.mem_cons_self ..) rfl)).mono ?_
  rintro e w2 ⟨rfl, hw⟩
  rw [hw]
  clear hw w2
  go_wp2_with fail
  refine (lookz4 (HM.out.cellAt (List.mem_cons_self ..) rfl)).mono ?_
  rintro e w2 ⟨rfl, hw⟩
  rw [hw]
  clear hw w2
  go_wp2_with fail
  refine (lookz5 (HM.out.cellAt (List.mem_cons_self ..) rfl)).mono ?_
  rintro e w2 ⟨rfl, hw⟩
  rw [hw]
  clear hw w2
  go_wp2_with fail
  refine (lookz6 (HM.out.cellAt (List.mem_cons_self ..) rfl)).mono ?_
  rintro e w2 ⟨rfl, hw⟩
  rw [hw]
  clear hw w2
  go_wp2_with fail
  refine (lookz7 (HM.out.cellAt (List.mem_cons_self ..) rfl)).mono ?_
  rintro e w2 ⟨rfl, hw⟩
  rw [hw]
  clear hw w2
  go_wp2_with fail
  refine (lookz8 (HM.out.cellAt (List.mem_cons_self ..) rfl)).mono ?_
  rintro e w2 ⟨rfl, hw⟩
  rw [hw]
  clear hw w2
  go_wp2_with fail
  refine (lookz9 (HM.out.cellAt (List.mem_cons_self ..) rfl)).mono ?_
  rintro e w2 ⟨rfl, hw⟩
  rw [hw]
  clear hw w2
  go_wp2_with fail
  refine (lookz10 (HM.out.cellAt (List.mem_cons_self ..) rfl)).mono ?_
  rintro e w2 ⟨rfl, hw⟩
  rw [hw]
  clear hw w2
  go_wp2_with fail
  refine (lookz11 (HM.out.cellAt (List.mem_cons_self ..) rfl)).mono ?_
  rintro e w2 ⟨rfl, hw⟩
  rw [hw]
  clear hw w2
  go_wp2_with fail
  refine (lookz12 (HM.out.cellAt (List.mem_cons_self ..) rfl)).mono ?_
  rintro e w2 ⟨rfl, hw⟩
  rw [hw]
  clear hw w2
  go_wp2_with fail
  refine (lookz13 (HM.out.cellAt (List.mem_cons_self ..) rfl)).mono ?_
  rintro e w2 ⟨rfl, hw⟩
  rw [hw]
  clear hw w2
  go_wp2_with fail
  refine (lookInt_calls (HM.out.perm permI) rfl hmI).mono ?_
  rintro e w14 ⟨rfl, hb⟩
  have HM2 := Lib.hid (HM.out.below hb)
  have HB2 := Lib.hid (HB.out.trans (hb.mono HB.out.size))
  clear HM HB hb
  have HM := HM2
  have HB := HB2
  clear HM2 HB2
  go_wp2_with fail
  refine (lookz15 (HM.out.cellAt (List.mem_cons_self ..) rfl)).mono ?_
  rintro e w2 ⟨rfl, hw⟩
  rw [hw]
  clear hw w2
  go_wp2_with fail
  refine (lookz16 (HM.out.cellAt (List.mem_cons_self ..) rfl)).mono ?_
  rintro e w2 ⟨rfl, hw⟩
  rw [hw]
  clear hw w2
  go_wp2_with fail
  exact bodyPost_ret (v := .bool true) (by simp [results, Tryz.results52, go_sem]) rfl ⟨rfl, HB.out⟩
set_option maxRecDepth 100000 in
set_option maxHeartbeats 4000000 in
theorem lookTwo_calls {w0 w : World} {F0 : Nat → Prop} {kb n : Nat} {vI vM : Value} {LI LM : List (Value × Value × Nat)} {R : List Thing} (h : Mid w0 F0 (bookS lI lM kb n vI vM LI LM ++ R) w) (hmI : FitsAll LI) (hmM : FitsAll LM) :
    Calls Tryz.prog 53 #[.pointer (some ⟨kb, 0, none⟩)] w fun e w' => e = .returned (.bool true) ∧ Below w.heap.size w w' := by
  have HM := Lib.hid h
  have HB := Lib.hid (Below.refl w.heap.size w)
  clear h
  go_enter Tryz.func53, Tryz.ntmps53
  go_wp2_with fail
  refine (lookz17 (HM.out.cellAt (List.mem_cons_self ..) rfl)).mono ?_
  rintro e w2 ⟨rfl, hw⟩
  rw [hw]
  clear hw w2
  go_wp2_with fail
  refine (lookz18 (HM.out.cellAt (List.mem_cons_self ..) rfl)).mono ?_
  rintro e w2 ⟨rfl, hw⟩
  rw [hw]
  clear hw w2
  go_wp2_with fail
  refine (lookz19 (HM.out.cellAt (List.mem_cons_self ..) rfl)).mono ?_
  rintro e w2 ⟨rfl, hw⟩
  rw [hw]
  clear hw w2
  go_wp2_with fail
  refine (lookz20 (HM.out.cellAt (List.mem_cons_self ..) rfl)).mono ?_
  rintro e w2 ⟨rfl, hw⟩
  rw [hw]
  clear hw w2
  go_wp2_with fail
  refine (lookz21 (HM.out.cellAt (List.mem_cons_self ..) rfl)).mono ?_
  rintro e w2 ⟨rfl, hw⟩
  rw [hw]
  clear hw w2
  go_wp2_with fail
  refine (lookMask_calls (HM.out.perm permM) rfl hmM).mono ?_
  rintro e w22 ⟨rfl, hb⟩
  have HM2 := Lib.hid (HM.out.below hb)
  have HB2 := Lib.hid (HB.out.trans (hb.mono HB.out.size))
  clear HM HB hb
  have HM := HM2
  have HB := HB2
  clear HM2 HB2
  go_wp2_with fail
  refine (lookz23 (HM.out.cellAt (List.mem_cons_self ..) rfl)).mono ?_
  rintro e w2 ⟨rfl, hw⟩
  rw [hw]
  clear hw w2
  go_wp2_with fail
  refine (lookz24 (HM.out.cellAt (List.mem_cons_self ..) rfl)).mono ?_
  rintro e w2 ⟨rfl, hw⟩
  rw [hw]
  clear hw w2
  go_wp2_with fail
  refine (lookz25 (HM.out.cellAt (List.mem_cons_self ..) rfl)).mono ?_
  rintro e w2 ⟨rfl, hw⟩
  rw [hw]
  clear hw w2
  go_wp2_with fail
  refine (lookz26 (HM.out.cellAt (List.mem_cons_self ..) rfl)).mono ?_
  rintro e w2 ⟨rfl, hw⟩
  rw [hw]
  clear hw w2
  go_wp2_with fail
  refine (lookz27 (HM.out.cellAt (List.mem_cons_self ..) rfl)).mono ?_
  rintro e w2 ⟨rfl, hw⟩
  rw [hw]
  clear hw w2
  go_wp2_with fail
  refine (lookz28 (HM.out.cellAt (List.mem_cons_self ..) rfl)).mono ?_
  rintro e w2 ⟨rfl, hw⟩
  rw [hw]
  clear hw w2
  go_wp2_with fail
  refine (lookz29 (HM.out.cellAt (List.mem_cons_self ..) rfl)).mono ?_
  rintro e w2 ⟨rfl, hw⟩
  rw [hw]
  clear hw w2
  go_wp2_with fail
  refine (lookz30 (HM.out.cellAt (List.mem_cons_self ..) rfl)).mono ?_
  rintro e w2 ⟨rfl, hw⟩
  rw [hw]
  clear hw w2
  go_wp2_with fail
  refine (lookz31 (HM.out.cellAt (List.mem_cons_self ..) rfl)).mono ?_
  rintro e w2 ⟨rfl, hw⟩
  rw [hw]
  clear hw w2
  go_wp2_with fail
  exact bodyPost_ret (v := .bool true) (by simp [results, Tryz.results53, go_sem]) rfl ⟨rfl, HB.out⟩
set_option maxRecDepth 100000 in
set_option maxHeartbeats 4000000 in
theorem apart_calls {w0 w : World} {F0 : Nat → Prop} {kb n : Nat} {vI vM : Value} {LI LM : List (Value × Value × Nat)} {R : List Thing} (h : Mid w0 F0 (bookS rI rM kb n vI vM LI LM ++ R) w) (hsI : Slices2 LI) (hsM : Slices2 LM) (hmI : FitsAll LI) (hmM : FitsAll LM) :
    Calls Tryz.prog 8 #[.pointer (some ⟨kb, 0, none⟩)] w fun e w' => e = .returned (.bool true) ∧ ∃ B, Mid w0 F0 (B ++ R) w' := by
  have HM := Lib.hid h
  have HsI := Lib.hid hsI
  have HsM := Lib.hid hsM
  have HmI := Lib.hid hmI
  have HmM := Lib.hid hmM
  clear h hsI hsM hmI hmM
  go_enter Tryz.func8, Tryz.ntmps8
  go_wp2_with fail
  refine (fillz1 (HM.out.cellAt (List.mem_cons_self ..) rfl)).mono ?_
  rintro e w2 ⟨rfl, hw⟩
  rw [hw]
  clear hw w2
  go_wp2_with fail
  refine (fillz2 (HM.out.cellAt (List.mem_cons_self ..) rfl)).mono ?_
  rintro e w2 ⟨rfl, hw⟩
  rw [hw]
  clear hw w2
  go_wp2_with fail
  refine (fillz3 (HM.out.cellAt (List.mem_cons_self ..) rfl)).mono ?_
  rintro e w2 ⟨rfl, hw⟩
  rw [hw]
  clear hw w2
  go_wp2_with fail
  refine (fillz4 (HM.out.cellAt (List.mem_cons_self ..) rfl)).mono ?_
  rintro e w2 ⟨rfl, hw⟩
  rw [hw]
  clear hw w2
  go_wp2_with fail
  refine (fillz5 (HM.out.cellAt (List.mem_cons_self ..) rfl)).mono ?_
  rintro e w2 ⟨rfl, hw⟩
  rw [hw]
  clear hw w2
  go_wp2_with fail
  refine (fillz6 (HM.out.cellAt (List.mem_cons_self ..) rfl)).mono ?_
  rintro e w2 ⟨rfl, hw⟩
  rw [hw]
  clear hw w2
  go_wp2_with fail
  refine (fillz7 (HM.out.cellAt (List.mem_cons_self ..) rfl)).mono ?_
  rintro e w2 ⟨rfl, hw⟩
  rw [hw]
  clear hw w2
  go_wp2_with fail
  refine (fillz8 (HM.out.cellAt (List.mem_cons_self ..) rfl)).mono ?_
  rintro e w2 ⟨rfl, hw⟩
  rw [hw]
  clear hw w2
  go_wp2_with fail
  refine (fillz9 (HM.out.cellAt (List.mem_cons_self ..) rfl)).mono ?_
  rintro e w2 ⟨rfl, hw⟩
  rw [hw]
  clear hw w2
  go_wp2_with fail
  refine (fillz10 (HM.out.cellAt (List.mem_cons_self ..) rfl)).mono ?_
  rintro e w2 ⟨rfl, hw⟩
  rw [hw]
  clear hw w2
  go_wp2_with fail
  refine (fillz11 (HM.out.cellAt (List.mem_cons_self ..) rfl)).mono ?_
  rintro e w2 ⟨rfl, hw⟩
  rw [hw]
  clear hw w2
  go_wp2_with fail
  refine (fillz12 (HM.out.cellAt (List.mem_cons_self ..) rfl)).mono ?_
  rintro e w2 ⟨rfl, hw⟩
  rw [hw]
  clear hw w2
  go_wp2_with fail
  refine (fillz13 (HM.out.cellAt (List.mem_cons_self ..) rfl)).mono ?_
  rintro e w2 ⟨rfl, hw⟩
  rw [hw]
  clear hw w2
  go_wp2_with fail
  refine (fillInt_calls (HM.out.perm permI) rfl HsI.out).mono ?_
  rintro e w14 ⟨rfl, h⟩
  clear HM
  have HM := Lib.hid (h.perm (permI (TM := rM)).symm)
  clear h
  go_wp2_with fail
  refine (fillz15 (HM.out.cellAt (List.mem_cons_self ..) rfl)).mono ?_
  rintro e w2 ⟨rfl, hw⟩
  rw [hw]
  clear hw w2
  go_wp2_with fail
  refine (fillz16 (HM.out.cellAt (List.mem_cons_self ..) rfl)).mono ?_
  rintro e w2 ⟨rfl, hw⟩
  rw [hw]
  clear hw w2
  go_wp2_with fail
  refine (fillz17 (HM.out.cellAt (List.mem_cons_self ..) rfl)).mono ?_
  rintro e w2 ⟨rfl, hw⟩
  rw [hw]
  clear hw w2
  go_wp2_with fail
  refine (fillz18 (HM.out.cellAt (List.mem_cons_self ..) rfl)).mono ?_
  rintro e w2 ⟨rfl, hw⟩
  rw [hw]
  clear hw w2
  go_wp2_with fail
  refine (fillz19 (HM.out.cellAt (List.mem_cons_self ..) rfl)).mono ?_
  rintro e w2 ⟨rfl, hw⟩
  rw [hw]
  clear hw w2
  go_wp2_with fail
  refine (fillz20 (HM.out.cellAt (List.mem_cons_self ..) rfl)).mono ?_
  rintro e w2 ⟨rfl, hw⟩
  rw [hw]
  clear hw w2
  go_wp2_with fail
  refine (fillz21 (HM.out.cellAt (List.mem_cons_self ..) rfl)).mono ?_
  rintro e w2 ⟨rfl, hw⟩
  rw [hw]
  clear hw w2
  go_wp2_with fail
  refine (fillMask_calls (HM.out.perm permM) rfl HsM.out).mono ?_
  rintro e w22 ⟨rfl, h⟩
  clear HM
  have HM := Lib.hid (h.perm (permM (TI := fI)).symm)
  clear h
  go_wp2_with fail
  refine (fillz23 (HM.out.cellAt (List.mem_cons_self ..) rfl)).mono ?_
  rintro e w2 ⟨rfl, hw⟩
  rw [hw]
  clear hw w2
  go_wp2_with fail
  refine (fillz24 (HM.out.cellAt (List.mem_cons_self ..) rfl)).mono ?_
  rintro e w2 ⟨rfl, hw⟩
  rw [hw]
  clear hw w2
  go_wp2_with fail
  refine (fillz25 (HM.out.cellAt (List.mem_cons_self ..) rfl)).mono ?_
  rintro e w2 ⟨rfl, hw⟩
  rw [hw]
  clear hw w2
  go_wp2_with fail
  refine (fillz26 (HM.out.cellAt (List.mem_cons_self ..) rfl)).mono ?_
  rintro e w2 ⟨rfl, hw⟩
  rw [hw]
  clear hw w2
  go_wp2_with fail
  refine (fillz27 (HM.out.cellAt (List.mem_cons_self ..) rfl)).mono ?_
  rintro e w2 ⟨rfl, hw⟩
  rw [hw]
  clear hw w2
  go_wp2_with fail
  refine (fillz28 (HM.out.cellAt (List.mem_cons_self ..) rfl)).mono ?_
  rintro e w2 ⟨rfl, hw⟩
  rw [hw]
  clear hw w2
  go_wp2_with fail
  refine (fillz29 (HM.out.cellAt (List.mem_cons_self ..) rfl)).mono ?_
  rintro e w2 ⟨rfl, hw⟩
  rw [hw]
  clear hw w2
  go_wp2_with fail
  refine (fillz30 (HM.out.cellAt (List.mem_cons_self ..) rfl)).mono ?_
  rintro e w2 ⟨rfl, hw⟩
  rw [hw]
  clear hw w2
  go_wp2_with fail
  refine (fillz31 (HM.out.cellAt (List.mem_cons_self ..) rfl)).mono ?_
  rintro e w2 ⟨rfl, hw⟩
  rw [hw]
  clear hw w2
  go_wp2_with fail
  refine (growAll_calls HM.out HsI.out HsM.out HmI.out HmM.out).mono ?_
  rintro e w3 ⟨rfl, LI', LM', h1, h2, h3⟩
  have HmI' : Hid (FitsAll LI') := h1.fst (Q := fun v => ∃ a n c, v = .slice a n c ∧ n ≤ 1099511627776) HmI.out
  have HmM' : Hid (FitsAll LM') := h2.fst (Q := fun v => ∃ a n c, v = .slice a n c ∧ n ≤ 1099511627776) HmM.out
  have HM3 := Lib.hid h3
  clear HM h1 h2 h3 HsI HsM HmI HmM
  go_wp2_with fail
  refine (lookOne_calls HM3.out HmI'.out HmM'.out).mono ?_
  rintro e w4 ⟨rfl, hb4⟩
  have HM4 := Lib.hid (HM3.out.below hb4)
  clear HM3 hb4
  go_wp2_with fail
  refine (lookTwo_calls HM4.out HmI'.out HmM'.out).mono ?_
  rintro e w5 ⟨rfl, hb5⟩
  have HM5 := Lib.hid (HM4.out.below hb5)
  clear HM4 hb5
  go_wp2_with fail
  exact bodyPost_ret (v := .bool true) (by simp [results, Tryz.results8, go_sem]) rfl ⟨rfl, _, HM5.out⟩
end Go.Proofs.YtckhkfchgcdajaaGreatDoor

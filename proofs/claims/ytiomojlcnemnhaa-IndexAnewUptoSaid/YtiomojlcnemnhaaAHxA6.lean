import Derived.Test.YtiomojlcnemnhaaAHxA5
namespace Go.Proofs.Ytiomojlcnemnhaa
open Go.Fx Go.RowKit
theorem RelAt.frame {w w' : World} {b pb mb : Nat} {lv : Value} {arity : Nat} {gone : Int} {rows : List (List Int)} (h : RelAt w b pb mb lv arity gone rows) (hb : ∀ k, relF b pb mb lv k → w'.heap[k]? = w.heap[k]?) : RelAt w' b pb mb lv arity gone rows :=
  { h with
    hb := (hb b (.inl rfl)).trans h.hb
    hp := (hb pb (.inr (.inl rfl))).trans h.hp
    own := ownsRow_of_block h.own fun k hk => hb k (.inr (.inr (.inr hk)))
    map := h.map.frame (hb mb (.inr (.inr (.inl rfl)))) }
theorem RelAt.lt {w : World} {b pb mb : Nat} {lv : Value} {arity : Nat} {gone : Int} {rows : List (List Int)} (h : RelAt w b pb mb lv arity gone rows) : ∀ k, relF b pb mb lv k → k < w.heap.size := by
  rintro k (rfl | rfl | rfl | hk)
  · exact h.cells.lb
  · exact h.cells.lp
  · exact h.map.lt
  · exact own_lt h.own hk
theorem RelAt.below {w w' : World} {b pb mb : Nat} {lv : Value} {arity : Nat} {gone : Int} {rows : List (List Int)} (h : RelAt w b pb mb lv arity gone rows) (hb : Below w.heap.size w w') : RelAt w' b pb mb lv arity gone rows :=
  h.frame fun k hk => hb.block k (h.lt k hk)
set_option maxRecDepth 100000 in
set_option maxHeartbeats 4000000 in
theorem add_in {w : World} {b pb mb : Nat} {lv : Value} {arity : Nat} {gone : Int} {rows : List (List Int)} (h : RelAt w b pb mb lv arity gone rows) {x : List Int} (hx : RowOk x) (hr : rightRow arity x = true) (hin : x ∈ rows) :
    Calls Try.prog 24 #[.pointer (some ⟨b, 0, none⟩), rowV x] w fun e w' => e = .returned (.tuple #[.bool false, .int .i64 0]) ∧ Below w.heap.size w w' := by
  go_enter Try.func24, Try.ntmps24
  go_wp2_with fail
  have hal := (MapKept.heap_alloc w (Obj.cells (List.map symV x).toArray 43)).1
  have hba : Below w.heap.size w (w.alloc (Obj.cells (List.map symV x).toArray 43)) := (Below.refl _ w).alloc (Nat.le_refl _) _
  generalize w.alloc (Obj.cells (List.map symV x).toArray 43) = wa at *
  have hsz : (Try.prog.info? 43).map (·.size) = some (List.map symV x).toArray.size := by rw [infoRow]; simp [hx.1]
  have hlta : w.heap.size < wa.heap.size := (Array.getElem?_eq_some_iff.1 hal).1
  refine (there_calls (h.below hba).cells.h2).mono ?_
  rintro e w1 ⟨rfl, hb1⟩
  have hal1 : w1.heap[w.heap.size]? = some (Obj.cells (List.map symV x).toArray 43) := (hb1.block _ hlta).trans hal
  have hba1 : Below w.heap.size w w1 := hba.trans (hb1.mono hba.size)
  clear hal hba hb1
  go_wp2_with (refine wpList_load_row rfl 43 _ rfl w.heap.size rfl 43 _ (0, 0) _ hal1 Try.underlying43 rfl hsz ?_)
  refine (right_calls (h.below hba1).cells x hx h.wide).mono ?_
  rintro e w2 ⟨rfl, hb2⟩
  rw [hr]
  have hlt1 : w.heap.size < w1.heap.size := (Array.getElem?_eq_some_iff.1 hal1).1
  have hal2 : w2.heap[w.heap.size]? = some (Obj.cells (List.map symV x).toArray 43) := (hb2.block _ hlt1).trans hal1
  have hba2 : Below w.heap.size w w2 := hba1.trans (hb2.mono hba1.size)
  clear hal1 hba1 hb2 hlt1
  go_wp2_with fail
  have hbd : Below w.heap.size w w2.drew := below_drew' hba2
  have h2 := (h.below hbd).cells.h2
  have hald : w2.drew.heap[w.heap.size]? = some (Obj.cells (List.map symV x).toArray 43) := hal2
  refine wp_region_still_tail 5 (by kernel_rfl) (by kernel_rfl) ?_
  change wpStill _ _ w2.drew _ _ _
  simp only [List.take_succ_cons, List.take_zero, List.drop_succ_cons, List.drop_zero]
  repeat (first
    | (refine wpStill_step (fun K hK => ?_); rw [if_pos (by rfl)]; refine still_load_row 43 _ rfl w.heap.size rfl 43 _ (0, 0) _ hald Try.underlying43 rfl hsz (hK _ ?_); clear hK K)
    | still_step)
  refine wpStill_nil ?_
  change wpList _ _ _ _ _ w2.drew
  go_wp2_with fail
  refine (put_in (h.below hbd) hx hin).mono ?_
  rintro e w3 ⟨rfl, hb3⟩
  go_wp2_with fail
  simp [bodyPost, results, Try.results24, go_sem]
  exact hbd.trans (hb3.mono hbd.size)
set_option maxRecDepth 100000 in
set_option maxHeartbeats 4000000 in
theorem add_new {w : World} {b pb mb : Nat} {lv : Value} {arity : Nat} {gone : Int} {rows : List (List Int)} (h : RelAt w b pb mb lv arity gone rows) {x : List Int} (hx : RowOk x) (hr : rightRow arity x = true) (hin : x ∉ rows) (hn : rows.length ≤ 1048576) :
    Calls Try.prog 24 #[.pointer (some ⟨b, 0, none⟩), rowV x] w fun e w' => e = .returned (.tuple #[.bool true, .int .i64 0]) ∧ ∃ lv', RelAt w' b pb mb lv' arity gone (rows ++ [x]) ∧ KeptBut (relF b pb mb lv) w w' ∧ (∀ k, relF b pb mb lv' k → relF b pb mb lv k ∨ w.heap.size ≤ k) := by
  go_enter Try.func24, Try.ntmps24
  go_wp2_with fail
  have hal := (MapKept.heap_alloc w (Obj.cells (List.map symV x).toArray 43)).1
  have hba : Below w.heap.size w (w.alloc (Obj.cells (List.map symV x).toArray 43)) := (Below.refl _ w).alloc (Nat.le_refl _) _
  generalize w.alloc (Obj.cells (List.map symV x).toArray 43) = wa at *
  have hsz : (Try.prog.info? 43).map (·.size) = some (List.map symV x).toArray.size := by rw [infoRow]; simp [hx.1]
  have hlta : w.heap.size < wa.heap.size := (Array.getElem?_eq_some_iff.1 hal).1
  refine (there_calls (h.below hba).cells.h2).mono ?_
  rintro e w1 ⟨rfl, hb1⟩
  have hal1 : w1.heap[w.heap.size]? = some (Obj.cells (List.map symV x).toArray 43) := (hb1.block _ hlta).trans hal
  have hba1 : Below w.heap.size w w1 := hba.trans (hb1.mono hba.size)
  clear hal hba hb1
  go_wp2_with (refine wpList_load_row rfl 43 _ rfl w.heap.size rfl 43 _ (0, 0) _ hal1 Try.underlying43 rfl hsz ?_)
  refine (right_calls (h.below hba1).cells x hx h.wide).mono ?_
  rintro e w2 ⟨rfl, hb2⟩
  rw [hr]
  have hlt1 : w.heap.size < w1.heap.size := (Array.getElem?_eq_some_iff.1 hal1).1
  have hal2 : w2.heap[w.heap.size]? = some (Obj.cells (List.map symV x).toArray 43) := (hb2.block _ hlt1).trans hal1
  have hba2 : Below w.heap.size w w2 := hba1.trans (hb2.mono hba1.size)
  clear hal1 hba1 hb2 hlt1
  go_wp2_with fail
  have hbd : Below w.heap.size w w2.drew := below_drew' hba2
  have h2 := (h.below hbd).cells.h2
  have hald : w2.drew.heap[w.heap.size]? = some (Obj.cells (List.map symV x).toArray 43) := hal2
  refine wp_region_still_tail 5 (by kernel_rfl) (by kernel_rfl) ?_
  change wpStill _ _ w2.drew _ _ _
  simp only [List.take_succ_cons, List.take_zero, List.drop_succ_cons, List.drop_zero]
  repeat (first
    | (refine wpStill_step (fun K hK => ?_); rw [if_pos (by rfl)]; refine still_load_row 43 _ rfl w.heap.size rfl 43 _ (0, 0) _ hald Try.underlying43 rfl hsz (hK _ ?_); clear hK K)
    | still_step)
  refine wpStill_nil ?_
  change wpList _ _ _ _ _ w2.drew
  go_wp2_with fail
  refine (put_new (h.below hbd) hx hin hn).mono ?_
  rintro e w3 ⟨rfl, lv', hR, hK3, hF⟩
  go_wp2_with fail
  simp [bodyPost, results, Try.results24, go_sem]
  exact ⟨lv', hR, (KeptBut.of_below hbd).trans hK3 fun k hk => .inr hk, fun k hk => (hF k hk).imp_right fun h => Nat.le_trans hbd.size h⟩
end Go.Proofs.Ytiomojlcnemnhaa

import Derived.Test.YtiomojlcnemnhaaAHxD0
namespace Go.Proofs.Ytiomojlcnemnhaa
open Go.Fx Go.RowKit
set_option maxRecDepth 100000 in
set_option maxHeartbeats 4000000 in
theorem at_minus {w : World} {R : Nat → Prop} {b arity : Nat} {gone : Int} {rows : List (List Int)} (hR : Rel w R b arity gone rows) :
    Calls Try.prog 16 #[.pointer (some ⟨b, 0, none⟩), .int .i64 (-1)] w fun e w' => e = .returned (.tuple #[rowV zRow, .int .i64 1]) ∧ Below w.heap.size w w' := by
  obtain ⟨pb, mb, lv, h, rfl⟩ := hR
  have hsz : (Try.prog.info? 43).map (·.size) = some (List.map symV zRow).toArray.size := by rw [infoRow]; simp
  have hone := row_one zRow
  go_enter Try.func16, Try.ntmps16
  go_wp2_with fail
  have hz := (MapKept.heap_alloc w (Obj.cells (List.map symV zRow).toArray 43)).1
  have hba : Below w.heap.size w (w.alloc (Obj.cells (List.map symV zRow).toArray 43)) := (Below.refl _ w).alloc (Nat.le_refl _) _
  obtain ⟨wa, hwa⟩ : ∃ wa, w.alloc (Obj.cells (List.map symV zRow).toArray 43) = wa := ⟨_, rfl⟩
  rw [hwa] at hz hba
  simp only [zRow, List.replicate, List.map] at hwa
  rw [hwa]
  clear hwa
  refine (there_calls (h.below hba).cells.h2).mono ?_
  rintro e w1 ⟨rfl, hb1⟩
  have hlta : w.heap.size < wa.heap.size := (Array.getElem?_eq_some_iff.1 hz).1
  have hz1 := (hb1.block _ hlta).trans hz
  have hba1 : Below w.heap.size w w1 := hba.trans (hb1.mono hba.size)
  clear hz hba hb1 h
  go_wp2_with (first | (refine wpList_build rfl 43 _ rfl (by rw [zero_built]; rfl) ?_; simp only [List.map_toArray, List.map_nil, Array.toList_empty, zero_built, Option.getD_some]) | (refine wpList_store_row rfl 43 _ _ rfl w.heap.size _ rfl rfl 43 _ hz1 hsz (by simp) hone ?_))
  have hg2 := setRow_heap w1 w.heap.size _ (List.map symV zRow).toArray _ _ hz1
  have hld := run_loadVar_row (P := Try.prog) (w1.setRow w.heap.size (List.map symV zRow).toArray) w.heap.size 43 43 _ (0, 0) _ hg2 Try.underlying43 rfl hsz
  refine bodyPost_ret (v := .tuple #[rowV zRow, .int .i64 1]) (by rw [results_cell_tmp Try.results16]; exact run_cell_tmp hld rfl rfl) rfl ⟨rfl, ?_⟩
  exact below_setRow hba1 (Nat.le_refl _) _
set_option maxHeartbeats 4000000 in
set_option maxRecDepth 100000 in
theorem b_open {w : World} {R : Nat → Prop} {b arity : Nat} {gone : Int} {rows : List (List Int)} (hR : Rel w R b arity gone rows) :
    Calls Try.prog 21 #[.pointer (some ⟨b, 0, none⟩)] w fun e w' => ∃ bk F, e = .returned (.tuple #[.pointer (some ⟨bk, 0, none⟩), .int .i64 0]) ∧ Bk w' F bk b [] ∧ Below w.heap.size w w' ∧ (∀ k, F k → w.heap.size ≤ k) := by
  obtain ⟨zr, hzr⟩ : ∃ zr, zr = zRow := ⟨_, rfl⟩
  have hl : zr.length = 24 := by rw [hzr]; rfl
  have hsz : (Try.prog.info? 43).map (·.size) = some (List.map symV zr).toArray.size := by rw [infoRow]; simp [hl]
  have hone := row_one zr
  have hat := fun w => at_minus (w := w) (R := R) (b := b) (arity := arity) (gone := gone) (rows := rows)
  rw [← hzr] at hat
  clear hzr
  have hmm := @run_makeMap Try.prog
  go_enter Try.func21, Try.ntmps21
  go_wp2_with fail
  refine (hat w hR).mono ?_
  rintro e w1 ⟨rfl, hb1⟩
  have hz := (MapKept.heap_alloc w1 (Obj.cells (List.replicate 24 (Value.int .i32 0)).toArray 43)).1
  go_wp2_with (refine wpList_store_row rfl 43 _ _ rfl w1.heap.size _ rfl rfl 43 _ hz hsz (by simp [hl]) hone ?_)
  have hs0 := alloc_size w1 (Obj.cells (List.replicate 24 (Value.int .i32 0)).toArray 43)
  have hb0 := hb1.alloc hb1.size (Obj.cells (List.replicate 24 (Value.int .i32 0)).toArray 43)
  have hb2 := below_setRow hb0 hb1.size (List.map symV zr).toArray
  have hs2 := setRow_size (w1.alloc (Obj.cells (List.replicate 24 (Value.int .i32 0)).toArray 43)) w1.heap.size (List.map symV zr).toArray
  refine bodyPost_ret (v := .tuple #[.pointer (some ⟨w1.heap.size + 1 + 1, 0, none⟩), .int .i64 0]) (by simp [results, Try.results21, go_sem]) rfl ?_
  obtain ⟨wx, hwx⟩ : ∃ wx, (w1.alloc (Obj.cells (List.replicate 24 (Value.int .i32 0)).toArray 43)).setRow w1.heap.size (List.map symV zr).toArray = wx := ⟨_, rfl⟩
  rw [hwx] at hb2 hs2
  rw [hs0] at hs2
  have hle : w.heap.size ≤ w1.heap.size := hb1.size
  show ∃ bk F, Ending.returned _ = _ ∧ Bk ((((w1.alloc (Obj.cells (List.replicate 24 (Value.int .i32 0)).toArray 43)).setRow w1.heap.size (List.map symV zr).toArray).alloc (Obj.map #[] 0)).alloc (Obj.cells #[.pointer (some ⟨b, 0, none⟩), .map (some (w1.heap.size + 1))] 104)) F bk b [] ∧ Below w.heap.size w ((((w1.alloc (Obj.cells (List.replicate 24 (Value.int .i32 0)).toArray 43)).setRow w1.heap.size (List.map symV zr).toArray).alloc (Obj.map #[] 0)).alloc (Obj.cells #[.pointer (some ⟨b, 0, none⟩), .map (some (w1.heap.size + 1))] 104)) ∧ ∀ (k : Nat), F k → w.heap.size ≤ k
  rw [hwx]
  clear hwx hz hs0 hb0 hmm hat
  have h1 := heap_alloc_new wx (Obj.map #[] 0)
  have hs1 := alloc_size wx (Obj.map #[] 0)
  have hb3 := hb2.alloc (by omega) (Obj.map #[] 0)
  generalize wx.alloc (Obj.map #[] 0) = wy at *
  have h2 := heap_alloc_new wy (Obj.cells #[.pointer (some ⟨b, 0, none⟩), .map (some (w1.heap.size + 1))] 104)
  have hb4 := hb3.alloc (by omega) (Obj.cells #[.pointer (some ⟨b, 0, none⟩), .map (some (w1.heap.size + 1))] 104)
  have hk := ((Below.refl _ wy).alloc (Nat.le_refl _) (Obj.cells #[.pointer (some ⟨b, 0, none⟩), .map (some (w1.heap.size + 1))] 104)).block wx.heap.size (by omega)
  generalize wy.alloc (Obj.cells #[.pointer (some ⟨b, 0, none⟩), .map (some (w1.heap.size + 1))] 104) = wz at *
  rw [hs1, hs2] at h2
  rw [hs2] at hk h1
  refine ⟨w1.heap.size + 1 + 1, _, rfl, ⟨w1.heap.size + 1, [], ⟨h2, MapG.nil (hk.trans h1), by simp, List.Pairwise.nil, by omega, by simp⟩, rfl, rfl⟩, hb4, ?_⟩
  rintro k (rfl | rfl | ⟨x, hx, _⟩)
  · omega
  · omega
  · cases hx
end Go.Proofs.Ytiomojlcnemnhaa

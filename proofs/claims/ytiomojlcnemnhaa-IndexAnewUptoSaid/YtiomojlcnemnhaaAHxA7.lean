import Derived.Test.YtiomojlcnemnhaaAHxA6
import Derived.Laws.ResultCell
namespace Go.Proofs.Ytiomojlcnemnhaa
open Go.Fx Go.RowKit
theorem alloc_heap (w : World) (o : Obj) (b : Nat) : (w.alloc o).heap[b]? = if b = w.heap.size then some o else w.heap[b]? := by
  show (w.heap.push o)[b]? = _
  rw [Array.getElem?_push]
theorem alloc_size (w : World) (o : Obj) : (w.alloc o).heap.size = w.heap.size + 1 := Array.size_push _
theorem own_range {w : World} {lv : Value} {rows : List (List Int)} (h : w.ownsRow 0 43 24 lv rows.length (rowsV rows)) (hr : ∀ x ∈ rows, RowOk x) {i : Nat} (hi : i < rows.length) :
    ∃ g cap, lv = .slice (some ⟨g, 0, none⟩) rows.length cap ∧ rows.length ≤ cap ∧ cap ≤ maxLen ∧ w.rangeAt g (i * 24) (rows[i].map symV) := by
  obtain ⟨hl, ⟨_, h0⟩ | ⟨g, cap, cur, rfl, _, hg, hn, hm, hsz, htk⟩⟩ := h
  · omega
  · refine ⟨g, cap, rfl, hn, hm, fun j v hj => ?_⟩
    have hj2 : j < 24 := by
      have := (List.getElem?_eq_some_iff.1 hj).1
      rw [List.length_map, (hr _ (List.getElem_mem hi)).1] at this
      exact this
    have hfl := flatten_at rows i j (fun e he => (hr e he).1) hj2
    rw [List.getElem?_eq_getElem hi, Option.bind_some] at hfl
    rw [List.getElem?_map] at hj
    obtain ⟨n, hn1, rfl⟩ := Option.map_eq_some_iff.1 hj
    rw [hn1] at hfl
    have h1 : (rowsV rows)[i * 24 + j]? = some (symV n) := by rw [List.getElem?_map, hfl]; rfl
    rw [← htk, List.getElem?_take] at h1
    split at h1
    · simp only [World.cell?, hg]
      simpa using h1
    · cases h1
set_option maxRecDepth 100000 in
set_option maxHeartbeats 4000000 in
theorem new_calls {w : World} {arity : Nat} (ha : arity ≤ 24) :
    Calls Try.prog 45 #[.int .i64 (arity : Int)] w fun e w' => ∃ b pb mb, e = .returned (.tuple #[.pointer (some ⟨b, 0, none⟩), .int .i64 0]) ∧ RelAt w' b pb mb (.slice none 0 0) arity 0 [] ∧ Below w.heap.size w w' ∧ (∀ k, relF b pb mb (.slice none 0 0) k → w.heap.size ≤ k) := by
  have hmm := @run_makeMap Try.prog
  have h0 : decide ((arity : Int) < 0) = false := decide_eq_false (by omega)
  have h1 : decide (24 < (arity : Int)) = false := decide_eq_false (by omega)
  go_enter Try.func45, Try.ntmps45
  go_wp2_with fail
  refine bodyPost_ret (v := .tuple #[.pointer (some ⟨w.heap.size + 1 + 1, 0, none⟩), .int .i64 0]) (by simp [results, Try.results45, go_sem]) rfl ⟨w.heap.size + 1 + 1, w.heap.size + 1, w.heap.size, rfl, ?_, ?_, ?_⟩
  · exact
      { hb := by rw [alloc_heap, if_pos (by rw [alloc_size, alloc_size])]
        hp := by rw [alloc_heap, if_neg (by rw [alloc_size, alloc_size]; omega), alloc_heap, if_pos (by rw [alloc_size])]
        own := World.ownsRow_nil _ _ _ _
        map := MapG.nil (clock := 0) (by rw [alloc_heap, if_neg (by rw [alloc_size, alloc_size]; omega), alloc_heap, if_neg (by rw [alloc_size]; omega), alloc_heap, if_pos rfl])
        ne1 := by omega
        ne2 := by omega
        ne3 := by omega
        ne4 := fun k hk => (by cases hk)
        ok := fun _ h => (by cases h)
        nodup := List.nodup_nil
        wide := ha }
  · exact (((Below.refl _ w).alloc (Nat.le_refl _) _).alloc (by simp) _).alloc (by simp; omega) _
  · rintro k (rfl | rfl | rfl | hk)
    · omega
    · omega
    · omega
    · cases hk
theorem run_cell_tmp {P : Program} {w : World} {ty : TypeId} {a : Addr} {v x y z : Value} (h : (loadVar ty a).run P w = .ok v w) (hx : x = .pointer (some a)) (hz : z = y) :
    (((asAddr x).run P w).andThen fun a w₁ => ((loadVar ty a).run P w₁).andThen fun v w₂ => .ok (Value.tuple #[v, z]) w₂) = .ok (Value.tuple #[v, y]) w := by
  subst hx hz
  show ((loadVar ty a).run P w).andThen _ = _
  rw [h]
  rfl
theorem zero_built : Try.prog.built 43 [] = some (List.map symV zRow).toArray := by kernel_rfl
set_option maxRecDepth 100000 in
theorem there_zero {w : World} {b : Nat} (h2 : w.cell? ⟨b, 2, none⟩ = some (.pointer none)) :
    Calls Try.prog 48 #[.pointer (some ⟨b, 0, none⟩)] w fun e w' => e = .returned (.bool false) ∧ Below w.heap.size w w' := by
  go_enter Try.func48, Try.ntmps48
  go_wp2_with fail
  simp [bodyPost, results, Try.results48, go_sem]
  exact Below.refl _ w
set_option maxRecDepth 100000 in
set_option maxHeartbeats 4000000 in
theorem at_calls {w : World} {b pb mb : Nat} {lv : Value} {arity : Nat} {gone : Int} {rows : List (List Int)} (h : RelAt w b pb mb lv arity gone rows) {i : Nat} (hi : i < rows.length) :
    Calls Try.prog 16 #[.pointer (some ⟨b, 0, none⟩), .int .i64 (i : Int)] w fun e w' => e = .returned (.tuple #[rowV rows[i], .int .i64 0]) ∧ Below w.heap.size w w' := by
  obtain ⟨g, cap, rfl, hc, hm, hrg⟩ := own_range h.own h.ok hi
  have hx := h.ok _ (List.getElem_mem hi)
  have hsz0 : (Try.prog.info? 43).map (·.size) = some (List.map symV rows[i]).length := by rw [infoRow]; simp [hx.1]
  have hsz : (Try.prog.info? 43).map (·.size) = some (List.map symV rows[i]).toArray.size := by rw [infoRow]; simp [hx.1]
  have hlen : (List.map symV rows[i]).length = 24 := by simp [hx.1]
  have hnn : rows[i].length = 24 := hx.1
  unfold maxLen at hm
  go_enter Try.func16, Try.ntmps16
  go_wp2_with fail
  have hz := (MapKept.heap_alloc w (Obj.cells (List.replicate 24 (Value.int .i32 0)).toArray 43)).1
  have hba : Below w.heap.size w (w.alloc (Obj.cells (List.replicate 24 (Value.int .i32 0)).toArray 43)) := (Below.refl _ w).alloc (Nat.le_refl _) _
  obtain ⟨wa, hwa⟩ : ∃ wa, w.alloc (Obj.cells (List.replicate 24 (Value.int .i32 0)).toArray 43) = wa := ⟨_, rfl⟩
  rw [hwa] at hz hba
  simp only [List.replicate] at hwa hz
  rw [hwa]
  clear hwa
  refine (there_calls (h.below hba).cells.h2).mono ?_
  rintro e w1 ⟨rfl, hb1⟩
  have hlta : w.heap.size < wa.heap.size := (Array.getElem?_eq_some_iff.1 hz).1
  have hz1 := (hb1.block _ hlta).trans hz
  have hba1 : Below w.heap.size w w1 := hba.trans (hb1.mono hba.size)
  clear hz hba hb1
  have h2 := (h.below hba1).cells.h2
  have p0 := (h.below hba1).cells.p0
  have hgl : g < w.heap.size := own_lt h.own rfl
  have hrg1 : w1.rangeAt g (i * 24) (List.map symV rows[i]) := fun j v hj => (hba1.cell (p := ⟨g, i * 24 + j, none⟩) hgl).trans (hrg j v hj)
  have hone := row_one rows[i]
  have hb0 : decide ((i : Int) < 0) = false := decide_eq_false (by omega)
  have hb1 : decide ((rows.length : Int) ≤ (i : Int)) = false := decide_eq_false (by omega)
  have hi0 : (0 : Int) ≤ (i : Int) := by omega
  have hi1 : (i : Int) < (rows.length : Int) := by omega
  clear hrg hlta
  go_wp2_with (first | (refine wpList_load_mid rfl 43 _ rfl g (i * 24) rfl _ _ hrg1 Try.underlying43 rfl hsz0 ?_) | (refine wpList_store_row rfl 43 _ _ rfl w.heap.size _ rfl rfl 43 _ hz1 hsz (by simp [hnn]) hone ?_))
  have hg2 := setRow_heap w1 w.heap.size _ (List.map symV rows[i]).toArray _ _ hz1
  have hld := run_loadVar_row (P := Try.prog) (w1.setRow w.heap.size (List.map symV rows[i]).toArray) w.heap.size 43 43 _ (0, 0) _ hg2 Try.underlying43 rfl hsz
  refine bodyPost_ret (v := .tuple #[rowV rows[i], .int .i64 0]) (by rw [results_cell_tmp Try.results16]; exact run_cell_tmp hld rfl rfl) rfl ⟨rfl, ?_⟩
  exact below_setRow hba1 (Nat.le_refl _) _
set_option maxRecDepth 100000 in
set_option maxHeartbeats 4000000 in
theorem at_none {w : World} {p : Option Addr} (h : p = none ∨ ∃ b, p = some ⟨b, 0, none⟩ ∧ w.cell? ⟨b, 2, none⟩ = some (.pointer none)) (i : Int) :
    Calls Try.prog 16 #[.pointer p, .int .i64 i] w fun e w' => e = .returned (.tuple #[rowV zRow, .int .i64 2]) ∧ Below w.heap.size w w' := by
  have hsz : (Try.prog.info? 43).map (·.size) = some (List.map symV zRow).toArray.size := by rw [infoRow]; simp
  have hone := row_one zRow
  go_enter Try.func16, Try.ntmps16
  go_wp2_with fail
  have hz := (MapKept.heap_alloc w (Obj.cells (List.map symV zRow).toArray 43)).1
  have hba : Below w.heap.size w (w.alloc (Obj.cells (List.map symV zRow).toArray 43)) := (Below.refl _ w).alloc (Nat.le_refl _) _
  obtain ⟨wa, hwa⟩ : ∃ wa, w.alloc (Obj.cells (List.map symV zRow).toArray 43) = wa := ⟨_, rfl⟩
  rw [hwa] at hz hba
  simp only [zRow, List.replicate, List.map] at hwa
  rw [hwa]
  clear hwa
  have hth : Calls Try.prog 48 #[.pointer p] wa fun e w' => e = .returned (.bool false) ∧ Below wa.heap.size wa w' := by
    rcases h with rfl | ⟨b, rfl, h⟩
    · exact there_nil wa
    · exact there_zero ((hba.cell (p := ⟨b, 2, none⟩) (World.block_lt_of_cell? w _ h)).trans h)
  refine hth.mono ?_
  rintro e w1 ⟨rfl, hb1⟩
  have hlta : w.heap.size < wa.heap.size := (Array.getElem?_eq_some_iff.1 hz).1
  have hz1 := (hb1.block _ hlta).trans hz
  have hba1 : Below w.heap.size w w1 := hba.trans (hb1.mono hba.size)
  clear hz hba hb1 hth h
  go_wp2_with (first | (refine wpList_build rfl 43 _ rfl (by rw [zero_built]; rfl) ?_; simp only [List.map_toArray, List.map_nil, Array.toList_empty, zero_built, Option.getD_some]) | (refine wpList_store_row rfl 43 _ _ rfl w.heap.size _ rfl rfl 43 _ hz1 hsz (by simp) hone ?_))
  have hg2 := setRow_heap w1 w.heap.size _ (List.map symV zRow).toArray _ _ hz1
  have hld := run_loadVar_row (P := Try.prog) (w1.setRow w.heap.size (List.map symV zRow).toArray) w.heap.size 43 43 _ (0, 0) _ hg2 Try.underlying43 rfl hsz
  refine bodyPost_ret (v := .tuple #[rowV zRow, .int .i64 2]) (by rw [results_cell_tmp Try.results16]; exact run_cell_tmp hld rfl rfl) rfl ⟨rfl, ?_⟩
  exact below_setRow hba1 (Nat.le_refl _) _
end Go.Proofs.Ytiomojlcnemnhaa

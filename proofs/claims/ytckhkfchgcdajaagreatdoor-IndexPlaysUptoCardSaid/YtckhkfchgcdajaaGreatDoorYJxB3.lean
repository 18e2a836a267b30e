import Derived.Test.YtckhkfchgcdajaaGreatDoorYJxA5
import Derived.Laws.ResultCell
import Derived.Outline
import Derived.RangeFuncNested
import Derived.RangeFuncBound
import Derived.RangeFuncCalls
import Derived.RangeFuncLeaves
import Derived.RangeFuncWrites
import Derived.OrdersIn
namespace Go.Proofs.YtckhkfchgcdajaaGreatDoor
open Go.Fx Go.RowKit
theorem RelAt.frame {w w' : World} {b pb mb : Nat} {lv : Value} {arity : Nat} {gone : Int} {rows : List (List Int)} (h : RelAt w b pb mb lv arity gone rows) (hb : ∀ k, relF b pb mb lv k → w'.heap[k]? = w.heap[k]?) : RelAt w' b pb mb lv arity gone rows :=
  { h with
    hb := (hb b (.inl rfl)).trans h.hb
    hp := (hb pb (.inr (.inl rfl))).trans h.hp
    own := ownsRow_of_block h.own fun k hk => hb k (.inr (.inr (.inr hk)))
    map := h.map.frame (hb mb (.inr (.inr (.inl rfl)))) }
theorem RelAt.lt {w : World} {b pb mb : Nat} {lv : Value} {arity : Nat} {gone : Int} {rows : List (List Int)} (h : RelAt w b pb mb lv arity gone rows) : ∀ k, relF b pb mb lv k → k < w.heap.size := by
  rintro k (rfl | rfl | rfl | hk)
  · exact h.cells.lb
  · exact h.cells.lp
  · exact h.map.lt
  · exact own_lt h.own hk
theorem RelAt.below {w w' : World} {b pb mb : Nat} {lv : Value} {arity : Nat} {gone : Int} {rows : List (List Int)} (h : RelAt w b pb mb lv arity gone rows) (hb : Below w.heap.size w w') : RelAt w' b pb mb lv arity gone rows :=
  h.frame fun k hk => hb.block k (h.lt k hk)
set_option maxRecDepth 100000 in
set_option maxHeartbeats 4000000 in
theorem add_in {w : World} {b pb mb : Nat} {lv : Value} {arity : Nat} {gone : Int} {rows : List (List Int)} (h : RelAt w b pb mb lv arity gone rows) {x : List Int} (hx : RowOk x) (hr : rightRow arity x = true) (hin : x ∈ rows) :
    Calls Tryz.prog 14 #[.pointer (some ⟨b, 0, none⟩), rowV x] w fun e w' => e = .returned (.tuple #[.bool false, .int .i64 0]) ∧ Below w.heap.size w w' := by
  go_enter Tryz.func14, Tryz.ntmps14
  go_wp2_with fail
  have hal := (MapKept.heap_alloc w (Obj.cells (List.map symV x).toArray 64)).1
  have hba : Below w.heap.size w (w.alloc (Obj.cells (List.map symV x).toArray 64)) := (Below.refl _ w).alloc (Nat.le_refl _) _
  generalize w.alloc (Obj.cells (List.map symV x).toArray 64) = wa at *
  have hsz : (Tryz.prog.info? 64).map (·.size) = some (List.map symV x).toArray.size := by rw [infoRow]; simp [hx.1]
  have hlta : w.heap.size < wa.heap.size := (Array.getElem?_eq_some_iff.1 hal).1
  refine (there_calls (h.below hba).cells.h2).mono ?_
  rintro e w1 ⟨rfl, hb1⟩
  have hal1 : w1.heap[w.heap.size]? = some (Obj.cells (List.map symV x).toArray 64) := (hb1.block _ hlta).trans hal
  have hba1 : Below w.heap.size w w1 := hba.trans (hb1.mono hba.size)
  clear hal hba hb1
  go_wp2_with (refine wpList_load_row rfl 64 _ rfl w.heap.size rfl 64 _ (0, 0) _ hal1 Tryz.underlying64 rfl hsz ?_)
  refine (right_calls (h.below hba1).cells x hx h.wide).mono ?_
  rintro e w2 ⟨rfl, hb2⟩
  rw [hr]
  have hlt1 : w.heap.size < w1.heap.size := (Array.getElem?_eq_some_iff.1 hal1).1
  have hal2 : w2.heap[w.heap.size]? = some (Obj.cells (List.map symV x).toArray 64) := (hb2.block _ hlt1).trans hal1
  have hba2 : Below w.heap.size w w2 := hba1.trans (hb2.mono hba1.size)
  clear hal1 hba1 hb2 hlt1
  go_wp2_with fail
  have hbd : Below w.heap.size w w2.drew := below_drew' hba2
  have h2 := (h.below hbd).cells.h2
  have hald : w2.drew.heap[w.heap.size]? = some (Obj.cells (List.map symV x).toArray 64) := hal2
  refine wp_region_still_tail 5 (by kernel_rfl) (by kernel_rfl) ?_
  change wpStill _ _ w2.drew _ _ _
  simp only [List.take_succ_cons, List.take_zero, List.drop_succ_cons, List.drop_zero]
  repeat (first
    | (refine wpStill_step (fun K hK => ?_); rw [if_pos (by rfl)]; refine still_load_row 64 _ rfl w.heap.size rfl 64 _ (0, 0) _ hald Tryz.underlying64 rfl hsz (hK _ ?_); clear hK K)
    | still_step)
  refine wpStill_nil ?_
  change wpList _ _ _ _ _ w2.drew
  go_wp2_with fail
  refine (put_in (h.below hbd) hx hin).mono ?_
  rintro e w3 ⟨rfl, hb3⟩
  go_wp2_with fail
  simp [bodyPost, results, Tryz.results14, go_sem]
  exact hbd.trans (hb3.mono hbd.size)
set_option maxRecDepth 100000 in
set_option maxHeartbeats 4000000 in
theorem add_new {w : World} {b pb mb : Nat} {lv : Value} {arity : Nat} {gone : Int} {rows : List (List Int)} (h : RelAt w b pb mb lv arity gone rows) {x : List Int} (hx : RowOk x) (hr : rightRow arity x = true) (hin : x ∉ rows) (hn : rows.length ≤ 1048576) :
    Calls Tryz.prog 14 #[.pointer (some ⟨b, 0, none⟩), rowV x] w fun e w' => e = .returned (.tuple #[.bool true, .int .i64 0]) ∧ ∃ lv', RelAt w' b pb mb lv' arity gone (rows ++ [x]) ∧ KeptBut (relF b pb mb lv) w w' ∧ (∀ k, relF b pb mb lv' k → relF b pb mb lv k ∨ w.heap.size ≤ k) := by
  go_enter Tryz.func14, Tryz.ntmps14
  go_wp2_with fail
  have hal := (MapKept.heap_alloc w (Obj.cells (List.map symV x).toArray 64)).1
  have hba : Below w.heap.size w (w.alloc (Obj.cells (List.map symV x).toArray 64)) := (Below.refl _ w).alloc (Nat.le_refl _) _
  generalize w.alloc (Obj.cells (List.map symV x).toArray 64) = wa at *
  have hsz : (Tryz.prog.info? 64).map (·.size) = some (List.map symV x).toArray.size := by rw [infoRow]; simp [hx.1]
  have hlta : w.heap.size < wa.heap.size := (Array.getElem?_eq_some_iff.1 hal).1
  refine (there_calls (h.below hba).cells.h2).mono ?_
  rintro e w1 ⟨rfl, hb1⟩
  have hal1 : w1.heap[w.heap.size]? = some (Obj.cells (List.map symV x).toArray 64) := (hb1.block _ hlta).trans hal
  have hba1 : Below w.heap.size w w1 := hba.trans (hb1.mono hba.size)
  clear hal hba hb1
  go_wp2_with (refine wpList_load_row rfl 64 _ rfl w.heap.size rfl 64 _ (0, 0) _ hal1 Tryz.underlying64 rfl hsz ?_)
  refine (right_calls (h.below hba1).cells x hx h.wide).mono ?_
  rintro e w2 ⟨rfl, hb2⟩
  rw [hr]
  have hlt1 : w.heap.size < w1.heap.size := (Array.getElem?_eq_some_iff.1 hal1).1
  have hal2 : w2.heap[w.heap.size]? = some (Obj.cells (List.map symV x).toArray 64) := (hb2.block _ hlt1).trans hal1
  have hba2 : Below w.heap.size w w2 := hba1.trans (hb2.mono hba1.size)
  clear hal1 hba1 hb2 hlt1
  go_wp2_with fail
  have hbd : Below w.heap.size w w2.drew := below_drew' hba2
  have h2 := (h.below hbd).cells.h2
  have hald : w2.drew.heap[w.heap.size]? = some (Obj.cells (List.map symV x).toArray 64) := hal2
  refine wp_region_still_tail 5 (by kernel_rfl) (by kernel_rfl) ?_
  change wpStill _ _ w2.drew _ _ _
  simp only [List.take_succ_cons, List.take_zero, List.drop_succ_cons, List.drop_zero]
  repeat (first
    | (refine wpStill_step (fun K hK => ?_); rw [if_pos (by rfl)]; refine still_load_row 64 _ rfl w.heap.size rfl 64 _ (0, 0) _ hald Tryz.underlying64 rfl hsz (hK _ ?_); clear hK K)
    | still_step)
  refine wpStill_nil ?_
  change wpList _ _ _ _ _ w2.drew
  go_wp2_with fail
  refine (put_new (h.below hbd) hx hin hn).mono ?_
  rintro e w3 ⟨rfl, lv', hR, hK3, hF⟩
  go_wp2_with fail
  simp [bodyPost, results, Tryz.results14, go_sem]
  exact ⟨lv', hR, (KeptBut.of_below hbd).trans hK3 fun k hk => .inr hk, fun k hk => (hF k hk).imp_right fun h => Nat.le_trans hbd.size h⟩
end Go.Proofs.YtckhkfchgcdajaaGreatDoor

namespace Go.Proofs.YtckhkfchgcdajaaGreatDoor
open Go.Fx Go.RowKit
theorem alloc_heap (w : World) (o : Obj) (b : Nat) : (w.alloc o).heap[b]? = if b = w.heap.size then some o else w.heap[b]? := by
  show (w.heap.push o)[b]? = _
  rw [Array.getElem?_push]
theorem alloc_size (w : World) (o : Obj) : (w.alloc o).heap.size = w.heap.size + 1 := Array.size_push _
theorem own_range {w : World} {lv : Value} {rows : List (List Int)} (h : w.ownsRow 0 64 24 lv rows.length (rowsV rows)) (hr : ∀ x ∈ rows, RowOk x) {i : Nat} (hi : i < rows.length) :
    ∃ g cap, lv = .slice (some ⟨g, 0, none⟩) rows.length cap ∧ rows.length ≤ cap ∧ cap ≤ maxLen ∧ w.rangeAt g (i * 24) (rows[i].map symV) := by
  obtain ⟨hl, ⟨_, h0⟩ | ⟨g, cap, cur, rfl, _, hg, hn, hm, hsz, htk⟩⟩ := h
  · omega
  · refine ⟨g, cap, rfl, hn, hm, fun j v hj => ?_⟩
    have hj2 : j < 24 := by
      have := (List.getElem?_eq_some_iff.1 hj).1
      rw [List.length_map, (hr _ (List.getElem_mem hi)).1] at this
      exact this
    have hfl := flatten_at rows i j (fun e he => (hr e he).1) hj2
    rw [List.getElem?_eq_getElem hi, Option.bind_some] at hfl
    rw [List.getElem?_map] at hj
    obtain ⟨n, hn1, rfl⟩ := Option.map_eq_some_iff.1 hj
    rw [hn1] at hfl
    have h1 : (rowsV rows)[i * 24 + j]? = some (symV n) := by rw [List.getElem?_map, hfl]; rfl
    rw [← htk, List.getElem?_take] at h1
    split at h1
    · simp only [World.cell?, hg]
      simpa using h1
    · cases h1
set_option maxRecDepth 100000 in
set_option maxHeartbeats 4000000 in
theorem new_calls {w : World} {arity : Nat} (ha : arity ≤ 24) :
    Calls Tryz.prog 10 #[.int .i64 (arity : Int)] w fun e w' => ∃ b pb mb, e = .returned (.tuple #[.pointer (some ⟨b, 0, none⟩), .int .i64 0]) ∧ RelAt w' b pb mb (.slice none 0 0) arity 0 [] ∧ Below w.heap.size w w' ∧ (∀ k, relF b pb mb (.slice none 0 0) k → w.heap.size ≤ k) := by
  have hmm := @run_makeMap Tryz.prog
  have h0 : decide ((arity : Int) < 0) = false := decide_eq_false (by omega)
  have h1 : decide (24 < (arity : Int)) = false := decide_eq_false (by omega)
  go_enter Tryz.func10, Tryz.ntmps10
  go_wp2_with fail
  refine bodyPost_ret (v := .tuple #[.pointer (some ⟨w.heap.size + 1 + 1, 0, none⟩), .int .i64 0]) (by simp [results, Tryz.results10, go_sem]) rfl ⟨w.heap.size + 1 + 1, w.heap.size + 1, w.heap.size, rfl, ?_, ?_, ?_⟩
  · exact
      { hb := by rw [alloc_heap, if_pos (by rw [alloc_size, alloc_size])]
        hp := by rw [alloc_heap, if_neg (by rw [alloc_size, alloc_size]; omega), alloc_heap, if_pos (by rw [alloc_size])]
        own := World.ownsRow_nil _ _ _ _
        map := MapG.nil (clock := 0) (by rw [alloc_heap, if_neg (by rw [alloc_size, alloc_size]; omega), alloc_heap, if_neg (by rw [alloc_size]; omega), alloc_heap, if_pos rfl])
        ne1 := by omega
        ne2 := by omega
        ne3 := by omega
        ne4 := fun k hk => (by cases hk)
        ok := fun _ h => (by cases h)
        nodup := List.nodup_nil
        wide := ha }
  · exact (((Below.refl _ w).alloc (Nat.le_refl _) _).alloc (by simp) _).alloc (by simp; omega) _
  · rintro k (rfl | rfl | rfl | hk)
    · omega
    · omega
    · omega
    · cases hk
theorem run_cell_tmp {P : Program} {w : World} {ty : TypeId} {a : Addr} {v x y z : Value} (h : (loadVar ty a).run P w = .ok v w) (hx : x = .pointer (some a)) (hz : z = y) :
    (((asAddr x).run P w).andThen fun a w₁ => ((loadVar ty a).run P w₁).andThen fun v w₂ => .ok (Value.tuple #[v, z]) w₂) = .ok (Value.tuple #[v, y]) w := by
  subst hx hz
  show ((loadVar ty a).run P w).andThen _ = _
  rw [h]
  rfl
theorem zero_built : Tryz.prog.built 64 [] = some (List.map symV zRow).toArray := by kernel_rfl
set_option maxRecDepth 100000 in
theorem there_zero {w : World} {b : Nat} (h2 : w.cell? ⟨b, 2, none⟩ = some (.pointer none)) :
    Calls Tryz.prog 19 #[.pointer (some ⟨b, 0, none⟩)] w fun e w' => e = .returned (.bool false) ∧ Below w.heap.size w w' := by
  go_enter Tryz.func19, Tryz.ntmps19
  go_wp2_with fail
  simp [bodyPost, results, Tryz.results19, go_sem]
  exact Below.refl _ w
set_option maxRecDepth 100000 in
set_option maxHeartbeats 4000000 in
theorem at_calls {w : World} {b pb mb : Nat} {lv : Value} {arity : Nat} {gone : Int} {rows : List (List Int)} (h : RelAt w b pb mb lv arity gone rows) {i : Nat} (hi : i < rows.length) :
    Calls Tryz.prog 7 #[.pointer (some ⟨b, 0, none⟩), .int .i64 (i : Int)] w fun e w' => e = .returned (.tuple #[rowV rows[i], .int .i64 0]) ∧ Below w.heap.size w w' := by
  obtain ⟨g, cap, rfl, hc, hm, hrg⟩ := own_range h.own h.ok hi
  have hx := h.ok _ (List.getElem_mem hi)
  have hsz0 : (Tryz.prog.info? 64).map (·.size) = some (List.map symV rows[i]).length := by rw [infoRow]; simp [hx.1]
  have hsz : (Tryz.prog.info? 64).map (·.size) = some (List.map symV rows[i]).toArray.size := by rw [infoRow]; simp [hx.1]
  have hlen : (List.map symV rows[i]).length = 24 := by simp [hx.1]
  have hnn : rows[i].length = 24 := hx.1
  unfold maxLen at hm
  go_enter Tryz.func7, Tryz.ntmps7
  go_wp2_with fail
  have hz := (MapKept.heap_alloc w (Obj.cells (List.replicate 24 (Value.int .i32 0)).toArray 64)).1
  have hba : Below w.heap.size w (w.alloc (Obj.cells (List.replicate 24 (Value.int .i32 0)).toArray 64)) := (Below.refl _ w).alloc (Nat.le_refl _) _
  obtain ⟨wa, hwa⟩ : ∃ wa, w.alloc (Obj.cells (List.replicate 24 (Value.int .i32 0)).toArray 64) = wa := ⟨_, rfl⟩
  rw [hwa] at hz hba
  simp only [List.replicate] at hwa hz
  rw [hwa]
  clear hwa
  refine (there_calls (h.below hba).cells.h2).mono ?_
  rintro e w1 ⟨rfl, hb1⟩
  have hlta : w.heap.size < wa.heap.size := (Array.getElem?_eq_some_iff.1 hz).1
  have hz1 := (hb1.block _ hlta).trans hz
  have hba1 : Below w.heap.size w w1 := hba.trans (hb1.mono hba.size)
  clear hz hba hb1
  have h2 := (h.below hba1).cells.h2
  have p0 := (h.below hba1).cells.p0
  have hgl : g < w.heap.size := own_lt h.own rfl
  have hrg1 : w1.rangeAt g (i * 24) (List.map symV rows[i]) := fun j v hj => (hba1.cell (p := ⟨g, i * 24 + j, none⟩) hgl).trans (hrg j v hj)
  have hone := row_one rows[i]
  have hb0 : decide ((i : Int) < 0) = false := decide_eq_false (by omega)
  have hb1 : decide ((rows.length : Int) ≤ (i : Int)) = false := decide_eq_false (by omega)
  have hi0 : (0 : Int) ≤ (i : Int) := by omega
  have hi1 : (i : Int) < (rows.length : Int) := by omega
  clear hrg hlta
  go_wp2_with (first | (refine wpList_load_mid rfl 64 _ rfl g (i * 24) rfl _ _ hrg1 Tryz.underlying64 rfl hsz0 ?_) | (refine wpList_store_row rfl 64 _ _ rfl w.heap.size _ rfl rfl 64 _ hz1 hsz (by simp [hnn]) hone ?_))
  have hg2 := setRow_heap w1 w.heap.size _ (List.map symV rows[i]).toArray _ _ hz1
  have hld := run_loadVar_row (P := Tryz.prog) (w1.setRow w.heap.size (List.map symV rows[i]).toArray) w.heap.size 64 64 _ (0, 0) _ hg2 Tryz.underlying64 rfl hsz
  refine bodyPost_ret (v := .tuple #[rowV rows[i], .int .i64 0]) (by rw [results_cell_tmp Tryz.results7]; exact run_cell_tmp hld rfl rfl) rfl ⟨rfl, ?_⟩
  exact below_setRow hba1 (Nat.le_refl _) _
set_option maxRecDepth 100000 in
set_option maxHeartbeats 4000000 in
theorem at_none {w : World} {p : Option Addr} (h : p = none ∨ ∃ b, p = some ⟨b, 0, none⟩ ∧ w.cell? ⟨b, 2, none⟩ = some (.pointer none)) (i : Int) :
    Calls Tryz.prog 7 #[.pointer p, .int .i64 i] w fun e w' => e = .returned (.tuple #[rowV zRow, .int .i64 2]) ∧ Below w.heap.size w w' := by
  have hsz : (Tryz.prog.info? 64).map (·.size) = some (List.map symV zRow).toArray.size := by rw [infoRow]; simp
  have hone := row_one zRow
  go_enter Tryz.func7, Tryz.ntmps7
  go_wp2_with fail
  have hz := (MapKept.heap_alloc w (Obj.cells (List.map symV zRow).toArray 64)).1
  have hba : Below w.heap.size w (w.alloc (Obj.cells (List.map symV zRow).toArray 64)) := (Below.refl _ w).alloc (Nat.le_refl _) _
  obtain ⟨wa, hwa⟩ : ∃ wa, w.alloc (Obj.cells (List.map symV zRow).toArray 64) = wa := ⟨_, rfl⟩
  rw [hwa] at hz hba
  simp only [zRow, List.replicate, List.map] at hwa
  rw [hwa]
  clear hwa
  have hth : Calls Tryz.prog 19 #[.pointer p] wa fun e w' => e = .returned (.bool false) ∧ Below wa.heap.size wa w' := by
    rcases h with rfl | ⟨b, rfl, h⟩
    · exact there_nil wa
    · exact there_zero ((hba.cell (p := ⟨b, 2, none⟩) (World.block_lt_of_cell? w _ h)).trans h)
  refine hth.mono ?_
  rintro e w1 ⟨rfl, hb1⟩
  have hlta : w.heap.size < wa.heap.size := (Array.getElem?_eq_some_iff.1 hz).1
  have hz1 := (hb1.block _ hlta).trans hz
  have hba1 : Below w.heap.size w w1 := hba.trans (hb1.mono hba.size)
  clear hz hba hb1 hth h
  go_wp2_with (first | (refine wpList_build rfl 64 _ rfl (by rw [zero_built]; rfl) ?_; simp only [List.map_toArray, List.map_nil, Array.toList_empty, zero_built, Option.getD_some]) | (refine wpList_store_row rfl 64 _ _ rfl w.heap.size _ rfl rfl 64 _ hz1 hsz (by simp) hone ?_))
  have hg2 := setRow_heap w1 w.heap.size _ (List.map symV zRow).toArray _ _ hz1
  have hld := run_loadVar_row (P := Tryz.prog) (w1.setRow w.heap.size (List.map symV zRow).toArray) w.heap.size 64 64 _ (0, 0) _ hg2 Tryz.underlying64 rfl hsz
  refine bodyPost_ret (v := .tuple #[rowV zRow, .int .i64 2]) (by rw [results_cell_tmp Tryz.results7]; exact run_cell_tmp hld rfl rfl) rfl ⟨rfl, ?_⟩
  exact below_setRow hba1 (Nat.le_refl _) _
end Go.Proofs.YtckhkfchgcdajaaGreatDoor

namespace Go.Proofs.YtckhkfchgcdajaaGreatDoor
open Go.Fx Go.RowKit
def keyTo (m : Nat) (x : List Int) (k : Nat) : List Int := (List.range k).map fun i => if m.testBit i then x.getD i 0 else 0
abbrev keyRow (m : Nat) (x : List Int) : List Int := keyTo m x 24
theorem keyTo_len (m : Nat) (x : List Int) (k : Nat) : (keyTo m x k).length = k := by simp [keyTo]
theorem keyTo_succ (m : Nat) (x : List Int) (k : Nat) : keyTo m x (k + 1) = keyTo m x k ++ [if m.testBit k then x.getD k 0 else 0] := by simp [keyTo, List.range_succ]
theorem keyRow_ok (m : Nat) {x : List Int} (hx : RowOk x) : RowOk (keyRow m x) := by
  refine ⟨keyTo_len _ _ _, fun n hn => ?_⟩
  obtain ⟨i, hi, rfl⟩ := List.mem_map.1 hn
  split
  · have : i < x.length := by rw [hx.1]; simpa using hi
    rw [List.getD_eq_getElem?_getD, List.getElem?_eq_getElem this, Option.getD_some]
    exact hx.2 _ (List.getElem_mem this)
  · rfl
theorem pow24 {i : Nat} (hi : i < 24) : IntKind.u32.wrap (2 ^ min i IntKind.u32.bits) = ((2 ^ i : Nat) : Int) ∧ (2 : Nat) ^ i ≤ 8388608 :=
  ⟨(by decide +kernel : ∀ m : Fin 24, IntKind.u32.wrap (2 ^ min m.val IntKind.u32.bits) = ((2 ^ m.val : Nat) : Int)) ⟨i, hi⟩, (by decide +kernel : ∀ m : Fin 24, (2 : Nat) ^ m.val ≤ 8388608) ⟨i, hi⟩⟩
theorem and_pow (m i : Nat) : m &&& 2 ^ i = if m.testBit i then 2 ^ i else 0 := by
  apply Nat.eq_of_testBit_eq
  intro j
  rw [Nat.testBit_and, Nat.testBit_two_pow]
  by_cases h : i = j
  · subst h
    cases hm : m.testBit i <;> simp
  · cases hm : m.testBit i <;> simp [h]
theorem wrap_u32' (n : Int) (h0 : 0 ≤ n) (h : n < 4294967296) : IntKind.u32.wrap n = n := by
  show n % 4294967296 = n
  omega
theorem and_bit (i m : Nat) (hi : i < 24) (hm : m < 4294967296) : bits .and .u32 (m : Int) (IntKind.u32.wrap (2 ^ min i IntKind.u32.bits)) = if m.testBit i then ((2 ^ i : Nat) : Int) else 0 := by
  obtain ⟨e1, e2⟩ := pow24 hi
  rw [e1]
  unfold bits
  simp only [BitVec.ofInt_natCast, BitVec.toNat_and, BitVec.toNat_ofNat]
  have hb : (2 : Nat) ^ IntKind.u32.bits = 4294967296 := by decide
  rw [hb, Nat.mod_eq_of_lt (by omega), Nat.mod_eq_of_lt (by omega), and_pow]
  split
  · rw [wrap_u32' _ (Int.natCast_nonneg _) (by omega)]
  · rfl
theorem info41 : (Tryz.prog.info? 62).map (fun i => (i.zero, i.size, i.bytes)) = some (some (.int .i32 0), 1, 4) := by kernel_rfl
set_option maxRecDepth 100000 in
set_option maxHeartbeats 4000000 in
theorem key_calls {w : World} {m xb : Nat} {x : List Int} {ty : TypeId} {fr : Nat × Nat} (hm : m < 4294967296) (hx : RowOk x) (hb : w.heap[xb]? = some (.cells (x.map symV).toArray ty fr)) :
    Calls Tryz.prog 165 #[.int .u32 (m : Int), .pointer (some ⟨xb, 0, none⟩)] w fun e w' => e = .returned (rowV (keyRow m x)) ∧ Below w.heap.size w w' := by
  obtain ⟨i0, hi0, hz0, hz1, hz2⟩ := info_parts info41
  have hxl : xb < w.heap.size := (Array.getElem?_eq_some_iff.1 hb).1
  go_enter Tryz.func165, Tryz.ntmps165
  go_wp2_with fail
  have hz := (MapKept.heap_alloc w (Obj.cells (List.replicate 24 (Value.int .i32 0)).toArray 64)).1
  have hba : Below w.heap.size w (w.alloc (Obj.cells (List.replicate 24 (Value.int .i32 0)).toArray 64)) := (Below.refl _ w).alloc (Nat.le_refl _) _
  have hsza := alloc_size w (Obj.cells (List.replicate 24 (Value.int .i32 0)).toArray 64)
  obtain ⟨wa, hwa⟩ : ∃ wa, w.alloc (Obj.cells (List.replicate 24 (Value.int .i32 0)).toArray 64) = wa := ⟨_, rfl⟩
  rw [hwa] at hz hba hsza
  simp only [List.replicate] at hwa hz
  rw [hwa]
  clear hwa
  go_loopw [5, 9] (fun l i wr => ∃ k : Nat, i = .int .i64 (k : Int) ∧ k ≤ 24 ∧ wr.ownsRow (w.heap.size + 1) 62 1 l k ((keyTo m x k).map symV) ∧ Below (w.heap.size + 1) wa wr) (fun _ i _ => match i with | .int _ n => 24 - n.toNat | _ => 0)
  case atStart => exact ⟨0, rfl, Nat.zero_le _, World.ownsRow_nil _ _ _ _, Below.refl _ _⟩
  case round =>
    obtain ⟨k, rfl, hk, hown, hbl⟩ := hrel
    by_cases hlt : k < 24
    · have hlt' : decide ((k : Int) < 24) = true := decide_eq_true (by omega)
      have hi1 : (0 : Int) ≤ (k : Int) := by omega
      have hi2 : (k : Int) < 24 := by omega
      have hkx : k < x.length := by rw [hx.1]; exact hlt
      have hxk : (if m.testBit k then x.getD k 0 else 0) = if m.testBit k then x[k] else 0 := by
        rw [List.getD_eq_getElem?_getD, List.getElem?_eq_getElem hkx, Option.getD_some]
      have hts := keyTo_succ m x k
      rw [hxk] at hts
      have hc0 : w.cell? ⟨xb, k, none⟩ = some (symV x[k]) := by
        simp only [World.cell?, hb]
        simp [List.getElem?_eq_getElem hkx]
      have hc : wr.drew.cell? ⟨xb, k, none⟩ = some (symV x[k]) := by
        show wr.cell? _ = _
        rw [hbl.cell (p := ⟨xb, k, none⟩) (by show xb < _; omega)]
        exact (hba.cell (p := ⟨xb, k, none⟩) hxl).trans hc0
      have hbit := and_bit k m hlt hm
      have hown1 : wr.drew.ownsRow (w.heap.size + 1) 62 1 u5 k ((keyTo m x k).map symV) := hown
      have hbl1 : Below (w.heap.size + 1) wa wr.drew := below_drew' hbl
      clear hxk hc0 hown hbl
      generalize x[k] = xk at *
      have hbm : ∀ k, u5.ownBlock = some k → w.heap.size + 1 ≤ k := fun k hk => (hown1.lt k hk).1
      have hbase' : w.heap.size + 1 ≤ wr.drew.heap.size := by have := hbl1.size; omega
      have hbase : w.heap.size + 1 ≤ wr.drew.heap.size + 1 := by omega
      have hbb : (bits .and .u32 (m : Int) (2 ^ k % 4294967296) == 0) = !m.testBit k := by
        have e : bits .and .u32 (m : Int) (2 ^ k % 4294967296) = if m.testBit k then ((2 ^ k : Nat) : Int) else 0 := by
          rw [← hbit]
          congr 1
          have := (pow24 hlt).1
          rw [this]
          have h2 := (pow24 hlt).2
          have h3 : ((2 ^ k : Nat) : Int) = (2 : Int) ^ k := by simp
          rw [← h3]
          exact (Int.emod_eq_of_lt (Int.natCast_nonneg _) (by omega))
        rw [e]
        cases m.testBit k
        · rfl
        · have h2 : (2 : Nat) ^ k ≠ 0 := Nat.ne_of_gt (Nat.two_pow_pos k)
          simp only [if_true, Bool.not_true, beq_eq_false_iff_ne, ne_eq]
          omega
      by_cases hbt : m.testBit k = true
      · simp only [hbt, if_true, if_false, Bool.not_true, Bool.not_false, Bool.false_eq_true] at hbb hts
        clear hbit hbt
        go_wp2_with fail
        refine wp_region_still_lit (by kernel_rfl) (by kernel_rfl) ?_
        change wpStill _ _ wr.drew _ _ _
        repeat still_step
        refine wpStill_nil ?_
        change Exit.then _ _ _ _ wr.drew
        generalize wr.drew = w1 at *
        go_wp2_with (at_builtin; refine wpList_append_own_at _ rfl _ _ 312 rfl (w.heap.size + 1) 62 i0 (.int .i32 0) 1 4 Tryz.underlying312 hi0 hz0 hz1 hz2 rfl (by decide) _ _ _ rfl (hown1.alloc _) ⟨w1.heap.size, 0, none⟩ 1 1 [symV xk] rfl rfl (World.news_of_block (cs := #[symV xk]) (t := 62) (fr := (0, 0)) (heap_alloc_new w1 _)) (by simp [Value.oneCell']) (by unfold maxLen; omega) (by omega) (by rw [alloc_size]; omega) ?_; intro v' w2 hown2 hgrow2 hnil2 hat2)
        refine ⟨⟨k + 1, congrArg (Value.int .i64) (by omega), by omega, ?_, ?_⟩, ?_⟩
        · rw [hts, List.map_append]; exact hown2
        · exact (hbl1.alloc hbase' _).grown hgrow2 (by rw [alloc_size]; omega) fun k hk => hbm k hk
        · show 24 - ((k : Int) + 1).toNat < 24 - (k : Int).toNat
          omega
      · simp only [hbt, if_true, if_false, Bool.not_true, Bool.not_false, Bool.false_eq_true] at hbb hts
        clear hbit hbt
        go_wp2_with fail
        refine wp_region_still_lit (by kernel_rfl) (by kernel_rfl) ?_
        change wpStill _ _ wr.drew _ _ _
        repeat still_step
        refine wpStill_nil ?_
        change Exit.then _ _ _ _ wr.drew
        generalize wr.drew = w1 at *
        go_wp2_with (at_builtin; refine wpList_append_own_at _ rfl _ _ 312 rfl (w.heap.size + 1) 62 i0 (.int .i32 0) 1 4 Tryz.underlying312 hi0 hz0 hz1 hz2 rfl (by decide) _ _ _ rfl (hown1.alloc _) ⟨w1.heap.size, 0, none⟩ 1 1 [symV 0] rfl rfl (World.news_of_block (cs := #[symV 0]) (t := 62) (fr := (0, 0)) (heap_alloc_new w1 _)) (by simp [Value.oneCell']) (by unfold maxLen; omega) (by omega) (by rw [alloc_size]; omega) ?_; intro v' w2 hown2 hgrow2 hnil2 hat2)
        refine ⟨⟨k + 1, congrArg (Value.int .i64) (by omega), by omega, ?_, ?_⟩, ?_⟩
        · rw [hts, List.map_append]; exact hown2
        · exact (hbl1.alloc hbase' _).grown hgrow2 (by rw [alloc_size]; omega) fun k hk => hbm k hk
        · show 24 - ((k : Int) + 1).toNat < 24 - (k : Int).toNat
          omega
    · obtain rfl : k = 24 := by omega
      have hsz1 : (Tryz.prog.info? 64).map (·.size) = some ((keyTo m x 24).map symV).length := by rw [infoRow]; simp [keyTo_len]
      have hsz : (Tryz.prog.info? 64).map (·.size) = some ((keyTo m x 24).map symV).toArray.size := by rw [infoRow]; simp [keyTo_len]
      have hl24 := keyTo_len m x 24
      have hone := row_one (keyTo m x 24)
      obtain ⟨g, cap, cur, rfl, hg0, hg, hn, hmx, hcs, htk⟩ : ∃ g cap cur, u5 = .slice (some ⟨g, 0, none⟩) 24 cap ∧ w.heap.size + 1 ≤ g ∧ wr.heap[g]? = some (.cells cur 62 (0, 0)) ∧ 24 ≤ cap ∧ cap ≤ maxLen ∧ cur.size = cap * 1 ∧ cur.toList.take (24 * 1) = (keyTo m x 24).map symV := by
        rcases hown.2 with ⟨_, h0⟩ | h
        · cases h0
        · exact h
      have hrg : wr.rangeAt g 0 ((keyTo m x 24).map symV) := fun j v hj => by
        rw [← htk, List.getElem?_take] at hj
        split at hj
        · simp only [World.cell?, hg, Nat.zero_add]
          simpa using hj
        · cases hj
      have hz1 := (hbl.block w.heap.size (by omega)).trans hz
      have hbw : Below w.heap.size w wr := hba.trans (hbl.mono (by omega))
      have harr : (Instr.arrayAt 64 (.slice (some ⟨g, 0, none⟩) 24 cap)).run Tryz.prog wr = .ok (.pointer (some ⟨g, 0, none⟩)) wr := by
        simp [Instr.arrayAt, run_underlying Tryz.underlying64]
      unfold maxLen at hmx
      clear hown hbl htk hcs hg hz hba
      go_wp2_with (first | (refine wpList_load_mid rfl 64 _ rfl g 0 rfl _ _ hrg Tryz.underlying64 rfl hsz1 ?_) | (refine wpList_store_row rfl 64 _ _ rfl w.heap.size _ rfl rfl 64 _ hz1 hsz (by simp [hl24]) hone ?_))
      have hg2 := setRow_heap wr w.heap.size _ (List.map symV (keyTo m x 24)).toArray _ _ hz1
      refine bodyPost_ret (v := rowV (keyRow m x)) (results_cell_row Tryz.results165 _ _ w.heap.size 64 _ (0, 0) _ rfl hg2 Tryz.underlying64 rfl hsz) rfl ⟨rfl, ?_⟩
      exact below_setRow hbw (Nat.le_refl _) _
end Go.Proofs.YtckhkfchgcdajaaGreatDoor

namespace Go.Proofs.YtckhkfchgcdajaaGreatDoor
open Go.Fx Go.RowKit
section
variable {P : Program} {rd : Option Nat} {n : Nat} {Q : Exit → Act → World → Prop}
theorem callsFW {f : FuncId} {args : Array Value} {w : World} {R : Ending → World → Prop} (h : Calls P f args w R) : CallsIn (FW rd) n P f args w R := by
  cases rd with
  | none => exact callsIn_wide.2 h
  | some l => exact CallsIn.inRound l (callsIn_wide.2 h)
theorem rowsFW {row : String} {args : Array Value} {w : World} {R : Value → World → Prop} (h : Rows P row args w R) : RowsIn (FW rd) n P row args w R :=
  fun c cs _ => let ⟨v, w', r, s⟩ := h c cs; ⟨v, w', r, stepsIn_wide.2 s⟩
theorem wpIn_of_wp {o : Oper} {a : Act} {w : World} {K : Act → World → Prop} (hd : ∀ c, o.op ≠ .defer c) (h : o.wp P a w K Q) : o.wpIn (FW rd) n P a w K Q := by
  refine ⟨fun _ _ => trivial, ?_⟩
  rw [Oper.semAt_eq _ _ _ hd]
  unfold Oper.wp at h
  generalize (execOp a.eval o).run P w = r at *
  cases r with
  | ok x w' =>
    cases x <;> simp only [Oper.upon, Oper.uponIn] at h ⊢
    case value => exact h
    case skip => exact h
    case defer => exact h
    case enter => exact ⟨fun e => (by cases e), callsFW h⟩
    case row => exact ⟨fun e => (by cases e), rowsFW h⟩
  | halt x w' => cases x <;> simp only [Oper.upon, Oper.uponIn] at h ⊢ <;> exact h
theorem wpListIn_of_list {ops : Array Oper} (hL : ¬ LetsOut Q) : ∀ {l : List Oper} {a : Act} {w : World}, (∀ o ∈ l, ∀ c, o.op ≠ .defer c) → wpList P ops Q l a w → wpListIn (FW rd) n P ops Q l a w
  | [], _, _, _, h => h
  | o :: l, a, w, hd, h => by
    unfold wpList at h
    unfold wpListIn
    have ho := hd o (List.mem_cons_self ..)
    have hl : ∀ a w, wpList P ops Q l a w → wpListIn (FW rd) n P ops Q l a w := fun a w h => wpListIn_of_list hL (fun o' ho' => hd o' (List.mem_cons_of_mem _ ho')) h
    split
    · rename_i hw
      rw [if_pos hw] at h
      rcases h with h | ⟨_, h⟩
      · exact Oper.wpIn_mono (fun a w h => hl a w h) (wpIn_of_wp ho h)
      · exact absurd h hL
    · rename_i hw
      rw [if_neg hw] at h
      exact ⟨fun _ _ => trivial, hl _ _ h⟩
theorem wpIn_region_of_list {id : Nat} {l : List Oper} {a : Act} {w : World} (hL : ¬ LetsOut Q) (hd : ∀ o ∈ l, ∀ c, o.op ≠ .defer c) (h : wpList P l.toArray Q l a w) : (Code.region id l.toArray false).wpIn (FW rd) n P Q a w :=
  wpIn_region_lit (wpListIn_of_list hL hd h)
theorem wpAnyIn_of_any {ops : Array Oper} {md : Region.Mode} (hL : ¬ LetsOut Q) (hd : ∀ (i : Nat) (o : Oper), ops[i]? = some o → ∀ c, o.op ≠ .defer c) : ∀ {fuel : Nat} {listed : Array Bool} {a : Act} {w : World}, wpAny P md ops Q fuel listed a w → wpAnyIn (FW rd) n P md ops Q fuel listed a w
  | 0, _, _, _, h => h
  | fuel + 1, listed, a, w, h => by
    refine ⟨h.1, fun i hi => ?_⟩
    have h2 := h.2 i hi
    unfold wpOp at h2
    unfold wpOpIn
    cases ho : ops[i]? with
    | none =>
      rw [ho] at h2
      exact wpAnyIn_of_any hL hd h2
    | some o =>
      rw [ho] at h2
      simp only at h2 ⊢
      split
      · rename_i hw
        rw [if_pos hw] at h2
        rcases h2 with h2 | ⟨_, h2⟩
        · exact Oper.wpIn_mono (fun a w h => wpAnyIn_of_any hL hd h) (wpIn_of_wp (hd i o ho) h2)
        · exact absurd h2 hL
      · rename_i hw
        rw [if_neg hw] at h2
        exact ⟨fun _ _ => trivial, wpAnyIn_of_any hL hd h2⟩
theorem wpIn_region_of_any {id : Nat} {ops : Array Oper} {a : Act} {w : World} (hm : P.follows .mixedOrders = true) (hL : ¬ LetsOut Q) (hd : ops.all (fun o => match o.op with | .defer _ => false | _ => true) = true)
    (h : wpAny P .any ops Q ops.size (Array.replicate ops.size false) a { w with drawn := w.drawn + 1 }) : (Code.region id ops true).wpIn (FW rd) n P Q a w :=
  wpIn_region_any hm (wpAnyIn_of_any hL (fun i o ho c hc => by
    have := (Array.all_eq_true_iff_forall_mem.1 hd) o (Array.mem_of_getElem? ho)
    rw [hc] at this
    cases this) h)
end
end Go.Proofs.YtckhkfchgcdajaaGreatDoor

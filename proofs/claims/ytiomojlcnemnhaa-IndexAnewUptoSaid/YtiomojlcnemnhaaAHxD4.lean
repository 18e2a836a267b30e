import Derived.Test.YtiomojlcnemnhaaAHxD3
import Derived.OpenShut
namespace Go.Proofs.Ytiomojlcnemnhaa
open Go.Fx Go.RowKit
def fit1 (n : Int) : Int := if n < 0 then -1 - n else n
def fitTo (arity : Nat) (x : List Int) (k : Nat) : List Int := (List.range 24).map fun i => if i < k ∧ i < arity then fit1 (x.getD i 0) else 0
abbrev fitRow (arity : Nat) (x : List Int) : List Int := fitTo arity x 24
theorem fitTo_len (arity : Nat) (x : List Int) (k : Nat) : (fitTo arity x k).length = 24 := by simp [fitTo]
theorem fitTo_full (arity : Nat) (x : List Int) {k : Nat} (h : 24 ≤ k ∨ arity ≤ k) : fitTo arity x k = fitRow arity x := by
  refine List.map_congr_left fun i hi => ?_
  have := List.mem_range.1 hi
  have e : (i < k ∧ i < arity) ↔ (i < 24 ∧ i < arity) := by omega
  by_cases hh : i < k ∧ i < arity
  · rw [if_pos hh, if_pos (e.1 hh)]
  · rw [if_neg hh, if_neg fun h' => hh (e.2 h')]
theorem fitTo_set (arity : Nat) (x : List Int) {k : Nat} (hk : k < 24) (ha : k < arity) : (fitTo arity x k).set k (fit1 (x.getD k 0)) = fitTo arity x (k + 1) := by
  refine List.ext_getElem (by simp [fitTo]) fun i h1 h2 => ?_
  rw [List.getElem_set]
  simp only [fitTo, List.getElem_map, List.getElem_range]
  by_cases hik : k = i
  · subst hik
    rw [if_pos rfl, if_pos ⟨by omega, ha⟩]
  · rw [if_neg hik]
    have e : (i < k ∧ i < arity) ↔ (i < k + 1 ∧ i < arity) := by omega
    by_cases hh : i < k ∧ i < arity
    · rw [if_pos hh, if_pos (e.1 hh)]
    · rw [if_neg hh, if_neg fun h' => hh (e.2 h')]
theorem row_i32 {x : List Int} (hx : RowOk x) (i : Nat) : -2147483648 ≤ x.getD i 0 ∧ x.getD i 0 ≤ 2147483647 := by
  rw [List.getD_eq_getElem?_getD]
  exact range_i32 hx.2 i
theorem fitRow_ok {arity : Nat} {x : List Int} (hx : RowOk x) : RowOk (fitRow arity x) := by
  refine ⟨fitTo_len _ _ _, fun n hn => ?_⟩
  obtain ⟨i, hi, rfl⟩ := List.mem_map.1 hn
  have := row_i32 hx i
  split
  · unfold fit1
    split
    · exact WalkArith.wf_i32 ⟨by omega, by omega⟩
    · exact WalkArith.wf_i32 this
  · rfl
theorem fitRow_right {arity : Nat} {x : List Int} : rightRow arity (fitRow arity x) = true := by
  unfold rightRow
  rw [Bool.and_eq_true, List.all_eq_true, List.all_eq_true]
  constructor
  · intro n hn
    obtain ⟨i, hi, rfl⟩ := List.mem_map.1 hn
    refine decide_eq_true ?_
    split
    · unfold fit1; split <;> omega
    · omega
  · intro n hn
    obtain ⟨j, hj, rfl⟩ := List.getElem_of_mem hn
    rw [List.getElem_drop]
    simp only [fitTo, List.getElem_map, List.getElem_range]
    rw [if_neg (by omega)]
    rfl
theorem set_sym {w : World} {g k : Nat} {l : List Int} (n : Int) (h : w.heap[g]? = some (.cells (l.map symV).toArray 43 (0, 0))) : (w.setCell ⟨g, k, none⟩ (.int .i32 n)).heap[g]? = some (.cells ((l.set k n).map symV).toArray 43 (0, 0)) := by
  rw [heap_setCell_same w g k _ 43 _ h, List.setIfInBounds_toArray, List.map_set]
set_option maxHeartbeats 1000000 in
set_option maxRecDepth 100000 in
theorem fit_calls {w : World} {arity : Nat} {x : List Int} (hx : RowOk x) (ha : arity ≤ 24) :
    Calls Try.prog 46 #[rowV x, .int .i64 (arity : Int)] w fun e w' => e = .returned (rowV (fitRow arity x)) ∧ Below w.heap.size w w' := by
  have hxl := hx.1
  go_enter Try.func46, Try.ntmps46
  go_wp2_with fail
  have hb0 := (Below.refl w.heap.size w).alloc (Nat.le_refl _) (.cells (x.map symV).toArray 43)
  have hX := heap_alloc_new w (.cells (x.map symV).toArray 43)
  have hs0 := alloc_size w (.cells (x.map symV).toArray 43)
  generalize w.alloc (.cells (x.map symV).toArray 43) = w0 at *
  have hb1 := hb0.alloc hb0.size (.cells (List.replicate 24 (Value.int .i32 0)).toArray 43)
  have hZ := heap_alloc_new w0 (.cells (List.replicate 24 (Value.int .i32 0)).toArray 43)
  have hs1 := alloc_size w0 (.cells (List.replicate 24 (Value.int .i32 0)).toArray 43)
  have hX1 := (((Below.refl w0.heap.size w0).alloc (Nat.le_refl _) (.cells (List.replicate 24 (Value.int .i32 0)).toArray 43)).block w.heap.size (by omega)).trans hX
  obtain ⟨w1, hw1⟩ : ∃ w1, w0.alloc (.cells (List.replicate 24 (Value.int .i32 0)).toArray 43) = w1 := ⟨_, rfl⟩
  rw [hw1] at hb1 hZ hs1 hX1
  have hb2 := hb1.alloc hb1.size (.cells (List.replicate 24 (Value.int .i32 0)).toArray 43)
  have hY := heap_alloc_new w1 (.cells (List.replicate 24 (Value.int .i32 0)).toArray 43)
  have hB := (Below.refl w1.heap.size w1).alloc (Nat.le_refl _) (.cells (List.replicate 24 (Value.int .i32 0)).toArray 43)
  have hX2 := (hB.block w.heap.size (by omega)).trans hX1
  have hZ2 := (hB.block w0.heap.size (by omega)).trans hZ
  obtain ⟨w2, hw2⟩ : ∃ w2, w1.alloc (.cells (List.replicate 24 (Value.int .i32 0)).toArray 43) = w2 := ⟨_, rfl⟩
  rw [hw2] at hb2 hY hX2 hZ2
  simp only [List.replicate] at hw1 hw2
  rw [hw1, hw2]
  rw [hs0] at hZ2
  have hs2 : w1.heap.size = w.heap.size + 1 + 1 := by rw [hs1, hs0]
  rw [hs2] at hY
  clear hw1 hw2 hX1 hZ hB hb1 hX hb0 hs1 hs2 hs0 w1 w0
  have hz0 : fitTo arity x 0 = List.replicate 24 0 := by simp [fitTo]; rfl
  have hY2 : w2.heap[w.heap.size + 1 + 1]? = some (.cells ((fitTo arity x 0).map symV).toArray 43 (0, 0)) := by rw [hY, hz0, List.map_replicate]
  clear hY hz0
  go_loopw [6] (fun i wr => ∃ k : Nat, i = .int .i64 (k : Int) ∧ k ≤ 24 ∧ Below w.heap.size w wr ∧ wr.heap[w.heap.size]? = some (.cells (x.map symV).toArray 43 (0, 0)) ∧ wr.heap[w.heap.size + 1]? = some (.cells (List.replicate 24 (Value.int .i32 0)).toArray 43 (0, 0)) ∧ wr.heap[w.heap.size + 1 + 1]? = some (.cells ((fitTo arity x k).map symV).toArray 43 (0, 0))) (fun i _ => match i with | .int _ m => 24 - m.toNat | _ => 0)
  case atStart => exact ⟨0, rfl, Nat.zero_le _, hb2, hX2, hZ2, hY2⟩
  case round =>
    clear hX2 hY2 hZ2 hb2 w2
    obtain ⟨k, rfl, hk, hbl, hX, hZ, hY⟩ := hrel
    by_cases hlt : k < 24 ∧ k < arity
    · have hlt' : decide ((k : Int) < 24) = true := decide_eq_true (by omega)
      have hlt2 : decide ((k : Int) < (arity : Int)) = true := decide_eq_true (by omega)
      have hi0 : (0 : Int) ≤ (k : Int) := by omega
      have hi1 : (k : Int) < 24 := by omega
      have c1 := row_cell hxl hX hlt.1
      have c2 := row_cell (fitTo_len arity x k) hY hlt.1
      have hset := fitTo_set arity x hlt.1 hlt.2
      have hr := row_i32 hx k
      have hf := frozen_of_row wr (w.heap.size + 1 + 1) k _ _ hY
      have hne1 : w.heap.size ≠ w.heap.size + 1 + 1 := by omega
      have hne2 : w.heap.size + 1 ≠ w.heap.size + 1 + 1 := by omega
      have HY := Lib.hid (And.intro hY (And.intro hX (And.intro hZ hset)))
      clear hY hX hZ hset
      generalize x.getD k 0 = a at *
      go_wp2_with fail
      · obtain ⟨hY, hX, hZ, hset⟩ := HY.out
        refine ⟨⟨k + 1, congrArg (Value.int .i64) (by omega), by omega, (hbl.setCell (p := ⟨w.heap.size + 1 + 1, k, none⟩) (by show _ ≤ w.heap.size + 1 + 1; omega) _).setCell (p := ⟨w.heap.size + 1 + 1, k, none⟩) (by show _ ≤ w.heap.size + 1 + 1; omega) _, ?_, ?_, ?_⟩, ?_⟩
        · rw [heap_setCell_other _ _ _ _ hne1, heap_setCell_other _ _ _ _ hne1]; exact hX
        · rw [heap_setCell_other _ _ _ _ hne2, heap_setCell_other _ _ _ _ hne2]; exact hZ
        · rw [set_sym _ (set_sym _ hY), List.set_set, ← hset, fit1, if_pos (by assumption)]
        · show 24 - ((k : Int) + 1).toNat < 24 - (k : Int).toNat
          omega
      · obtain ⟨hY, hX, hZ, hset⟩ := HY.out
        refine ⟨⟨k + 1, congrArg (Value.int .i64) (by omega), by omega, hbl.setCell (p := ⟨w.heap.size + 1 + 1, k, none⟩) (by show _ ≤ w.heap.size + 1 + 1; omega) _, ?_, ?_, ?_⟩, ?_⟩
        · rw [heap_setCell_other _ _ _ _ hne1]; exact hX
        · rw [heap_setCell_other _ _ _ _ hne2]; exact hZ
        · rw [set_sym _ hY, ← hset, fit1, if_neg (by omega)]
        · show 24 - ((k : Int) + 1).toNat < 24 - (k : Int).toNat
          omega
    · have hff := fitTo_full arity x (k := k) (by omega)
      rw [hff] at hY
      clear hff
      obtain ⟨r, hr⟩ : ∃ r, fitRow arity x = r := ⟨_, rfl⟩
      have hlr : r.length = 24 := by rw [← hr]; exact fitTo_len arity x 24
      rw [hr] at hY
      have HR := Lib.hid hr
      clear hr
      have hsz1 : (Try.prog.info? 43).map (·.size) = some (r.map symV).length := by rw [infoRow]; simp [hlr]
      have hsz : (Try.prog.info? 43).map (·.size) = some (r.map symV).toArray.size := by rw [infoRow]; simp [hlr]
      have hone := row_one r
      have hrg : wr.rangeAt (w.heap.size + 1 + 1) 0 (r.map symV) := fun j v hj => by
        simp only [World.cell?, hY, Nat.zero_add]
        simpa using hj
      have hg2 := setRow_heap wr (w.heap.size + 1) _ (List.map symV r).toArray _ _ hZ
      have hbl2 : Below w.heap.size w (wr.setRow (w.heap.size + 1) (List.map symV r).toArray) := below_setRow hbl (by omega) _
      clear hX hY
      by_cases h24 : k < 24
      · have hlt' : decide ((k : Int) < 24) = true := decide_eq_true (by omega)
        have hlt2 : decide ((k : Int) < (arity : Int)) = false := decide_eq_false (by omega)
        go_wp2_with (first | (refine wpList_load_mid rfl 43 _ rfl (w.heap.size + 1 + 1) 0 rfl _ _ hrg Try.underlying43 rfl hsz1 ?_) | (refine wpList_store_row rfl 43 _ _ rfl (w.heap.size + 1) _ rfl rfl 43 _ hZ hsz (by simp [hlr]) hone ?_))
        exact bodyPost_ret (v := rowV r) (results_cell_row Try.results46 _ _ (w.heap.size + 1) 43 _ (0, 0) _ rfl hg2 Try.underlying43 rfl hsz) rfl ⟨by rw [HR.out], hbl2⟩
      · have hlt' : decide ((k : Int) < 24) = false := decide_eq_false (by omega)
        go_wp2_with (first | (refine wpList_load_mid rfl 43 _ rfl (w.heap.size + 1 + 1) 0 rfl _ _ hrg Try.underlying43 rfl hsz1 ?_) | (refine wpList_store_row rfl 43 _ _ rfl (w.heap.size + 1) _ rfl rfl 43 _ hZ hsz (by simp [hlr]) hone ?_))
        exact bodyPost_ret (v := rowV r) (results_cell_row Try.results46 _ _ (w.heap.size + 1) 43 _ (0, 0) _ rfl hg2 Try.underlying43 rfl hsz) rfl ⟨by rw [HR.out], hbl2⟩
end Go.Proofs.Ytiomojlcnemnhaa

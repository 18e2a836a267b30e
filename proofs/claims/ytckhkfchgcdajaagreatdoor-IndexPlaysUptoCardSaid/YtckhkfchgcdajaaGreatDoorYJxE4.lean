import Derived.Test.YtckhkfchgcdajaaGreatDoorYJxD3
import Derived.OpenShut
namespace Go.Proofs.YtckhkfchgcdajaaGreatDoor
open Go.Fx Go.RowKit
def fit1 (n : Int) : Int := if n < 0 then -1 - n else n
def fitTo (arity : Nat) (x : List Int) (k : Nat) : List Int := (List.range 24).map fun i => if i < k ∧ i < arity then fit1 (x.getD i 0) else 0
abbrev fitRow (arity : Nat) (x : List Int) : List Int := fitTo arity x 24
theorem fitTo_len (arity : Nat) (x : List Int) (k : Nat) : (fitTo arity x k).length = 24 := by simp [fitTo]
theorem fitTo_full (arity : Nat) (x : List Int) {k : Nat} (h : 24 ≤ k ∨ arity ≤ k) : fitTo arity x k = fitRow arity x := by
  refine List.map_congr_left fun i hi => ?_
  have := List.mem_range.1 hi
  have e : (i < k ∧ i < arity) ↔ (i < 24 ∧ i < arity) := by omega
  by_cases hh : i < k ∧ i < arity
  · rw [if_pos hh, if_pos (e.1 hh)]
  · rw [if_neg hh, if_neg fun h' => hh (e.2 h')]
theorem fitTo_set (arity : Nat) (x : List Int) {k : Nat} (hk : k < 24) (ha : k < arity) : (fitTo arity x k).set k (fit1 (x.getD k 0)) = fitTo arity x (k + 1) := by
  refine List.ext_getElem (by simp [fitTo]) fun i h1 h2 => ?_
  rw [List.getElem_set]
  simp only [fitTo, List.getElem_map, List.getElem_range]
  by_cases hik : k = i
  · subst hik
    rw [if_pos rfl, if_pos ⟨by omega, ha⟩]
  · rw [if_neg hik]
    have e : (i < k ∧ i < arity) ↔ (i < k + 1 ∧ i < arity) := by omega
    by_cases hh : i < k ∧ i < arity
    · rw [if_pos hh, if_pos (e.1 hh)]
    · rw [if_neg hh, if_neg fun h' => hh (e.2 h')]
theorem row_i32 {x : List Int} (hx : RowOk x) (i : Nat) : -2147483648 ≤ x.getD i 0 ∧ x.getD i 0 ≤ 2147483647 := by
  rw [List.getD_eq_getElem?_getD]
  exact range_i32 hx.2 i
theorem fitRow_ok {arity : Nat} {x : List Int} (hx : RowOk x) : RowOk (fitRow arity x) := by
  refine ⟨fitTo_len _ _ _, fun n hn => ?_⟩
  obtain ⟨i, hi, rfl⟩ := List.mem_map.1 hn
  have := row_i32 hx i
  split
  · unfold fit1
    split
    · exact WalkArith.wf_i32 ⟨by omega, by omega⟩
    · exact WalkArith.wf_i32 this
  · rfl
theorem fitRow_right {arity : Nat} {x : List Int} : rightRow arity (fitRow arity x) = true := by
  unfold rightRow
  rw [Bool.and_eq_true, List.all_eq_true, List.all_eq_true]
  constructor
  · intro n hn
    obtain ⟨i, hi, rfl⟩ := List.mem_map.1 hn
    refine decide_eq_true ?_
    split
    · unfold fit1; split <;> omega
    · omega
  · intro n hn
    obtain ⟨j, hj, rfl⟩ := List.getElem_of_mem hn
    rw [List.getElem_drop]
    simp only [fitTo, List.getElem_map, List.getElem_range]
    rw [if_neg (by omega)]
    rfl
theorem set_sym {w : World} {g k : Nat} {l : List Int} (n : Int) (h : w.heap[g]? = some (.cells (l.map symV).toArray 64 (0, 0))) : (w.setCell ⟨g, k, none⟩ (.int .i32 n)).heap[g]? = some (.cells ((l.set k n).map symV).toArray 64 (0, 0)) := by
  rw [heap_setCell_same w g k _ 64 _ h, List.setIfInBounds_toArray, List.map_set]
set_option maxHeartbeats 1000000 in
set_option maxRecDepth 100000 in
theorem fit_calls {w : World} {arity : Nat} {x : List Int} (hx : RowOk x) (ha : arity ≤ 24) :
    Calls Tryz.prog 13 #[rowV x, .int .i64 (arity : Int)] w fun e w' => e = .returned (rowV (fitRow arity x)) ∧ Below w.heap.size w w' := by
  have hxl := hx.1
  go_enter Tryz.func13, Tryz.ntmps13
  go_wp2_with fail
  have hb0 := (Below.refl w.heap.size w).alloc (Nat.le_refl _) (.cells (x.map symV).toArray 64)
  have hX := heap_alloc_new w (.cells (x.map symV).toArray 64)
  have hs0 := alloc_size w (.cells (x.map symV).toArray 64)
  generalize w.alloc (.cells (x.map symV).toArray 64) = w0 at *
  have hb1 := hb0.alloc hb0.size (.cells (List.replicate 24 (Value.int .i32 0)).toArray 64)
  have hZ := heap_alloc_new w0 (.cells (List.replicate 24 (Value.int .i32 0)).toArray 64)
  have hs1 := alloc_size w0 (.cells (List.replicate 24 (Value.int .i32 0)).toArray 64)
  have hX1 := (((Below.refl w0.heap.size w0).alloc (Nat.le_refl _) (.cells (List.replicate 24 (Value.int .i32 0)).toArray 64)).block w.heap.size (by omega)).trans hX
  obtain ⟨w1, hw1⟩ : ∃ w1, w0.alloc (.cells (List.replicate 24 (Value.int .i32 0)).toArray 64) = w1 := ⟨_, rfl⟩
  rw [hw1] at hb1 hZ hs1 hX1
  have hb2 := hb1.alloc hb1.size (.cells (List.replicate 24 (Value.int .i32 0)).toArray 64)
  have hY := heap_alloc_new w1 (.cells (List.replicate 24 (Value.int .i32 0)).toArray 64)
  have hB := (Below.refl w1.heap.size w1).alloc (Nat.le_refl _) (.cells (List.replicate 24 (Value.int .i32 0)).toArray 64)
  have hX2 := (hB.block w.heap.size (by omega)).trans hX1
  have hZ2 := (hB.block w0.heap.size (by omega)).trans hZ
  obtain ⟨w2, hw2⟩ : ∃ w2, w1.alloc (.cells (List.replicate 24 (Value.int .i32 0)).toArray 64) = w2 := ⟨_, rfl⟩
  rw [hw2] at hb2 hY hX2 hZ2
  simp only [List.replicate] at hw1 hw2
  rw [hw1, hw2]
  rw [hs0] at hZ2
  have hs2 : w1.heap.size = w.heap.size + 1 + 1 := by rw [hs1, hs0]
  rw [hs2] at hY
  clear hw1 hw2 hX1 hZ hB hb1 hX hb0 hs1 hs2 hs0 w1 w0
  have hz0 : fitTo arity x 0 = List.replicate 24 0 := by simp [fitTo]; rfl
  have hY2 : w2.heap[w.heap.size + 1 + 1]? = some (.cells ((fitTo arity x 0).map symV).toArray 64 (0, 0)) := by rw [hY, hz0, List.map_replicate]
  clear hY hz0
  go_loopw [6] (fun i wr => ∃ k : Nat, i = .int .i64 (k : Int) ∧ k ≤ 24 ∧ Below w.heap.size w wr ∧ wr.heap[w.heap.size]? = some (.cells (x.map symV).toArray 64 (0, 0)) ∧ wr.heap[w.heap.size + 1]? = some (.cells (List.replicate 24 (Value.int .i32 0)).toArray 64 (0, 0)) ∧ wr.heap[w.heap.size + 1 + 1]? = some (.cells ((fitTo arity x k).map symV).toArray 64 (0, 0))) (fun i _ => match i with | .int _ m => 24 - m.toNat | _ => 0)
  case atStart => exact ⟨0, rfl, Nat.zero_le _, hb2, hX2, hZ2, hY2⟩
  case round =>
    clear hX2 hY2 hZ2 hb2 w2
    obtain ⟨k, rfl, hk, hbl, hX, hZ, hY⟩ := hrel
    by_cases hlt : k < 24 ∧ k < arity
    · have hlt' : decide ((k : Int) < 24) = true := decide_eq_true (by omega)
      have hlt2 : decide ((k : Int) < (arity : Int)) = true := decide_eq_true (by omega)
      have hi0 : (0 : Int) ≤ (k : Int) := by omega
      have hi1 : (k : Int) < 24 := by omega
      have c1 := row_cell hxl hX hlt.1
      have c2 := row_cell (fitTo_len arity x k) hY hlt.1
      have hset := fitTo_set arity x hlt.1 hlt.2
      have hr := row_i32 hx k
      have hf := frozen_of_row wr (w.heap.size + 1 + 1) k _ _ hY
      have hne1 : w.heap.size ≠ w.heap.size + 1 + 1 := by omega
      have hne2 : w.heap.size + 1 ≠ w.heap.size + 1 + 1 := by omega
      have HY := Lib.hid (And.intro hY (And.intro hX (And.intro hZ hset)))
      clear hY hX hZ hset
      generalize x.getD k 0 = a at *
      go_wp2_with fail
      · obtain ⟨hY, hX, hZ, hset⟩ := HY.out
        refine ⟨⟨k + 1, congrArg (Value.int .i64) (by omega), by omega, (hbl.setCell (p := ⟨w.heap.size + 1 + 1, k, none⟩) (by show _ ≤ w.heap.size + 1 + 1; omega) _).setCell (p := ⟨w.heap.size + 1 + 1, k, none⟩) (by show _ ≤ w.heap.size + 1 + 1; omega) _, ?_, ?_, ?_⟩, ?_⟩
        · rw [heap_setCell_other _ _ _ _ hne1, heap_setCell_other _ _ _ _ hne1]; exact hX
        · rw [heap_setCell_other _ _ _ _ hne2, heap_setCell_other _ _ _ _ hne2]; exact hZ
        · rw [set_sym _ (set_sym _ hY), List.set_set, ← hset, fit1, if_pos (by assumption)]
        · show 24 - ((k : Int) + 1).toNat < 24 - (k : Int).toNat
          omega
      · obtain ⟨hY, hX, hZ, hset⟩ := HY.out
        refine ⟨⟨k + 1, congrArg (Value.int .i64) (by omega), by omega, hbl.setCell (p := ⟨w.heap.size + 1 + 1, k, none⟩) (by show _ ≤ w.heap.size + 1 + 1; omega) _, ?_, ?_, ?_⟩, ?_⟩
        · rw [heap_setCell_other _ _ _ _ hne1]; exact hX
        · rw [heap_setCell_other _ _ _ _ hne2]; exact hZ
        · rw [set_sym _ hY, ← hset, fit1, if_neg (by omega)]
        · show 24 - ((k : Int) + 1).toNat < 24 - (k : Int).toNat
          omega
    · have hff := fitTo_full arity x (k := k) (by omega)
      rw [hff] at hY
      clear hff
      obtain ⟨r, hr⟩ : ∃ r, fitRow arity x = r := ⟨_, rfl⟩
      have hlr : r.length = 24 := by rw [← hr]; exact fitTo_len arity x 24
      rw [hr] at hY
      have HR := Lib.hid hr
      clear hr
      have hsz1 : (Tryz.prog.info? 64).map (·.size) = some (r.map symV).length := by rw [infoRow]; simp [hlr]
      have hsz : (Tryz.prog.info? 64).map (·.size) = some (r.map symV).toArray.size := by rw [infoRow]; simp [hlr]
      have hone := row_one r
      have hrg : wr.rangeAt (w.heap.size + 1 + 1) 0 (r.map symV) := fun j v hj => by
        simp only [World.cell?, hY, Nat.zero_add]
        simpa using hj
      have hg2 := setRow_heap wr (w.heap.size + 1) _ (List.map symV r).toArray _ _ hZ
      have hbl2 : Below w.heap.size w (wr.setRow (w.heap.size + 1) (List.map symV r).toArray) := below_setRow hbl (by omega) _
      clear hX hY
      by_cases h24 : k < 24
      · have hlt' : decide ((k : Int) < 24) = true := decide_eq_true (by omega)
        have hlt2 : decide ((k : Int) < (arity : Int)) = false := decide_eq_false (by omega)
        go_wp2_with (first | (refine wpList_load_mid rfl 64 _ rfl (w.heap.size + 1 + 1) 0 rfl _ _ hrg Tryz.underlying64 rfl hsz1 ?_) | (refine wpList_store_row rfl 64 _ _ rfl (w.heap.size + 1) _ rfl rfl 64 _ hZ hsz (by simp [hlr]) hone ?_))
        exact bodyPost_ret (v := rowV r) (results_cell_row Tryz.results13 _ _ (w.heap.size + 1) 64 _ (0, 0) _ rfl hg2 Tryz.underlying64 rfl hsz) rfl ⟨by rw [HR.out], hbl2⟩
      · have hlt' : decide ((k : Int) < 24) = false := decide_eq_false (by omega)
        go_wp2_with (first | (refine wpList_load_mid rfl 64 _ rfl (w.heap.size + 1 + 1) 0 rfl _ _ hrg Tryz.underlying64 rfl hsz1 ?_) | (refine wpList_store_row rfl 64 _ _ rfl (w.heap.size + 1) _ rfl rfl 64 _ hZ hsz (by simp [hlr]) hone ?_))
        exact bodyPost_ret (v := rowV r) (results_cell_row Tryz.results13 _ _ (w.heap.size + 1) 64 _ (0, 0) _ rfl hg2 Tryz.underlying64 rfl hsz) rfl ⟨by rw [HR.out], hbl2⟩
end Go.Proofs.YtckhkfchgcdajaaGreatDoor

namespace Go.Proofs.YtckhkfchgcdajaaGreatDoor
open Go.Fx Go.RowKit
def SlRows (w : World) (lv : Value) (L : List (List Int)) : Prop :=
  ∃ ad cap, lv = .slice ad L.length cap ∧ (∀ i, i < L.length → ∃ g o, ad = some ⟨g, o, none⟩ ∧ g < w.heap.size ∧ w.rangeAt g (o + i * 24) ((L.getD i []).map symV)) ∧ ∀ x ∈ L, RowOk x
def fillTo (arity : Nat) (L : List (List Int)) (k : Nat) : List (List Int) := (L.take k).foldl (fun rows x => addRow rows (fitRow arity x)) []
def FillAt (w : World) (L : List (List Int)) (arity b k : Nat) (s8 : Value) (wr : World) : Prop :=
  ∃ R, Rel wr R b arity 0 (fillTo arity L k) ∧ Below w.heap.size w wr ∧ (∀ j, R j → w.heap.size ≤ j) ∧
    ((k ≤ L.length / 2 ∧ s8 = .pointer none) ∨ (L.length / 2 < k ∧ ∃ bk F, s8 = .pointer (some ⟨bk, 0, none⟩) ∧ Bk wr F bk b [] ∧ (∀ j, F j → ¬ R j) ∧ (∀ j, F j → w.heap.size ≤ j)))
def FillMid (w : World) (L : List (List Int)) (arity b k : Nat) (s8 : Value) (wr : World) : Prop :=
  ∃ R, Rel wr R b arity 0 (fillTo arity L k) ∧ Below w.heap.size w wr ∧ (∀ j, R j → w.heap.size ≤ j) ∧
    ((k + 1 ≤ L.length / 2 ∧ s8 = .pointer none) ∨ (L.length / 2 < k + 1 ∧ ∃ bk F, s8 = .pointer (some ⟨bk, 0, none⟩) ∧ Bk wr F bk b [] ∧ (∀ j, F j → ¬ R j) ∧ (∀ j, F j → w.heap.size ≤ j)))
theorem FillAt.mid {w wr : World} {L : List (List Int)} {arity b k : Nat} {s8 : Value} (h : FillAt w L arity b k s8 wr) (hk : k ≠ L.length / 2) : FillMid w L arity b k s8 wr := by
  obtain ⟨R, h1, h2, h3, ⟨h4, h5⟩ | ⟨h4, h5⟩⟩ := h
  · exact ⟨R, h1, h2, h3, .inl ⟨by omega, h5⟩⟩
  · exact ⟨R, h1, h2, h3, .inr ⟨by omega, h5⟩⟩
end Go.Proofs.YtckhkfchgcdajaaGreatDoor

namespace Go.Proofs.YtckhkfchgcdajaaGreatDoor
open Go.Fx Go.RowKit
def two (a b : Int) : List Int := a :: b :: List.replicate 22 0
theorem two_ok {a b : Int} (ha : (Lit.int .i32 a).wf = true) (hb : (Lit.int .i32 b).wf = true) : RowOk (two a b) := by
  refine ⟨rfl, fun n hn => ?_⟩
  simp only [two, List.mem_cons, List.mem_replicate] at hn
  rcases hn with rfl | rfl | ⟨_, rfl⟩
  · exact ha
  · exact hb
  · rfl
theorem own_step {w w1 w2 : World} {R R2 : Nat → Prop} (hb : Below w.heap.size w w1) (hr : ∀ k, R k → w.heap.size ≤ k) (hs : Step w1 R w2 R2) : Below w.heap.size w w2 ∧ ∀ k, R2 k → w.heap.size ≤ k := by
  have := hb.size
  exact ⟨KeptBut.below ((KeptBut.of_below (M := fun _ => False) hb).trans hs.1 fun j hj => .inl (hr j hj)), fun j hj => (hs.2 j hj).elim (hr j) fun h => by omega⟩
theorem ints_made {w : World} {N : Nat} {l : List Int} (h : w.heap[N]? = some (.cells (l.map intV).toArray 3 (0, 0))) (hl : l.length ≤ maxLen) : IntsAt w (.slice (some ⟨N, 0, none⟩) l.length l.length) l := by
  refine ⟨by simp, .inr ⟨N, l.length, _, rfl, Nat.zero_le _, h, Nat.le_refl _, hl, by simp, by simp [List.take_of_length_le]⟩⟩
set_option maxHeartbeats 4000000 in
set_option maxRecDepth 100000 in
theorem lives_calls {w : World} : Calls Tryz.prog 9 #[] w fun e w' => e = .returned (.bool true) ∧ Below w.heap.size w w' := by
  have ok : ∀ a b : Fin 5, RowOk (two a.val b.val) := fun a b => two_ok ((by decide +kernel : ∀ a : Fin 5, (Lit.int .i32 a.val).wf = true) a) ((by decide +kernel : ∀ a : Fin 5, (Lit.int .i32 a.val).wf = true) b)
  have q1 : addRow [] (two 1 2) = [two 1 2] := by decide +kernel
  have q2 : addRow [two 1 2] (two 4 2) = [two 1 2, two 4 2] := by decide +kernel
  have q3 : addRow [two 1 2, two 4 2] (two 1 3) = [two 1 2, two 4 2, two 1 3] := by decide +kernel
  have q4 : (idsOf 2 (nums 0 [two 1 2, two 4 2]) (keyRow 2 (two 0 2))).length = 2 := by decide +kernel
  have q5 : idsOf 1 (nums 0 [two 1 2, two 4 2, two 1 3]) (keyRow 1 (two 1 0)) = [0, 2] := by decide +kernel
  go_enter Tryz.func9, Tryz.ntmps9
  go_wp2_with fail
  refine (b_new (arity := 2) (by decide)).mono ?_
  rintro e w1 ⟨b, R, rfl, hR, hb1, hR1⟩
  have HS := Lib.hid (And.intro hR (And.intro hb1 hR1))
  clear hR hb1 hR1
  go_wp2_with fail
  refine (b_add (x := two 1 2) HS.out.1 (ok 1 2) (by decide +kernel) (by decide)).mono ?_
  rintro e w2 ⟨t, R2, rfl, hR, hst⟩
  rw [q1] at hR
  have HS2 := Lib.hid (And.intro hR (own_step HS.out.2.1 HS.out.2.2 hst))
  clear hR hst HS
  go_wp2_with fail
  refine (b_add (x := two 4 2) HS2.out.1 (ok 4 2) (by decide +kernel) (by decide)).mono ?_
  rintro e w3 ⟨t, R3, rfl, hR, hst⟩
  rw [q2] at hR
  have HS3 := Lib.hid (And.intro hR (own_step HS2.out.2.1 HS2.out.2.2 hst))
  clear hR hst HS2
  go_wp2_with fail
  refine (b_open HS3.out.1).mono ?_
  rintro e w4 ⟨bk, F, rfl, hB, hb4, hF4⟩
  have HS4 : Hid (Rel w4 R3 b 2 0 [two 1 2, two 4 2] ∧ Below w.heap.size w w4 ∧ (∀ k, R3 k → w.heap.size ≤ k) ∧ Bk w4 F bk b [] ∧ (∀ k, F k → ¬ R3 k) ∧ ∀ k, F k → w.heap.size ≤ k) := Lib.hid ⟨HS3.out.1.below hb4, HS3.out.2.1.trans (hb4.mono HS3.out.2.1.size), HS3.out.2.2, hB, fun k hf hr => by have := HS3.out.1.lt hr; have := hF4 k hf; omega, fun k hf => Nat.le_trans HS3.out.2.1.size (hF4 k hf)⟩
  clear hB hb4 hF4 HS3
  go_wp2_with fail
  refine (b_count (m := 2) (y := two 0 2) HS4.out.2.2.2.1 HS4.out.1 HS4.out.2.2.2.2.1 (Fine.nil _ _) (by unfold MskOk; decide) (by decide) (by decide) (ok 0 2)).mono ?_
  rintro e w5 ⟨F5, rfl, hB, hst⟩
  have hr5 := hst.rel HS4.out.1 HS4.out.2.2.2.2.1
  have ho5 := own_step HS4.out.2.1 HS4.out.2.2.2.2.2 hst
  have HS5 := Lib.hid (And.intro hr5.1 (And.intro hr5.2 (And.intro hB (And.intro ho5.1 (And.intro ho5.2 HS4.out.2.2.1)))))
  clear hB hst hr5 ho5 HS4
  rw [q4]
  go_wp2_with fail
  refine (b_add (x := two 1 3) HS5.out.1 (ok 1 3) (by decide +kernel) (by decide)).mono ?_
  rintro e w6 ⟨t, R6, rfl, hR, hst⟩
  rw [q3] at hR
  have hb6 := hst.bk HS5.out.2.2.1 HS5.out.2.1
  have ho6 := own_step HS5.out.2.2.2.1 HS5.out.2.2.2.2.2 hst
  have HS6 := Lib.hid (And.intro hR (And.intro hb6.1 (And.intro hb6.2 (And.intro ho6.1 (And.intro ho6.2 HS5.out.2.2.2.2.1)))))
  clear hR hst hb6 ho6 HS5
  go_wp2_with fail
  refine (b_look (m := 1) (y := two 1 0) HS6.out.2.1 HS6.out.1 HS6.out.2.2.1 (((Fine.nil _ _).ask 2).add _) (by unfold MskOk; decide) (by decide) (by decide) (ok 1 0)).mono ?_
  rintro e w7 ⟨v, F7, rfl, hB, hst, hown, hvF⟩
  rw [q5] at hown
  have hv7 : IntsAt w7 v [0, 2] := IntsAt.of hown
  have ho7 := own_step HS6.out.2.2.2.1 HS6.out.2.2.2.2.2 hst
  have HS7 := Lib.hid (And.intro hv7 ho7.1)
  clear hB hst hown hvF hv7 ho7 HS6
  go_wp2_with fail
  have hnew := heap_alloc_new w7 (Obj.cells #[.int .i64 0, .int .i64 2] 3)
  have hb8 := (Below.refl w7.heap.size w7).alloc (Nat.le_refl _) (Obj.cells #[.int .i64 0, .int .i64 2] 3)
  have hi1 : IntsAt (w7.alloc (Obj.cells #[.int .i64 0, .int .i64 2] 3)) v [0, 2] := HS7.out.1.frame fun k hk => hb8.block k (own_lt HS7.out.1 hk)
  have hi2 : IntsAt (w7.alloc (Obj.cells #[.int .i64 0, .int .i64 2] 3)) (.slice (some ⟨w7.heap.size, 0, none⟩) 2 2) [0, 2] := ints_made (l := [0, 2]) hnew (by decide)
  have hbz := HS7.out.2.trans (hb8.mono HS7.out.2.size)
  generalize w7.alloc (Obj.cells #[.int .i64 0, .int .i64 2] 3) = w8 at *
  refine (same_calls hi1 hi2).mono ?_
  rintro e w9 ⟨rfl, hb9⟩
  have HZ := Lib.hid (hbz.trans (hb9.mono hbz.size))
  have hd : decide (([0, 2] : List Int) = [0, 2]) = true := rfl
  rw [hd]
  clear hnew hb8 hi1 hi2 hbz hb9
  go_wp2_with fail
  exact bodyPost_ret (v := .bool true) (by simp [results, Tryz.results9, go_sem]) rfl ⟨rfl, HZ.out⟩
end Go.Proofs.YtckhkfchgcdajaaGreatDoor

namespace Go.Proofs.YtckhkfchgcdajaaGreatDoor
open Go.Fx Go.RowKit
def NoBk (w : World) (v : Value) : Prop := v = .pointer none ∨ ∃ bk, v = .pointer (some ⟨bk, 0, none⟩) ∧ w.heap[bk]? = some (.cells #[.pointer none, .map none] 110 (0, 0))
theorem NoBk.below {w w' : World} {v : Value} (h : NoBk w v) (hb : Below w.heap.size w w') : NoBk w' v := by
  rcases h with rfl | ⟨bk, rfl, h⟩
  · exact .inl rfl
  · exact .inr ⟨bk, rfl, (hb.block bk (Array.getElem?_eq_some_iff.1 h).1).trans h⟩
end Go.Proofs.YtckhkfchgcdajaaGreatDoor

namespace Go.Proofs.YtckhkfchgcdajaaGreatDoor
open Go.Fx Go.RowKit
end Go.Proofs.YtckhkfchgcdajaaGreatDoor

namespace Go.Proofs.YtckhkfchgcdajaaGreatDoor
open Go.Fx Go.RowKit
def NoDoc (w : World) (k : Nat) : Prop := w.heap[k]? = some (.cells #[.bool false, .int .i64 0, .slice none 0 0] 113 (0, 0))
theorem NoDoc.below {w w' : World} {k : Nat} (h : NoDoc w k) (hb : Below w.heap.size w w') : NoDoc w' k := (hb.block k (Array.getElem?_eq_some_iff.1 h).1).trans h
theorem NoDoc.c0 {w : World} {k : Nat} (h : NoDoc w k) : w.cell? ⟨k, 0, none⟩ = some (.bool false) := by
  have h : w.heap[k]? = some (.cells #[.bool false, .int .i64 0, .slice none 0 0] 113 (0, 0)) := h
  simp [World.cell?, h]
end Go.Proofs.YtckhkfchgcdajaaGreatDoor

namespace Go.Proofs.YtckhkfchgcdajaaGreatDoor
open Go.Fx Go.RowKit
end Go.Proofs.YtckhkfchgcdajaaGreatDoor

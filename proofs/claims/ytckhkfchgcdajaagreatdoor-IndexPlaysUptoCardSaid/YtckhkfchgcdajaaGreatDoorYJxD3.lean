import Derived.Test.YtckhkfchgcdajaaGreatDoorYJxBb
import Derived.Deep.QuietTactic
import Derived.BigQuiet
namespace Go.Proofs.YtckhkfchgcdajaaGreatDoor
open Go.Fx Go.RowKit
def Rel (w : World) (R : Nat → Prop) (b arity : Nat) (gone : Int) (rows : List (List Int)) : Prop := ∃ pb mb lv, RelAt w b pb mb lv arity gone rows ∧ R = relF b pb mb lv
abbrev Abs := List (Nat × List (Int × List Int) × Int)
def Bk (w : World) (F : Nat → Prop) (bk b : Nat) (abs : Abs) : Prop := ∃ bm ixs, BookAt w bk b bm ixs ∧ ixs.map Ix.abs = abs ∧ F = BookF bk bm ixs
def Fine (abs : Abs) (gone : Int) (rows : List (List Int)) : Prop := ∀ a ∈ abs, a.2.2 ≤ gone ∧ (a.2.2 = gone → a.2.1 = nums 0 (rows.take a.2.1.length))
def Step (w : World) (F : Nat → Prop) (w' : World) (F' : Nat → Prop) : Prop := KeptBut F w w' ∧ ∀ k, F' k → F k ∨ w.heap.size ≤ k
theorem Rel.lt {w : World} {R : Nat → Prop} {b arity : Nat} {gone : Int} {rows : List (List Int)} (h : Rel w R b arity gone rows) {k : Nat} (hk : R k) : k < w.heap.size := by
  obtain ⟨pb, mb, lv, h, rfl⟩ := h
  exact h.lt k hk
theorem Rel.frame {w w' : World} {R : Nat → Prop} {b arity : Nat} {gone : Int} {rows : List (List Int)} (h : Rel w R b arity gone rows) (hk : ∀ k, R k → w'.heap[k]? = w.heap[k]?) : Rel w' R b arity gone rows := by
  obtain ⟨pb, mb, lv, h, rfl⟩ := h
  exact ⟨pb, mb, lv, h.frame hk, rfl⟩
theorem Rel.below {w w' : World} {R : Nat → Prop} {b arity : Nat} {gone : Int} {rows : List (List Int)} (h : Rel w R b arity gone rows) (hb : Below w.heap.size w w') : Rel w' R b arity gone rows := h.frame fun k hk => hb.block k (h.lt hk)
theorem Bk.lt {w : World} {F : Nat → Prop} {bk b : Nat} {abs : Abs} (h : Bk w F bk b abs) {k : Nat} (hk : F k) : k < w.heap.size := by
  obtain ⟨bm, ixs, h, _, rfl⟩ := h
  exact h.lt k hk
theorem Bk.frame {w w' : World} {F : Nat → Prop} {bk b : Nat} {abs : Abs} (h : Bk w F bk b abs) (hk : ∀ k, F k → w'.heap[k]? = w.heap[k]?) : Bk w' F bk b abs := by
  obtain ⟨bm, ixs, h, e, rfl⟩ := h
  exact ⟨bm, ixs, h.frame hk, e, rfl⟩
theorem Bk.below {w w' : World} {F : Nat → Prop} {bk b : Nat} {abs : Abs} (h : Bk w F bk b abs) (hb : Below w.heap.size w w') : Bk w' F bk b abs := h.frame fun k hk => hb.block k (h.lt hk)
theorem Step.block {w w' : World} {F F' : Nat → Prop} (h : Step w F w' F') {k : Nat} (hk : k < w.heap.size) (hn : ¬ F k) : w'.heap[k]? = w.heap[k]? ∧ ¬ F' k ∧ k < w'.heap.size :=
  ⟨h.1.block k hk hn, fun h' => (h.2 k h').elim hn (by omega), Nat.lt_of_lt_of_le hk h.1.size⟩
theorem Step.below {w w1 w2 : World} {F F' : Nat → Prop} (h : Step w F w1 F') (hb : Below w1.heap.size w1 w2) : Step w F w2 F' := ⟨h.1.trans (KeptBut.of_below (M := fun _ => False) hb) fun _ h => h.elim, h.2⟩
theorem Step.before {w w1 w2 : World} {F F' : Nat → Prop} (h : Step w1 F w2 F') (hb : Below w.heap.size w w1) : Step w F w2 F' := ⟨(KeptBut.of_below hb).trans h.1 fun _ h => .inr h, fun k hk => (h.2 k hk).imp_right fun h => Nat.le_trans hb.size h⟩
theorem Step.trans {w w1 w2 : World} {F F1 F2 : Nat → Prop} (h : Step w F w1 F1) (h2 : Step w1 F1 w2 F2) : Step w F w2 F2 :=
  ⟨h.1.trans h2.1 fun k hk => (h.2 k hk).symm, fun k hk => (h2.2 k hk).elim (h.2 k) fun h' => .inr (Nat.le_trans h.1.size h')⟩
theorem Step.rel {w w' : World} {F F' R : Nat → Prop} {b arity : Nat} {gone : Int} {rows : List (List Int)} (h : Step w F w' F') (hR : Rel w R b arity gone rows) (hd : ∀ k, F k → ¬ R k) : Rel w' R b arity gone rows ∧ ∀ k, F' k → ¬ R k :=
  ⟨hR.frame fun k hk => (h.block (hR.lt hk) fun hf => hd k hf hk).1, fun k hf hk => (h.block (hR.lt hk) fun hf => hd k hf hk).2.1 hf⟩
theorem Step.bk {w w' : World} {F R R' : Nat → Prop} {bk b : Nat} {abs : Abs} (h : Step w R w' R') (hB : Bk w F bk b abs) (hd : ∀ k, F k → ¬ R k) : Bk w' F bk b abs ∧ ∀ k, F k → ¬ R' k :=
  ⟨hB.frame fun k hk => (h.block (hB.lt hk) (hd k hk)).1, fun k hk hr => (h.block (hB.lt hk) (hd k hk)).2.1 hr⟩
theorem Fine.nil (gone : Int) (rows : List (List Int)) : Fine [] gone rows := fun _ h => by cases h
theorem nums_take_all (rows : List (List Int)) : nums 0 (rows.take (nums 0 rows).length) = nums 0 rows := by rw [nums_len, List.take_length]
theorem Fine.ask {abs : Abs} {gone : Int} {rows : List (List Int)} (h : Fine abs gone rows) (m : Nat) : Fine (askAbs abs m rows gone) gone rows := by
  intro a ha
  unfold askAbs at ha
  split at ha
  · obtain ⟨c, hc, rfl⟩ := List.mem_map.1 ha
    split
    · exact ⟨Int.le_refl _, fun _ => (nums_take_all rows).symm⟩
    · exact h c hc
  · rcases List.mem_append.1 ha with ha | ha
    · exact h a ha
    · obtain rfl := List.mem_singleton.1 ha
      exact ⟨Int.le_refl _, fun _ => (nums_take_all rows).symm⟩
theorem Fine.add {abs : Abs} {gone : Int} {rows : List (List Int)} (h : Fine abs gone rows) (x : List Int) : Fine abs gone (rows ++ [x]) := by
  intro a ha
  refine ⟨(h a ha).1, fun e => ?_⟩
  have h1 := (h a ha).2 e
  have h2 : a.2.1.length ≤ rows.length := by
    have := congrArg List.length h1
    rw [nums_len, List.length_take] at this
    omega
  rw [List.take_append_of_le_length h2]
  exact h1
section
variable {w : World} {R F : Nat → Prop} {bk b arity : Nat} {gone : Int} {rows : List (List Int)} {abs : Abs}
theorem Fine.pre {bm : Nat} {ixs : List Ix} (h : Fine (ixs.map Ix.abs) gone rows) (m : Nat) : ∀ x ∈ ixs, x.m = m → x.gone = gone → x.took = nums 0 (rows.take x.took.length) := fun x hx _ hg => (h _ (List.mem_map.2 ⟨x, hx, rfl⟩)).2 hg
theorem b_look (hB : Bk w F bk b abs) (hR : Rel w R b arity gone rows) (hd : ∀ k, F k → ¬ R k) (hf : Fine abs gone rows) {m : Nat} (hm : MskOk m) (hma : m < 2 ^ arity) (hn : rows.length ≤ 1048576) {y : List Int} (hy : RowOk y) :
    Calls Tryz.prog 55 #[.pointer (some ⟨bk, 0, none⟩), .int .u32 (m : Int), rowV y] w fun e w' => ∃ v F', e = .returned (.tuple #[v, .int .i64 0]) ∧ Bk w' F' bk b (askAbs abs m rows gone) ∧ Step w F w' F' ∧
      w'.ownsRow w.heap.size 3 1 v (idsOf m (nums 0 rows) (keyRow m y)).length ((idsOf m (nums 0 rows) (keyRow m y)).map intV) ∧ (∀ k, v.ownBlock = some k → ¬ F' k) := by
  obtain ⟨pb, mb, lv, hR, rfl⟩ := hR
  obtain ⟨bm, ixs, hB, rfl, rfl⟩ := hB
  refine (look_calls hB hR hd hm hma hn (Fine.pre (bm := bm) hf m) hy).mono ?_
  rintro e w' ⟨v, ixs', rfl, ⟨h1, h2, h3, h4⟩, h5, h6⟩
  exact ⟨v, _, rfl, ⟨bm, ixs', h1, h2, rfl⟩, ⟨h3, h4⟩, h5, h6⟩
theorem b_count (hB : Bk w F bk b abs) (hR : Rel w R b arity gone rows) (hd : ∀ k, F k → ¬ R k) (hf : Fine abs gone rows) {m : Nat} (hm : MskOk m) (hma : m < 2 ^ arity) (hn : rows.length ≤ 1048576) {y : List Int} (hy : RowOk y) :
    Calls Tryz.prog 54 #[.pointer (some ⟨bk, 0, none⟩), .int .u32 (m : Int), rowV y] w fun e w' => ∃ F', e = .returned (.tuple #[intV ((idsOf m (nums 0 rows) (keyRow m y)).length : Nat), .int .i64 0]) ∧ Bk w' F' bk b (askAbs abs m rows gone) ∧ Step w F w' F' := by
  obtain ⟨pb, mb, lv, hR, rfl⟩ := hR
  obtain ⟨bm, ixs, hB, rfl, rfl⟩ := hB
  refine (count_calls hB hR hd hm hma hn (Fine.pre (bm := bm) hf m) hy).mono ?_
  rintro e w' ⟨ixs', rfl, ⟨h1, h2, h3, h4⟩⟩
  exact ⟨_, rfl, ⟨bm, ixs', h1, h2, rfl⟩, ⟨h3, h4⟩⟩
theorem b_distinct (hB : Bk w F bk b abs) (hR : Rel w R b arity gone rows) (hd : ∀ k, F k → ¬ R k) (hf : Fine abs gone rows) {m : Nat} (hm : MskOk m) (hma : m < 2 ^ arity) (hn : rows.length ≤ 1048576) :
    Calls Tryz.prog 63 #[.pointer (some ⟨bk, 0, none⟩), .int .u32 (m : Int)] w fun e w' => ∃ F', e = .returned (.tuple #[intV ((keysOf m (nums 0 rows)).length : Nat), .int .i64 0]) ∧ Bk w' F' bk b (askAbs abs m rows gone) ∧ Step w F w' F' := by
  obtain ⟨pb, mb, lv, hR, rfl⟩ := hR
  obtain ⟨bm, ixs, hB, rfl, rfl⟩ := hB
  refine (distinct_calls hB hR hd hm hma hn (Fine.pre (bm := bm) hf m)).mono ?_
  rintro e w' ⟨ixs', rfl, ⟨h1, h2, h3, h4⟩⟩
  exact ⟨_, rfl, ⟨bm, ixs', h1, h2, rfl⟩, ⟨h3, h4⟩⟩
theorem b_len (hR : Rel w R b arity gone rows) : Calls Tryz.prog 6 #[.pointer (some ⟨b, 0, none⟩)] w fun e w' => e = .returned (.int .i64 (rows.length : Nat)) ∧ w' = w := by
  obtain ⟨pb, mb, lv, hR, rfl⟩ := hR
  obtain ⟨hl, ⟨rfl, h0⟩ | ⟨g, cap, cur, rfl, _⟩⟩ := hR.own
  · rw [h0]
    exact len_same hR.cells
  · exact len_same hR.cells
theorem b_at (hR : Rel w R b arity gone rows) {i : Nat} (hi : i < rows.length) : Calls Tryz.prog 7 #[.pointer (some ⟨b, 0, none⟩), .int .i64 (i : Int)] w fun e w' => e = .returned (.tuple #[rowV rows[i], .int .i64 0]) ∧ Below w.heap.size w w' := by
  obtain ⟨pb, mb, lv, hR, rfl⟩ := hR
  exact at_calls hR hi
def addRow (rows : List (List Int)) (x : List Int) : List (List Int) := if x ∈ rows then rows else rows ++ [x]
theorem b_add (hR : Rel w R b arity gone rows) {x : List Int} (hx : RowOk x) (hr : rightRow arity x = true) (hn : rows.length ≤ 1048576) :
    Calls Tryz.prog 14 #[.pointer (some ⟨b, 0, none⟩), rowV x] w fun e w' => ∃ t R', e = .returned (.tuple #[.bool t, .int .i64 0]) ∧ Rel w' R' b arity gone (addRow rows x) ∧ Step w R w' R' := by
  have hlt := fun k => hR.lt (k := k)
  obtain ⟨pb, mb, lv, hR, rfl⟩ := hR
  unfold addRow
  by_cases hin : x ∈ rows
  · rw [if_pos hin]
    refine (add_in hR hx hr hin).mono ?_
    rintro e w' ⟨rfl, hb⟩
    exact ⟨_, _, rfl, ⟨pb, mb, lv, hR.below hb, rfl⟩, KeptBut.of_below hb, fun k hk => .inl hk⟩
  · rw [if_neg hin]
    refine (add_new hR hx hr hin hn).mono ?_
    rintro e w' ⟨rfl, lv', h1, h2, h3⟩
    exact ⟨_, _, rfl, ⟨pb, mb, lv', h1, rfl⟩, h2, h3⟩
theorem b_new {w : World} {arity : Nat} (ha : arity ≤ 24) : Calls Tryz.prog 10 #[.int .i64 (arity : Int)] w fun e w' => ∃ b R, e = .returned (.tuple #[.pointer (some ⟨b, 0, none⟩), .int .i64 0]) ∧ Rel w' R b arity 0 [] ∧ Below w.heap.size w w' ∧ (∀ k, R k → w.heap.size ≤ k) := by
  refine (new_calls ha).mono ?_
  rintro e w' ⟨b, pb, mb, rfl, h1, h2, h3⟩
  exact ⟨b, _, rfl, ⟨pb, mb, _, h1, rfl⟩, h2, h3⟩
end
end Go.Proofs.YtckhkfchgcdajaaGreatDoor

namespace Go.Proofs.YtckhkfchgcdajaaGreatDoor
open Go.Fx Go.RowKit
set_option maxRecDepth 100000 in
set_option maxHeartbeats 4000000 in
theorem at_minus {w : World} {R : Nat → Prop} {b arity : Nat} {gone : Int} {rows : List (List Int)} (hR : Rel w R b arity gone rows) :
    Calls Tryz.prog 7 #[.pointer (some ⟨b, 0, none⟩), .int .i64 (-1)] w fun e w' => e = .returned (.tuple #[rowV zRow, .int .i64 1]) ∧ Below w.heap.size w w' := by
  obtain ⟨pb, mb, lv, h, rfl⟩ := hR
  have hsz : (Tryz.prog.info? 64).map (·.size) = some (List.map symV zRow).toArray.size := by rw [infoRow]; simp
  have hone := row_one zRow
  go_enter Tryz.func7, Tryz.ntmps7
  go_wp2_with fail
  have hz := (MapKept.heap_alloc w (Obj.cells (List.map symV zRow).toArray 64)).1
  have hba : Below w.heap.size w (w.alloc (Obj.cells (List.map symV zRow).toArray 64)) := (Below.refl _ w).alloc (Nat.le_refl _) _
  obtain ⟨wa, hwa⟩ : ∃ wa, w.alloc (Obj.cells (List.map symV zRow).toArray 64) = wa := ⟨_, rfl⟩
  rw [hwa] at hz hba
  simp only [zRow, List.replicate, List.map] at hwa
  rw [hwa]
  clear hwa
  refine (there_calls (h.below hba).cells.h2).mono ?_
  rintro e w1 ⟨rfl, hb1⟩
  have hlta : w.heap.size < wa.heap.size := (Array.getElem?_eq_some_iff.1 hz).1
  have hz1 := (hb1.block _ hlta).trans hz
  have hba1 : Below w.heap.size w w1 := hba.trans (hb1.mono hba.size)
  clear hz hba hb1 h
  go_wp2_with (first | (refine wpList_build rfl 64 _ rfl (by rw [zero_built]; rfl) ?_; simp only [List.map_toArray, List.map_nil, Array.toList_empty, zero_built, Option.getD_some]) | (refine wpList_store_row rfl 64 _ _ rfl w.heap.size _ rfl rfl 64 _ hz1 hsz (by simp) hone ?_))
  have hg2 := setRow_heap w1 w.heap.size _ (List.map symV zRow).toArray _ _ hz1
  have hld := run_loadVar_row (P := Tryz.prog) (w1.setRow w.heap.size (List.map symV zRow).toArray) w.heap.size 64 64 _ (0, 0) _ hg2 Tryz.underlying64 rfl hsz
  refine bodyPost_ret (v := .tuple #[rowV zRow, .int .i64 1]) (by rw [results_cell_tmp Tryz.results7]; exact run_cell_tmp hld rfl rfl) rfl ⟨rfl, ?_⟩
  exact below_setRow hba1 (Nat.le_refl _) _
set_option maxHeartbeats 4000000 in
set_option maxRecDepth 100000 in
theorem b_open {w : World} {R : Nat → Prop} {b arity : Nat} {gone : Int} {rows : List (List Int)} (hR : Rel w R b arity gone rows) :
    Calls Tryz.prog 11 #[.pointer (some ⟨b, 0, none⟩)] w fun e w' => ∃ bk F, e = .returned (.tuple #[.pointer (some ⟨bk, 0, none⟩), .int .i64 0]) ∧ Bk w' F bk b [] ∧ Below w.heap.size w w' ∧ (∀ k, F k → w.heap.size ≤ k) := by
  obtain ⟨zr, hzr⟩ : ∃ zr, zr = zRow := ⟨_, rfl⟩
  have hl : zr.length = 24 := by rw [hzr]; rfl
  have hsz : (Tryz.prog.info? 64).map (·.size) = some (List.map symV zr).toArray.size := by rw [infoRow]; simp [hl]
  have hone := row_one zr
  have hat := fun w => at_minus (w := w) (R := R) (b := b) (arity := arity) (gone := gone) (rows := rows)
  rw [← hzr] at hat
  clear hzr
  have hmm := @run_makeMap Tryz.prog
  go_enter Tryz.func11, Tryz.ntmps11
  go_wp2_with fail
  refine (hat w hR).mono ?_
  rintro e w1 ⟨rfl, hb1⟩
  have hz := (MapKept.heap_alloc w1 (Obj.cells (List.replicate 24 (Value.int .i32 0)).toArray 64)).1
  go_wp2_with (refine wpList_store_row rfl 64 _ _ rfl w1.heap.size _ rfl rfl 64 _ hz hsz (by simp [hl]) hone ?_)
  have hs0 := alloc_size w1 (Obj.cells (List.replicate 24 (Value.int .i32 0)).toArray 64)
  have hb0 := hb1.alloc hb1.size (Obj.cells (List.replicate 24 (Value.int .i32 0)).toArray 64)
  have hb2 := below_setRow hb0 hb1.size (List.map symV zr).toArray
  have hs2 := setRow_size (w1.alloc (Obj.cells (List.replicate 24 (Value.int .i32 0)).toArray 64)) w1.heap.size (List.map symV zr).toArray
  refine bodyPost_ret (v := .tuple #[.pointer (some ⟨w1.heap.size + 1 + 1, 0, none⟩), .int .i64 0]) (by simp [results, Tryz.results11, go_sem]) rfl ?_
  obtain ⟨wx, hwx⟩ : ∃ wx, (w1.alloc (Obj.cells (List.replicate 24 (Value.int .i32 0)).toArray 64)).setRow w1.heap.size (List.map symV zr).toArray = wx := ⟨_, rfl⟩
  rw [hwx] at hb2 hs2
  rw [hs0] at hs2
  have hle : w.heap.size ≤ w1.heap.size := hb1.size
  show ∃ bk F, Ending.returned _ = _ ∧ Bk ((((w1.alloc (Obj.cells (List.replicate 24 (Value.int .i32 0)).toArray 64)).setRow w1.heap.size (List.map symV zr).toArray).alloc (Obj.map #[] 0)).alloc (Obj.cells #[.pointer (some ⟨b, 0, none⟩), .map (some (w1.heap.size + 1))] 110)) F bk b [] ∧ Below w.heap.size w ((((w1.alloc (Obj.cells (List.replicate 24 (Value.int .i32 0)).toArray 64)).setRow w1.heap.size (List.map symV zr).toArray).alloc (Obj.map #[] 0)).alloc (Obj.cells #[.pointer (some ⟨b, 0, none⟩), .map (some (w1.heap.size + 1))] 110)) ∧ ∀ (k : Nat), F k → w.heap.size ≤ k
  rw [hwx]
  clear hwx hz hs0 hb0 hmm hat
  have h1 := heap_alloc_new wx (Obj.map #[] 0)
  have hs1 := alloc_size wx (Obj.map #[] 0)
  have hb3 := hb2.alloc (by omega) (Obj.map #[] 0)
  generalize wx.alloc (Obj.map #[] 0) = wy at *
  have h2 := heap_alloc_new wy (Obj.cells #[.pointer (some ⟨b, 0, none⟩), .map (some (w1.heap.size + 1))] 110)
  have hb4 := hb3.alloc (by omega) (Obj.cells #[.pointer (some ⟨b, 0, none⟩), .map (some (w1.heap.size + 1))] 110)
  have hk := ((Below.refl _ wy).alloc (Nat.le_refl _) (Obj.cells #[.pointer (some ⟨b, 0, none⟩), .map (some (w1.heap.size + 1))] 110)).block wx.heap.size (by omega)
  generalize wy.alloc (Obj.cells #[.pointer (some ⟨b, 0, none⟩), .map (some (w1.heap.size + 1))] 110) = wz at *
  rw [hs1, hs2] at h2
  rw [hs2] at hk h1
  refine ⟨w1.heap.size + 1 + 1, _, rfl, ⟨w1.heap.size + 1, [], ⟨h2, MapG.nil (hk.trans h1), by simp, List.Pairwise.nil, by omega, by simp⟩, rfl, rfl⟩, hb4, ?_⟩
  rintro k (rfl | rfl | ⟨x, hx, _⟩)
  · omega
  · omega
  · cases hx
end Go.Proofs.YtckhkfchgcdajaaGreatDoor

namespace Go.Proofs.YtckhkfchgcdajaaGreatDoor
open Go.Fx Go.RowKit
theorem is_bit {m i : Nat} (hm : m < 4294967296) : (bits .and .u32 ((m : Int) / 2 ^ i) 1 == 1) = m.testBit i := by
  have e : ((m : Int) / 2 ^ i) = ((m / 2 ^ i : Nat) : Int) := by simp
  have hlt : m / 2 ^ i < 4294967296 := Nat.lt_of_le_of_lt (Nat.div_le_self _ _) hm
  rw [e, Nat.testBit_eq_decide_div_mod_eq]
  generalize m / 2 ^ i = a at *
  unfold bits
  have e1 : BitVec.ofInt IntKind.u32.bits 1 = BitVec.ofNat IntKind.u32.bits 1 := rfl
  rw [e1]
  simp only [BitVec.ofInt_natCast, BitVec.toNat_and, BitVec.toNat_ofNat]
  have hb : (2 : Nat) ^ IntKind.u32.bits = 4294967296 := by decide
  rw [hb, Nat.mod_eq_of_lt (by omega), Nat.mod_eq_of_lt (by omega : 1 < 4294967296), Nat.and_one_is_mod, wrap_u32' _ (Int.natCast_nonneg _) (by omega)]
  rcases Nat.mod_two_eq_zero_or_one a with h | h <;> rw [h] <;> rfl
set_option maxRecDepth 100000 in
theorem is_calls {w : World} {m i : Nat} (hm : m < 4294967296) (hi : i < 24) :
    Calls Tryz.prog 213 #[.int .u32 (m : Int), .int .i64 (i : Int)] w fun e w' => e = .returned (.bool (m.testBit i)) ∧ w' = w := by
  have hb := is_bit (i := i) hm
  go_enter Tryz.func213, Tryz.ntmps213
  go_wp2_with fail
  simp [bodyPost, results, Tryz.results213, go_sem]
def IntsAt (w : World) (v : Value) (l : List Int) : Prop := w.ownsRow 0 3 1 v l.length (l.map intV)
theorem IntsAt.cells {w : World} {v : Value} {l : List Int} (h : IntsAt w v l) {i : Nat} (hi : i < l.length) :
    ∃ g cap, v = .slice (some ⟨g, 0, none⟩) l.length cap ∧ g < w.heap.size ∧ ∀ (j : Nat) (hj : j < l.length), w.cell? ⟨g, j, none⟩ = some (intV l[j]) := by
  obtain ⟨hl, ⟨_, h0⟩ | ⟨g, cap, cur, rfl, _, hg, hc, hm, hsz, htk⟩⟩ := h
  · omega
  · refine ⟨g, cap, rfl, (Array.getElem?_eq_some_iff.1 hg).1, fun j hj => ?_⟩
    have h1 : (l.map intV)[j]? = some (intV l[j]) := by rw [List.getElem?_map, List.getElem?_eq_getElem hj]; rfl
    rw [← htk, List.getElem?_take] at h1
    split at h1
    · simp only [World.cell?, hg]
      simpa using h1
    · cases h1
theorem IntsAt.frame {w w' : World} {v : Value} {l : List Int} (h : IntsAt w v l) (hk : ∀ k, v.ownBlock = some k → w'.heap[k]? = w.heap[k]?) : IntsAt w' v l := ownsRow_of_block h hk
theorem IntsAt.of {base : Nat} {w : World} {v : Value} {l : List Int} (h : w.ownsRow base 3 1 v l.length (l.map intV)) : IntsAt w v l := by
  refine ⟨h.1, ?_⟩
  rcases h.2 with h | ⟨g, cap, cur, h1, h2, h3⟩
  · exact .inl h
  · exact .inr ⟨g, cap, cur, h1, Nat.zero_le _, h3⟩
theorem IntsAt.cell {w : World} {v : Value} {l : List Int} {n : Nat} (h : IntsAt w v l) (hn : l.length = n) {i : Nat} (hi : i < n) :
    ∃ g cap, v = .slice (some ⟨g, 0, none⟩) n cap ∧ g < w.heap.size ∧ n ≤ 9223372036854775807 ∧ w.cell? ⟨g, i, none⟩ = some (.int .i64 (l.getD i 0)) := by
  subst hn
  obtain ⟨g, cap, e, h1, h2⟩ := h.cells hi
  refine ⟨g, cap, e, h1, ?_, ?_⟩
  · obtain ⟨hl, ⟨_, h0⟩ | ⟨g', cap', cur, _, _, _, hc, hm, _⟩⟩ := h
    · omega
    · unfold maxLen at hm; omega
  · rw [h2 i hi, List.getD_eq_getElem?_getD, List.getElem?_eq_getElem hi, Option.getD_some]
theorem take_succ_eq {l1 l2 : List Int} {n i : Nat} (e1 : l1.length = n) (e2 : l2.length = n) (hi : i < n) (h : l1.take i = l2.take i) : l1.take (i + 1) = l2.take (i + 1) ↔ l1.getD i 0 = l2.getD i 0 := by
  rw [List.take_succ_eq_append_getElem (by omega : i < l1.length), List.take_succ_eq_append_getElem (by omega : i < l2.length), h, List.append_cancel_left_eq, List.cons.injEq, List.getD_eq_getElem?_getD, List.getD_eq_getElem?_getD, List.getElem?_eq_getElem (by omega), List.getElem?_eq_getElem (by omega)]
  simp
set_option maxHeartbeats 4000000 in
set_option maxRecDepth 100000 in
theorem same_calls {w : World} {v1 v2 : Value} {l1 l2 : List Int} (h1 : IntsAt w v1 l1) (h2 : IntsAt w v2 l2) :
    Calls Tryz.prog 56 #[v1, v2] w fun e w' => e = .returned (.bool (decide (l1 = l2))) ∧ Below w.heap.size w w' := by
  obtain ⟨n, hn⟩ : ∃ n, l1.length = n := ⟨_, rfl⟩
  have e1 := fun w' : World => own_len (w' := w') h1
  have e2 := fun w' : World => own_len (w' := w') h2
  rw [hn] at e1
  have H1 := Lib.hid (And.intro h1 hn)
  by_cases hl : l2.length = n
  · rw [hl] at e2
    have H2 := Lib.hid (And.intro h2 hl)
    clear hl hn h1 h2
    go_enter Tryz.func56, Tryz.ntmps56
    go_wp2_with fail
    go_loopw [5] (fun i wr => ∃ k : Nat, i = .int .i64 (k : Int) ∧ k ≤ n ∧ Hid (l1.take k = l2.take k) ∧ Below w.heap.size w wr) (fun i _ => match i with | .int _ m => n - m.toNat | _ => 0)
    case atStart => exact ⟨0, rfl, Nat.zero_le _, Lib.hid rfl, Below.refl _ _⟩
    case round =>
      obtain ⟨k, rfl, hk, htk, hbl⟩ := hrel
      by_cases hlt : k < n
      · obtain ⟨g1, cap1, rfl, hg1, hmx, hc1⟩ := H1.out.1.cell H1.out.2 hlt
        obtain ⟨g2, cap2, rfl, hg2, _, hc2⟩ := H2.out.1.cell H2.out.2 hlt
        have d1 := (hbl.cell (p := ⟨g1, k, none⟩) hg1).trans hc1
        have d2 := (hbl.cell (p := ⟨g2, k, none⟩) hg2).trans hc2
        have hlt' : decide ((k : Int) < (n : Int)) = true := decide_eq_true (by omega)
        have hi0 : (0 : Int) ≤ (k : Int) := by omega
        have hi1 : (k : Int) < (n : Int) := by omega
        have hiff := Lib.hid (take_succ_eq H1.out.2 H2.out.2 hlt htk.out)
        have hbl1 : Below w.heap.size w wr.drew := below_drew' hbl
        have c1 : wr.drew.cell? ⟨g1, k, none⟩ = some (.int .i64 (l1.getD k 0)) := d1
        have c2 : wr.drew.cell? ⟨g2, k, none⟩ = some (.int .i64 (l2.getD k 0)) := d2
        clear hc1 hc2 d1 d2
        generalize l1.getD k 0 = a at *
        generalize l2.getD k 0 = b at *
        by_cases hab : a = b
        · subst hab
          go_wp2_with fail
          refine wp_region_still_lit (by kernel_rfl) (by kernel_rfl) ?_
          change wpStill _ _ wr.drew _ _ _
          repeat still_step
          refine wpStill_nil ?_
          change Exit.then _ _ _ _ wr.drew
          generalize wr.drew = w1 at *
          go_wp2_with fail
          refine ⟨⟨k + 1, congrArg (Value.int .i64) (by omega), by omega, Lib.hid (hiff.out.2 (by trivial)), hbl1⟩, ?_⟩
          show n - ((k : Int) + 1).toNat < n - (k : Int).toNat
          omega
        · have hab' : (a == b) = false := by rw [beq_eq_false_iff_ne]; exact hab
          have hne := Lib.hid (decide_eq_false (fun e : l1 = l2 => hab (hiff.out.1 (by rw [e]))))
          go_wp2_with fail
          refine wp_region_still_lit (by kernel_rfl) (by kernel_rfl) ?_
          change wpStill _ _ wr.drew _ _ _
          repeat still_step
          refine wpStill_nil ?_
          change Exit.then _ _ _ _ wr.drew
          generalize wr.drew = w1 at *
          go_wp2_with fail
          rw [hne.out]
          simp [bodyPost, results, Tryz.results56, go_sem]
          exact hbl1
      · have hlt' : decide ((k : Int) < (n : Int)) = false := decide_eq_false (by omega)
        have he := Lib.hid (decide_eq_true (show l1 = l2 by have := htk.out; have := H1.out.2; have := H2.out.2; rw [List.take_of_length_le (by omega), List.take_of_length_le (by omega)] at htk; exact htk.out))
        go_wp2_with fail
        rw [he.out]
        simp [bodyPost, results, Tryz.results56, go_sem]
        exact hbl
  · have hl' : ((n : Int) == (l2.length : Int)) = false := by rw [beq_eq_false_iff_ne]; omega
    go_enter Tryz.func56, Tryz.ntmps56
    go_wp2_with fail
    have : decide (l1 = l2) = false := decide_eq_false fun e => hl (by rw [← e]; exact hn)
    rw [this]
    simp [bodyPost, results, Tryz.results56, go_sem]
    exact Below.refl _ _
end Go.Proofs.YtckhkfchgcdajaaGreatDoor

namespace Go.Proofs.YtckhkfchgcdajaaGreatDoor
open Go.Fx Go.RowKit
theorem key_step {m k : Nat} {x y : List Int} (h : keyTo m x k = keyTo m y k) : keyTo m x (k + 1) = keyTo m y (k + 1) ↔ (m.testBit k = true → x.getD k 0 = y.getD k 0) := by
  rw [keyTo_succ, keyTo_succ, h, List.append_cancel_left_eq, List.cons.injEq]
  cases m.testBit k <;> simp
theorem key_part {m k : Nat} {x y : List Int} (hk : k ≤ 24) (h : keyRow m x = keyRow m y) : keyTo m x k = keyTo m y k := by
  have e : ∀ z, keyTo m z k = (keyRow m z).take k := fun z => by simp [keyTo, ← List.map_take, List.take_range, Nat.min_eq_left hk]
  rw [e, e, h]
theorem row_cell {w : World} {g k : Nat} {x : List Int} {ty : TypeId} (hx : x.length = 24) (hg : w.heap[g]? = some (.cells (x.map symV).toArray ty (0, 0))) (hk : k < 24) : w.cell? ⟨g, k, none⟩ = some (.int .i32 (x.getD k 0)) := by
  have : k < x.length := by omega
  simp only [World.cell?, hg]
  rw [List.getD_eq_getElem?_getD]
  simp [List.getElem?_eq_getElem this, symV]
set_option maxHeartbeats 1000000 in
set_option maxRecDepth 100000 in
theorem like_calls {w : World} {m : Nat} {x y : List Int} (hm : m < 4294967296) (hx : RowOk x) (hy : RowOk y) :
    Calls Tryz.prog 214 #[.int .u32 (m : Int), rowV x, rowV y] w fun e w' => e = .returned (.bool (decide (keyRow m x = keyRow m y))) ∧ Below w.heap.size w w' := by
  have hxl := hx.1
  have hyl := hy.1
  go_enter Tryz.func214, Tryz.ntmps214
  go_wp2_with fail
  have hb0 := (Below.refl w.heap.size w).alloc (Nat.le_refl _) (.cells (x.map symV).toArray 64)
  have hX := heap_alloc_new w (.cells (x.map symV).toArray 64)
  have hsx := alloc_size w (.cells (x.map symV).toArray 64)
  generalize w.alloc (.cells (x.map symV).toArray 64) = w0 at *
  have hb1 := hb0.alloc (by omega) (.cells (y.map symV).toArray 64)
  have hY := heap_alloc_new w0 (.cells (y.map symV).toArray 64)
  have hX1 := (((Below.refl w0.heap.size w0).alloc (Nat.le_refl _) (.cells (y.map symV).toArray 64)).block w.heap.size (by omega)).trans hX
  generalize w0.alloc (.cells (y.map symV).toArray 64) = w1 at *
  rw [hsx] at hY
  go_loopw [7] (fun i wr => ∃ k : Nat, i = .int .i64 (k : Int) ∧ k ≤ 24 ∧ Hid (keyTo m x k = keyTo m y k) ∧ Below w.heap.size w wr ∧ wr.heap[w.heap.size]? = some (.cells (x.map symV).toArray 64 (0, 0)) ∧ wr.heap[w.heap.size + 1]? = some (.cells (y.map symV).toArray 64 (0, 0))) (fun i _ => match i with | .int _ m => 24 - m.toNat | _ => 0)
  case atStart => exact ⟨0, rfl, Nat.zero_le _, Lib.hid rfl, hb1, hX1, hY⟩
  case round =>
    clear hX1 hY hb1 w1
    obtain ⟨k, rfl, hk, htk, hbl, hX1, hY⟩ := hrel
    by_cases hlt : k < 24
    · have hlt' : decide ((k : Int) < 24) = true := decide_eq_true (by omega)
      have hi0 : (0 : Int) ≤ (k : Int) := by omega
      have hi1 : (k : Int) < 24 := by omega
      have hiff := Lib.hid (key_step htk.out)
      have hbl1 : ∀ n, Below w.heap.size w (wr.drewN n) := fun n => below_drewN hbl n
      have c1 := row_cell hxl hX1 hlt
      have c2 := row_cell hyl hY hlt
      have his := fun w => is_calls (w := w) hm hlt
      have hfin : keyTo m x (k + 1) ≠ keyTo m y (k + 1) → decide (keyRow m x = keyRow m y) = false := fun h => decide_eq_false fun e => h (key_part (by omega) e)
      have hfin := Lib.hid hfin
      generalize x.getD k 0 = a at *
      generalize y.getD k 0 = b at *
      generalize m.testBit k = q at *
      by_cases hab : q = true → a = b
      · have h1 := hiff.out.2 hab
        cases q
        · go_wp2_with fail
          go_quiet ((go_at_call 213; exact Calls.quiet_of_same (his _)))
          go_wp2_with fail
          refine ⟨⟨k + 1, congrArg (Value.int .i64) (by omega), by omega, Lib.hid h1, hbl1 _, hX1, hY⟩, ?_⟩
          show 24 - ((k : Int) + 1).toNat < 24 - (k : Int).toNat
          omega
        · have hab := hab rfl
          subst hab
          go_wp2_with fail
          go_quiet ((go_at_call 213; exact Calls.quiet_of_same (his _)))
          go_wp2_with fail
          refine ⟨⟨k + 1, congrArg (Value.int .i64) (by omega), by omega, Lib.hid h1, hbl1 _, hX1, hY⟩, ?_⟩
          show 24 - ((k : Int) + 1).toNat < 24 - (k : Int).toNat
          omega
      · have h1 := Lib.hid (hfin.out fun h => hab (hiff.out.1 h))
        cases q
        · exact absurd (fun h => nomatch h) hab
        · have hab' : (a == b) = false := by rw [beq_eq_false_iff_ne]; exact fun e => hab fun _ => e
          clear hab
          go_wp2_with fail
          go_quiet ((go_at_call 213; exact Calls.quiet_of_same (his _)))
          go_wp2_with fail
          rw [h1.out]
          simp [bodyPost, results, Tryz.results214, go_sem]
          exact hbl1 _
    · obtain rfl : k = 24 := by omega
      have h1 := Lib.hid (decide_eq_true htk.out)
      go_wp2_with fail
      rw [h1.out]
      simp [bodyPost, results, Tryz.results214, go_sem]
      exact hbl
end Go.Proofs.YtckhkfchgcdajaaGreatDoor

import Derived.Test.YtiomojlcnemnhaaAHxA3
import Derived.Lib.SliceRun
import Derived.Laws.CopyOwn
import Derived.Laws.Slices
import Derived.Laws.Rows
import Derived.Laws.Tables
namespace Go.Proofs.Ytiomojlcnemnhaa
open Go.Fx Go.RowKit
def minOf (a : Int) : List Int → Int
  | [] => a
  | x :: l => minOf (min a x) l
theorem minOf_take (a : Int) (l : List Int) (i : Nat) (h : i < l.length) : minOf a (l.take (i + 1)) = min (minOf a (l.take i)) l[i] := by
  induction l generalizing a i with
  | nil => exact absurd h (Nat.not_lt_zero _)
  | cons x l ih =>
    cases i with
    | zero => simp [minOf]
    | succ i =>
      rw [List.take_succ_cons, List.take_succ_cons, minOf, minOf, ih _ i (by simpa using h), List.getElem_cons_succ]
set_option maxRecDepth 100000 in
set_option maxHeartbeats 1000000 in
theorem min_calls {w : World} {blk cap : Nat} (x : Int) (l : List Int) (h0 : w.cell? ⟨blk, 0, none⟩ = some (symV x)) (hl : ∀ (j : Nat) (hj : j < l.length), w.cell? ⟨blk, j + 1, none⟩ = some (symV l[j])) (hb : blk < w.heap.size) (hn : l.length ≤ 100) (hc : l.length + 1 ≤ cap) :
    Calls Try.prog 104 #[.slice (some ⟨blk, 0, none⟩) (l.length + 1) cap] w fun e w' => e = .returned (symV (minOf x l)) ∧ Below w.heap.size w w' := by
  go_enter Try.func104, Try.ntmps104
  go_wp2_with fail
  go_loopw [3, 4] (fun m n w' => ∃ i : Nat, n = .int .i64 ((i : Int) + 1) ∧ i ≤ l.length ∧ m = symV (minOf x (l.take i)) ∧ Below w.heap.size w w') (fun _ n _ => match n with | .int _ k => l.length + 1 - k.toNat | _ => 0)
  case atStart => exact ⟨0, rfl, Nat.zero_le _, rfl, Below.refl _ _⟩
  case round =>
    obtain ⟨i, rfl, hi, rfl, hbl⟩ := hrel
    by_cases hlt : i < l.length
    · have hlt' : (i : Int) + 1 < (l.length : Int) + 1 := by omega
      have hcl : wr.cell? ⟨blk, i + 1, none⟩ = some (symV l[i]) := (hbl.cell (p := ⟨blk, i + 1, none⟩) hb).trans (hl i hlt)
      have hm := minOf_take x l i hlt
      go_wp2_with fail
      refine ⟨⟨i + 1, congrArg (Value.int .i64) (by omega), by omega, congrArg (Value.int .i32) ?_, hbl⟩, ?_⟩
      · rw [hm]
        split <;> omega
      · show l.length + 1 - ((i : Int) + 1 + 1).toNat < l.length + 1 - ((i : Int) + 1).toNat
        omega
    · go_wp2_with fail
      rw [List.take_of_length_le (by omega)]
      simp [bodyPost, results, Try.results104, go_sem]
      exact hbl
def rightRow (arity : Nat) (x : List Int) : Bool := x.all (fun n => decide (0 ≤ n)) && (x.drop arity).all fun n => decide (n = 0)
theorem minOf_neg (a : Int) : ∀ l : List Int, minOf a l < 0 ↔ a < 0 ∨ ∃ x ∈ l, x < 0
  | [] => by simp [minOf]
  | x :: l => by
    rw [minOf, minOf_neg]
    simp only [List.mem_cons, exists_eq_or_imp]
    constructor
    · rintro (h | h)
      · by_cases h1 : a < 0
        · exact .inl h1
        · exact .inr (.inl (by omega))
      · exact .inr (.inr h)
    · rintro (h | h | h)
      · exact .inl (by omega)
      · exact .inl (by omega)
      · exact .inr h
theorem infoRow : (Try.prog.info? 43).map (·.size) = some 24 := by kernel_rfl
theorem row_one (x : List Int) : (x.map symV).toArray.all (·.oneCell') = true := by
  rw [List.all_toArray, List.all_eq_true]
  intro v hv
  obtain ⟨n, _, rfl⟩ := List.mem_map.1 hv
  rfl
theorem run_clear_syms {w : World} {g n c : Nat} {ty : TypeId} {us : List Value} (t : TypeId) (hg : w.heap[g]? = some (.cells us.toArray ty (0, 0))) (hn : n ≤ us.length) :
    ∃ w', (Builtin.clear_ #[229] t #[.slice (some ⟨g, 0, none⟩) n c]).run Try.prog w = .ok (.tuple #[]) w' ∧ w'.heap[g]? = some (.cells (over us 0 (List.replicate n (symV 0))).toArray ty (0, 0)) ∧ Below g w w' := by
  cases n with
  | zero => exact ⟨w, by simp [Builtin.clear_, run_underlying Try.underlying229], by simpa [over] using hg, Below.refl _ _⟩
  | succ m =>
    obtain ⟨w', hr, hh, hb, _⟩ := run_storeCells (P := Try.prog) g 0 ty (List.replicate (m + 1) (symV 0)) 0 w us hg (by simpa using hn) (fun v hv => by rw [List.eq_of_mem_replicate hv]; rfl)
    refine ⟨w', ?_, hh, hb⟩
    have hz : (zeroValue 41).run Try.prog w = .ok (symV 0) w := Try.zeroValue41 w
    have hzc : (Builtin.zeroCells #[symV 0] (m + 1)).toList = List.replicate (m + 1) (symV 0) := by
      simp [Builtin.zeroCells]
      apply List.ext_getElem
      · simp
      · intro i h1 h2
        simp [Nat.mod_one]
    simp [Builtin.clear_, run_underlying Try.underlying229, hz, hzc, hr, Value.cells]
set_option maxRecDepth 100000 in
set_option maxHeartbeats 4000000 in
theorem right_calls {w : World} {b pb mb : Nat} {lv : Value} {arity : Nat} {gone : Int} (h : RelCells w b pb mb lv arity gone) (x : List Int) (hx : RowOk x) (ha : arity ≤ 24) :
    Calls Try.prog 60 #[.pointer (some ⟨b, 0, none⟩), rowV x] w fun e w' => e = .returned (.bool (rightRow arity x)) ∧ Below w.heap.size w w' := by
  obtain ⟨x0, l, rfl⟩ : ∃ x0 l, x = x0 :: l := by cases x with | nil => cases hx.1 | cons a l => exact ⟨a, l, rfl⟩
  have hl : l.length = 23 := by simpa using hx.1
  go_enter Try.func60, Try.ntmps60
  go_wp2_with fail
  have halloc := MapKept.heap_alloc w (Obj.cells (symV x0 :: List.map symV l).toArray 43)
  have hbw1 : Below w.heap.size w (w.alloc (Obj.cells (symV x0 :: List.map symV l).toArray 43)) := (Below.refl _ w).alloc (Nat.le_refl _) _
  generalize w.alloc (Obj.cells (symV x0 :: List.map symV l).toArray 43) = w1 at *
  have hlt1 : w.heap.size < w1.heap.size := (Array.getElem?_eq_some_iff.1 halloc.1).1
  have hmin := min_calls (w := w1) (blk := w.heap.size) (cap := 24) x0 l (by simp [World.cell?, halloc.1]) (fun j hj => by simp [World.cell?, halloc.1, hj]) hlt1 (by omega) (by omega)
  rw [hl] at hmin
  refine hmin.mono ?_
  rintro e w2 ⟨rfl, hb2⟩
  have hlt2 : w.heap.size < w2.heap.size := Nat.lt_of_lt_of_le hlt1 hb2.size
  have hblk : w2.heap[w.heap.size]? = some (Obj.cells (symV x0 :: List.map symV l).toArray 43) := (hb2.block _ hlt1).trans halloc.1
  have hbw2 : Below w.heap.size w w2 := hbw1.trans (hb2.mono hbw1.size)
  have hsz : (Try.prog.info? 43).map (·.size) = some (symV x0 :: List.map symV l).toArray.size := by
    rw [infoRow]; simp [hl]
  by_cases hneg : minOf x0 l < 0
  · go_wp2_with fail
    simp [bodyPost, results, Try.results60, go_sem]
    refine ⟨?_, hbw2⟩
    rw [minOf_neg] at hneg
    unfold rightRow
    have : (x0 :: l).all (fun n => decide (0 ≤ n)) = false := by
      rw [← Bool.not_eq_true, List.all_eq_true]
      intro hall
      rcases hneg with hneg | ⟨y, hy, hneg⟩
      · have := hall x0 (List.mem_cons_self ..)
        simp at this; omega
      · have := hall y (List.mem_cons_of_mem _ hy)
        simp at this; omega
    rw [this]
    rfl
  · have hz := (MapKept.heap_alloc w2 (Obj.cells (List.replicate 24 (Value.int .i32 0)).toArray 43)).1
    have hal : Below w2.heap.size w2 (w2.alloc (Obj.cells (List.replicate 24 (Value.int .i32 0)).toArray 43)) := (Below.refl _ w2).alloc (Nat.le_refl _) _
    have hone := row_one (x0 :: l)
    have hg3 := setRow_heap _ _ _ (symV x0 :: List.map symV l).toArray _ _ hz
    have hb3 : Below w2.heap.size w2 ((w2.alloc (Obj.cells (List.replicate 24 (Value.int .i32 0)).toArray 43)).setRow w2.heap.size (symV x0 :: List.map symV l).toArray) := below_setRow hal (Nat.le_refl _) _
    obtain ⟨w3, hw3⟩ : ∃ w3, (w2.alloc (Obj.cells (List.replicate 24 (Value.int .i32 0)).toArray 43)).setRow w2.heap.size (symV x0 :: List.map symV l).toArray = w3 := ⟨_, rfl⟩
    rw [hw3] at hg3 hb3
    simp only [List.replicate] at hw3 hz
    have hbw3 : Below w.heap.size w w3 := hbw2.trans (hb3.mono hbw2.size)
    have h0 := (h.frame hbw3).h0
    obtain ⟨w4, hclr, hg4, hb4⟩ := run_clear_syms (n := arity) (c := 24) (us := symV x0 :: List.map symV l) 0 hg3 (by simp [hl]; omega)
    have hal1 : (arity : Int) ≤ Try.prog.arrayLen 43 := by rw [show Try.prog.arrayLen 43 = 24 from by kernel_rfl]; omega
    have hslc : (Instr.sliceAt 43 (.pointer (some ⟨w2.heap.size, 0, none⟩)) none (some (.int .i64 (arity : Int))) none).run Try.prog w3 = .ok (.slice (some ⟨w2.heap.size, 0, none⟩) arity 24) w3 := by
      rw [run_sliceAt_array_h w3 43 ⟨w2.heap.size, 0, none⟩ (by rw [show Try.prog.arrayLen 43 = 24 from by kernel_rfl, show Try.prog.elem 43 = 41 from by kernel_rfl]; exact Try.underlying43) .i64 arity (by omega) hal1, show Try.prog.elem 43 = 41 from by kernel_rfl, show Try.prog.arrayLen 43 = 24 from by kernel_rfl, Try.sizeOf41]
      simp [slicedAt, Addr.add]
    obtain ⟨y, hy⟩ : ∃ y, List.replicate arity 0 ++ (x0 :: l).drop arity = y := ⟨_, rfl⟩
    have hover : over (symV x0 :: List.map symV l) 0 (List.replicate arity (symV 0)) = y.map symV := by
      rw [← hy]
      simp [over, List.map_drop]
    have hyl : y.length = 24 := by rw [← hy]; simp [hl]; omega
    have hyr : RowOk y := ⟨hyl, fun n hn => by
      rw [← hy] at hn
      rcases List.mem_append.1 hn with hn | hn
      · rw [List.eq_of_mem_replicate hn]; rfl
      · exact hx.2 n (List.mem_of_mem_drop hn)⟩
    rw [hover] at hg4
    have hsz4 : (Try.prog.info? 43).map (·.size) = some (y.map symV).toArray.size := by rw [infoRow]; simp [hyl]
    have heq := run_eqIn_row hyr zRow_ok w4
    simp only [zRow, rowV, List.replicate, List.map] at heq
    go_wp2_with (first | (refine wpList_load_row rfl 43 _ rfl w.heap.size rfl 43 _ (0, 0) _ hblk Try.underlying43 rfl hsz ?_) | (refine wpList_store_row rfl 43 _ _ rfl w2.heap.size _ rfl rfl 43 _ hz hsz (by simp [hl]) hone ?_; rw [hw3]) | (refine wpList_load_row rfl 43 _ rfl w2.heap.size rfl 43 _ (0, 0) _ hg4 Try.underlying43 rfl hsz4 ?_))
    simp [bodyPost, results, Try.results60, go_sem]
    refine ⟨?_, hbw3.trans (hb4.mono hbw2.size)⟩
    have hneg : ¬ minOf x0 l < 0 := by omega
    rw [minOf_neg] at hneg
    have hpos : (x0 :: l).all (fun n => decide (0 ≤ n)) = true := by
      rw [List.all_eq_true]
      intro n hn
      rcases List.mem_cons.1 hn with rfl | hn
      · simp only [decide_eq_true_eq]; exact Int.not_lt.1 fun h => hneg (.inl h)
      · simp only [decide_eq_true_eq]; exact Int.not_lt.1 fun h => hneg (.inr ⟨n, hn, h⟩)
    unfold rightRow
    rw [hpos, Bool.true_and, Bool.eq_iff_iff, decide_eq_true_iff, List.all_eq_true]
    show y = List.replicate 24 0 ↔ _
    have h24 : (24 : Nat) = arity + ((x0 :: l).drop arity).length := by simp [hl]; omega
    rw [← hy, List.eq_replicate_iff]
    constructor
    · rintro ⟨_, h⟩ n hn
      simpa using h n (List.mem_append_right _ hn)
    · intro h
      refine ⟨by rw [List.length_append, List.length_replicate]; exact h24.symm, fun n hn => ?_⟩
      rcases List.mem_append.1 hn with hn | hn
      · exact List.eq_of_mem_replicate hn
      · simpa using h n hn
end Go.Proofs.Ytiomojlcnemnhaa

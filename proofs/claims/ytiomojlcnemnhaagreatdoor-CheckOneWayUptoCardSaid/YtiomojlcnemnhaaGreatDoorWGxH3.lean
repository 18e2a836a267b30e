/- value.back: the characters of a text from the last to the first. -/
import Derived.Test.YtiomojlcnemnhaaGreatDoorWGxH2
import Derived.Lib.OthersKept
import Derived.Lib.RuneCount
import Derived.Laws.BytesString
import Derived.Laws.BytesArg
namespace Go.Proofs.YtiomojlcnemnhaaGreatDoor
open Go.Fx Go.RowKit Go.Lib

/-- A text's bytes from one place to another. -/
def bytesOf (s : ByteArray) (a b : Nat) : List UInt8 := (s.data.toList.drop a).take (b - a)
/-- The characters that begin at a place and behind. -/
def segs (s : ByteArray) : Nat → Nat → List (List UInt8)
  | 0, _ => []
  | n + 1, p => if p < s.size then bytesOf s p (p + (Utf8.decode s p).2) :: segs s n (p + (Utf8.decode s p).2) else []
/-- The text with its characters turned round. -/
def backOf (s : ByteArray) : ByteArray := ⟨(segs s s.size 0).reverse.flatten.toArray⟩

theorem decode_in (s : ByteArray) (p : Nat) (h : p < s.size) : p + (Utf8.decode s p).2 ≤ s.size := by
  unfold Utf8.decode
  simp only
  split
  · simp; omega
  split
  · rename_i h1
    simp only [Bool.and_eq_true, decide_eq_true_eq] at h1
    split <;> simp <;> omega
  split
  · rename_i h1
    simp only [Bool.and_eq_true, decide_eq_true_eq] at h1
    split <;> simp <;> omega
  split
  · rename_i h1
    simp only [Bool.and_eq_true, decide_eq_true_eq] at h1
    split <;> simp <;> omega
  · simp; omega

theorem cellsOf_eq (s : ByteArray) (a b : Nat) : cellsOf s a b = (bytesOf s a b).map fun c => Value.int .u8 (c.toNat : Int) := rfl
theorem bytesOf_length (s : ByteArray) (a b : Nat) (h : b ≤ s.size) : (bytesOf s a b).length = b - a := by
  unfold bytesOf
  rw [List.length_take, List.length_drop, Array.length_toList]
  show min (b - a) (s.size - a) = _
  omega

theorem decode_pos (s : ByteArray) (p : Nat) (h : p < s.size) : 1 ≤ (Utf8.decode s p).2 := decode_width_pos s p h

/-- What is laid so far, and what is still to be laid: the text turned round. -/
structure BackAt (w0 w : World) (N : Nat) (s : ByteArray) (was pos : Nat) : Prop where
  st : ∃ row tail n, BackSt w N s was row ∧ row.length = s.size ∧ row.drop (s.size - was) = (tail : List UInt8).map (fun c => Value.int .u8 (c.toNat : Int)) ∧
    (segs s s.size 0).reverse.flatten = (segs s n pos).reverse.flatten ++ bytesOf s was pos ++ tail ∧ s.size ≤ pos + n
  it : w.heap[N + 5]? = some (.stringIter s pos)
  le : was ≤ pos
  top : pos ≤ s.size
  below : Below N w0 w

theorem lay_drop {s : ByteArray} {was i : Nat} {row : List Value} {tail : List UInt8} (hl : row.length = s.size) (h1 : was ≤ i) (h2 : i ≤ s.size) (ht : row.drop (s.size - was) = tail.map (fun c => Value.int .u8 (c.toNat : Int))) :
    (row.take (s.size - i) ++ cellsOf s was i ++ row.drop (s.size - was)).length = s.size ∧ (row.take (s.size - i) ++ cellsOf s was i ++ row.drop (s.size - was)).drop (s.size - i) = (bytesOf s was i ++ tail).map (fun c => Value.int .u8 (c.toNat : Int)) := by
  have hb : (cellsOf s was i).length = i - was := by rw [cellsOf_eq, List.length_map, bytesOf_length s was i h2]
  have ht2 : (row.take (s.size - i)).length = s.size - i := by rw [List.length_take]; omega
  refine ⟨by simp only [List.length_append, hb, ht2, List.length_drop]; omega, ?_⟩
  rw [List.append_assoc, List.drop_left' ht2, ht, List.map_append, cellsOf_eq]

theorem iterAt_cell (w : World) (k : Nat) (s : ByteArray) (pos : Nat) (a : Addr) (h : a.block ≠ k) : (w.iterAt k s pos).cell? a = w.cell? a := by
  simp only [World.cell?, iterAt_other w k a.block s pos h]
theorem BackSt.iterAt {w : World} {N : Nat} {s : ByteArray} {was : Nat} {row : List Value} (h : BackSt w N s was row) (pos : Nat) : BackSt (w.iterAt (N + 5) s pos) N s was row :=
  ⟨(iterAt_cell _ _ _ _ _ (by simp)).trans h.hS, (iterAt_other _ _ _ _ _ (by simp)).trans h.hR, (iterAt_cell _ _ _ _ _ (by simp)).trans h.hO, (iterAt_cell _ _ _ _ _ (by simp)).trans h.hE,
    (iterAt_cell _ _ _ _ _ (by simp)).trans h.hW, (frozen_block (iterAt_other _ _ _ _ _ (by simp))).trans h.fE, (frozen_block (iterAt_other _ _ _ _ _ (by simp))).trans h.fW⟩

theorem conv_row (w : World) (g : Nat) (l : List UInt8) (n cap : Nat) (hn : n = l.length) (ty : TypeId) (h : w.heap[g]? = some (.cells (l.map fun c => Value.int .u8 (c.toNat : Int)).toArray ty (0, 0))) :
    (convert 312 9 (.slice (some ⟨g, 0, none⟩) n cap)).run Tryz.prog w = .ok (.string ⟨l.toArray⟩) w := by
  have hns : (l.map fun c => (c.toNat : Int)).map (Value.int .u8) = l.map fun c => Value.int .u8 (c.toNat : Int) := by rw [List.map_map]; rfl
  rw [run_convert_bytes_string w 312 9 5 _ _ _ Tryz.underlying312 Tryz.underlying5 Tryz.underlying9]
  refine (run_bytesToString w ⟨g, 0, none⟩ n cap (l.map fun c => (c.toNat : Int)) ?_).trans ?_
  · rw [hns]
    have := run_loadCells_list (P := Tryz.prog) (w := w) ⟨g, 0, none⟩ (l.map fun c => Value.int .u8 (c.toNat : Int)) ?_
    · rw [List.length_map, ← hn] at this
      exact this
    · intro j v hj
      have hj' : (l.map fun c => Value.int .u8 (c.toNat : Int)).toArray[j]? = some v := by simpa using hj
      have he : (⟨g, 0, none⟩ : Addr).add j = ⟨g, j, none⟩ := by unfold Addr.add; split <;> simp_all
      rw [he]
      simp only [World.cell?, h]
      exact hj'
  · rw [foldl_push_bytes, List.map_map]
    congr 2
    have : ((fun n : Int => UInt8.ofNat n.toNat) ∘ fun c : UInt8 => (c.toNat : Int)) = id := by
      funext c; simp
    rw [this, List.map_id]
    simp [ByteArray.empty, ByteArray.emptyWithCapacity]
    try rfl

theorem info5' : (Tryz.prog.info? 5).map (fun i => (i.size, i.bytes, i.zero)) = some (1, 1, some (.int .u8 0)) := by kernel_rfl
theorem info5 : ∃ i, Tryz.prog.info? 5 = some i ∧ i.size = 1 ∧ i.bytes = 1 ∧ i.zero = some (.int .u8 0) := by
  have h := info5'
  cases hi : Tryz.prog.info? 5 with
  | none => rw [hi] at h; cases h
  | some i => rw [hi] at h; simp only [Option.map_some, Option.some.injEq, Prod.mk.injEq] at h; exact ⟨i, rfl, h.1, h.2.1, h.2.2⟩

theorem alloc_heap (w : World) (o : Obj) (i : Nat) : (w.alloc o).heap[i]? = if i = w.heap.size then some o else w.heap[i]? := by
  show (w.heap.push o)[i]? = _
  rw [Array.getElem?_push]
theorem alloc_size (w : World) (o : Obj) : (w.alloc o).heap.size = w.heap.size + 1 := Array.size_push _
theorem iter_alloc (w : World) (s : ByteArray) (p : Nat) : w.iter s p = w.alloc (.stringIter s p) := rfl
theorem one_ne_zero' : ¬ (1 = 0) := by decide
theorem back_start (w : World) (s : ByteArray) : BackAt w ((((((w.alloc (Obj.cells #[Value.string s] 9)).alloc (Obj.cells (madeCells #[Value.int IntKind.u8 0] s.size) 5)).alloc (Obj.cells #[Value.slice (some { block := w.heap.size + 1, off := 0 }) s.size s.size] 312)).alloc
              (Obj.cells #[Value.int IntKind.i64 ↑s.size] 3)).alloc (Obj.cells #[Value.int IntKind.i64 0] 3)).iter s 0) w.heap.size s 0 0 := by
  generalize hw1 : ((((((w.alloc (Obj.cells #[Value.string s] 9)).alloc (Obj.cells (madeCells #[Value.int IntKind.u8 0] s.size) 5)).alloc (Obj.cells #[Value.slice (some { block := w.heap.size + 1, off := 0 }) s.size s.size] 312)).alloc
              (Obj.cells #[Value.int IntKind.i64 ↑s.size] 3)).alloc (Obj.cells #[Value.int IntKind.i64 0] 3)).iter s 0) = w1
  have hh : ∀ i, w1.heap[i]? = if i = w.heap.size + 5 then some (.stringIter s 0) else if i = w.heap.size + 4 then some (Obj.cells #[Value.int IntKind.i64 0] 3) else if i = w.heap.size + 3 then some (Obj.cells #[Value.int IntKind.i64 ↑s.size] 3)
      else if i = w.heap.size + 2 then some (Obj.cells #[Value.slice (some { block := w.heap.size + 1, off := 0 }) s.size s.size] 312) else if i = w.heap.size + 1 then some (Obj.cells (madeCells #[Value.int IntKind.u8 0] s.size) 5)
      else if i = w.heap.size then some (Obj.cells #[Value.string s] 9) else w.heap[i]? := by
    intro i
    rw [← hw1]
    simp only [iter_alloc, alloc_heap, alloc_size, Nat.add_assoc, Nat.reduceAdd]
  have e0 := hh w.heap.size
  have e1 := hh (w.heap.size + 1)
  have e2 := hh (w.heap.size + 2)
  have e3 := hh (w.heap.size + 3)
  have e4 := hh (w.heap.size + 4)
  have e5 := hh (w.heap.size + 5)
  simp only [Nat.add_left_cancel_iff, Nat.reduceEqDiff, if_false, if_true, Nat.left_eq_add, Nat.add_eq_left, Nat.reduceEqDiff, one_ne_zero'] at e0 e1 e2 e3 e4 e5
  refine ⟨⟨(madeCells #[Value.int IntKind.u8 0] s.size).toList, [], s.size, ⟨?_, ?_, ?_, ?_, ?_, ?_, ?_⟩, ?_, ?_, ?_, ?_⟩, ?_, Nat.le_refl _, Nat.zero_le _, ?_⟩
  · simp only [World.cell?, e0]; rfl
  · rw [e1]
  · simp only [World.cell?, e2]; rfl
  · simp only [World.cell?, e3]; rfl
  · simp only [World.cell?, e4]; rfl
  · simp only [World.frozen?, e3]; rfl
  · simp only [World.frozen?, e4]; rfl
  · rw [Array.length_toList, size_madeCells]
  · rw [Nat.sub_zero, List.drop_of_length_le (by rw [Array.length_toList, size_madeCells]; exact Nat.le_refl _)]; rfl
  · simp [bytesOf]
  · omega
  · exact e5
  · rw [← hw1]
    refine Below.alloc (Below.alloc (Below.alloc (Below.alloc (Below.alloc (Below.alloc (Below.refl _ _) ?_ _) ?_ _) ?_ _) ?_ _) ?_ _) ?_ _ <;> (try simp only [alloc_size]) <;> omega

set_option maxRecDepth 100000 in
theorem back_calls (w : World) (s : ByteArray) (h3 : s.size ≤ 200) :
    Calls Tryz.prog 323 #[.string s] w fun e w' => e = .returned (.string (backOf s)) ∧ Below w.heap.size w w' := by
  have hmk : ∀ w1 : World, (Instr.makeSlice 312 (.int .i64 (s.size : Int)) (.int .i64 (s.size : Int))).run Tryz.prog w1 = .ok (.slice (some ⟨w1.heap.size, 0, none⟩) s.size s.size) (w1.alloc (.cells (madeCells (Value.int .u8 0).cells (s.size * 1)) 5)) := by
    intro w1
    obtain ⟨i, hi, hs, hb, hz⟩ := info5
    have := run_make w1 312 5 i _ Tryz.underlying312 hi hz .i64 .i64 (s.size : Int) (s.size : Int) (by omega) (Int.le_refl _) (by rw [hb]; omega) (by omega)
    rw [hs] at this
    simpa using this
  go_enter Tryz.func323, Tryz.ntmps323
  go_wp2
  simp only [Nat.add_assoc, Nat.reduceAdd]
  have h0 := back_start w s
  generalize (((((w.alloc (Obj.cells #[Value.string s] 9)).alloc (Obj.cells (madeCells #[Value.int IntKind.u8 0] s.size) 5)).alloc (Obj.cells #[Value.slice (some { block := w.heap.size + 1, off := 0 }) s.size s.size] 312)).alloc
              (Obj.cells #[Value.int IntKind.i64 ↑s.size] 3)).alloc (Obj.cells #[Value.int IntKind.i64 0] 3)).iter s 0 = w0 at *
  go_loopw [] (fun w' => ∃ was pos, BackAt w w' w.heap.size s was pos) (fun w' => s.size - (match w'.heap[w.heap.size + 5]? with | some (.stringIter _ p) => p | _ => 0))
  case atStart => exact ⟨0, 0, h0⟩
  case round =>
    obtain ⟨was, pos, hrel⟩ := hrel
    obtain ⟨row, tail, n, hB, hl, ht, hseg, hn⟩ := hrel.st
    by_cases hp : pos < s.size
    · have hnx : ∀ ty, (Instr.next (.pointer (some ⟨w.heap.size + 5, 0, none⟩)) true ty).run Tryz.prog wr = _ := fun ty => run_next_any_at wr (w.heap.size + 5) s pos ty hrel.it hp
      go_wp2_with fail
      refine (put_calls _ w.heap.size s was pos row (hB.iterAt _) hl hrel.le (by omega) h3).mono ?_
      rintro e w' ⟨rfl, k1, k2, k3⟩
      obtain ⟨l1, l2⟩ := lay_drop hl hrel.le (by omega) ht
      have hw := decode_pos s pos hp
      have hi := decode_in s pos hp
      have hit : w'.heap[w.heap.size + 5]? = some (.stringIter s (pos + (Utf8.decode s pos).2)) := (k2 _ (by omega) (by omega) (by omega)).trans (iterAt_heap _ _ _ _ _ hrel.it)
      go_wp2_with fail
      go_roundw
      case rel =>
        refine ⟨pos, pos + (Utf8.decode s pos).2, ⟨_, bytesOf s was pos ++ tail, n - 1, k1, l1, l2, ?_, by omega⟩, hit, by omega, hi, ?_⟩
        · obtain ⟨m, rfl⟩ : ∃ m, n = m + 1 := ⟨n - 1, by omega⟩
          rw [hseg]
          simp [segs, hp]
        · exact (below_iterAt hrel.below (by omega) _ _).trans k3
      case measure =>
        rw [hit, hrel.it]
        simp only
        omega
    · have hnx : ∀ ty, (Instr.next (.pointer (some ⟨w.heap.size + 5, 0, none⟩)) true ty).run Tryz.prog wr = _ := fun ty => run_next_end_at wr (w.heap.size + 5) s pos ty hrel.it hp
      have hS := hB.hS
      go_wp2_with fail
      refine (put_calls _ w.heap.size s was s.size row hB hl (Nat.le_trans hrel.le hrel.top) (Nat.le_refl _) h3).mono ?_
      rintro e w' ⟨rfl, k1, k2, k3⟩
      obtain ⟨l1, l2⟩ := lay_drop hl (Nat.le_trans hrel.le hrel.top) (Nat.le_refl _) ht
      have hO := k1.hO
      have hend : segs s n pos = [] := by cases n <;> simp [segs, hp]
      have hpos : pos = s.size := by have := hrel.top; omega
      rw [hend, hpos] at hseg
      have hrow : backOf s = ⟨(bytesOf s was s.size ++ tail).toArray⟩ := by
        unfold backOf
        rw [hseg]
        simp
      have hR := k1.hR
      simp only [Nat.sub_self, List.take_zero, List.nil_append, List.drop_zero] at l1 l2 hR
      rw [l2] at hR
      rw [l2, List.length_map] at l1
      have hcv := conv_row w' _ _ s.size s.size l1.symm _ hR
      go_wp2_with fail
      go_ret
      exact ⟨by rw [hrow]; rfl, hrel.below.trans k3⟩
end Go.Proofs.YtiomojlcnemnhaaGreatDoor

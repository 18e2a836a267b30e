import Derived.Shelf.Lay
import Derived.Shelf.LaySoft
import Derived.Shelf.Small.Bits
import Derived.Shelf.Strconv.Itoa0
import Derived.Shelf.Sort.Plain
import Derived.Shelf.Strings.Prefix
import Derived.Ground.Names2Prog
import Derived.Shelf.Slices.Clone
import Derived.Shelf.Slices.In.SortNone
import Derived.Ground.SlgnProg
import Derived.Shelf.SlicesE.Clone
import Derived.Test.YtiomojlcnemnhaaProg
import Derived.Test.YtiomojlcnemnhaaFFxZ
import Derived.Shelf.Strconv.Itoa1
import Derived.KernelRfl
import Derived.Test.YtiomojlcnemnhaaFFxWb
import Derived.Test.YtiomojlcnemnhaaFHxM3
/-
  DERIVED: LAID BY THE SHELF's lay-shelf.mjs AT THE DUMP 'toys/ytiomojlcnemnhaa/ytiomojlcnemnhaa.cut.gsa' (alias 'Try'): THE LIBRARY CONTRACTS THAT ARE PROVED ONCE, OVER ANY PROGRAM AND ANY NUMBERING, AS THEOREMS OF THIS PROGRAM: WITHOUT A WALK: 'shelf_lay' reads the table of numbers off the bodies and has the kernel compare each body; then each contract is ONE APPLICATION. EACH COMMAND STANDS UNDER 'shelf_try': one that errs is rolled back and told in the build's print ('SHELF: NOT LAID: <name>: ..'); THE MODULE's LAST ROW OF PRINT COUNTS THEM ('SHELF: n LAID, m NOT LAID'): READ IT: a contract that is not laid is not there to be used.
-/
namespace Go.Proofs
open Go.Shelf
shelf_try shelf_lay Lays.n128 Nm 128 at Try as Try.lays128
shelf_try /-- bits.Len32: "Len32 returns the minimum number of bits required to represent x; the result is 0 for x == 0.": IT RETURNS 'Lib.bitLen x'; the world is as it was. ('h0', 'h1': x is a uint32.) (LAID: no walk: one application.) -/
theorem Try.bits_Len32 (x : Int) (w : World) (h0 : 0 ≤ x) (h1 : x ≤ 4294967295) :
    Calls Try.prog 153 #[.int .u32 x] w fun e w' => e = .returned (.int .i64 (Lib.bitLen x.toNat)) ∧ w' = w := Any.bits_Len32 Try.lays128 x w h0 h1
shelf_try #print axioms Try.bits_Len32
shelf_try shelf_lay Lays.n125 Nm 125 at Try as Try.lays125
shelf_try /-- bits.Len: "Len returns the minimum number of bits required to represent x; the result is 0 for x == 0.": IT RETURNS 'Lib.bitLen x'; the world is as it was. (A uint has 64 bits in the model.) ITS CALLEE bits.Len64 IS MET BY ITS OWN CONTRACT OFF THE SHELF (lay that first). (LAID: no walk: one application.) -/
theorem Try.bits_Len (x : Int) (w : World) (h0 : 0 ≤ x) (h1 : x ≤ 18446744073709551615) :
    Calls Try.prog 132 #[.int .u64 x] w fun e w' => e = .returned (.int .i64 (Lib.bitLen x.toNat)) ∧ w' = w := Any.bits_Len Try.lays125 x w h0 h1
shelf_try #print axioms Try.bits_Len
shelf_try shelf_lay Lays.n129 Nm 129 at Try as Try.lays129
shelf_try /-- bits.Len64: "Len64 returns the minimum number of bits required to represent x; the result is 0 for x == 0.": IT RETURNS 'Lib.bitLen x'; the world is as it was. ('h0', 'h1': x is a uint64.) (LAID: no walk: one application.) -/
theorem Try.bits_Len64 (x : Int) (w : World) (h0 : 0 ≤ x) (h1 : x ≤ 18446744073709551615) :
    Calls Try.prog 154 #[.int .u64 x] w fun e w' => e = .returned (.int .i64 (Lib.bitLen x.toNat)) ∧ w' = w := Any.bits_Len64 Try.lays129 x w h0 h1
shelf_try #print axioms Try.bits_Len64
shelf_try shelf_lay Lays.n190 Nm 190 at Try as Try.lays190
shelf_try open Go.Sort Go.RowKit in
theorem Try.slices_Sort_string (blk off cap : Nat) (ss : List (List UInt8)) (w : World) (hH : Holds encStr w blk off ss.toArray) (hblk : blk < w.heap.size) (hsz : ss.length < 4611686018427387904) :
    Calls Try.prog 123 #[.slice (some ⟨blk, off, none⟩) ss.length cap] w fun e w' =>
      e = .returned (.tuple #[]) ∧ ∃ n os, w' = grow (putRow encStr (Sort.ahead w n) blk off (ss.mergeSort fun x y => decide (x ≤ y)).toArray) os := Any.slices_Sort_string Try.lays190 blk off cap ss w hH hblk hsz
shelf_try #print axioms Try.slices_Sort_string
shelf_try shelf_lay Lays.n206 Nm 206 at Try as Try.lays206
shelf_try open Go.RowKit Go.Lib in
/-- internal/stringslite.HasPrefix (what strings.HasPrefix calls). (LAID: no walk: one application.) -/
theorem Try.stringslite_HasPrefix (s p : ByteArray) (w : World) :
    Calls Try.prog 137 #[.string s, .string p] w fun e w' => e = .returned (.bool (Lib.hasPrefix s.data.toList p.data.toList)) ∧ w' = w := Any.stringslite_HasPrefix Try.lays206 s p w
shelf_try #print axioms Try.stringslite_HasPrefix
shelf_try shelf_lay Lays.n99 Nm 99 at Try as Try.lays99
shelf_try open Go.RowKit Go.Lib in
/-- strings.HasPrefix: "HasPrefix reports whether the string s begins with prefix.": IT RETURNS 'Lib.hasPrefix s prefix'; the world is as it was. (LAID: no walk: one application.) -/
theorem Try.strings_HasPrefix (s p : ByteArray) (w : World) :
    Calls Try.prog 117 #[.string s, .string p] w fun e w' => e = .returned (.bool (Lib.hasPrefix s.data.toList p.data.toList)) ∧ w' = w := Any.strings_HasPrefix Try.lays99 s p w
shelf_try #print axioms Try.strings_HasPrefix
shelf_try shelf_lay Lays2.n15 Nm2 15 at Try as Try.laysNm215
shelf_try open Go.RowKit Go.Lib in
/-- slices.Clone at []int: "Clone returns a copy of the slice. The elements are copied using assignment, so this is a shallow clone. The result may have additional unused capacity. The result preserves the nilness of s.": OF A SLICE THAT IS NOT nil IT RETURNS A SLICE THAT IS NOT nil, OF THE SAME ELEMENTS, IN MEMORY OF THE CALL's OWN: in the how-to's words (6f): 'w'.ownsRow B e 1 v' n cells': v' begins at the head of a row among the blocks from B on (B: the heap's size at the call), not frozen, whose first cells are the elements · 'Below B w w'': below B all is as it was. The capacity is whatever the run-time gives. 'zs': what the cells behind the slice's address hold; 'zs.take n': its elements. (LAID: no walk: one application.) -/
theorem Try.slices_Clone_int (b off n c : Nat) (zs : List Int) (w : World) (hz : n ≤ zs.length) (hbig : n * 8 ≤ 140737488355328) (hc : ∀ j, j < zs.length → w.cell? ⟨b, off + j, none⟩ = some (.int .i64 (zs.getD j 0))) :
    Calls Try.prog 50 #[.slice (some ⟨b, off, none⟩) n c] w fun e w' => ∃ v', e = .returned v' ∧ w'.ownsRow w.heap.size 3 1 v' n ((zs.take n).map (Value.int .i64)) ∧ v' ≠ .slice none 0 0 ∧ Below w.heap.size w w' := Any.slices_Clone_int Try.laysNm215 b off n c zs w hz hbig hc
shelf_try #print axioms Try.slices_Clone_int
shelf_try open Go.RowKit Go.Lib in
/-- The same at nil: nil comes back; the world is as it was. (LAID: no walk: one application.) -/
theorem Try.slices_Clone_int_nil (n c : Nat) (w : World) :
    Calls Try.prog 50 #[.slice none n c] w fun e w' => e = .returned (.slice none 0 0) ∧ w' = w := Any.slices_Clone_int_nil Try.laysNm215 n c w
shelf_try #print axioms Try.slices_Clone_int_nil
shelf_try open Go.RowKit Go.Lib in
/-- The same at a slice of length 0 that is not nil, WHATEVER ITS ADDRESS (no cell is asked for): a slice that is not nil and owns nothing comes back. (LAID: no walk: one application.) -/
theorem Try.slices_Clone_int_zero (a : Addr) (c : Nat) (w : World) :
    Calls Try.prog 50 #[.slice (some a) 0 c] w fun e w' => ∃ v', e = .returned v' ∧ w'.ownsRow w.heap.size 3 1 v' 0 [] ∧ v' ≠ .slice none 0 0 ∧ Below w.heap.size w w' := Any.slices_Clone_int_zero Try.laysNm215 a c w
shelf_try #print axioms Try.slices_Clone_int_zero
shelf_try open Go.RowKit Go.Sort in
/-- .. and plain. (LAID: no walk: one application.) -/
theorem Try.slices_Sort_string_none (p : Option Addr) (cap : Nat) (w : World) :
    Calls Try.prog 123 #[.slice p 0 cap] w fun e w' => e = .returned (.tuple #[]) ∧ w' = w := Any.slices_Sort_string_none Try.lays190 p cap w
shelf_try #print axioms Try.slices_Sort_string_none
shelf_try shelf_lay_g SlLaysE0.n41 Slgn 41 at Try 50 as Try.laysSlE041_f50
shelf_try open Go.RowKit Go.Lib in
/-- slices.Clone: "Clone returns a copy of the slice. The elements are copied using assignment, so this is a shallow clone. The result may have additional unused capacity. The result preserves the nilness of s.": OF A SLICE THAT IS NOT nil IT RETURNS A SLICE THAT IS NOT nil, OF THE SAME CELLS, IN MEMORY OF THE CALL's OWN ('ownsRow': the how-to's 6f); below the heap's size at the call all is as it was. (LAID AT THE INSTANCE 'slices.Clone[[]int,int]': no walk: one application.) -/
theorem Try.slices_Clone (i0 : TypeInfo) (z : Value) (size bytes : Nat) (hi : Try.prog.info? 3 = some i0) (hz0 : i0.zero = some z) (hz1 : i0.size = size) (hz2 : i0.bytes = bytes) (hzs : z.cells.size = size) (hsz : 0 < size) (z23 : ∀ w, (Go.sizeOf 3).run Try.prog w = .ok size w) (b off n c : Nat) (news : List Value) (w : World) (hl : news.length = n * size) (hn : n ≤ maxLen) (hbig : n * bytes ≤ 140737488355328) (hc : ∀ j u, news[j]? = some u → w.cell? ⟨b, off + j, none⟩ = some u) (h1 : ∀ u ∈ news, u.oneCell' = true) :
    Calls Try.prog 50 #[.slice (some ⟨b, off, none⟩) n c] w fun e w' => ∃ v', e = .returned v' ∧ w'.ownsRow w.heap.size 3 size v' n news ∧ v' ≠ .slice none 0 0 ∧ Below w.heap.size w w' := AnyE.slices_Clone Try.laysSlE041_f50 i0 z size bytes hi hz0 hz1 hz2 hzs hsz z23 b off n c news w hl hn hbig hc h1
shelf_try #print axioms Try.slices_Clone
shelf_try open Go.RowKit Go.Lib in
/-- The same at nil: nil comes back; the world is as it was; nothing is asked of the element's type. (LAID AT THE INSTANCE 'slices.Clone[[]int,int]': no walk: one application.) -/
theorem Try.slices_Clone_nil (n c : Nat) (w : World) :
    Calls Try.prog 50 #[.slice none n c] w fun e w' => e = .returned (.slice none 0 0) ∧ w' = w := AnyE.slices_Clone_nil Try.laysSlE041_f50 n c w
shelf_try #print axioms Try.slices_Clone_nil
shelf_tried
end Go.Proofs

/- No table is read here. (The plain seat; not reseated.) -/
namespace Go.Fx
open Go.RowKit

def tab10 (_ : Program) (_ : World) : Prop := True

end Go.Fx

/- Fx, part Sa: lists that are compared element by element, copied with a mark behind, and looked at again: once for all types of elements. -/
namespace Go.Fx
open Go.RowKit

section
variable {P : Program} {G : World → Prop} {α : Type} [DecidableEq α] {s : Nat} {ks : List Kd}

end
end Go.Fx

/- Fx, part Sb: copies with a mark behind, and looking at them again: once for all types of elements. -/
namespace Go.Fx
open Go.RowKit

section
variable {P : Program} {G : World → Prop} {α : Type} {s : Nat} {ks : List Kd}

end
end Go.Fx

/- Contracts, on: the marks. -/
namespace Go.Proofs.Ytiomojlcnemnhaa
open Go.Fx Go.RowKit
variable {G : World → Prop}
abbrev GT : World → Prop := tab10 Try.prog

end Go.Proofs.Ytiomojlcnemnhaa

/- Contracts, on: copies of lists of terms, values, binds, and looking at them again. -/
namespace Go.Proofs.Ytiomojlcnemnhaa
open Go.Fx Go.RowKit Go.Ped
variable {G : World → Prop}

end Go.Proofs.Ytiomojlcnemnhaa

/- Fx, part Sc: a list under appends, first nil. -/
namespace Go.Fx
open Go.RowKit
section
variable {P : Program} {G : World → Prop} {L : List (Nat × T)} {O : List (Nat × Box)} {U : List (Nat × Tok)} {H : FHp} {l : List IOper} {K : S → Prop} {d : Nat}

/-- A list that appends of rows at one place have made: nil, or its own. The row of the last append may be told yet. -/
def AccS (k j : Nat) (ty : TypeId) (size : Nat) (es : List (List C)) (a : A) (U : List (Nat × Tok)) : Prop :=
  (es = [] ∧ a = .nil ∧ U = []) ∨ (a = .own k es ∧ U = [(k, ⟨ty, size, es.length⟩), (j, ⟨ty, size, 1⟩)]) ∨ (a = .own k es ∧ U = [(j, ⟨ty, size, 1⟩), (k, ⟨ty, size, es.length⟩)])

theorem AccS.nil {k j size : Nat} {ty : TypeId} : AccS k j ty size [] .nil [] := .inl ⟨rfl, rfl, rfl⟩
theorem AccS.own {k j size : Nat} {ty : TypeId} {es : List (List C)} {n : Nat} (h : n = es.length) : AccS k j ty size es (.own k es) [(k, ⟨ty, size, n⟩), (j, ⟨ty, size, 1⟩)] := .inr (.inl ⟨rfl, by rw [h]⟩)
theorem AccS.close {k j size : Nat} {ty : TypeId} {es : List (List C)} {t : A} {U : List (Nat × Tok)} (h : AccS k j ty size es t U) : t.close = some (.sl es []) := by
  rcases h with ⟨rfl, rfl, rfl⟩ | ⟨rfl, rfl⟩ | ⟨rfl, rfl⟩ <;> rfl
theorem AccS.args {k j size : Nat} {ty : TypeId} {es : List (List C)} {t : A} {U : List (Nat × Tok)} (h : AccS k j ty size es t U) : (X.one t).close = some (.one (.sl es [])) := by
  simp only [X.close, h.close, Option.map_some]
theorem AccS.strike {k j size : Nat} {ty : TypeId} {es : List (List C)} {t : A} {U : List (Nat × Tok)} (h : AccS k j ty size es t U) {l : Nat} (hl : l ≠ k) : A.strike [l] t = t := by
  rcases h with ⟨rfl, rfl, rfl⟩ | ⟨rfl, rfl⟩ | ⟨rfl, rfl⟩
  · rfl
  all_goals simp [Ne.symm hl]
theorem AccS.strikeU {k j size : Nat} {ty : TypeId} {es : List (List C)} {t : A} {U : List (Nat × Tok)} (h : AccS k j ty size es t U) {l : Nat} (hl : l ≠ k) (hj : l ≠ j) : strikeU [l] U = U := by
  rcases h with ⟨rfl, rfl, rfl⟩ | ⟨rfl, rfl⟩ | ⟨rfl, rfl⟩
  · rfl
  all_goals simp [Ne.symm hl, Ne.symm hj]
end
end Go.Fx

/- Contracts, on: the document's atoms, variables, and what is bound. -/
namespace Go.Proofs.Ytiomojlcnemnhaa
open Go.Fx Go.RowKit Go.Ped
variable {G : World → Prop}

/-- The variables of a list, each once. -/
abbrev tmVars (l : List Tm) : List Name := varsOn [] (l.map Tm.v)
abbrev nmRow (v : Name) : List C := [cS (bs v)]

theorem varsOn_length : ∀ (l acc : List Name), (varsOn acc l).length ≤ acc.length + l.length
  | [], acc => by simp [varsOn]
  | v :: l, acc => by
    simp only [varsOn]
    split
    · have := varsOn_length l (acc ++ [v]); simp at this ⊢; omega
    · have := varsOn_length l acc; simp; omega

end Go.Proofs.Ytiomojlcnemnhaa

/- Contracts, on: the document's matching. -/
namespace Go.Proofs.Ytiomojlcnemnhaa
open Go.Fx Go.RowKit Go.Ped
variable {G : World → Prop}

end Go.Proofs.Ytiomojlcnemnhaa

/- Fx, part Sd: loops that forget what a round made. -/
namespace Go.Fx
open Go.RowKit
section

/-- A list under appends: nil, or its own; the rows are forgotten. -/
def AccN (k : Nat) (ty : TypeId) (size : Nat) (es : List (List C)) (a : A) (U : List (Nat × Tok)) : Prop :=
  (es = [] ∧ a = .nil ∧ U = []) ∨ (a = .own k es ∧ U = [(k, ⟨ty, size, es.length⟩)])
theorem AccN.nil {k size : Nat} {ty : TypeId} : AccN k ty size [] .nil [] := .inl ⟨rfl, rfl, rfl⟩
theorem AccN.own {k size : Nat} {ty : TypeId} {es : List (List C)} {n : Nat} (h : n = es.length) : AccN k ty size es (.own k es) [(k, ⟨ty, size, n⟩)] := .inr ⟨rfl, by rw [h]⟩
theorem AccN.args {k size : Nat} {ty : TypeId} {es : List (List C)} {t : A} {U : List (Nat × Tok)} (h : AccN k ty size es t U) : (X.one t).close = some (.one (.sl es [])) := by
  rcases h with ⟨rfl, rfl, rfl⟩ | ⟨rfl, rfl⟩ <;> rfl
theorem AccN.strike {k size : Nat} {ty : TypeId} {es : List (List C)} {t : A} {U : List (Nat × Tok)} (h : AccN k ty size es t U) {l : Nat} (hl : l ≠ k) : A.strike [l] t = t := by
  rcases h with ⟨rfl, rfl, rfl⟩ | ⟨rfl, rfl⟩
  · rfl
  · simp [Ne.symm hl]
theorem AccN.strikeU {k size : Nat} {ty : TypeId} {es : List (List C)} {t : A} {U : List (Nat × Tok)} (h : AccN k ty size es t U) {l : Nat} (hl : l ≠ k) : strikeU [l] U = U := by
  rcases h with ⟨rfl, rfl, rfl⟩ | ⟨rfl, rfl⟩
  · rfl
  · simp [Ne.symm hl]
end
end Go.Fx

/- Contracts, on: the program's matching. -/
namespace Go.Proofs.Ytiomojlcnemnhaa
open Go.Fx Go.RowKit Go.Ped
variable {G : World → Prop}

end Go.Proofs.Ytiomojlcnemnhaa

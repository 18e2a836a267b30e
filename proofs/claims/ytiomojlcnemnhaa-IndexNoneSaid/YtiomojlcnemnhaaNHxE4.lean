import Derived.Test.YtiomojlcnemnhaaNHxE1
namespace Go.Proofs.Ytiomojlcnemnhaa
open Go.Fx Go.RowKit
set_option maxHeartbeats 1000000 in
set_option maxRecDepth 100000 in
theorem open_none {w : World} {p : Option Addr} (h : p = none ∨ ∃ b, p = some ⟨b, 0, none⟩ ∧ w.cell? ⟨b, 2, none⟩ = some (.pointer none)) :
    Calls Try.prog 21 #[.pointer p] w fun e w' => e = .returned (.tuple #[.pointer none, .int .i64 2]) ∧ Below w.heap.size w w' := by
  obtain ⟨zr, hzr⟩ : ∃ zr, zr = zRow := ⟨_, rfl⟩
  have hl : zr.length = 24 := by rw [hzr]; rfl
  have hsz : (Try.prog.info? 43).map (·.size) = some (List.map symV zr).toArray.size := by rw [infoRow]; simp [hl]
  have hone := row_one zr
  have hat := at_none h (-1)
  rw [← hzr] at hat
  clear hzr
  go_enter Try.func21, Try.ntmps21
  go_wp2_with fail
  refine hat.mono ?_
  rintro e w1 ⟨rfl, hb1⟩
  have hz := (MapKept.heap_alloc w1 (Obj.cells (List.replicate 24 (Value.int .i32 0)).toArray 43)).1
  have hb2 := below_setRow (hb1.alloc hb1.size (Obj.cells (List.replicate 24 (Value.int .i32 0)).toArray 43)) hb1.size (List.map symV zr).toArray
  go_wp2_with (refine wpList_store_row rfl 43 _ _ rfl w1.heap.size _ rfl rfl 43 _ hz hsz (by simp [hl]) hone ?_)
  exact bodyPost_ret (v := .tuple #[.pointer none, .int .i64 2]) (by simp [results, Try.results21, go_sem]) rfl ⟨rfl, hb2⟩
set_option maxRecDepth 100000 in
theorem masks_nil {w : World} : Calls Try.prog 25 #[.pointer none] w fun e w' => e = .returned (.slice none 0 0) ∧ Below w.heap.size w w' := by
  go_enter Try.func25, Try.ntmps25
  go_wp2_with fail
  exact bodyPost_ret (v := .slice none 0 0) (by simp [results, Try.results25, go_sem]) rfl ⟨rfl, Below.refl _ _⟩
end Go.Proofs.Ytiomojlcnemnhaa

namespace Go.Proofs.Ytiomojlcnemnhaa
open Go.Fx Go.RowKit
def NoDoc (w : World) (k : Nat) : Prop := w.heap[k]? = some (.cells #[.bool false, .int .i64 0, .slice none 0 0] 98 (0, 0))
theorem NoDoc.below {w w' : World} {k : Nat} (h : NoDoc w k) (hb : Below w.heap.size w w') : NoDoc w' k := (hb.block k (Array.getElem?_eq_some_iff.1 h).1).trans h
theorem NoDoc.c0 {w : World} {k : Nat} (h : NoDoc w k) : w.cell? ⟨k, 0, none⟩ = some (.bool false) := by
  have h : w.heap[k]? = some (.cells #[.bool false, .int .i64 0, .slice none 0 0] 98 (0, 0)) := h
  simp [World.cell?, h]
set_option maxRecDepth 100000 in
theorem doc_ask {w : World} {k : Nat} (h : NoDoc w k) (rows : Value) (m : Nat) :
    Calls Try.prog 98 #[.pointer (some ⟨k, 0, none⟩), rows, .int .u32 (m : Int)] w fun e w' => e = .returned (.int .i64 2) ∧ Below w.heap.size w w' := by
  have c0 := h.c0
  go_enter Try.func98, Try.ntmps98
  go_wp2_with fail
  exact bodyPost_ret (v := .int .i64 2) (by simp [results, Try.results98, go_sem]) rfl ⟨rfl, Below.refl _ _⟩
set_option maxRecDepth 100000 in
theorem doc_distinct {w : World} {k : Nat} (h : NoDoc w k) (rows : Value) (m : Nat) :
    Calls Try.prog 55 #[.pointer (some ⟨k, 0, none⟩), rows, .int .u32 (m : Int)] w fun e w' => e = .returned (.tuple #[.int .i64 0, .int .i64 2]) ∧ Below w.heap.size w w' := by
  go_enter Try.func55, Try.ntmps55
  go_wp2_with fail
  refine (doc_ask h rows m).mono ?_
  rintro e w2 ⟨rfl, hb2⟩
  go_wp2_with fail
  exact bodyPost_ret (v := .tuple #[.int .i64 0, .int .i64 2]) (by simp [results, Try.results55, go_sem]) rfl ⟨rfl, hb2⟩
end Go.Proofs.Ytiomojlcnemnhaa

namespace Go.Proofs.Ytiomojlcnemnhaa
open Go.Fx Go.RowKit
set_option maxRecDepth 100000 in
theorem doc_look {w : World} {k : Nat} (h : NoDoc w k) (rows : Value) (m : Nat) {y : List Int} :
    Calls Try.prog 52 #[.pointer (some ⟨k, 0, none⟩), rows, .int .u32 (m : Int), rowV y] w fun e w' => e = .returned (.tuple #[.slice none 0 0, .int .i64 2]) ∧ Below w.heap.size w w' := by
  go_enter Try.func52, Try.ntmps52
  go_wp2_with fail
  have hb := (Below.refl w.heap.size w).alloc (Nat.le_refl _) (.cells (y.map symV).toArray 43)
  generalize w.alloc (.cells (y.map symV).toArray 43) = w1 at *
  refine (doc_ask (h.below hb) rows m).mono ?_
  rintro e w2 ⟨rfl, hb2⟩
  go_wp2_with fail
  exact bodyPost_ret (v := .tuple #[.slice none 0 0, .int .i64 2]) (by simp [results, Try.results52, go_sem]) rfl ⟨rfl, hb.trans (hb2.mono hb.size)⟩
set_option maxRecDepth 100000 in
theorem doc_count {w : World} {k : Nat} (h : NoDoc w k) (rows : Value) (m : Nat) {y : List Int} :
    Calls Try.prog 54 #[.pointer (some ⟨k, 0, none⟩), rows, .int .u32 (m : Int), rowV y] w fun e w' => e = .returned (.tuple #[.int .i64 0, .int .i64 2]) ∧ Below w.heap.size w w' := by
  go_enter Try.func54, Try.ntmps54
  go_wp2_with fail
  have hb := (Below.refl w.heap.size w).alloc (Nat.le_refl _) (.cells (y.map symV).toArray 43)
  generalize w.alloc (.cells (y.map symV).toArray 43) = w1 at *
  refine (doc_ask (h.below hb) rows m).mono ?_
  rintro e w2 ⟨rfl, hb2⟩
  go_wp2_with fail
  exact bodyPost_ret (v := .tuple #[.int .i64 0, .int .i64 2]) (by simp [results, Try.results54, go_sem]) rfl ⟨rfl, hb.trans (hb2.mono hb.size)⟩
end Go.Proofs.Ytiomojlcnemnhaa

import Derived.Test.YtiomojlcnemnhaaAHxB6
import Derived.Test.YtiomojlcnemnhaaAHxA3
namespace Go.Proofs.Ytiomojlcnemnhaa
open Go.Fx Go.RowKit
set_option maxRecDepth 100000 in
theorem under_there {w : World} (p : Addr) : Calls Try.prog 94 #[.agg #[.pointer (some p)]] w fun e w' => e = .returned (.bool true) ∧ Below w.heap.size w w' := by
  go_enter Try.func94, Try.ntmps94
  go_wp2_with fail
  simp [bodyPost, results, Try.results94, go_sem]
  exact (Below.refl _ w).alloc (Nat.le_refl _) _
set_option maxRecDepth 100000 in
theorem holds_calls {w : World} {b pb mb : Nat} {lv : Value} {arity : Nat} {gone : Int} (h : RelCells w b pb mb lv arity gone) (ha : arity ≤ 24) {m : Nat} (hm : MskOk m) :
    Calls Try.prog 95 #[.agg #[.pointer (some ⟨b, 0, none⟩)], .int .u32 (m : Int)] w fun e w' => e = .returned (.bool (decide (m < 2 ^ arity))) ∧ Below w.heap.size w w' := by
  have hba : Below w.heap.size w (w.alloc (.cells #[.pointer (some ⟨b, 0, none⟩)] 101)) := (Below.refl _ w).alloc (Nat.le_refl _) _
  have har := arity_calls (h.frame hba)
  have i1 : (0 : Int) ≤ (arity : Int) := by omega
  have i2 : (arity : Int) ≤ 24 := by omega
  go_enter Try.func95, Try.ntmps95
  go_wp2_with fail
  refine har.mono ?_
  rintro e w' ⟨rfl, hb⟩
  have hmm : (m : Int) < 4294967296 := by have : m < 4294967296 := hm; omega
  go_wp2_with fail
  simp [bodyPost, results, Try.results95, go_sem]
  refine ⟨?_, hba.trans (hb.mono hba.size)⟩
  rw [Bool.eq_iff_iff, beq_iff_eq, decide_eq_true_iff]
  have e : (m : Int) / 2 ^ arity = ((m / 2 ^ arity : Nat) : Int) := by simp
  rw [e]
  have h0 : 0 < 2 ^ arity := Nat.two_pow_pos arity
  constructor
  · intro h
    have h1 : m / 2 ^ arity = 0 := by omega
    exact (Nat.div_eq_zero_iff_lt h0).1 h1
  · intro h
    rw [(Nat.div_eq_zero_iff_lt h0).2 h]
    rfl
set_option maxRecDepth 100000 in
theorem range_calls {w : World} (p : Option Addr) (s n : Int) :
    Calls Try.prog 97 #[.pointer p, .int .i64 s, .int .i64 n] w fun e w' => e = .returned (.func (.func 127) #[] #[.pointer (some ⟨w.heap.size, 0, none⟩), .pointer (some ⟨w.heap.size + 1, 0, none⟩), .pointer (some ⟨w.heap.size + 2, 0, none⟩)]) ∧
      w'.heap[w.heap.size]? = some (.cells #[.pointer p] 35 (0, 0)) ∧ w'.heap[w.heap.size + 1]? = some (.cells #[.int .i64 s] 3 (0, 0)) ∧ w'.heap[w.heap.size + 2]? = some (.cells #[.int .i64 n] 3 (0, 0)) ∧ Below w.heap.size w w' := by
  go_enter Try.func97, Try.ntmps97
  go_wp2_with fail
  refine bodyPost_ret (v := .func (.func 127) #[] #[.pointer (some ⟨w.heap.size, 0, none⟩), .pointer (some ⟨w.heap.size + 1, 0, none⟩), .pointer (some ⟨w.heap.size + 2, 0, none⟩)]) (by simp [results, Try.results97, go_sem]) rfl ⟨rfl, ?_, ?_, ?_, ?_⟩
  · rw [alloc_heap, if_neg (by rw [alloc_size, alloc_size]; omega), alloc_heap, if_neg (by rw [alloc_size]; omega), alloc_heap, if_pos rfl]
  · rw [alloc_heap, if_neg (by rw [alloc_size, alloc_size]; omega), alloc_heap, if_pos (by rw [alloc_size])]
  · rw [alloc_heap, if_pos (by rw [alloc_size, alloc_size])]
  · exact (((Below.refl _ w).alloc (Nat.le_refl _) _).alloc (by rw [alloc_size]; omega) _).alloc (by rw [alloc_size, alloc_size]; omega) _
end Go.Proofs.Ytiomojlcnemnhaa

namespace Go.Proofs.Ytiomojlcnemnhaa
open Go.Fx Go.RowKit
set_option maxRecDepth 100000 in
theorem there_same {w : World} {b : Nat} {a : Addr} (h2 : w.cell? ⟨b, 2, none⟩ = some (.pointer (some a))) :
    Calls Try.prog 48 #[.pointer (some ⟨b, 0, none⟩)] w fun e w' => e = .returned (.bool true) ∧ w' = w := by
  go_enter Try.func48, Try.ntmps48
  go_wp2_with fail
  simp [bodyPost, results, Try.results48, go_sem]
set_option maxRecDepth 100000 in
theorem gone_same {w : World} {b pb mb : Nat} {lv : Value} {arity gone : Int} (h : RelCells w b pb mb lv arity gone) :
    Calls Try.prog 96 #[.pointer (some ⟨b, 0, none⟩)] w fun e w' => e = .returned (.int .i64 gone) ∧ w' = w := by
  have hth := there_same h.h2
  have h1 := h.h1
  go_enter Try.func96, Try.ntmps96
  go_wp2_with fail
  refine hth.mono ?_
  rintro e w' ⟨rfl, rfl⟩
  go_wp2_with fail
  simp [bodyPost, results, Try.results96, go_sem]
set_option maxRecDepth 100000 in
theorem len_same {w : World} {b pb mb : Nat} {ad : Option Addr} {n cap : Nat} {arity gone : Int} (h : RelCells w b pb mb (.slice ad n cap) arity gone) :
    Calls Try.prog 15 #[.pointer (some ⟨b, 0, none⟩)] w fun e w' => e = .returned (.int .i64 n) ∧ w' = w := by
  have hth := there_same h.h2
  have h2 := h.h2
  have p0 := h.p0
  go_enter Try.func15, Try.ntmps15
  go_wp2_with fail
  refine hth.mono ?_
  rintro e w' ⟨rfl, rfl⟩
  go_wp2_with fail
  simp [bodyPost, results, Try.results15, go_sem]
end Go.Proofs.Ytiomojlcnemnhaa

import Derived.Test.YtiomojlcnemnhaaIHxD2
import Derived.Deep.QuietTactic
import Derived.BigQuiet
namespace Go.Proofs.Ytiomojlcnemnhaa
open Go.Fx Go.RowKit
theorem key_step {m k : Nat} {x y : List Int} (h : keyTo m x k = keyTo m y k) : keyTo m x (k + 1) = keyTo m y (k + 1) ↔ (m.testBit k = true → x.getD k 0 = y.getD k 0) := by
  rw [keyTo_succ, keyTo_succ, h, List.append_cancel_left_eq, List.cons.injEq]
  cases m.testBit k <;> simp
theorem key_part {m k : Nat} {x y : List Int} (hk : k ≤ 24) (h : keyRow m x = keyRow m y) : keyTo m x k = keyTo m y k := by
  have e : ∀ z, keyTo m z k = (keyRow m z).take k := fun z => by simp [keyTo, ← List.map_take, List.take_range, Nat.min_eq_left hk]
  rw [e, e, h]
theorem row_cell {w : World} {g k : Nat} {x : List Int} {ty : TypeId} (hx : x.length = 24) (hg : w.heap[g]? = some (.cells (x.map symV).toArray ty (0, 0))) (hk : k < 24) : w.cell? ⟨g, k, none⟩ = some (.int .i32 (x.getD k 0)) := by
  have : k < x.length := by omega
  simp only [World.cell?, hg]
  rw [List.getD_eq_getElem?_getD]
  simp [List.getElem?_eq_getElem this, symV]
set_option maxHeartbeats 1000000 in
set_option maxRecDepth 100000 in
theorem like_calls {w : World} {m : Nat} {x y : List Int} (hm : m < 4294967296) (hx : RowOk x) (hy : RowOk y) :
    Calls Try.prog 19 #[.int .u32 (m : Int), rowV x, rowV y] w fun e w' => e = .returned (.bool (decide (keyRow m x = keyRow m y))) ∧ Below w.heap.size w w' := by
  have hxl := hx.1
  have hyl := hy.1
  go_enter Try.func19, Try.ntmps19
  go_wp2_with fail
  have hb0 := (Below.refl w.heap.size w).alloc (Nat.le_refl _) (.cells (x.map symV).toArray 43)
  have hX := heap_alloc_new w (.cells (x.map symV).toArray 43)
  have hsx := alloc_size w (.cells (x.map symV).toArray 43)
  generalize w.alloc (.cells (x.map symV).toArray 43) = w0 at *
  have hb1 := hb0.alloc (by omega) (.cells (y.map symV).toArray 43)
  have hY := heap_alloc_new w0 (.cells (y.map symV).toArray 43)
  have hX1 := (((Below.refl w0.heap.size w0).alloc (Nat.le_refl _) (.cells (y.map symV).toArray 43)).block w.heap.size (by omega)).trans hX
  generalize w0.alloc (.cells (y.map symV).toArray 43) = w1 at *
  rw [hsx] at hY
  go_loopw [7] (fun i wr => ∃ k : Nat, i = .int .i64 (k : Int) ∧ k ≤ 24 ∧ Hid (keyTo m x k = keyTo m y k) ∧ Below w.heap.size w wr ∧ wr.heap[w.heap.size]? = some (.cells (x.map symV).toArray 43 (0, 0)) ∧ wr.heap[w.heap.size + 1]? = some (.cells (y.map symV).toArray 43 (0, 0))) (fun i _ => match i with | .int _ m => 24 - m.toNat | _ => 0)
  case atStart => exact ⟨0, rfl, Nat.zero_le _, Lib.hid rfl, hb1, hX1, hY⟩
  case round =>
    clear hX1 hY hb1 w1
    obtain ⟨k, rfl, hk, htk, hbl, hX1, hY⟩ := hrel
    by_cases hlt : k < 24
    · have hlt' : decide ((k : Int) < 24) = true := decide_eq_true (by omega)
      have hi0 : (0 : Int) ≤ (k : Int) := by omega
      have hi1 : (k : Int) < 24 := by omega
      have hiff := Lib.hid (key_step htk.out)
      have hbl1 : ∀ n, Below w.heap.size w (wr.drewN n) := fun n => below_drewN hbl n
      have c1 := row_cell hxl hX1 hlt
      have c2 := row_cell hyl hY hlt
      have his := fun w => is_calls (w := w) hm hlt
      have hfin : keyTo m x (k + 1) ≠ keyTo m y (k + 1) → decide (keyRow m x = keyRow m y) = false := fun h => decide_eq_false fun e => h (key_part (by omega) e)
      have hfin := Lib.hid hfin
      generalize x.getD k 0 = a at *
      generalize y.getD k 0 = b at *
      generalize m.testBit k = q at *
      by_cases hab : q = true → a = b
      · have h1 := hiff.out.2 hab
        cases q
        · go_wp2_with fail
          go_quiet ((go_at_call 47; exact Calls.quiet_of_same (his _)))
          go_wp2_with fail
          refine ⟨⟨k + 1, congrArg (Value.int .i64) (by omega), by omega, Lib.hid h1, hbl1 _, hX1, hY⟩, ?_⟩
          show 24 - ((k : Int) + 1).toNat < 24 - (k : Int).toNat
          omega
        · have hab := hab rfl
          subst hab
          go_wp2_with fail
          go_quiet ((go_at_call 47; exact Calls.quiet_of_same (his _)))
          go_wp2_with fail
          refine ⟨⟨k + 1, congrArg (Value.int .i64) (by omega), by omega, Lib.hid h1, hbl1 _, hX1, hY⟩, ?_⟩
          show 24 - ((k : Int) + 1).toNat < 24 - (k : Int).toNat
          omega
      · have h1 := Lib.hid (hfin.out fun h => hab (hiff.out.1 h))
        cases q
        · exact absurd (fun h => nomatch h) hab
        · have hab' : (a == b) = false := by rw [beq_eq_false_iff_ne]; exact fun e => hab fun _ => e
          clear hab
          go_wp2_with fail
          go_quiet ((go_at_call 47; exact Calls.quiet_of_same (his _)))
          go_wp2_with fail
          rw [h1.out]
          simp [bodyPost, results, Try.results19, go_sem]
          exact hbl1 _
    · obtain rfl : k = 24 := by omega
      have h1 := Lib.hid (decide_eq_true htk.out)
      go_wp2_with fail
      rw [h1.out]
      simp [bodyPost, results, Try.results19, go_sem]
      exact hbl
end Go.Proofs.Ytiomojlcnemnhaa

import Derived.Test.YtiomojlcnemnhaaAHxD1
import Derived.Deep.QuietTactic
import Derived.BigQuiet
namespace Go.Proofs.Ytiomojlcnemnhaa
open Go.Fx Go.RowKit
theorem is_bit {m i : Nat} (hm : m < 4294967296) : (bits .and .u32 ((m : Int) / 2 ^ i) 1 == 1) = m.testBit i := by
  have e : ((m : Int) / 2 ^ i) = ((m / 2 ^ i : Nat) : Int) := by simp
  have hlt : m / 2 ^ i < 4294967296 := Nat.lt_of_le_of_lt (Nat.div_le_self _ _) hm
  rw [e, Nat.testBit_eq_decide_div_mod_eq]
  generalize m / 2 ^ i = a at *
  unfold bits
  have e1 : BitVec.ofInt IntKind.u32.bits 1 = BitVec.ofNat IntKind.u32.bits 1 := rfl
  rw [e1]
  simp only [BitVec.ofInt_natCast, BitVec.toNat_and, BitVec.toNat_ofNat]
  have hb : (2 : Nat) ^ IntKind.u32.bits = 4294967296 := by decide
  rw [hb, Nat.mod_eq_of_lt (by omega), Nat.mod_eq_of_lt (by omega : 1 < 4294967296), Nat.and_one_is_mod, wrap_u32' _ (Int.natCast_nonneg _) (by omega)]
  rcases Nat.mod_two_eq_zero_or_one a with h | h <;> rw [h] <;> rfl
set_option maxRecDepth 100000 in
theorem is_calls {w : World} {m i : Nat} (hm : m < 4294967296) (hi : i < 24) :
    Calls Try.prog 47 #[.int .u32 (m : Int), .int .i64 (i : Int)] w fun e w' => e = .returned (.bool (m.testBit i)) ∧ w' = w := by
  have hb := is_bit (i := i) hm
  go_enter Try.func47, Try.ntmps47
  go_wp2_with fail
  simp [bodyPost, results, Try.results47, go_sem]
def IntsAt (w : World) (v : Value) (l : List Int) : Prop := w.ownsRow 0 3 1 v l.length (l.map intV)
theorem IntsAt.cells {w : World} {v : Value} {l : List Int} (h : IntsAt w v l) {i : Nat} (hi : i < l.length) :
    ∃ g cap, v = .slice (some ⟨g, 0, none⟩) l.length cap ∧ g < w.heap.size ∧ ∀ (j : Nat) (hj : j < l.length), w.cell? ⟨g, j, none⟩ = some (intV l[j]) := by
  obtain ⟨hl, ⟨_, h0⟩ | ⟨g, cap, cur, rfl, _, hg, hc, hm, hsz, htk⟩⟩ := h
  · omega
  · refine ⟨g, cap, rfl, (Array.getElem?_eq_some_iff.1 hg).1, fun j hj => ?_⟩
    have h1 : (l.map intV)[j]? = some (intV l[j]) := by rw [List.getElem?_map, List.getElem?_eq_getElem hj]; rfl
    rw [← htk, List.getElem?_take] at h1
    split at h1
    · simp only [World.cell?, hg]
      simpa using h1
    · cases h1
theorem IntsAt.frame {w w' : World} {v : Value} {l : List Int} (h : IntsAt w v l) (hk : ∀ k, v.ownBlock = some k → w'.heap[k]? = w.heap[k]?) : IntsAt w' v l := ownsRow_of_block h hk
theorem IntsAt.of {base : Nat} {w : World} {v : Value} {l : List Int} (h : w.ownsRow base 3 1 v l.length (l.map intV)) : IntsAt w v l := by
  refine ⟨h.1, ?_⟩
  rcases h.2 with h | ⟨g, cap, cur, h1, h2, h3⟩
  · exact .inl h
  · exact .inr ⟨g, cap, cur, h1, Nat.zero_le _, h3⟩
theorem IntsAt.cell {w : World} {v : Value} {l : List Int} {n : Nat} (h : IntsAt w v l) (hn : l.length = n) {i : Nat} (hi : i < n) :
    ∃ g cap, v = .slice (some ⟨g, 0, none⟩) n cap ∧ g < w.heap.size ∧ n ≤ 9223372036854775807 ∧ w.cell? ⟨g, i, none⟩ = some (.int .i64 (l.getD i 0)) := by
  subst hn
  obtain ⟨g, cap, e, h1, h2⟩ := h.cells hi
  refine ⟨g, cap, e, h1, ?_, ?_⟩
  · obtain ⟨hl, ⟨_, h0⟩ | ⟨g', cap', cur, _, _, _, hc, hm, _⟩⟩ := h
    · omega
    · unfold maxLen at hm; omega
  · rw [h2 i hi, List.getD_eq_getElem?_getD, List.getElem?_eq_getElem hi, Option.getD_some]
theorem take_succ_eq {l1 l2 : List Int} {n i : Nat} (e1 : l1.length = n) (e2 : l2.length = n) (hi : i < n) (h : l1.take i = l2.take i) : l1.take (i + 1) = l2.take (i + 1) ↔ l1.getD i 0 = l2.getD i 0 := by
  rw [List.take_succ_eq_append_getElem (by omega : i < l1.length), List.take_succ_eq_append_getElem (by omega : i < l2.length), h, List.append_cancel_left_eq, List.cons.injEq, List.getD_eq_getElem?_getD, List.getD_eq_getElem?_getD, List.getElem?_eq_getElem (by omega), List.getElem?_eq_getElem (by omega)]
  simp
set_option maxHeartbeats 4000000 in
set_option maxRecDepth 100000 in
theorem same_calls {w : World} {v1 v2 : Value} {l1 l2 : List Int} (h1 : IntsAt w v1 l1) (h2 : IntsAt w v2 l2) :
    Calls Try.prog 27 #[v1, v2] w fun e w' => e = .returned (.bool (decide (l1 = l2))) ∧ Below w.heap.size w w' := by
  obtain ⟨n, hn⟩ : ∃ n, l1.length = n := ⟨_, rfl⟩
  have e1 := fun w' : World => own_len (w' := w') h1
  have e2 := fun w' : World => own_len (w' := w') h2
  rw [hn] at e1
  have H1 := Lib.hid (And.intro h1 hn)
  by_cases hl : l2.length = n
  · rw [hl] at e2
    have H2 := Lib.hid (And.intro h2 hl)
    clear hl hn h1 h2
    go_enter Try.func27, Try.ntmps27
    go_wp2_with fail
    go_loopw [5] (fun i wr => ∃ k : Nat, i = .int .i64 (k : Int) ∧ k ≤ n ∧ Hid (l1.take k = l2.take k) ∧ Below w.heap.size w wr) (fun i _ => match i with | .int _ m => n - m.toNat | _ => 0)
    case atStart => exact ⟨0, rfl, Nat.zero_le _, Lib.hid rfl, Below.refl _ _⟩
    case round =>
      obtain ⟨k, rfl, hk, htk, hbl⟩ := hrel
      by_cases hlt : k < n
      · obtain ⟨g1, cap1, rfl, hg1, hmx, hc1⟩ := H1.out.1.cell H1.out.2 hlt
        obtain ⟨g2, cap2, rfl, hg2, _, hc2⟩ := H2.out.1.cell H2.out.2 hlt
        have d1 := (hbl.cell (p := ⟨g1, k, none⟩) hg1).trans hc1
        have d2 := (hbl.cell (p := ⟨g2, k, none⟩) hg2).trans hc2
        have hlt' : decide ((k : Int) < (n : Int)) = true := decide_eq_true (by omega)
        have hi0 : (0 : Int) ≤ (k : Int) := by omega
        have hi1 : (k : Int) < (n : Int) := by omega
        have hiff := Lib.hid (take_succ_eq H1.out.2 H2.out.2 hlt htk.out)
        have hbl1 : Below w.heap.size w wr.drew := below_drew' hbl
        have c1 : wr.drew.cell? ⟨g1, k, none⟩ = some (.int .i64 (l1.getD k 0)) := d1
        have c2 : wr.drew.cell? ⟨g2, k, none⟩ = some (.int .i64 (l2.getD k 0)) := d2
        clear hc1 hc2 d1 d2
        generalize l1.getD k 0 = a at *
        generalize l2.getD k 0 = b at *
        by_cases hab : a = b
        · subst hab
          go_wp2_with fail
          refine wp_region_still_lit (by kernel_rfl) (by kernel_rfl) ?_
          change wpStill _ _ wr.drew _ _ _
          repeat still_step
          refine wpStill_nil ?_
          change Exit.then _ _ _ _ wr.drew
          generalize wr.drew = w1 at *
          go_wp2_with fail
          refine ⟨⟨k + 1, congrArg (Value.int .i64) (by omega), by omega, Lib.hid (hiff.out.2 (by trivial)), hbl1⟩, ?_⟩
          show n - ((k : Int) + 1).toNat < n - (k : Int).toNat
          omega
        · have hab' : (a == b) = false := by rw [beq_eq_false_iff_ne]; exact hab
          have hne := Lib.hid (decide_eq_false (fun e : l1 = l2 => hab (hiff.out.1 (by rw [e]))))
          go_wp2_with fail
          refine wp_region_still_lit (by kernel_rfl) (by kernel_rfl) ?_
          change wpStill _ _ wr.drew _ _ _
          repeat still_step
          refine wpStill_nil ?_
          change Exit.then _ _ _ _ wr.drew
          generalize wr.drew = w1 at *
          go_wp2_with fail
          rw [hne.out]
          simp [bodyPost, results, Try.results27, go_sem]
          exact hbl1
      · have hlt' : decide ((k : Int) < (n : Int)) = false := decide_eq_false (by omega)
        have he := Lib.hid (decide_eq_true (show l1 = l2 by have := htk.out; have := H1.out.2; have := H2.out.2; rw [List.take_of_length_le (by omega), List.take_of_length_le (by omega)] at htk; exact htk.out))
        go_wp2_with fail
        rw [he.out]
        simp [bodyPost, results, Try.results27, go_sem]
        exact hbl
  · have hl' : ((n : Int) == (l2.length : Int)) = false := by rw [beq_eq_false_iff_ne]; omega
    go_enter Try.func27, Try.ntmps27
    go_wp2_with fail
    have : decide (l1 = l2) = false := decide_eq_false fun e => hl (by rw [← e]; exact hn)
    rw [this]
    simp [bodyPost, results, Try.results27, go_sem]
    exact Below.refl _ _
end Go.Proofs.Ytiomojlcnemnhaa

namespace Go.Proofs.Ytiomojlcnemnhaa
open Go.Fx Go.RowKit
theorem row_cell {w : World} {g k : Nat} {x : List Int} {ty : TypeId} (hx : x.length = 24) (hg : w.heap[g]? = some (.cells (x.map symV).toArray ty (0, 0))) (hk : k < 24) : w.cell? ⟨g, k, none⟩ = some (.int .i32 (x.getD k 0)) := by
  have : k < x.length := by omega
  simp only [World.cell?, hg]
  rw [List.getD_eq_getElem?_getD]
  simp [List.getElem?_eq_getElem this, symV]
end Go.Proofs.Ytiomojlcnemnhaa

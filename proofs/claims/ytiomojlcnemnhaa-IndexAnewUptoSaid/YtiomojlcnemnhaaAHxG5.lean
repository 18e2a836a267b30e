import Derived.Test.YtiomojlcnemnhaaAHxD3
import Derived.Test.YtiomojlcnemnhaaAHxE7
namespace Go.Proofs.Ytiomojlcnemnhaa
open Go.Fx Go.RowKit
abbrev mskV (i : Int) : Value := .int .u32 i
theorem own_len109 {w w' : World} {base size n : Nat} {e : TypeId} {v : Value} {xs : List Value} (h : w.ownsRow base e size v n xs) : (Builtin.len_ #[109] 3 #[v]).run Try.prog w' = .ok (.int .i64 n) w' := by
  obtain ⟨hl, ⟨rfl, h0⟩ | ⟨g, cap, cur, rfl, _⟩⟩ := h
  · subst h0
    simp [Builtin.len_, go_sem, Try.underlying109]
  · simp [Builtin.len_, go_sem, Try.underlying109]
def U32At (w : World) (v : Value) (l : List Int) : Prop := w.ownsRow 0 33 1 v l.length (l.map mskV)
theorem U32At.cells {w : World} {v : Value} {l : List Int} (h : U32At w v l) {i : Nat} (hi : i < l.length) :
    ∃ g cap, v = .slice (some ⟨g, 0, none⟩) l.length cap ∧ g < w.heap.size ∧ ∀ (j : Nat) (hj : j < l.length), w.cell? ⟨g, j, none⟩ = some (mskV l[j]) := by
  obtain ⟨hl, ⟨_, h0⟩ | ⟨g, cap, cur, rfl, _, hg, hc, hm, hsz, htk⟩⟩ := h
  · omega
  · refine ⟨g, cap, rfl, (Array.getElem?_eq_some_iff.1 hg).1, fun j hj => ?_⟩
    have h1 : (l.map mskV)[j]? = some (mskV l[j]) := by rw [List.getElem?_map, List.getElem?_eq_getElem hj]; rfl
    rw [← htk, List.getElem?_take] at h1
    split at h1
    · simp only [World.cell?, hg]
      simpa using h1
    · cases h1
theorem U32At.frame {w w' : World} {v : Value} {l : List Int} (h : U32At w v l) (hk : ∀ k, v.ownBlock = some k → w'.heap[k]? = w.heap[k]?) : U32At w' v l := ownsRow_of_block h hk
theorem U32At.of {base : Nat} {w : World} {v : Value} {l : List Int} (h : w.ownsRow base 33 1 v l.length (l.map mskV)) : U32At w v l := by
  refine ⟨h.1, ?_⟩
  rcases h.2 with h | ⟨g, cap, cur, h1, h2, h3⟩
  · exact .inl h
  · exact .inr ⟨g, cap, cur, h1, Nat.zero_le _, h3⟩
theorem U32At.cell {w : World} {v : Value} {l : List Int} {n : Nat} (h : U32At w v l) (hn : l.length = n) {i : Nat} (hi : i < n) :
    ∃ g cap, v = .slice (some ⟨g, 0, none⟩) n cap ∧ g < w.heap.size ∧ n ≤ 9223372036854775807 ∧ w.cell? ⟨g, i, none⟩ = some (.int .u32 (l.getD i 0)) := by
  subst hn
  obtain ⟨g, cap, e, h1, h2⟩ := h.cells hi
  refine ⟨g, cap, e, h1, ?_, ?_⟩
  · obtain ⟨hl, ⟨_, h0⟩ | ⟨g', cap', cur, _, _, _, hc, hm, _⟩⟩ := h
    · omega
    · unfold maxLen at hm; omega
  · rw [h2 i hi, List.getD_eq_getElem?_getD, List.getElem?_eq_getElem hi, Option.getD_some]
set_option maxHeartbeats 4000000 in
set_option maxRecDepth 100000 in
theorem same_masks {w : World} {v1 v2 : Value} {l1 l2 : List Int} (h1 : U32At w v1 l1) (h2 : U32At w v2 l2) :
    Calls Try.prog 28 #[v1, v2] w fun e w' => e = .returned (.bool (decide (l1 = l2))) ∧ Below w.heap.size w w' := by
  obtain ⟨n, hn⟩ : ∃ n, l1.length = n := ⟨_, rfl⟩
  have e1 := fun w' : World => own_len109 (w' := w') h1
  have e2 := fun w' : World => own_len109 (w' := w') h2
  rw [hn] at e1
  have H1 := Lib.hid (And.intro h1 hn)
  by_cases hl : l2.length = n
  · rw [hl] at e2
    have H2 := Lib.hid (And.intro h2 hl)
    clear hl hn h1 h2
    go_enter Try.func28, Try.ntmps28
    go_wp2_with fail
    go_loopw [5] (fun i wr => ∃ k : Nat, i = .int .i64 (k : Int) ∧ k ≤ n ∧ Hid (l1.take k = l2.take k) ∧ Below w.heap.size w wr) (fun i _ => match i with | .int _ m => n - m.toNat | _ => 0)
    case atStart => exact ⟨0, rfl, Nat.zero_le _, Lib.hid rfl, Below.refl _ _⟩
    case round =>
      obtain ⟨k, rfl, hk, htk, hbl⟩ := hrel
      by_cases hlt : k < n
      · obtain ⟨g1, cap1, rfl, hg1, hmx, hc1⟩ := H1.out.1.cell H1.out.2 hlt
        obtain ⟨g2, cap2, rfl, hg2, _, hc2⟩ := H2.out.1.cell H2.out.2 hlt
        have d1 := (hbl.cell (p := ⟨g1, k, none⟩) hg1).trans hc1
        have d2 := (hbl.cell (p := ⟨g2, k, none⟩) hg2).trans hc2
        have hlt' : decide ((k : Int) < (n : Int)) = true := decide_eq_true (by omega)
        have hi0 : (0 : Int) ≤ (k : Int) := by omega
        have hi1 : (k : Int) < (n : Int) := by omega
        have hiff := Lib.hid (take_succ_eq H1.out.2 H2.out.2 hlt htk.out)
        have hbl1 : Below w.heap.size w wr.drew := below_drew' hbl
        have c1 : wr.drew.cell? ⟨g1, k, none⟩ = some (.int .u32 (l1.getD k 0)) := d1
        have c2 : wr.drew.cell? ⟨g2, k, none⟩ = some (.int .u32 (l2.getD k 0)) := d2
        clear hc1 hc2 d1 d2
        generalize l1.getD k 0 = a at *
        generalize l2.getD k 0 = b at *
        by_cases hab : a = b
        · subst hab
          go_wp2_with fail
          refine wp_region_still_lit (by kernel_rfl) (by kernel_rfl) ?_
          change wpStill _ _ wr.drew _ _ _
          repeat still_step
          refine wpStill_nil ?_
          change Exit.then _ _ _ _ wr.drew
          generalize wr.drew = w1 at *
          go_wp2_with fail
          refine ⟨⟨k + 1, congrArg (Value.int .i64) (by omega), by omega, Lib.hid (hiff.out.2 (by trivial)), hbl1⟩, ?_⟩
          show n - ((k : Int) + 1).toNat < n - (k : Int).toNat
          omega
        · have hab' : (a == b) = false := by rw [beq_eq_false_iff_ne]; exact hab
          have hne := Lib.hid (decide_eq_false (fun e : l1 = l2 => hab (hiff.out.1 (by rw [e]))))
          go_wp2_with fail
          refine wp_region_still_lit (by kernel_rfl) (by kernel_rfl) ?_
          change wpStill _ _ wr.drew _ _ _
          repeat still_step
          refine wpStill_nil ?_
          change Exit.then _ _ _ _ wr.drew
          generalize wr.drew = w1 at *
          go_wp2_with fail
          rw [hne.out]
          simp [bodyPost, results, Try.results28, go_sem]
          exact hbl1
      · have hlt' : decide ((k : Int) < (n : Int)) = false := decide_eq_false (by omega)
        have he := Lib.hid (decide_eq_true (show l1 = l2 by have := htk.out; have := H1.out.2; have := H2.out.2; rw [List.take_of_length_le (by omega), List.take_of_length_le (by omega)] at htk; exact htk.out))
        go_wp2_with fail
        rw [he.out]
        simp [bodyPost, results, Try.results28, go_sem]
        exact hbl
  · have hl' : ((n : Int) == (l2.length : Int)) = false := by rw [beq_eq_false_iff_ne]; omega
    go_enter Try.func28, Try.ntmps28
    go_wp2_with fail
    have : decide (l1 = l2) = false := decide_eq_false fun e => hl (by rw [← e]; exact hn)
    rw [this]
    simp [bodyPost, results, Try.results28, go_sem]
    exact Below.refl _ _
theorem U32At.ofMasks {base : Nat} {w : World} {v : Value} {l : List Nat} (h : w.ownsRow base 33 1 v l.length (l.map encU)) : U32At w v (l.map fun m : Nat => (m : Int)) := by
  refine U32At.of (base := base) ?_
  rw [List.length_map, List.map_map]
  exact h
end Go.Proofs.Ytiomojlcnemnhaa

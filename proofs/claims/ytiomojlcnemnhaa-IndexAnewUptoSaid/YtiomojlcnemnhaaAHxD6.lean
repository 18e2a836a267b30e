import Derived.Test.YtiomojlcnemnhaaAHxD5
namespace Go.Proofs.Ytiomojlcnemnhaa
open Go.Fx Go.RowKit
def two (a b : Int) : List Int := a :: b :: List.replicate 22 0
theorem two_ok {a b : Int} (ha : (Lit.int .i32 a).wf = true) (hb : (Lit.int .i32 b).wf = true) : RowOk (two a b) := by
  refine ⟨rfl, fun n hn => ?_⟩
  simp only [two, List.mem_cons, List.mem_replicate] at hn
  rcases hn with rfl | rfl | ⟨_, rfl⟩
  · exact ha
  · exact hb
  · rfl
theorem own_step {w w1 w2 : World} {R R2 : Nat → Prop} (hb : Below w.heap.size w w1) (hr : ∀ k, R k → w.heap.size ≤ k) (hs : Step w1 R w2 R2) : Below w.heap.size w w2 ∧ ∀ k, R2 k → w.heap.size ≤ k := by
  have := hb.size
  exact ⟨KeptBut.below ((KeptBut.of_below (M := fun _ => False) hb).trans hs.1 fun j hj => .inl (hr j hj)), fun j hj => (hs.2 j hj).elim (hr j) fun h => by omega⟩
theorem ints_made {w : World} {N : Nat} {l : List Int} (h : w.heap[N]? = some (.cells (l.map intV).toArray 3 (0, 0))) (hl : l.length ≤ maxLen) : IntsAt w (.slice (some ⟨N, 0, none⟩) l.length l.length) l := by
  refine ⟨by simp, .inr ⟨N, l.length, _, rfl, Nat.zero_le _, h, Nat.le_refl _, hl, by simp, by simp [List.take_of_length_le]⟩⟩
set_option maxHeartbeats 4000000 in
set_option maxRecDepth 100000 in
theorem lives_calls {w : World} : Calls Try.prog 12 #[] w fun e w' => e = .returned (.bool true) ∧ Below w.heap.size w w' := by
  have ok : ∀ a b : Fin 5, RowOk (two a.val b.val) := fun a b => two_ok ((by decide +kernel : ∀ a : Fin 5, (Lit.int .i32 a.val).wf = true) a) ((by decide +kernel : ∀ a : Fin 5, (Lit.int .i32 a.val).wf = true) b)
  have q1 : addRow [] (two 1 2) = [two 1 2] := by decide +kernel
  have q2 : addRow [two 1 2] (two 4 2) = [two 1 2, two 4 2] := by decide +kernel
  have q3 : addRow [two 1 2, two 4 2] (two 1 3) = [two 1 2, two 4 2, two 1 3] := by decide +kernel
  have q4 : (idsOf 2 (nums 0 [two 1 2, two 4 2]) (keyRow 2 (two 0 2))).length = 2 := by decide +kernel
  have q5 : idsOf 1 (nums 0 [two 1 2, two 4 2, two 1 3]) (keyRow 1 (two 1 0)) = [0, 2] := by decide +kernel
  go_enter Try.func12, Try.ntmps12
  go_wp2_with fail
  refine (b_new (arity := 2) (by decide)).mono ?_
  rintro e w1 ⟨b, R, rfl, hR, hb1, hR1⟩
  have HS := Lib.hid (And.intro hR (And.intro hb1 hR1))
  clear hR hb1 hR1
  go_wp2_with fail
  refine (b_add (x := two 1 2) HS.out.1 (ok 1 2) (by decide +kernel) (by decide)).mono ?_
  rintro e w2 ⟨t, R2, rfl, hR, hst⟩
  rw [q1] at hR
  have HS2 := Lib.hid (And.intro hR (own_step HS.out.2.1 HS.out.2.2 hst))
  clear hR hst HS
  go_wp2_with fail
  refine (b_add (x := two 4 2) HS2.out.1 (ok 4 2) (by decide +kernel) (by decide)).mono ?_
  rintro e w3 ⟨t, R3, rfl, hR, hst⟩
  rw [q2] at hR
  have HS3 := Lib.hid (And.intro hR (own_step HS2.out.2.1 HS2.out.2.2 hst))
  clear hR hst HS2
  go_wp2_with fail
  refine (b_open HS3.out.1).mono ?_
  rintro e w4 ⟨bk, F, rfl, hB, hb4, hF4⟩
  have HS4 : Hid (Rel w4 R3 b 2 0 [two 1 2, two 4 2] ∧ Below w.heap.size w w4 ∧ (∀ k, R3 k → w.heap.size ≤ k) ∧ Bk w4 F bk b [] ∧ (∀ k, F k → ¬ R3 k) ∧ ∀ k, F k → w.heap.size ≤ k) := Lib.hid ⟨HS3.out.1.below hb4, HS3.out.2.1.trans (hb4.mono HS3.out.2.1.size), HS3.out.2.2, hB, fun k hf hr => by have := HS3.out.1.lt hr; have := hF4 k hf; omega, fun k hf => Nat.le_trans HS3.out.2.1.size (hF4 k hf)⟩
  clear hB hb4 hF4 HS3
  go_wp2_with fail
  refine (b_count (m := 2) (y := two 0 2) HS4.out.2.2.2.1 HS4.out.1 HS4.out.2.2.2.2.1 (Fine.nil _ _) (by unfold MskOk; decide) (by decide) (by decide) (ok 0 2)).mono ?_
  rintro e w5 ⟨F5, rfl, hB, hst⟩
  have hr5 := hst.rel HS4.out.1 HS4.out.2.2.2.2.1
  have ho5 := own_step HS4.out.2.1 HS4.out.2.2.2.2.2 hst
  have HS5 := Lib.hid (And.intro hr5.1 (And.intro hr5.2 (And.intro hB (And.intro ho5.1 (And.intro ho5.2 HS4.out.2.2.1)))))
  clear hB hst hr5 ho5 HS4
  rw [q4]
  go_wp2_with fail
  refine (b_add (x := two 1 3) HS5.out.1 (ok 1 3) (by decide +kernel) (by decide)).mono ?_
  rintro e w6 ⟨t, R6, rfl, hR, hst⟩
  rw [q3] at hR
  have hb6 := hst.bk HS5.out.2.2.1 HS5.out.2.1
  have ho6 := own_step HS5.out.2.2.2.1 HS5.out.2.2.2.2.2 hst
  have HS6 := Lib.hid (And.intro hR (And.intro hb6.1 (And.intro hb6.2 (And.intro ho6.1 (And.intro ho6.2 HS5.out.2.2.2.2.1)))))
  clear hR hst hb6 ho6 HS5
  go_wp2_with fail
  refine (b_look (m := 1) (y := two 1 0) HS6.out.2.1 HS6.out.1 HS6.out.2.2.1 (((Fine.nil _ _).ask 2).add _) (by unfold MskOk; decide) (by decide) (by decide) (ok 1 0)).mono ?_
  rintro e w7 ⟨v, F7, rfl, hB, hst, hown, hvF⟩
  rw [q5] at hown
  have hv7 : IntsAt w7 v [0, 2] := IntsAt.of hown
  have ho7 := own_step HS6.out.2.2.2.1 HS6.out.2.2.2.2.2 hst
  have HS7 := Lib.hid (And.intro hv7 ho7.1)
  clear hB hst hown hvF hv7 ho7 HS6
  go_wp2_with fail
  have hnew := heap_alloc_new w7 (Obj.cells #[.int .i64 0, .int .i64 2] 3)
  have hb8 := (Below.refl w7.heap.size w7).alloc (Nat.le_refl _) (Obj.cells #[.int .i64 0, .int .i64 2] 3)
  have hi1 : IntsAt (w7.alloc (Obj.cells #[.int .i64 0, .int .i64 2] 3)) v [0, 2] := HS7.out.1.frame fun k hk => hb8.block k (own_lt HS7.out.1 hk)
  have hi2 : IntsAt (w7.alloc (Obj.cells #[.int .i64 0, .int .i64 2] 3)) (.slice (some ⟨w7.heap.size, 0, none⟩) 2 2) [0, 2] := ints_made (l := [0, 2]) hnew (by decide)
  have hbz := HS7.out.2.trans (hb8.mono HS7.out.2.size)
  generalize w7.alloc (Obj.cells #[.int .i64 0, .int .i64 2] 3) = w8 at *
  refine (same_calls hi1 hi2).mono ?_
  rintro e w9 ⟨rfl, hb9⟩
  have HZ := Lib.hid (hbz.trans (hb9.mono hbz.size))
  have hd : decide (([0, 2] : List Int) = [0, 2]) = true := rfl
  rw [hd]
  clear hnew hb8 hi1 hi2 hbz hb9
  go_wp2_with fail
  exact bodyPost_ret (v := .bool true) (by simp [results, Try.results12, go_sem]) rfl ⟨rfl, HZ.out⟩
end Go.Proofs.Ytiomojlcnemnhaa

import Derived.Test.YtiomojlcnemnhaaAHxD6
import Derived.Shelf.Spec.SlicesGrow
namespace Go.Proofs.Ytiomojlcnemnhaa
open Go.Fx Go.RowKit Go.Shelf
def growLays_ren : Go.Shelf.Ren := ⟨fun | 4 => 129 | n => n, fun | 22 => 31 | 25 => 43 | n => n, fun | n => n⟩
theorem growLays : Go.Proofs.Lays8.n4 Try.prog growLays_ren := {
  mixed := by kernel_rfl
  f4 := ⟨Try.f129.name, by decide, Try.func129.trans (congrArg some (by kernel_rfl))⟩
  t0 := Try.underlying0
  a0 := Try.isAgg0
  z0 := Try.sizeOf0
  v0 := Try.zeroValue0
  t3 := Try.underlying3
  a3 := Try.isAgg3
  z3 := Try.sizeOf3
  v3 := Try.zeroValue3
  t4 := Try.underlying4
  a4 := Try.isAgg4
  z4 := Try.sizeOf4
  v4 := Try.zeroValue4
  t9 := Try.underlying9
  a9 := Try.isAgg9
  z9 := Try.sizeOf9
  v9 := Try.zeroValue9
  t20 := Try.underlying20
  a20 := Try.isAgg20
  z20 := Try.sizeOf20
  v20 := Try.zeroValue20
  t22 := Try.underlying31
  a22 := Try.isAgg31
  z22 := Try.sizeOf31
  v22 := Try.zeroValue31 }
theorem Addr.add_eq' (g o j : Nat) : (⟨g, o, none⟩ : Addr).add j = ⟨g, o + j, none⟩ := by
  simp [Addr.add]
theorem zeroCells_size (z : Array Value) (n : Nat) : (Builtin.zeroCells z n).size = n * z.size := by
  unfold Builtin.zeroCells
  simp
theorem grow_rows {w : World} {n : Nat} (hn : n ≤ 1048576) : Calls Try.prog 129 #[.slice none 0 0, .int .i64 (n : Int)] w fun e w' => ∃ v, e = .returned v ∧ w'.ownsRow w.heap.size 43 24 v 0 [] ∧ Below w.heap.size w w' := by
  by_cases h0 : n = 0
  · subst h0
    refine (Any8.slices_Grow_room growLays none 0 0 0 w (by omega) (by omega) (by omega) (by omega)).mono ?_
    rintro e w' ⟨rfl, rfl⟩
    exact ⟨_, rfl, World.ownsRow_nil _ _ _ _, Below.refl _ _⟩
  · obtain ⟨i0, hi, hz0, hz1, hz2⟩ := info_parts infoR
    refine (Any8.slices_Grow_grow growLays i0 (rowV zRow) hi hz0 (by rw [hz1]; decide) none 0 0 n [] w (by omega) (by omega) (by rw [hz2]; omega) (by omega) (by simp) (fun _ => rfl) (fun a h => by cases h)).mono ?_
    rintro e w' ⟨rfl, rfl⟩
    have hg := grownCap_ge w (0 + n) 0 43
    have hm := grownCap_le_maxLen w (0 + n) 0 43 (by unfold maxLen; omega)
    refine ⟨_, rfl, ⟨rfl, .inr ⟨w.heap.size, _, _, rfl, Nat.le_refl _, heap_alloc_new w.drew _, Nat.zero_le _, hm, ?_, by simp⟩⟩, ?_⟩
    · have hzc : (rowV zRow).cells.size = 24 := by rfl
      rw [Array.size_append, Array.size_append, zeroCells_size, zeroCells_size, hzc]
      have : (List.toArray ([] : List Value)).size = 0 := rfl
      rw [this]
      show 0 + (0 + n - 0) * 24 + (grownCap w (0 + n) 0 43 - (0 + n)) * 24 = grownCap w (0 + n) 0 43 * 24
      omega
    · exact (below_drew' (Below.refl w.heap.size w)).alloc (Nat.le_refl _) _
set_option maxRecDepth 100000 in
set_option maxHeartbeats 2000000 in
theorem concat_rows {w : World} {N g i k o c1 c2 : Nat} {xs ys : List Value} (hN : w.heap[N]? = some (.cells #[.slice (some ⟨g, 0, none⟩) i c1, .slice (some ⟨g, o, none⟩) k c2] 31 (0, 0))) (hik : i + k ≤ 1048576)
    (hxl : xs.length = i * 24) (hyl : ys.length = k * 24) (hx : ∀ j u, xs[j]? = some u → w.cell? ⟨g, 0 + j, none⟩ = some u) (hy : ∀ j u, ys[j]? = some u → w.cell? ⟨g, o + j, none⟩ = some u) (hx1 : ∀ u ∈ xs, u.oneCell' = true) (hy1 : ∀ u ∈ ys, u.oneCell' = true) :
    Calls Try.prog 103 #[.slice (some ⟨N, 0, none⟩) 2 2] w fun e w' => ∃ v, e = .returned v ∧ w'.ownsRow w.heap.size 43 24 v (i + k) (xs ++ ys) ∧ Below w.heap.size w w' := by
  have a0 : w.cell? ⟨N, 0, none⟩ = some (.slice (some ⟨g, 0, none⟩) i c1) := by simp [World.cell?, hN]
  have a1 : w.cell? ⟨N, 1, none⟩ = some (.slice (some ⟨g, o, none⟩) k c2) := by simp [World.cell?, hN]
  have e1 : IntKind.i64.wrap (i : Int) = i := by rw [IntKind.wrap_i64]; omega
  have e2 : IntKind.i64.wrap ((i : Int) + (k : Int)) = (i : Int) + (k : Int) := by rw [IntKind.wrap_i64]; omega
  have d1 : decide ((i : Int) < 0) = false := decide_eq_false (by omega)
  have d2 : decide ((i : Int) + (k : Int) < 0) = false := decide_eq_false (by omega)
  obtain ⟨i0, hi, hz0, hz1, hz2⟩ := info_parts infoR
  go_enter Try.func103, Try.ntmps103
  go_wp2_with fail
  refine wp_loop_rounds 3 ?_
  rw [rounds_succ]
  go_wp2_with fail
  rw [rounds_succ]
  go_wp2_with fail
  rw [rounds_succ]
  go_wp2_with fail
  have hgr := grow_rows (w := w) hik
  rw [Int.natCast_add] at hgr
  refine hgr.mono ?_
  rintro e w2 ⟨v2, rfl, hown2, hb2⟩
  have a0' : w2.cell? ⟨N, 0, none⟩ = some (.slice (some ⟨g, 0, none⟩) i c1) := (hb2.cell (p := ⟨N, 0, none⟩) (World.block_lt_of_cell? w _ a0)).trans a0
  have a1' : w2.cell? ⟨N, 1, none⟩ = some (.slice (some ⟨g, o, none⟩) k c2) := (hb2.cell (p := ⟨N, 1, none⟩) (World.block_lt_of_cell? w _ a1)).trans a1
  have hx2 : ∀ j u, xs[j]? = some u → w2.cell? ⟨g, 0 + j, none⟩ = some u := fun j u hj => (hb2.cell (p := ⟨g, 0 + j, none⟩) (World.block_lt_of_cell? w _ (hx j u hj))).trans (hx j u hj)
  have hbase : w.heap.size ≤ w2.heap.size := hb2.size
  have HX := Lib.hid (And.intro hx (And.intro hy (And.intro hN hgr)))
  clear a0 a1 hx hy hN hgr e1 e2 d1 d2
  go_wp2_with fail
  refine wp_loop_rounds 3 ?_
  rw [rounds_succ]
  go_wp2_with (at_builtin; refine stop_at ?_)
  unfold Stop
  refine wpList_append_own_at _ rfl _ _ 31 rfl w.heap.size 43 i0 (rowV zRow) 24 96 Try.underlying31 hi hz0 hz1 hz2 rfl (by decide) v2 0 [] rfl hown2 ⟨g, 0, none⟩ i c1 xs rfl hxl (fun j u h => by rw [Addr.add_eq']; exact hx2 j u h) hx1 (by unfold maxLen; omega) (by omega) hbase ?_
  intro v3 w3 hown3 hg3 hnil3 hat3
  have hb3 : Below w.heap.size w w3 := hb2.grown hg3 hbase fun b hb => by
    rcases hown2.2 with ⟨rfl, _⟩ | ⟨g', _, _, rfl, h, _⟩
    · cases hb
    · simp only [Value.ownBlock, Option.some.injEq] at hb; omega
  have a1'' : w3.cell? ⟨N, 1, none⟩ = some (.slice (some ⟨g, o, none⟩) k c2) := by
    have h := HX.out.2.2.1
    rw [hb3.cell (p := ⟨N, 1, none⟩) (Array.getElem?_eq_some_iff.1 h).1]; simp [World.cell?, h]
  have hy3 : ∀ j u, ys[j]? = some u → w3.cell? ⟨g, o + j, none⟩ = some u := fun j u hj => (hb3.cell (p := ⟨g, o + j, none⟩) (World.block_lt_of_cell? w _ (HX.out.2.1 j u hj))).trans (HX.out.2.1 j u hj)
  rw [List.nil_append, Nat.zero_add] at hown3
  clear a0' a1' hx2 hg3 hnil3 hat3 hown2
  go_wp2_with fail
  rw [rounds_succ]
  go_wp2_with (at_builtin; refine stop_at ?_)
  unfold Stop
  refine wpList_append_own_at _ rfl _ _ 31 rfl w.heap.size 43 i0 (rowV zRow) 24 96 Try.underlying31 hi hz0 hz1 hz2 rfl (by decide) v3 i xs rfl hown3 ⟨g, o, none⟩ k c2 ys rfl hyl (fun j u h => by rw [Addr.add_eq']; exact hy3 j u h) hy1 (by unfold maxLen; omega) (by omega) hb3.size ?_
  intro v4 w4 hown4 hg4 hnil4 hat4
  have hb4 : Below w.heap.size w w4 := hb3.grown hg4 hb3.size fun b hb => by
    rcases hown3.2 with ⟨rfl, _⟩ | ⟨g', _, _, rfl, h, _⟩
    · cases hb
    · simp only [Value.ownBlock, Option.some.injEq] at hb; omega
  clear a1'' hy3 hg4 hnil4 hat4 hown3 hb3
  go_wp2_with fail
  rw [rounds_succ]
  go_wp2_with fail
  exact bodyPost_ret (v := v4) (by simp [results, Try.results103, go_sem]) rfl ⟨v4, rfl, hown4, hb4⟩
end Go.Proofs.Ytiomojlcnemnhaa

import Derived.Test.YtckhkfchgcdajaaGreatDoorYJxS3
namespace Go.Proofs.YtckhkfchgcdajaaGreatDoor
open Go.Fx Go.RowKit Go.Maps Go.Sort
attribute [local go_sem] Oper.semAt_some
def keepCells (n : Nat) (vI vM : Value) : List Value := .int .i64 (n : Int) :: (List.replicate 13 (.slice none 0 0) ++ vI :: (List.replicate 7 (.slice none 0 0) ++ vM :: List.replicate 9 (.slice none 0 0)))
def heldV : List (Value × Nat) → List Value
  | [] => []
  | p :: l => p.1 :: .slice none 0 0 :: .int .i64 (p.2 : Int) :: heldV l
theorem heldV_snoc (p : Value × Nat) : ∀ l, heldV (l ++ [p]) = heldV l ++ [p.1, .slice none 0 0, .int .i64 (p.2 : Int)]
  | [] => rfl
  | q :: l => by simp only [List.cons_append, heldV, heldV_snoc p l]
theorem fill_cells {s : Nat} {x : List Value} (hx : x.length = s) {zs : Array Value} (hz : zs.size = s) : Instr.fill (fun i => some (i * s, s)) zs [(0, .agg x.toArray)] = some x.toArray := by
  have hc : (Value.agg x.toArray).cells = x.toArray := rfl
  have hov : (x.toArray.zipIdx.foldl (fun cs (y : Value × Nat) => cs.setIfInBounds (0 * s + y.2) y.1) zs).toList = x := by
    have := foldl_over x 0 0 zs (by simp [hx, hz])
    rw [← Array.foldl_toList, Array.toList_zipIdx]
    have h2 : over zs.toList 0 x = x := by
      unfold over
      rw [List.drop_eq_nil_of_le (by simp [hx, hz])]
      simp
    rw [Nat.add_zero, h2] at this
    simpa using this
  simp only [Instr.fill, hc]
  rw [if_neg (by simp [hx, hz])]
  congr 1
  apply Array.toList_inj.1
  rw [hov]
theorem info259 : (Tryz.prog.info? 202).map (fun i => (i.zero, i.size, i.bytes)) = some (some (.agg #[.slice none 0 0, .slice none 0 0, .int .i64 0]), 3, 56) := by kernel_rfl
theorem info261 : (Tryz.prog.info? 245).map (fun i => (i.zero, i.size, i.bytes)) = some (some (.agg #[.slice none 0 0, .slice none 0 0, .int .i64 0]), 3, 56) := by kernel_rfl
theorem keep_endI {w w2 : World} {kb n : Nat} {vI vM : Value} {B : Nat} {L : List (Value × Nat)} {l : Value} (hk2 : KeptBut (fun c => c = kb) w w2) (hkI : vI.ownBlock ≠ some kb) (s2 : w2.heap[kb]? = some (.cells (keepCells (n + 1) vI vM).toArray 55 (0, 0))) (hI2 : w2.ownsRow B 202 3 vI L.length (heldV L)) :
    ∀ (w3 : World) (g' cap' : Nat), (w3.setCell ⟨kb, 14, none⟩ (.slice (some ⟨g', 0, none⟩) (L.length + 1) cap')).heap[kb]? = some (.cells ((Value.int .i64 ((n : Int) + 1) :: List.replicate 13 (.slice none 0 0)) ++ Value.slice (some ⟨g', 0, none⟩) (L.length + 1) cap' :: (List.replicate 7 (.slice none 0 0) ++ vM :: List.replicate 9 (.slice none 0 0))).toArray 55 (0, 0)) → KeptBut (fun c => c = kb) w3 (w3.setCell ⟨kb, 14, none⟩ (.slice (some ⟨g', 0, none⟩) (L.length + 1) cap')) →
      w3.ownsRow B 202 3 (.slice (some ⟨g', 0, none⟩) (L.length + 1) cap') (L.length + 1) (heldV L ++ [l, .slice none 0 0, .int .i64 ((n : Int) + 1)]) → (w2.alloc (.cells #[l, .slice none 0 0, .int .i64 ((n : Int) + 1)] 202)).grownBy w3 vI.ownBlock → (vI.ownBlock = some g' ∨ g' = w2.heap.size + 1) →
      ∃ vI', Ending.returned (.tuple #[]) = .returned (.tuple #[]) ∧ (w3.setCell ⟨kb, 14, none⟩ (.slice (some ⟨g', 0, none⟩) (L.length + 1) cap')).heap[kb]? = some (.cells (keepCells (n + 1) vI' vM).toArray 55 (0, 0)) ∧ (w3.setCell ⟨kb, 14, none⟩ (.slice (some ⟨g', 0, none⟩) (L.length + 1) cap')).ownsRow B 202 3 vI' (L ++ [(l, n + 1)]).length (heldV (L ++ [(l, n + 1)])) ∧
        KeptBut (fun k => k = kb ∨ vI.ownBlock = some k) w (w3.setCell ⟨kb, 14, none⟩ (.slice (some ⟨g', 0, none⟩) (L.length + 1) cap')) ∧ (vI'.ownBlock = vI.ownBlock ∨ ∃ g, vI'.ownBlock = some g ∧ w.heap.size ≤ g) := by
  intro w3 g' cap' s5 s6 hown3 hg3 hat3
  have hs3 := hg3.size
  rw [alloc_size] at hs3
  have hkb2 := (Array.getElem?_eq_some_iff.1 s2).1
  have hbw : ∀ k, k < w2.heap.size → vI.ownBlock ≠ some k → w3.heap[k]? = w2.heap[k]? := fun k h1 h2 => (hg3.block k (by rw [alloc_size]; omega) fun e => h2 e.symm).trans (((Below.refl _ w2).alloc (Nat.le_refl _) _).block k h1)
  refine ⟨_, rfl, s5, ?_, ?_, ?_⟩
  · rw [List.length_append, List.length_singleton, heldV_snoc]
    refine ownsRow_of_block hown3 fun k hk => s6.block k (own_lt hown3 hk) fun e => ?_
    simp only [Value.ownBlock, Option.some.injEq] at hk
    subst e hk
    rcases hat3 with h | h
    · exact hkI h
    · omega
  · have hk3 : KeptBut (fun k => k = kb ∨ vI.ownBlock = some k) w2 w3 := ⟨hg3.os, hg3.tape, hg3.output, by omega, fun k h1 h2 => hbw k h1 fun h => h2 (.inr h)⟩
    exact ((hk2.mono fun k h => .inl h).trans hk3 fun k h => .inr h).trans (s6.mono fun k h => .inl h) fun k h => .inr h
  · rcases hat3 with h | h
    · exact .inl h.symm
    · refine .inr ⟨g', rfl, ?_⟩
      have := hk2.size
      omega
set_option maxRecDepth 100000 in
set_option maxHeartbeats 4000000 in
theorem keepInt_calls {w : World} {kb n : Nat} {vI vM : Value} {B : Nat} {L : List (Value × Nat)} {l : Value} (hk : w.heap[kb]? = some (.cells (keepCells n vI vM).toArray 55 (0, 0))) (hI : w.ownsRow B 202 3 vI L.length (heldV L)) (hB : B ≤ w.heap.size)
    (hkI : vI.ownBlock ≠ some kb) (hn : n < 4611686018427387904) (hL : L.length ≤ 4194304) (hl : ∃ a m c, l = .slice a m c) :
    Calls Tryz.prog 171 #[.pointer (some ⟨kb, 0, none⟩), l] w fun e w' => ∃ vI', e = .returned (.tuple #[]) ∧ w'.heap[kb]? = some (.cells (keepCells (n + 1) vI' vM).toArray 55 (0, 0)) ∧ w'.ownsRow B 202 3 vI' (L ++ [(l, n + 1)]).length (heldV (L ++ [(l, n + 1)])) ∧
      KeptBut (fun k => k = kb ∨ vI.ownBlock = some k) w w' ∧ (vI'.ownBlock = vI.ownBlock ∨ ∃ g, vI'.ownBlock = some g ∧ w.heap.size ≤ g) := by
  obtain ⟨la, lm, lc, rfl⟩ := hl
  have c0 : w.cell? ⟨kb, 0, none⟩ = some (.int .i64 (n : Int)) := by simp [World.cell?, hk, keepCells]
  have f0 : w.frozen? ⟨kb, 0, none⟩ = false := by simp [World.frozen?, hk]
  have hadd : IntKind.i64.wrap ((n : Int) + 1) = (n : Int) + 1 := by rw [IntKind.wrap_i64]; omega
  obtain ⟨i0, hi0, hz0, hz1, hz2⟩ := info_parts info259
  go_enter Tryz.func171, Tryz.ntmps171
  go_wp2_with fail
  obtain ⟨s1, _, _, s4⟩ := cells_set (n := 0) (pre := []) (post := (keepCells n vI vM).tail) (v := .int .i64 ((n : Int) + 1)) rfl (show w.heap[kb]? = some (.cells (([] : List Value) ++ Value.int .i64 (n : Int) :: (keepCells n vI vM).tail).toArray 55 (0, 0)) from hk)
  replace s1 : (w.setCell ⟨kb, 0, none⟩ (.int .i64 ((n : Int) + 1))).heap[kb]? = some (.cells (keepCells (n + 1) vI vM).toArray 55 (0, 0)) := s1
  have hI1 : (w.setCell ⟨kb, 0, none⟩ (.int .i64 ((n : Int) + 1))).ownsRow B 202 3 vI L.length (heldV L) := ownsRow_of_block hI fun k hk2 => s4.block k (own_lt hI hk2) fun e => hkI (e ▸ hk2)
  have hs4 := s4.size
  generalize w.setCell ⟨kb, 0, none⟩ (.int .i64 ((n : Int) + 1)) = w1 at *
  have hbs : ∀ W : World, (Instr.buildSlice 36 1 #[(0, .agg #[.slice la lm lc, .slice none 0 0, .int .i64 ((n : Int) + 1)])]).run Tryz.prog W = .ok (.slice (some ⟨W.heap.size, 0, none⟩) 1 1) (W.alloc (.cells #[.slice la lm lc, .slice none 0 0, .int .i64 ((n : Int) + 1)] 202)) := fun W =>
    run_buildSlice W 36 202 1 _ #[.slice la lm lc, .slice none 0 0, .int .i64 ((n : Int) + 1)] i0 (.agg #[.slice none 0 0, .slice none 0 0, .int .i64 0]) Tryz.underlying36 hi0 hz0 (by rw [hz1]; decide) (by rw [hz1]; decide) (by rw [hz1]; exact fill_cells (x := [.slice la lm lc, .slice none 0 0, .int .i64 ((n : Int) + 1)]) (s := 3) rfl (by simp))
  have hk2 : KeptBut (fun c => c = kb) w w1.drew := ⟨s4.os, s4.tape, s4.output, s4.size, s4.block⟩
  have hS0 : (fun w' : World => w'.heap[kb]? = some (.cells (keepCells (n + 1) vI vM).toArray 55 (0, 0))) w1.drew := s1
  have hI2 : w1.drew.ownsRow B 202 3 vI L.length (heldV L) := hI1
  have s2 : w1.drew.heap[kb]? = some (.cells (keepCells (n + 1) vI vM).toArray 55 (0, 0)) := s1
  have hB2 : B ≤ w1.drew.heap.size := Nat.le_trans hB hs4
  have d0 : w1.drew.cell? ⟨kb, 0, none⟩ = some (.int .i64 ((n : Int) + 1)) := by simp [World.cell?, s2, keepCells]
  have d1 : w1.drew.cell? ⟨kb, 14, none⟩ = some vI := by simp [World.cell?, s2, keepCells]
  have d1a : (w1.drew.alloc (.cells #[.slice la lm lc, .slice none 0 0, .int .i64 ((n : Int) + 1)] 202)).cell? ⟨kb, 14, none⟩ = some vI := (((Below.refl _ w1.drew).alloc (Nat.le_refl _) _).cell (p := ⟨kb, 14, none⟩) (World.block_lt_of_cell? _ _ d1)).trans d1
  have H := Lib.hid (And.intro hI2 hB2)
  have HH := Lib.hid (And.intro hi0 (And.intro hz0 (And.intro hz1 hz2)))
  have hkb2 := (Array.getElem?_eq_some_iff.1 s2).1
  have Hs3 : Hid (∀ w3, (w1.drew.alloc (.cells #[.slice la lm lc, .slice none 0 0, .int .i64 ((n : Int) + 1)] 202)).grownBy w3 vI.ownBlock → w3.heap[kb]? = some (.cells ((Value.int .i64 ((n : Int) + 1) :: List.replicate 13 (.slice none 0 0)) ++ vI :: (List.replicate 7 (.slice none 0 0) ++ vM :: List.replicate 9 (.slice none 0 0))).toArray 55 (0, 0))) := Lib.hid fun w3 hg3 =>
    ((hg3.block kb (by rw [alloc_size]; omega) fun e => hkI e.symm).trans (((Below.refl _ w1.drew).alloc (Nat.le_refl _) _).block kb hkb2)).trans s2
  have Hend := Lib.hid (keep_endI (l := .slice la lm lc) (w2 := w1.drew) hk2 hkI s2 hI2)
  clear hk hI c0 f0 s1 s4 hI1 hs4 hadd hI2 hB2 hk2 s2 hkb2 hkI hi0 hz0 hz1 hz2 hB
  refine wp_region_any (by kernel_rfl) ?_
  change wpAny _ _ _ _ _ _ _ (World.drew _)
  generalize w1.drew = w2 at *
  refine wpAny_take (i := 0) (v := ?_) rfl (by kernel_rfl) (by kernel_rfl) (by kernel_rfl) (fun _ _ _ h => h) (Or.inl ⟨by rfl, ?_⟩) ?_
  rotate_left
  · intro w; go_simp; try with_reducible rfl
  refine wpAny_take (i := 1) (v := ?_) rfl (by kernel_rfl) (by kernel_rfl) (by kernel_rfl) (fun _ _ _ h => h) (Or.inl ⟨by rfl, ?_⟩) ?_
  rotate_left
  · intro w; go_simp; try with_reducible rfl
  refine wpAny_take (i := 2) (v := ?_) rfl (by kernel_rfl) (by kernel_rfl) (by kernel_rfl) (fun _ _ _ h => h) (Or.inl ⟨by rfl, ?_⟩) ?_
  rotate_left
  · intro w; go_simp; try with_reducible rfl
  refine wpAny_take (i := 3) (v := ?_) rfl (by kernel_rfl) (by kernel_rfl) (by kernel_rfl) (fun _ _ _ h => h) (Or.inl ⟨by rfl, ?_⟩) ?_
  rotate_left
  · intro w; go_simp; try with_reducible rfl
  refine wpAny_take (i := 5) (v := ?_) rfl (by kernel_rfl) (by kernel_rfl) (by kernel_rfl) (fun _ _ _ h => h) (Or.inl ⟨by rfl, ?_⟩) ?_
  rotate_left
  · intro w; go_simp; try with_reducible rfl
  refine wpAny_take (i := 6) (v := ?_) rfl (by kernel_rfl) (by kernel_rfl) (by kernel_rfl) (fun _ _ _ h => h) (Or.inl ⟨by rfl, ?_⟩) ?_
  rotate_left
  · intro w; go_simp; try with_reducible rfl
  refine wpAny_take (i := 7) (v := ?_) rfl (by kernel_rfl) (by kernel_rfl) (by kernel_rfl) (fun _ _ _ h => h) (Or.inl ⟨by rfl, ?_⟩) ?_
  rotate_left
  · intro w; go_simp; try with_reducible rfl
  refine wpAny_take (i := 8) (v := ?_) rfl (by kernel_rfl) (by kernel_rfl) (by kernel_rfl) (fun _ _ _ h => h) (Or.inl ⟨by rfl, ?_⟩) ?_
  rotate_left
  · intro w; go_simp; try with_reducible rfl
  refine wpAny_ready (rs := [4, 9]) (by kernel_rfl) (by simp) ?_
  refine AllReady.cons rfl (fun K hK => ?_) (AllReady.cons rfl (fun K hK => ?_) AllReady.nil)
  · have _hh := hn
    rw [if_pos (by rfl)]
    go_simp
    refine hK _ _ ?_
    clear hK K
    refine wpAny_ready (rs := [9]) (by kernel_rfl) (by simp) ?_
    refine AllReady.cons rfl (fun K hK => ?_) AllReady.nil
    rw [if_pos (by rfl)]
    go_simp
    refine hK _ _ ?_
    clear hK K
    refine wpAny_ready (rs := [10]) (by kernel_rfl) (by simp) ?_
    refine AllReady.cons rfl (fun K hK => ?_) AllReady.nil
    rw [if_pos (by rfl)]
    go_simp
    refine hK _ _ ?_
    clear hK K
    refine wpAny_ready (rs := [11]) (by kernel_rfl) (by simp) ?_
    refine AllReady.cons rfl (fun K hK => ?_) AllReady.nil
    rw [if_pos (by rfl)]
    go_simp
    refine hK _ _ ?_
    clear hK K
    refine wpAny_ready (rs := [12]) (by kernel_rfl) (by simp) ?_
    refine AllReady.cons rfl (fun K hK => ?_) AllReady.nil
    refine step_append_lies _ (by rfl) _ _ _ (by rfl) B 202 i0 _ 3 56 Tryz.underlying36 HH.out.1 HH.out.2.1 HH.out.2.2.1 HH.out.2.2.2 rfl (by omega) vI L.length (heldV L) (by rfl) (H.out.1.alloc _) ⟨w2.heap.size, 0, none⟩ 1 1 [.slice la lm lc, .slice none 0 0, .int .i64 ((n : Int) + 1)] (by rfl) (by rfl) (World.news_of_block (cs := #[.slice la lm lc, .slice none 0 0, .int .i64 ((n : Int) + 1)]) (t := 202) (fr := (0, 0)) (heap_alloc_new w2 _)) (by simp [Value.oneCell']) (by omega) (by unfold maxLen; omega) (by omega) (by have := H.out.2; rw [alloc_size]; omega) (w2.heap.size + 1) (by rw [alloc_size]) ?_
    intro g' cap' w3 hown3 hg3 hat3 hlt7
    have s3 : w3.heap[kb]? = some (.cells ((Value.int .i64 ((n : Int) + 1) :: List.replicate 13 (.slice none 0 0)) ++ vI :: (List.replicate 7 (.slice none 0 0) ++ vM :: List.replicate 9 (.slice none 0 0))).toArray 55 (0, 0)) := Hs3.out w3 hg3
    obtain ⟨s5, c5, f5, s6⟩ := cells_set (n := 14) (v := .slice (some ⟨g', 0, none⟩) (L.length + 1) cap') rfl s3
    replace c5 : w3.cell? ⟨kb, 14, none⟩ = some vI := c5
    replace f5 : w3.frozen? ⟨kb, 14, none⟩ = false := f5
    clear s3
    have S5 := Lib.hid (And.intro s5 (And.intro s6 (And.intro hown3 (And.intro hg3 hat3))))
    clear s5 s6 hown3 hg3 hat3
    refine hK _ _ ?_
    clear hK K
    refine wpAny_ready (rs := [13]) (by kernel_rfl) (by simp) ?_
    refine AllReady.cons rfl (fun K hK => ?_) AllReady.nil
    rw [if_pos (by rfl)]
    go_simp
    refine hK _ _ ?_
    clear hK K
    refine wpAny_ready (rs := [14]) (by kernel_rfl) (by simp) ?_
    refine AllReady.cons rfl (fun K hK => ?_) AllReady.nil
    rw [if_pos (by rfl)]
    go_simp
    refine hK _ _ ?_
    clear hK K
    refine wpAny_ready (rs := [15]) (by kernel_rfl) (by simp) ?_
    refine AllReady.cons rfl (fun K hK => ?_) AllReady.nil
    rw [if_pos (by rfl)]
    go_simp
    refine hK _ _ ?_
    clear hK K
    refine wpAny_done (by kernel_rfl) ?_ _
    go_end0
    exact Hend.out _ _ _ S5.out.1 S5.out.2.1 S5.out.2.2.1 S5.out.2.2.2.1 S5.out.2.2.2.2
  · have _hh := hn
    rw [if_pos (by rfl)]
    go_simp
    refine hK _ _ ?_
    clear hK K
    refine wpAny_ready (rs := [4, 10]) (by kernel_rfl) (by simp) ?_
    refine AllReady.cons rfl (fun K hK => ?_) (AllReady.cons rfl (fun K hK => ?_) AllReady.nil)
    · have _hh := hn
      rw [if_pos (by rfl)]
      go_simp
      refine hK _ _ ?_
      clear hK K
      refine wpAny_ready (rs := [10]) (by kernel_rfl) (by simp) ?_
      refine AllReady.cons rfl (fun K hK => ?_) AllReady.nil
      rw [if_pos (by rfl)]
      go_simp
      refine hK _ _ ?_
      clear hK K
      refine wpAny_ready (rs := [11]) (by kernel_rfl) (by simp) ?_
      refine AllReady.cons rfl (fun K hK => ?_) AllReady.nil
      rw [if_pos (by rfl)]
      go_simp
      refine hK _ _ ?_
      clear hK K
      refine wpAny_ready (rs := [12]) (by kernel_rfl) (by simp) ?_
      refine AllReady.cons rfl (fun K hK => ?_) AllReady.nil
      refine step_append_lies _ (by rfl) _ _ _ (by rfl) B 202 i0 _ 3 56 Tryz.underlying36 HH.out.1 HH.out.2.1 HH.out.2.2.1 HH.out.2.2.2 rfl (by omega) vI L.length (heldV L) (by rfl) (H.out.1.alloc _) ⟨w2.heap.size, 0, none⟩ 1 1 [.slice la lm lc, .slice none 0 0, .int .i64 ((n : Int) + 1)] (by rfl) (by rfl) (World.news_of_block (cs := #[.slice la lm lc, .slice none 0 0, .int .i64 ((n : Int) + 1)]) (t := 202) (fr := (0, 0)) (heap_alloc_new w2 _)) (by simp [Value.oneCell']) (by omega) (by unfold maxLen; omega) (by omega) (by have := H.out.2; rw [alloc_size]; omega) (w2.heap.size + 1) (by rw [alloc_size]) ?_
      intro g' cap' w3 hown3 hg3 hat3 hlt7
      have s3 : w3.heap[kb]? = some (.cells ((Value.int .i64 ((n : Int) + 1) :: List.replicate 13 (.slice none 0 0)) ++ vI :: (List.replicate 7 (.slice none 0 0) ++ vM :: List.replicate 9 (.slice none 0 0))).toArray 55 (0, 0)) := Hs3.out w3 hg3
      obtain ⟨s5, c5, f5, s6⟩ := cells_set (n := 14) (v := .slice (some ⟨g', 0, none⟩) (L.length + 1) cap') rfl s3
      replace c5 : w3.cell? ⟨kb, 14, none⟩ = some vI := c5
      replace f5 : w3.frozen? ⟨kb, 14, none⟩ = false := f5
      clear s3
      have S5 := Lib.hid (And.intro s5 (And.intro s6 (And.intro hown3 (And.intro hg3 hat3))))
      clear s5 s6 hown3 hg3 hat3
      refine hK _ _ ?_
      clear hK K
      refine wpAny_ready (rs := [13]) (by kernel_rfl) (by simp) ?_
      refine AllReady.cons rfl (fun K hK => ?_) AllReady.nil
      rw [if_pos (by rfl)]
      go_simp
      refine hK _ _ ?_
      clear hK K
      refine wpAny_ready (rs := [14]) (by kernel_rfl) (by simp) ?_
      refine AllReady.cons rfl (fun K hK => ?_) AllReady.nil
      rw [if_pos (by rfl)]
      go_simp
      refine hK _ _ ?_
      clear hK K
      refine wpAny_ready (rs := [15]) (by kernel_rfl) (by simp) ?_
      refine AllReady.cons rfl (fun K hK => ?_) AllReady.nil
      rw [if_pos (by rfl)]
      go_simp
      refine hK _ _ ?_
      clear hK K
      refine wpAny_done (by kernel_rfl) ?_ _
      go_end0
      exact Hend.out _ _ _ S5.out.1 S5.out.2.1 S5.out.2.2.1 S5.out.2.2.2.1 S5.out.2.2.2.2
    · have _hh := hn
      rw [if_pos (by rfl)]
      go_simp
      refine hK _ _ ?_
      clear hK K
      refine wpAny_ready (rs := [4, 11]) (by kernel_rfl) (by simp) ?_
      refine AllReady.cons rfl (fun K hK => ?_) (AllReady.cons rfl (fun K hK => ?_) AllReady.nil)
      · have _hh := hn
        rw [if_pos (by rfl)]
        go_simp
        refine hK _ _ ?_
        clear hK K
        refine wpAny_ready (rs := [11]) (by kernel_rfl) (by simp) ?_
        refine AllReady.cons rfl (fun K hK => ?_) AllReady.nil
        rw [if_pos (by rfl)]
        go_simp
        refine hK _ _ ?_
        clear hK K
        refine wpAny_ready (rs := [12]) (by kernel_rfl) (by simp) ?_
        refine AllReady.cons rfl (fun K hK => ?_) AllReady.nil
        refine step_append_lies _ (by rfl) _ _ _ (by rfl) B 202 i0 _ 3 56 Tryz.underlying36 HH.out.1 HH.out.2.1 HH.out.2.2.1 HH.out.2.2.2 rfl (by omega) vI L.length (heldV L) (by rfl) (H.out.1.alloc _) ⟨w2.heap.size, 0, none⟩ 1 1 [.slice la lm lc, .slice none 0 0, .int .i64 ((n : Int) + 1)] (by rfl) (by rfl) (World.news_of_block (cs := #[.slice la lm lc, .slice none 0 0, .int .i64 ((n : Int) + 1)]) (t := 202) (fr := (0, 0)) (heap_alloc_new w2 _)) (by simp [Value.oneCell']) (by omega) (by unfold maxLen; omega) (by omega) (by have := H.out.2; rw [alloc_size]; omega) (w2.heap.size + 1) (by rw [alloc_size]) ?_
        intro g' cap' w3 hown3 hg3 hat3 hlt7
        have s3 : w3.heap[kb]? = some (.cells ((Value.int .i64 ((n : Int) + 1) :: List.replicate 13 (.slice none 0 0)) ++ vI :: (List.replicate 7 (.slice none 0 0) ++ vM :: List.replicate 9 (.slice none 0 0))).toArray 55 (0, 0)) := Hs3.out w3 hg3
        obtain ⟨s5, c5, f5, s6⟩ := cells_set (n := 14) (v := .slice (some ⟨g', 0, none⟩) (L.length + 1) cap') rfl s3
        replace c5 : w3.cell? ⟨kb, 14, none⟩ = some vI := c5
        replace f5 : w3.frozen? ⟨kb, 14, none⟩ = false := f5
        clear s3
        have S5 := Lib.hid (And.intro s5 (And.intro s6 (And.intro hown3 (And.intro hg3 hat3))))
        clear s5 s6 hown3 hg3 hat3
        refine hK _ _ ?_
        clear hK K
        refine wpAny_ready (rs := [13]) (by kernel_rfl) (by simp) ?_
        refine AllReady.cons rfl (fun K hK => ?_) AllReady.nil
        rw [if_pos (by rfl)]
        go_simp
        refine hK _ _ ?_
        clear hK K
        refine wpAny_ready (rs := [14]) (by kernel_rfl) (by simp) ?_
        refine AllReady.cons rfl (fun K hK => ?_) AllReady.nil
        rw [if_pos (by rfl)]
        go_simp
        refine hK _ _ ?_
        clear hK K
        refine wpAny_ready (rs := [15]) (by kernel_rfl) (by simp) ?_
        refine AllReady.cons rfl (fun K hK => ?_) AllReady.nil
        rw [if_pos (by rfl)]
        go_simp
        refine hK _ _ ?_
        clear hK K
        refine wpAny_done (by kernel_rfl) ?_ _
        go_end0
        exact Hend.out _ _ _ S5.out.1 S5.out.2.1 S5.out.2.2.1 S5.out.2.2.2.1 S5.out.2.2.2.2
      · have _hh := hn
        rw [if_pos (by rfl)]
        go_simp
        refine hK _ _ ?_
        clear hK K
        refine wpAny_ready (rs := [4]) (by kernel_rfl) (by simp) ?_
        refine AllReady.cons rfl (fun K hK => ?_) AllReady.nil
        rw [if_pos (by rfl)]
        go_simp
        refine hK _ _ ?_
        clear hK K
        refine wpAny_ready (rs := [12]) (by kernel_rfl) (by simp) ?_
        refine AllReady.cons rfl (fun K hK => ?_) AllReady.nil
        refine step_append_lies _ (by rfl) _ _ _ (by rfl) B 202 i0 _ 3 56 Tryz.underlying36 HH.out.1 HH.out.2.1 HH.out.2.2.1 HH.out.2.2.2 rfl (by omega) vI L.length (heldV L) (by rfl) (H.out.1.alloc _) ⟨w2.heap.size, 0, none⟩ 1 1 [.slice la lm lc, .slice none 0 0, .int .i64 ((n : Int) + 1)] (by rfl) (by rfl) (World.news_of_block (cs := #[.slice la lm lc, .slice none 0 0, .int .i64 ((n : Int) + 1)]) (t := 202) (fr := (0, 0)) (heap_alloc_new w2 _)) (by simp [Value.oneCell']) (by omega) (by unfold maxLen; omega) (by omega) (by have := H.out.2; rw [alloc_size]; omega) (w2.heap.size + 1) (by rw [alloc_size]) ?_
        intro g' cap' w3 hown3 hg3 hat3 hlt7
        have s3 : w3.heap[kb]? = some (.cells ((Value.int .i64 ((n : Int) + 1) :: List.replicate 13 (.slice none 0 0)) ++ vI :: (List.replicate 7 (.slice none 0 0) ++ vM :: List.replicate 9 (.slice none 0 0))).toArray 55 (0, 0)) := Hs3.out w3 hg3
        obtain ⟨s5, c5, f5, s6⟩ := cells_set (n := 14) (v := .slice (some ⟨g', 0, none⟩) (L.length + 1) cap') rfl s3
        replace c5 : w3.cell? ⟨kb, 14, none⟩ = some vI := c5
        replace f5 : w3.frozen? ⟨kb, 14, none⟩ = false := f5
        clear s3
        have S5 := Lib.hid (And.intro s5 (And.intro s6 (And.intro hown3 (And.intro hg3 hat3))))
        clear s5 s6 hown3 hg3 hat3
        refine hK _ _ ?_
        clear hK K
        refine wpAny_ready (rs := [13]) (by kernel_rfl) (by simp) ?_
        refine AllReady.cons rfl (fun K hK => ?_) AllReady.nil
        rw [if_pos (by rfl)]
        go_simp
        refine hK _ _ ?_
        clear hK K
        refine wpAny_ready (rs := [14]) (by kernel_rfl) (by simp) ?_
        refine AllReady.cons rfl (fun K hK => ?_) AllReady.nil
        rw [if_pos (by rfl)]
        go_simp
        refine hK _ _ ?_
        clear hK K
        refine wpAny_ready (rs := [15]) (by kernel_rfl) (by simp) ?_
        refine AllReady.cons rfl (fun K hK => ?_) AllReady.nil
        rw [if_pos (by rfl)]
        go_simp
        refine hK _ _ ?_
        clear hK K
        refine wpAny_done (by kernel_rfl) ?_ _
        go_end0
        exact Hend.out _ _ _ S5.out.1 S5.out.2.1 S5.out.2.2.1 S5.out.2.2.2.1 S5.out.2.2.2.2
theorem keep_endM {w w2 : World} {kb n : Nat} {vI vM : Value} {B : Nat} {L : List (Value × Nat)} {l : Value} (hk2 : KeptBut (fun c => c = kb) w w2) (hkI : vM.ownBlock ≠ some kb) (s2 : w2.heap[kb]? = some (.cells (keepCells (n + 1) vI vM).toArray 55 (0, 0))) (hI2 : w2.ownsRow B 245 3 vM L.length (heldV L)) :
    ∀ (w3 : World) (g' cap' : Nat), (w3.setCell ⟨kb, 22, none⟩ (.slice (some ⟨g', 0, none⟩) (L.length + 1) cap')).heap[kb]? = some (.cells ((Value.int .i64 ((n : Int) + 1) :: (List.replicate 13 (.slice none 0 0) ++ vI :: List.replicate 7 (.slice none 0 0))) ++ Value.slice (some ⟨g', 0, none⟩) (L.length + 1) cap' :: (List.replicate 9 (.slice none 0 0))).toArray 55 (0, 0)) → KeptBut (fun c => c = kb) w3 (w3.setCell ⟨kb, 22, none⟩ (.slice (some ⟨g', 0, none⟩) (L.length + 1) cap')) →
      w3.ownsRow B 245 3 (.slice (some ⟨g', 0, none⟩) (L.length + 1) cap') (L.length + 1) (heldV L ++ [l, .slice none 0 0, .int .i64 ((n : Int) + 1)]) → (w2.alloc (.cells #[l, .slice none 0 0, .int .i64 ((n : Int) + 1)] 245)).grownBy w3 vM.ownBlock → (vM.ownBlock = some g' ∨ g' = w2.heap.size + 1) →
      ∃ vI', Ending.returned (.tuple #[]) = .returned (.tuple #[]) ∧ (w3.setCell ⟨kb, 22, none⟩ (.slice (some ⟨g', 0, none⟩) (L.length + 1) cap')).heap[kb]? = some (.cells (keepCells (n + 1) vI vI').toArray 55 (0, 0)) ∧ (w3.setCell ⟨kb, 22, none⟩ (.slice (some ⟨g', 0, none⟩) (L.length + 1) cap')).ownsRow B 245 3 vI' (L ++ [(l, n + 1)]).length (heldV (L ++ [(l, n + 1)])) ∧
        KeptBut (fun k => k = kb ∨ vM.ownBlock = some k) w (w3.setCell ⟨kb, 22, none⟩ (.slice (some ⟨g', 0, none⟩) (L.length + 1) cap')) ∧ (vI'.ownBlock = vM.ownBlock ∨ ∃ g, vI'.ownBlock = some g ∧ w.heap.size ≤ g) := by
  intro w3 g' cap' s5 s6 hown3 hg3 hat3
  have hs3 := hg3.size
  rw [alloc_size] at hs3
  have hkb2 := (Array.getElem?_eq_some_iff.1 s2).1
  have hbw : ∀ k, k < w2.heap.size → vM.ownBlock ≠ some k → w3.heap[k]? = w2.heap[k]? := fun k h1 h2 => (hg3.block k (by rw [alloc_size]; omega) fun e => h2 e.symm).trans (((Below.refl _ w2).alloc (Nat.le_refl _) _).block k h1)
  refine ⟨_, rfl, s5, ?_, ?_, ?_⟩
  · rw [List.length_append, List.length_singleton, heldV_snoc]
    refine ownsRow_of_block hown3 fun k hk => s6.block k (own_lt hown3 hk) fun e => ?_
    simp only [Value.ownBlock, Option.some.injEq] at hk
    subst e hk
    rcases hat3 with h | h
    · exact hkI h
    · omega
  · have hk3 : KeptBut (fun k => k = kb ∨ vM.ownBlock = some k) w2 w3 := ⟨hg3.os, hg3.tape, hg3.output, by omega, fun k h1 h2 => hbw k h1 fun h => h2 (.inr h)⟩
    exact ((hk2.mono fun k h => .inl h).trans hk3 fun k h => .inr h).trans (s6.mono fun k h => .inl h) fun k h => .inr h
  · rcases hat3 with h | h
    · exact .inl h.symm
    · refine .inr ⟨g', rfl, ?_⟩
      have := hk2.size
      omega
set_option maxRecDepth 100000 in
set_option maxHeartbeats 4000000 in
theorem keepMask_calls {w : World} {kb n : Nat} {vI vM : Value} {B : Nat} {L : List (Value × Nat)} {l : Value} (hk : w.heap[kb]? = some (.cells (keepCells n vI vM).toArray 55 (0, 0))) (hI : w.ownsRow B 245 3 vM L.length (heldV L)) (hB : B ≤ w.heap.size)
    (hkI : vM.ownBlock ≠ some kb) (hn : n < 4611686018427387904) (hL : L.length ≤ 4194304) (hl : ∃ a m c, l = .slice a m c) :
    Calls Tryz.prog 175 #[.pointer (some ⟨kb, 0, none⟩), l] w fun e w' => ∃ vI', e = .returned (.tuple #[]) ∧ w'.heap[kb]? = some (.cells (keepCells (n + 1) vI vI').toArray 55 (0, 0)) ∧ w'.ownsRow B 245 3 vI' (L ++ [(l, n + 1)]).length (heldV (L ++ [(l, n + 1)])) ∧
      KeptBut (fun k => k = kb ∨ vM.ownBlock = some k) w w' ∧ (vI'.ownBlock = vM.ownBlock ∨ ∃ g, vI'.ownBlock = some g ∧ w.heap.size ≤ g) := by
  obtain ⟨la, lm, lc, rfl⟩ := hl
  have c0 : w.cell? ⟨kb, 0, none⟩ = some (.int .i64 (n : Int)) := by simp [World.cell?, hk, keepCells]
  have f0 : w.frozen? ⟨kb, 0, none⟩ = false := by simp [World.frozen?, hk]
  have hadd : IntKind.i64.wrap ((n : Int) + 1) = (n : Int) + 1 := by rw [IntKind.wrap_i64]; omega
  obtain ⟨i0, hi0, hz0, hz1, hz2⟩ := info_parts info261
  go_enter Tryz.func175, Tryz.ntmps175
  go_wp2_with fail
  obtain ⟨s1, _, _, s4⟩ := cells_set (n := 0) (pre := []) (post := (keepCells n vI vM).tail) (v := .int .i64 ((n : Int) + 1)) rfl (show w.heap[kb]? = some (.cells (([] : List Value) ++ Value.int .i64 (n : Int) :: (keepCells n vI vM).tail).toArray 55 (0, 0)) from hk)
  replace s1 : (w.setCell ⟨kb, 0, none⟩ (.int .i64 ((n : Int) + 1))).heap[kb]? = some (.cells (keepCells (n + 1) vI vM).toArray 55 (0, 0)) := s1
  have hI1 : (w.setCell ⟨kb, 0, none⟩ (.int .i64 ((n : Int) + 1))).ownsRow B 245 3 vM L.length (heldV L) := ownsRow_of_block hI fun k hk2 => s4.block k (own_lt hI hk2) fun e => hkI (e ▸ hk2)
  have hs4 := s4.size
  generalize w.setCell ⟨kb, 0, none⟩ (.int .i64 ((n : Int) + 1)) = w1 at *
  have hbs : ∀ W : World, (Instr.buildSlice 44 1 #[(0, .agg #[.slice la lm lc, .slice none 0 0, .int .i64 ((n : Int) + 1)])]).run Tryz.prog W = .ok (.slice (some ⟨W.heap.size, 0, none⟩) 1 1) (W.alloc (.cells #[.slice la lm lc, .slice none 0 0, .int .i64 ((n : Int) + 1)] 245)) := fun W =>
    run_buildSlice W 44 245 1 _ #[.slice la lm lc, .slice none 0 0, .int .i64 ((n : Int) + 1)] i0 (.agg #[.slice none 0 0, .slice none 0 0, .int .i64 0]) Tryz.underlying44 hi0 hz0 (by rw [hz1]; decide) (by rw [hz1]; decide) (by rw [hz1]; exact fill_cells (x := [.slice la lm lc, .slice none 0 0, .int .i64 ((n : Int) + 1)]) (s := 3) rfl (by simp))
  have hk2 : KeptBut (fun c => c = kb) w w1.drew := ⟨s4.os, s4.tape, s4.output, s4.size, s4.block⟩
  have hS0 : (fun w' : World => w'.heap[kb]? = some (.cells (keepCells (n + 1) vI vM).toArray 55 (0, 0))) w1.drew := s1
  have hI2 : w1.drew.ownsRow B 245 3 vM L.length (heldV L) := hI1
  have s2 : w1.drew.heap[kb]? = some (.cells (keepCells (n + 1) vI vM).toArray 55 (0, 0)) := s1
  have hB2 : B ≤ w1.drew.heap.size := Nat.le_trans hB hs4
  have d0 : w1.drew.cell? ⟨kb, 0, none⟩ = some (.int .i64 ((n : Int) + 1)) := by simp [World.cell?, s2, keepCells]
  have d1 : w1.drew.cell? ⟨kb, 22, none⟩ = some vM := by simp [World.cell?, s2, keepCells]
  have d1a : (w1.drew.alloc (.cells #[.slice la lm lc, .slice none 0 0, .int .i64 ((n : Int) + 1)] 245)).cell? ⟨kb, 22, none⟩ = some vM := (((Below.refl _ w1.drew).alloc (Nat.le_refl _) _).cell (p := ⟨kb, 22, none⟩) (World.block_lt_of_cell? _ _ d1)).trans d1
  have H := Lib.hid (And.intro hI2 hB2)
  have HH := Lib.hid (And.intro hi0 (And.intro hz0 (And.intro hz1 hz2)))
  have hkb2 := (Array.getElem?_eq_some_iff.1 s2).1
  have Hs3 : Hid (∀ w3, (w1.drew.alloc (.cells #[.slice la lm lc, .slice none 0 0, .int .i64 ((n : Int) + 1)] 245)).grownBy w3 vM.ownBlock → w3.heap[kb]? = some (.cells ((Value.int .i64 ((n : Int) + 1) :: (List.replicate 13 (.slice none 0 0) ++ vI :: List.replicate 7 (.slice none 0 0))) ++ vM :: (List.replicate 9 (.slice none 0 0))).toArray 55 (0, 0))) := Lib.hid fun w3 hg3 =>
    ((hg3.block kb (by rw [alloc_size]; omega) fun e => hkI e.symm).trans (((Below.refl _ w1.drew).alloc (Nat.le_refl _) _).block kb hkb2)).trans s2
  have Hend := Lib.hid (keep_endM (l := .slice la lm lc) (w2 := w1.drew) hk2 hkI s2 hI2)
  clear hk hI c0 f0 s1 s4 hI1 hs4 hadd hI2 hB2 hk2 s2 hkb2 hkI hi0 hz0 hz1 hz2 hB
  refine wp_region_any (by kernel_rfl) ?_
  change wpAny _ _ _ _ _ _ _ (World.drew _)
  generalize w1.drew = w2 at *
  refine wpAny_take (i := 0) (v := ?_) rfl (by kernel_rfl) (by kernel_rfl) (by kernel_rfl) (fun _ _ _ h => h) (Or.inl ⟨by rfl, ?_⟩) ?_
  rotate_left
  · intro w; go_simp; try with_reducible rfl
  refine wpAny_take (i := 1) (v := ?_) rfl (by kernel_rfl) (by kernel_rfl) (by kernel_rfl) (fun _ _ _ h => h) (Or.inl ⟨by rfl, ?_⟩) ?_
  rotate_left
  · intro w; go_simp; try with_reducible rfl
  refine wpAny_take (i := 2) (v := ?_) rfl (by kernel_rfl) (by kernel_rfl) (by kernel_rfl) (fun _ _ _ h => h) (Or.inl ⟨by rfl, ?_⟩) ?_
  rotate_left
  · intro w; go_simp; try with_reducible rfl
  refine wpAny_take (i := 3) (v := ?_) rfl (by kernel_rfl) (by kernel_rfl) (by kernel_rfl) (fun _ _ _ h => h) (Or.inl ⟨by rfl, ?_⟩) ?_
  rotate_left
  · intro w; go_simp; try with_reducible rfl
  refine wpAny_take (i := 5) (v := ?_) rfl (by kernel_rfl) (by kernel_rfl) (by kernel_rfl) (fun _ _ _ h => h) (Or.inl ⟨by rfl, ?_⟩) ?_
  rotate_left
  · intro w; go_simp; try with_reducible rfl
  refine wpAny_take (i := 6) (v := ?_) rfl (by kernel_rfl) (by kernel_rfl) (by kernel_rfl) (fun _ _ _ h => h) (Or.inl ⟨by rfl, ?_⟩) ?_
  rotate_left
  · intro w; go_simp; try with_reducible rfl
  refine wpAny_take (i := 7) (v := ?_) rfl (by kernel_rfl) (by kernel_rfl) (by kernel_rfl) (fun _ _ _ h => h) (Or.inl ⟨by rfl, ?_⟩) ?_
  rotate_left
  · intro w; go_simp; try with_reducible rfl
  refine wpAny_take (i := 8) (v := ?_) rfl (by kernel_rfl) (by kernel_rfl) (by kernel_rfl) (fun _ _ _ h => h) (Or.inl ⟨by rfl, ?_⟩) ?_
  rotate_left
  · intro w; go_simp; try with_reducible rfl
  refine wpAny_ready (rs := [4, 9]) (by kernel_rfl) (by simp) ?_
  refine AllReady.cons rfl (fun K hK => ?_) (AllReady.cons rfl (fun K hK => ?_) AllReady.nil)
  · have _hh := hn
    rw [if_pos (by rfl)]
    go_simp
    refine hK _ _ ?_
    clear hK K
    refine wpAny_ready (rs := [9]) (by kernel_rfl) (by simp) ?_
    refine AllReady.cons rfl (fun K hK => ?_) AllReady.nil
    rw [if_pos (by rfl)]
    go_simp
    refine hK _ _ ?_
    clear hK K
    refine wpAny_ready (rs := [10]) (by kernel_rfl) (by simp) ?_
    refine AllReady.cons rfl (fun K hK => ?_) AllReady.nil
    rw [if_pos (by rfl)]
    go_simp
    refine hK _ _ ?_
    clear hK K
    refine wpAny_ready (rs := [11]) (by kernel_rfl) (by simp) ?_
    refine AllReady.cons rfl (fun K hK => ?_) AllReady.nil
    rw [if_pos (by rfl)]
    go_simp
    refine hK _ _ ?_
    clear hK K
    refine wpAny_ready (rs := [12]) (by kernel_rfl) (by simp) ?_
    refine AllReady.cons rfl (fun K hK => ?_) AllReady.nil
    refine step_append_lies _ (by rfl) _ _ _ (by rfl) B 245 i0 _ 3 56 Tryz.underlying44 HH.out.1 HH.out.2.1 HH.out.2.2.1 HH.out.2.2.2 rfl (by omega) vM L.length (heldV L) (by rfl) (H.out.1.alloc _) ⟨w2.heap.size, 0, none⟩ 1 1 [.slice la lm lc, .slice none 0 0, .int .i64 ((n : Int) + 1)] (by rfl) (by rfl) (World.news_of_block (cs := #[.slice la lm lc, .slice none 0 0, .int .i64 ((n : Int) + 1)]) (t := 245) (fr := (0, 0)) (heap_alloc_new w2 _)) (by simp [Value.oneCell']) (by omega) (by unfold maxLen; omega) (by omega) (by have := H.out.2; rw [alloc_size]; omega) (w2.heap.size + 1) (by rw [alloc_size]) ?_
    intro g' cap' w3 hown3 hg3 hat3 hlt7
    have s3 : w3.heap[kb]? = some (.cells ((Value.int .i64 ((n : Int) + 1) :: (List.replicate 13 (.slice none 0 0) ++ vI :: List.replicate 7 (.slice none 0 0))) ++ vM :: (List.replicate 9 (.slice none 0 0))).toArray 55 (0, 0)) := Hs3.out w3 hg3
    obtain ⟨s5, c5, f5, s6⟩ := cells_set (n := 22) (v := .slice (some ⟨g', 0, none⟩) (L.length + 1) cap') rfl s3
    replace c5 : w3.cell? ⟨kb, 22, none⟩ = some vM := c5
    replace f5 : w3.frozen? ⟨kb, 22, none⟩ = false := f5
    clear s3
    have S5 := Lib.hid (And.intro s5 (And.intro s6 (And.intro hown3 (And.intro hg3 hat3))))
    clear s5 s6 hown3 hg3 hat3
    refine hK _ _ ?_
    clear hK K
    refine wpAny_ready (rs := [13]) (by kernel_rfl) (by simp) ?_
    refine AllReady.cons rfl (fun K hK => ?_) AllReady.nil
    rw [if_pos (by rfl)]
    go_simp
    refine hK _ _ ?_
    clear hK K
    refine wpAny_ready (rs := [14]) (by kernel_rfl) (by simp) ?_
    refine AllReady.cons rfl (fun K hK => ?_) AllReady.nil
    rw [if_pos (by rfl)]
    go_simp
    refine hK _ _ ?_
    clear hK K
    refine wpAny_ready (rs := [15]) (by kernel_rfl) (by simp) ?_
    refine AllReady.cons rfl (fun K hK => ?_) AllReady.nil
    rw [if_pos (by rfl)]
    go_simp
    refine hK _ _ ?_
    clear hK K
    refine wpAny_done (by kernel_rfl) ?_ _
    go_end0
    exact Hend.out _ _ _ S5.out.1 S5.out.2.1 S5.out.2.2.1 S5.out.2.2.2.1 S5.out.2.2.2.2
  · have _hh := hn
    rw [if_pos (by rfl)]
    go_simp
    refine hK _ _ ?_
    clear hK K
    refine wpAny_ready (rs := [4, 10]) (by kernel_rfl) (by simp) ?_
    refine AllReady.cons rfl (fun K hK => ?_) (AllReady.cons rfl (fun K hK => ?_) AllReady.nil)
    · have _hh := hn
      rw [if_pos (by rfl)]
      go_simp
      refine hK _ _ ?_
      clear hK K
      refine wpAny_ready (rs := [10]) (by kernel_rfl) (by simp) ?_
      refine AllReady.cons rfl (fun K hK => ?_) AllReady.nil
      rw [if_pos (by rfl)]
      go_simp
      refine hK _ _ ?_
      clear hK K
      refine wpAny_ready (rs := [11]) (by kernel_rfl) (by simp) ?_
      refine AllReady.cons rfl (fun K hK => ?_) AllReady.nil
      rw [if_pos (by rfl)]
      go_simp
      refine hK _ _ ?_
      clear hK K
      refine wpAny_ready (rs := [12]) (by kernel_rfl) (by simp) ?_
      refine AllReady.cons rfl (fun K hK => ?_) AllReady.nil
      refine step_append_lies _ (by rfl) _ _ _ (by rfl) B 245 i0 _ 3 56 Tryz.underlying44 HH.out.1 HH.out.2.1 HH.out.2.2.1 HH.out.2.2.2 rfl (by omega) vM L.length (heldV L) (by rfl) (H.out.1.alloc _) ⟨w2.heap.size, 0, none⟩ 1 1 [.slice la lm lc, .slice none 0 0, .int .i64 ((n : Int) + 1)] (by rfl) (by rfl) (World.news_of_block (cs := #[.slice la lm lc, .slice none 0 0, .int .i64 ((n : Int) + 1)]) (t := 245) (fr := (0, 0)) (heap_alloc_new w2 _)) (by simp [Value.oneCell']) (by omega) (by unfold maxLen; omega) (by omega) (by have := H.out.2; rw [alloc_size]; omega) (w2.heap.size + 1) (by rw [alloc_size]) ?_
      intro g' cap' w3 hown3 hg3 hat3 hlt7
      have s3 : w3.heap[kb]? = some (.cells ((Value.int .i64 ((n : Int) + 1) :: (List.replicate 13 (.slice none 0 0) ++ vI :: List.replicate 7 (.slice none 0 0))) ++ vM :: (List.replicate 9 (.slice none 0 0))).toArray 55 (0, 0)) := Hs3.out w3 hg3
      obtain ⟨s5, c5, f5, s6⟩ := cells_set (n := 22) (v := .slice (some ⟨g', 0, none⟩) (L.length + 1) cap') rfl s3
      replace c5 : w3.cell? ⟨kb, 22, none⟩ = some vM := c5
      replace f5 : w3.frozen? ⟨kb, 22, none⟩ = false := f5
      clear s3
      have S5 := Lib.hid (And.intro s5 (And.intro s6 (And.intro hown3 (And.intro hg3 hat3))))
      clear s5 s6 hown3 hg3 hat3
      refine hK _ _ ?_
      clear hK K
      refine wpAny_ready (rs := [13]) (by kernel_rfl) (by simp) ?_
      refine AllReady.cons rfl (fun K hK => ?_) AllReady.nil
      rw [if_pos (by rfl)]
      go_simp
      refine hK _ _ ?_
      clear hK K
      refine wpAny_ready (rs := [14]) (by kernel_rfl) (by simp) ?_
      refine AllReady.cons rfl (fun K hK => ?_) AllReady.nil
      rw [if_pos (by rfl)]
      go_simp
      refine hK _ _ ?_
      clear hK K
      refine wpAny_ready (rs := [15]) (by kernel_rfl) (by simp) ?_
      refine AllReady.cons rfl (fun K hK => ?_) AllReady.nil
      rw [if_pos (by rfl)]
      go_simp
      refine hK _ _ ?_
      clear hK K
      refine wpAny_done (by kernel_rfl) ?_ _
      go_end0
      exact Hend.out _ _ _ S5.out.1 S5.out.2.1 S5.out.2.2.1 S5.out.2.2.2.1 S5.out.2.2.2.2
    · have _hh := hn
      rw [if_pos (by rfl)]
      go_simp
      refine hK _ _ ?_
      clear hK K
      refine wpAny_ready (rs := [4, 11]) (by kernel_rfl) (by simp) ?_
      refine AllReady.cons rfl (fun K hK => ?_) (AllReady.cons rfl (fun K hK => ?_) AllReady.nil)
      · have _hh := hn
        rw [if_pos (by rfl)]
        go_simp
        refine hK _ _ ?_
        clear hK K
        refine wpAny_ready (rs := [11]) (by kernel_rfl) (by simp) ?_
        refine AllReady.cons rfl (fun K hK => ?_) AllReady.nil
        rw [if_pos (by rfl)]
        go_simp
        refine hK _ _ ?_
        clear hK K
        refine wpAny_ready (rs := [12]) (by kernel_rfl) (by simp) ?_
        refine AllReady.cons rfl (fun K hK => ?_) AllReady.nil
        refine step_append_lies _ (by rfl) _ _ _ (by rfl) B 245 i0 _ 3 56 Tryz.underlying44 HH.out.1 HH.out.2.1 HH.out.2.2.1 HH.out.2.2.2 rfl (by omega) vM L.length (heldV L) (by rfl) (H.out.1.alloc _) ⟨w2.heap.size, 0, none⟩ 1 1 [.slice la lm lc, .slice none 0 0, .int .i64 ((n : Int) + 1)] (by rfl) (by rfl) (World.news_of_block (cs := #[.slice la lm lc, .slice none 0 0, .int .i64 ((n : Int) + 1)]) (t := 245) (fr := (0, 0)) (heap_alloc_new w2 _)) (by simp [Value.oneCell']) (by omega) (by unfold maxLen; omega) (by omega) (by have := H.out.2; rw [alloc_size]; omega) (w2.heap.size + 1) (by rw [alloc_size]) ?_
        intro g' cap' w3 hown3 hg3 hat3 hlt7
        have s3 : w3.heap[kb]? = some (.cells ((Value.int .i64 ((n : Int) + 1) :: (List.replicate 13 (.slice none 0 0) ++ vI :: List.replicate 7 (.slice none 0 0))) ++ vM :: (List.replicate 9 (.slice none 0 0))).toArray 55 (0, 0)) := Hs3.out w3 hg3
        obtain ⟨s5, c5, f5, s6⟩ := cells_set (n := 22) (v := .slice (some ⟨g', 0, none⟩) (L.length + 1) cap') rfl s3
        replace c5 : w3.cell? ⟨kb, 22, none⟩ = some vM := c5
        replace f5 : w3.frozen? ⟨kb, 22, none⟩ = false := f5
        clear s3
        have S5 := Lib.hid (And.intro s5 (And.intro s6 (And.intro hown3 (And.intro hg3 hat3))))
        clear s5 s6 hown3 hg3 hat3
        refine hK _ _ ?_
        clear hK K
        refine wpAny_ready (rs := [13]) (by kernel_rfl) (by simp) ?_
        refine AllReady.cons rfl (fun K hK => ?_) AllReady.nil
        rw [if_pos (by rfl)]
        go_simp
        refine hK _ _ ?_
        clear hK K
        refine wpAny_ready (rs := [14]) (by kernel_rfl) (by simp) ?_
        refine AllReady.cons rfl (fun K hK => ?_) AllReady.nil
        rw [if_pos (by rfl)]
        go_simp
        refine hK _ _ ?_
        clear hK K
        refine wpAny_ready (rs := [15]) (by kernel_rfl) (by simp) ?_
        refine AllReady.cons rfl (fun K hK => ?_) AllReady.nil
        rw [if_pos (by rfl)]
        go_simp
        refine hK _ _ ?_
        clear hK K
        refine wpAny_done (by kernel_rfl) ?_ _
        go_end0
        exact Hend.out _ _ _ S5.out.1 S5.out.2.1 S5.out.2.2.1 S5.out.2.2.2.1 S5.out.2.2.2.2
      · have _hh := hn
        rw [if_pos (by rfl)]
        go_simp
        refine hK _ _ ?_
        clear hK K
        refine wpAny_ready (rs := [4]) (by kernel_rfl) (by simp) ?_
        refine AllReady.cons rfl (fun K hK => ?_) AllReady.nil
        rw [if_pos (by rfl)]
        go_simp
        refine hK _ _ ?_
        clear hK K
        refine wpAny_ready (rs := [12]) (by kernel_rfl) (by simp) ?_
        refine AllReady.cons rfl (fun K hK => ?_) AllReady.nil
        refine step_append_lies _ (by rfl) _ _ _ (by rfl) B 245 i0 _ 3 56 Tryz.underlying44 HH.out.1 HH.out.2.1 HH.out.2.2.1 HH.out.2.2.2 rfl (by omega) vM L.length (heldV L) (by rfl) (H.out.1.alloc _) ⟨w2.heap.size, 0, none⟩ 1 1 [.slice la lm lc, .slice none 0 0, .int .i64 ((n : Int) + 1)] (by rfl) (by rfl) (World.news_of_block (cs := #[.slice la lm lc, .slice none 0 0, .int .i64 ((n : Int) + 1)]) (t := 245) (fr := (0, 0)) (heap_alloc_new w2 _)) (by simp [Value.oneCell']) (by omega) (by unfold maxLen; omega) (by omega) (by have := H.out.2; rw [alloc_size]; omega) (w2.heap.size + 1) (by rw [alloc_size]) ?_
        intro g' cap' w3 hown3 hg3 hat3 hlt7
        have s3 : w3.heap[kb]? = some (.cells ((Value.int .i64 ((n : Int) + 1) :: (List.replicate 13 (.slice none 0 0) ++ vI :: List.replicate 7 (.slice none 0 0))) ++ vM :: (List.replicate 9 (.slice none 0 0))).toArray 55 (0, 0)) := Hs3.out w3 hg3
        obtain ⟨s5, c5, f5, s6⟩ := cells_set (n := 22) (v := .slice (some ⟨g', 0, none⟩) (L.length + 1) cap') rfl s3
        replace c5 : w3.cell? ⟨kb, 22, none⟩ = some vM := c5
        replace f5 : w3.frozen? ⟨kb, 22, none⟩ = false := f5
        clear s3
        have S5 := Lib.hid (And.intro s5 (And.intro s6 (And.intro hown3 (And.intro hg3 hat3))))
        clear s5 s6 hown3 hg3 hat3
        refine hK _ _ ?_
        clear hK K
        refine wpAny_ready (rs := [13]) (by kernel_rfl) (by simp) ?_
        refine AllReady.cons rfl (fun K hK => ?_) AllReady.nil
        rw [if_pos (by rfl)]
        go_simp
        refine hK _ _ ?_
        clear hK K
        refine wpAny_ready (rs := [14]) (by kernel_rfl) (by simp) ?_
        refine AllReady.cons rfl (fun K hK => ?_) AllReady.nil
        rw [if_pos (by rfl)]
        go_simp
        refine hK _ _ ?_
        clear hK K
        refine wpAny_ready (rs := [15]) (by kernel_rfl) (by simp) ?_
        refine AllReady.cons rfl (fun K hK => ?_) AllReady.nil
        rw [if_pos (by rfl)]
        go_simp
        refine hK _ _ ?_
        clear hK K
        refine wpAny_done (by kernel_rfl) ?_ _
        go_end0
        exact Hend.out _ _ _ S5.out.1 S5.out.2.1 S5.out.2.2.1 S5.out.2.2.2.1 S5.out.2.2.2.2
end Go.Proofs.YtckhkfchgcdajaaGreatDoor

import Derived.Test.YtckhkfchgcdajaaGreatDoorYJxI1
namespace Go.Proofs.YtckhkfchgcdajaaGreatDoor
open Go.Fx Go.RowKit Go.Maps Go.Sort
set_option maxRecDepth 100000 in
theorem docm_new {w : World} {arity : Nat} : Calls Tryz.prog 12 #[.int .i64 (arity : Int)] w fun e w' => ∃ k D, e = .returned (.pointer (some ⟨k, 0, none⟩)) ∧ DocAt w' D k arity [] ∧ Below w.heap.size w w' ∧ (∀ j, D j → w.heap.size ≤ j) := by
  go_enter Tryz.func12, Tryz.ntmps12
  go_wp2_with fail
  refine bodyPost_ret (v := .pointer (some ⟨w.heap.size, 0, none⟩)) (by simp [results, Tryz.results12, go_sem]) rfl ⟨w.heap.size, _, rfl, ⟨.slice none 0 0, heap_alloc_new w _, World.ownsRow_nil _ _ _ _, (fun h => by cases h), rfl⟩, (Below.refl _ _).alloc (Nat.le_refl _) _, ?_⟩
  rintro j (rfl | h)
  · exact Nat.le_refl _
  · cases h
set_option maxHeartbeats 4000000 in
set_option maxRecDepth 100000 in
theorem b_remove_not {w : World} {R : Nat → Prop} {b arity : Nat} {gone : Int} {rows : List (List Int)} (hR : Rel w R b arity gone rows) {x : List Int} (hx : RowOk x) (hin : x ∉ rows) :
    Calls Tryz.prog 16 #[.pointer (some ⟨b, 0, none⟩), rowV x] w fun e w' => e = .returned (.bool false) ∧ Below w.heap.size w w' := by
  obtain ⟨pb, mb, lv, h, rfl⟩ := hR
  go_enter Tryz.func16, Tryz.ntmps16
  go_wp2_with fail
  have hal := (MapKept.heap_alloc w (Obj.cells (List.map symV x).toArray 64)).1
  have hba : Below w.heap.size w (w.alloc (Obj.cells (List.map symV x).toArray 64)) := (Below.refl _ w).alloc (Nat.le_refl _) _
  generalize w.alloc (Obj.cells (List.map symV x).toArray 64) = wa at *
  have hbd : Below w.heap.size w wa.drew := below_drew' hba
  have hsz : (Tryz.prog.info? 64).map (·.size) = some (List.map symV x).toArray.size := by rw [infoRow]; simp [hx.1]
  have hS : (fun w' : World => w'.cell? ⟨b, 2, none⟩ = some (.pointer (some ⟨pb, 0, none⟩)) ∧ w'.heap[w.heap.size]? = some (Obj.cells (List.map symV x).toArray 64 (0, 0))) wa.drew := ⟨(h.below hbd).cells.h2, hal⟩
  refine wp_region_held_drew (S := fun w' => w'.cell? ⟨b, 2, none⟩ = some (.pointer (some ⟨pb, 0, none⟩)) ∧ w'.heap[w.heap.size]? = some (Obj.cells (List.map symV x).toArray 64 (0, 0))) (by kernel_rfl) hS fun hS => ?_
  generalize wa.drew = w2 at *
  refine wpAnyH_take (i := 0) (v := ?_) rfl (by kernel_rfl) (by kernel_rfl) (by kernel_rfl) (fun _ _ _ h => h) (Or.inl ⟨by rfl, ?_⟩) hS ?_
  rotate_left
  · intro w' hw'; go_simp; try with_reducible rfl
  refine wpAnyH_ready (rs := [1]) (by kernel_rfl) (by simp) ?_
  refine AllReadyH.cons rfl (fun K hK => ?_) AllReadyH.nil
  rw [if_pos (by rfl)]
  go_simp
  refine (there_calls (h.below hbd).cells.h2).mono ?_
  rintro e w3 ⟨rfl, hb3⟩
  dsimp only
  have hb4 := hbd.trans (hb3.mono hbd.size)
  have hS3 : (fun w' : World => w'.cell? ⟨b, 2, none⟩ = some (.pointer (some ⟨pb, 0, none⟩)) ∧ w'.heap[w.heap.size]? = some (Obj.cells (List.map symV x).toArray 64 (0, 0))) w3 := ⟨(h.below hb4).cells.h2, (hb3.block _ (Array.getElem?_eq_some_iff.1 hS.2).1).trans hS.2⟩
  refine hK.out _ _ hS3 (fun _ => ?_)
  clear hK K
  refine wpAnyH_take (i := 2) (v := ?_) rfl (by kernel_rfl) (by kernel_rfl) (by kernel_rfl) (fun _ _ _ h => h) (Or.inl ⟨by rfl, ?_⟩) hS3 ?_
  rotate_left
  · intro w' hw'; (try dsimp only at hw'); go_simp; try with_reducible rfl
  try simp only [Act.put, List.getElem_toArray, List.getElem_cons_succ, List.getElem_cons_zero, List.setIfInBounds_toArray, List.set_cons_zero, List.set_cons_succ]
  refine wpAnyH_take (i := 3) (v := ?_) rfl (by kernel_rfl) (by kernel_rfl) (by kernel_rfl) (fun _ _ _ h => h) (Or.inl ⟨by rfl, ?_⟩) hS3 ?_
  rotate_left
  · intro w' hw'; (try dsimp only at hw'); go_simp; try with_reducible rfl
  try simp only [Act.put, List.getElem_toArray, List.getElem_cons_succ, List.getElem_cons_zero, List.setIfInBounds_toArray, List.set_cons_zero, List.set_cons_succ]
  refine wpAnyH_take (i := 4) (v := ?_) rfl (by kernel_rfl) (by kernel_rfl) (by kernel_rfl) (fun _ _ _ h => h) (Or.inl ⟨by rfl, ?_⟩) hS3 ?_
  rotate_left
  · intro w' hw'; (try dsimp only at hw'); go_simp; try with_reducible rfl
  try simp only [Act.put, List.getElem_toArray, List.getElem_cons_succ, List.getElem_cons_zero, List.setIfInBounds_toArray, List.set_cons_zero, List.set_cons_succ]
  refine wpAnyH_take (i := 5) (v := ?_) rfl (by kernel_rfl) (by kernel_rfl) (by kernel_rfl) (fun _ _ _ h => h) (Or.inl ⟨by rfl, ?_⟩) hS3 ?_
  rotate_left
  · intro w' hw'; (try dsimp only at hw'); go_simp; try with_reducible rfl
  try simp only [Act.put, List.getElem_toArray, List.getElem_cons_succ, List.getElem_cons_zero, List.setIfInBounds_toArray, List.set_cons_zero, List.set_cons_succ]
  refine wpAnyH_take (i := 6) (v := ?_) rfl (by kernel_rfl) (by kernel_rfl) (by kernel_rfl) (fun _ _ _ h => h) (Or.inl ⟨by rfl, ?_⟩) hS3 ?_
  rotate_left
  · intro w' hw'; (try dsimp only at hw'); go_simp; try with_reducible rfl
  try simp only [Act.put, List.getElem_toArray, List.getElem_cons_succ, List.getElem_cons_zero, List.setIfInBounds_toArray, List.set_cons_zero, List.set_cons_succ]
  refine wpAnyH_take (i := 7) (v := ?_) rfl (by kernel_rfl) (by kernel_rfl) (by kernel_rfl) (fun _ _ _ h => h) (Or.inl ⟨by rfl, ?_⟩) hS3 ?_
  rotate_left
  · intro w' hw'; (try dsimp only at hw'); go_simp; try with_reducible rfl
  try simp only [Act.put, List.getElem_toArray, List.getElem_cons_succ, List.getElem_cons_zero, List.setIfInBounds_toArray, List.set_cons_zero, List.set_cons_succ]
  refine wpAnyH_take (i := 8) (v := .agg (List.map symV x).toArray) rfl (by kernel_rfl) (by kernel_rfl) (by kernel_rfl) (fun _ _ _ h => h) (yieldsIf_load_row (by rfl) 64 _ rfl w.heap.size rfl 64 _ (0, 0) _ (fun w' hw' => hw'.2) Tryz.underlying64 rfl hsz) hS3 ?_
  refine wpAnyH_ready (rs := [9]) (by kernel_rfl) (by simp) ?_
  refine AllReadyH.cons rfl (fun K hK => ?_) AllReadyH.nil
  rw [if_pos (by rfl)]
  go_simp
  refine (take_not (h.below hb4) hx hin).mono ?_
  rintro e w6 ⟨rfl, hb6⟩
  dsimp only
  have hlt0 : w.heap.size < w3.heap.size := (Array.getElem?_eq_some_iff.1 hS3.2).1
  have hb7 := hb4.trans (hb6.mono hb4.size)
  have hS6 : (fun w' : World => w'.cell? ⟨b, 2, none⟩ = some (.pointer (some ⟨pb, 0, none⟩)) ∧ w'.heap[w.heap.size]? = some (Obj.cells (List.map symV x).toArray 64 (0, 0))) w6 := ⟨(h.below hb7).cells.h2, (hb6.block _ hlt0).trans hS3.2⟩
  refine hK.out _ _ hS6 (fun _ => ?_)
  clear hK K
  refine wpAnyH_take (i := 10) (v := ?_) rfl (by kernel_rfl) (by kernel_rfl) (by kernel_rfl) (fun _ _ _ h => h) (Or.inl ⟨by rfl, ?_⟩) hS6 ?_
  rotate_left
  · intro w' hw'; (try dsimp only at hw'); go_simp; try with_reducible rfl
  try simp only [Act.put, List.getElem_toArray, List.getElem_cons_succ, List.getElem_cons_zero, List.setIfInBounds_toArray, List.set_cons_zero, List.set_cons_succ]
  refine wpAnyH_take (i := 11) (v := ?_) rfl (by kernel_rfl) (by kernel_rfl) (by kernel_rfl) (fun _ _ _ h => h) (Or.inl ⟨by rfl, ?_⟩) hS6 ?_
  rotate_left
  · intro w' hw'; (try dsimp only at hw'); go_simp; try with_reducible rfl
  try simp only [Act.put, List.getElem_toArray, List.getElem_cons_succ, List.getElem_cons_zero, List.setIfInBounds_toArray, List.set_cons_zero, List.set_cons_succ]
  refine wpAnyH_done (by kernel_rfl) ?_ _
  clear hS hS3 hS6 hb3 hb4 hbd hba hal hlt0 hb6 h
  go_wp2_with fail
  exact bodyPost_ret (v := .bool false) (by simp [results, Tryz.results16, go_sem]) rfl ⟨rfl, hb7⟩
theorem fill_row1 {x : List Int} (hx : RowOk x) (i0 : TypeInfo) (hz1 : i0.size = 24) : Instr.fill (fun i => some (i * i0.size, i0.size)) ((Array.range (1 * i0.size)).map ((rowV zRow).cells[· % (rowV zRow).cells.size]!)) [(0, rowV x)] = some (x.map symV).toArray := by
  rw [hz1]
  exact fill_row hx.1 (by simp)
theorem rows_at {w : World} {base : Nat} {lv : Value} {rows : List (List Int)} (h : w.ownsRow base 64 24 lv rows.length (rowsV rows)) (hok : ∀ y ∈ rows, RowOk y) :
    ∃ a c, lv = .slice a rows.length c ∧ ∀ i, i < rows.length → ∃ g, a = some ⟨g, 0, none⟩ ∧ g < w.heap.size ∧ w.rangeAt g (i * 24) ((rows.getD i []).map symV) := by
  obtain ⟨a, c, rfl⟩ := own_slice0 h
  refine ⟨a, c, rfl, fun i hi => ?_⟩
  obtain ⟨g, cap, e, _, hg⟩ := h.form (by omega)
  injection e with e1 _ e2
  subst e1; subst e2
  refine ⟨g, rfl, hg, ?_⟩
  rw [List.getD_eq_getElem?_getD, List.getElem?_eq_getElem hi]
  exact own_row_range h (fun y hy => (hok y hy).1) hi
set_option maxHeartbeats 4000000 in
set_option maxRecDepth 100000 in
theorem docm_add {w0 w : World} {F0 : Nat → Prop} {R : List Thing} {lv : Value} {rows : List (List Int)} (h : Mid w0 F0 (rowsT lv rows :: R) w) {y : List Int} (hy : RowOk y) (hn : rows.length ≤ 1048576) :
    Calls Tryz.prog 15 #[lv, rowV y] w fun e w' => ∃ lv', e = .returned lv' ∧ Mid w0 F0 (rowsT lv' (addRow rows y) :: R) w' := by
  have HM := Lib.hid h
  obtain ⟨F, hrT, _⟩ := h.turn1
  have hown := hrT.1.1
  have hok := hrT.2
  clear h hrT
  obtain ⟨ad, cap, rfl, hr⟩ := rows_at hown hok
  have HR := Lib.hid hr
  have HO := Lib.hid hok
  clear hr hok hown
  have hyl := hy.1
  have hsz1 : (Tryz.prog.info? 64).map (·.size) = some (y.map symV).length := by rw [infoRow]; simp [hyl]
  have hszr : (Tryz.prog.info? 64).map (·.size) = some (y.map symV).toArray.size := by rw [infoRow]; simp [hyl]
  go_enter Tryz.func15, Tryz.ntmps15
  go_wp2_with fail
  have hb0 := (Below.refl w.heap.size w).alloc (Nat.le_refl _) (.cells (y.map symV).toArray 64)
  have hX := heap_alloc_new w (.cells (y.map symV).toArray 64)
  have HM1 := Lib.hid (HM.out.below hb0)
  replace hb0 := Lib.hid hb0
  clear HM
  generalize w.alloc (.cells (y.map symV).toArray 64) = w1 at *
  have hry : w1.rangeAt w.heap.size 0 (y.map symV) := fun q v hq => by
    simp only [World.cell?, hX, Nat.zero_add]
    simpa using hq
  go_loopg [5] rows.length (fun n s5 wr => ∃ i : Nat, s5 = .int .i64 (i : Int) ∧ i ≤ rows.length ∧ rows.length - i ≤ n ∧ Hid (∀ j, j < i → rows.getD j [] ≠ y) ∧ Hid (∃ qd, wr = w1.drewN qd))
  case atStart => exact ⟨0, rfl, Nat.zero_le _, by omega, (fun j hj => absurd hj (Nat.not_lt_zero _)), 0, rfl⟩
  obtain ⟨i, rfl, hi, hn2, HN, HQ⟩ := hrel
  by_cases hil : i < rows.length
  case neg =>
    have hz : ¬ (i : Int) < (rows.length : Int) := by omega
    obtain rfl : i = rows.length := by omega
    have hnew : y ∉ rows := fun hm => by
      obtain ⟨j, hj, e⟩ := List.getElem_of_mem hm
      refine HN.out j hj ?_
      rw [List.getD_eq_getElem?_getD, List.getElem?_eq_getElem hj]
      exact e
    have HM2 : Hid (Mid w0 F0 (rowsT (.slice ad rows.length cap) rows :: R) wr) := by obtain ⟨qd, h⟩ := HQ.out; rw [h]; exact HM1.out.below (below_drewN (Below.refl _ _) qd)
    have hX2 : wr.heap[w.heap.size]? = some (.cells (y.map symV).toArray 64 (0, 0)) := by obtain ⟨qd, h⟩ := HQ.out; rw [h]; exact hX
    clear HM1 HQ HN HR hX hry
    have hown : Hid (wr.ownsRow 0 64 24 (.slice ad rows.length cap) rows.length (rowsV rows)) := by
      obtain ⟨F, hrT, _⟩ := HM2.out.turn1
      exact hrT.1.1
    obtain ⟨i0, hi0, hz0, hz1, hz2⟩ := info_parts infoR
    have HI := Lib.hid (And.intro hi0 (And.intro hz0 (And.intro hz1 hz2)))
    have hfill := Lib.hid (fill_row1 hy i0 hz1)
    have hone : ∀ u ∈ List.map symV y, u.oneCell' = true := fun u hu => by obtain ⟨n, _, rfl⟩ := List.mem_map.1 hu; rfl
    have HON := Lib.hid hone
    have hlen : Hid ((List.map symV y).length = 24) := by show _ = 24; simp [hyl]
    clear hi0 hz0 hz1 hz2 hone
    go_wp2_with (refine wpList_load_row rfl 64 _ rfl w.heap.size rfl 64 _ (0, 0) _ hX2 Tryz.underlying64 rfl hszr ?_; refine halt1 ?_)
    unfold Halt1
    refine wpList_buildSlice rfl 69 64 1 #[(0, .tmp 20)] rfl (List.map symV y).toArray i0 (rowV zRow) Tryz.underlying69 HI.out.1 HI.out.2.1 (by rw [HI.out.2.2.1]; decide) (by rw [HI.out.2.2.1]; decide) (by simp only [List.map_toArray, List.map_cons, List.map_nil]; exact hfill.out) ?_
    refine wpList_append_own_at _ rfl _ _ 69 rfl 0 64 i0 (rowV zRow) 24 96 Tryz.underlying69 HI.out.1 HI.out.2.1 HI.out.2.2.1 HI.out.2.2.2 rfl (by decide) (.slice ad rows.length cap) rows.length (rowsV rows) rfl (hown.out.alloc _) ⟨wr.heap.size, 0, none⟩ 1 1 (List.map symV y) rfl (by rw [hlen.out]) (World.news_of_block (heap_alloc_new wr _)) HON.out (by unfold maxLen; omega) (by omega) (Nat.zero_le _) ?_
    intro v' w2 hown2 hgrow2 hnil2 hat2
    go_wp2_with fail
    refine bodyPost_ret (v := v') (by simp [results, Tryz.results15, go_sem]) rfl ⟨v', rfl, ?_⟩
    have hadd : addRow rows y = rows ++ [y] := by unfold addRow; rw [if_neg hnew]
    rw [hadd]
    have h1 := (rowsT_own HM2.out).1.below ((Below.refl _ wr).alloc (Nat.le_refl _) (.cells (y.map symV).toArray 64))
    have h2 := h1.appended hown2 hgrow2 hat2
    refine rowsT_of ?_ ?_
    · rw [List.length_append, List.length_singleton, show rowsV (rows ++ [y]) = rowsV rows ++ List.map symV y by simp [rowsV]]
      exact h2
    · intro z hz
      rcases List.mem_append.1 hz with hz | hz
      · exact HO.out z hz
      · rw [List.mem_singleton.1 hz]; exact hy
  have hz : (i : Int) < (rows.length : Int) := by omega
  obtain ⟨g, rfl, hg, hrx⟩ := HR.out i hil
  obtain ⟨x, hx⟩ : ∃ x, rows.getD i [] = x := ⟨_, rfl⟩
  rw [hx] at hrx
  have hxo : RowOk x := HO.out x (by
    rw [← hx, List.getD_eq_getElem?_getD, List.getElem?_eq_getElem hil, Option.getD_some]
    exact List.getElem_mem _)
  have hxl := hxo.1
  have hsx1 : (Tryz.prog.info? 64).map (·.size) = some (x.map symV).length := by rw [infoRow]; simp [hxl]
  have heq := fun w => run_eqIn_row hxo hy w
  have hd : x = rows.getD i [] := hx.symm
  replace hd := Lib.hid hd
  clear hx
  have HB : Hid (Below w.heap.size w wr) := by obtain ⟨qd, h⟩ := HQ.out; rw [h]; exact below_drewN hb0.out qd
  have hcl : ∀ p, wr.cell? p = w1.cell? p := fun p => by obtain ⟨qd, h⟩ := HQ.out; rw [h]; rfl
  have hS : (fun w' : World => w'.rangeAt g (i * 24) (x.map symV) ∧ w'.rangeAt w.heap.size 0 (y.map symV)) wr.drew := ⟨range_below hrx (below_drew' HB.out) hg, fun q v hq => (hcl _).trans (hry q v hq)⟩
  have HM5 : Hid (Mid w0 F0 (rowsT (.slice (some ⟨g, 0, none⟩) rows.length cap) rows :: R) wr.drew) := by obtain ⟨qd, h⟩ := HQ.out; rw [h]; exact (HM1.out.below (below_drewN (Below.refl _ _) qd)).below (below_drew' (Below.refl _ _))
  clear hrx HR hcl
  go_upto_region 4 with fail
  refine wp_region_held_drew (S := (fun w' : World => w'.rangeAt g (i * 24) (x.map symV) ∧ w'.rangeAt w.heap.size 0 (y.map symV))) (by kernel_rfl) hS (fun hS => ?_)
  obtain ⟨W5, hW5⟩ : ∃ W5, wr.drew = W5 := ⟨_, rfl⟩
  replace hW5 := Lib.hid hW5
  change wpAnyH _ _ _ _ _ _ _ _ wr.drew
  rw [show wr.drew = W5 from hW5.out] at hS HM5 ⊢
  refine wpAnyH_take (i := 0) (v := ?_) rfl (by kernel_rfl) (by kernel_rfl) (by kernel_rfl) (fun _ _ _ h => h) (Or.inl ⟨by rfl, ?_⟩) (by assumption) ?_
  rotate_left
  · intro w hSw; (try dsimp only at hSw); go_simp; try with_reducible rfl
  try simp only [Act.put, List.getElem_toArray, List.getElem_cons_succ, List.getElem_cons_zero, List.setIfInBounds_toArray, List.set_cons_zero, List.set_cons_succ]
  refine wpAnyH_take (i := 1) (v := ?_) rfl (by kernel_rfl) (by kernel_rfl) (by kernel_rfl) (fun _ _ _ h => h) (Or.inl ⟨by rfl, ?_⟩) (by assumption) ?_
  rotate_left
  · intro w hSw; (try dsimp only at hSw); go_simp; try with_reducible rfl
  try simp only [Act.put, List.getElem_toArray, List.getElem_cons_succ, List.getElem_cons_zero, List.setIfInBounds_toArray, List.set_cons_zero, List.set_cons_succ]
  refine wpAnyH_take (i := 2) (v := ?_) rfl (by kernel_rfl) (by kernel_rfl) (by kernel_rfl) (fun _ _ _ h => h) (Or.inl ⟨by rfl, ?_⟩) (by assumption) ?_
  rotate_left
  · intro w hSw; (try dsimp only at hSw); go_simp; try with_reducible rfl
  try simp only [Act.put, List.getElem_toArray, List.getElem_cons_succ, List.getElem_cons_zero, List.setIfInBounds_toArray, List.set_cons_zero, List.set_cons_succ]
  refine wpAnyH_take (i := 3) (v := _) rfl (by kernel_rfl) (by kernel_rfl) (by kernel_rfl) (fun _ _ _ h => h) (yieldsIf_load_mid (by rfl) 64 _ rfl g (i * 24) rfl (x.map symV) _ (fun w' hw' => hw'.1) Tryz.underlying64 rfl hsx1) (by assumption) ?_
  try simp only [Act.put, List.getElem_toArray, List.getElem_cons_succ, List.getElem_cons_zero, List.setIfInBounds_toArray, List.set_cons_zero, List.set_cons_succ]
  refine wpAnyH_take (i := 4) (v := _) rfl (by kernel_rfl) (by kernel_rfl) (by kernel_rfl) (fun _ _ _ h => h) (yieldsIf_load_mid (by rfl) 64 _ rfl w.heap.size 0 rfl (y.map symV) _ (fun w' hw' => hw'.2) Tryz.underlying64 rfl hsz1) (by assumption) ?_
  try simp only [Act.put, List.getElem_toArray, List.getElem_cons_succ, List.getElem_cons_zero, List.setIfInBounds_toArray, List.set_cons_zero, List.set_cons_succ]
  refine wpAnyH_take (i := 5) (v := ?_) rfl (by kernel_rfl) (by kernel_rfl) (by kernel_rfl) (fun _ _ _ h => h) (Or.inl ⟨by rfl, ?_⟩) (by assumption) ?_
  rotate_left
  · intro w hSw; (try dsimp only at hSw); go_simp; try with_reducible rfl
  try simp only [Act.put, List.getElem_toArray, List.getElem_cons_succ, List.getElem_cons_zero, List.setIfInBounds_toArray, List.set_cons_zero, List.set_cons_succ]
  refine wpAnyH_done (by kernel_rfl) ?_ _
  by_cases hxy : x = y
  · rw [decide_eq_true hxy]
    have hin : y ∈ rows := by
      rw [← hxy, hd.out, List.getD_eq_getElem?_getD, List.getElem?_eq_getElem hil, Option.getD_some]
      exact List.getElem_mem _
    have hadd : addRow rows y = rows := by unfold addRow; rw [if_pos hin]
    replace hadd := Lib.hid hadd
    clear heq hS hxy
    go_wp2_with fail
    try simp only [Exit.inBlock, Exit.then]
    refine bodyPost_ret (v := .slice (some ⟨g, 0, none⟩) rows.length cap) (by simp [results, Tryz.results15, go_sem]) rfl ⟨_, rfl, ?_⟩
    rw [hadd.out]
    exact HM5.out
  · rw [decide_eq_false hxy]
    have hne := Lib.hid hxy
    clear heq hS hxy
    go_wp2_with fail
    go_roundg (rows.length - (i + 1))
    case measure => omega
    case rel =>
      refine ⟨i + 1, by go_num, by omega, Nat.le_refl _, ?_, ?_⟩
      · intro j hj
        by_cases h : j = i
        · rw [h, ← hd.out]; exact hne.out
        · exact HN.out j (by omega)
      · obtain ⟨qd, h⟩ := HQ.out
        refine ⟨qd + 1, ?_⟩
        rw [← hW5.out, h]
        rfl
def minusRow (rows : List (List Int)) (y : List Int) : List (List Int) := rows.filter fun r => decide (r ≠ y)
theorem keep_succ {rows : List (List Int)} {y : List Int} {i : Nat} (hi : i < rows.length) : minusRow (rows.take (i + 1)) y = minusRow (rows.take i) y ++ (if rows.getD i [] = y then [] else [rows.getD i []]) := by
  unfold minusRow
  rw [List.take_succ_eq_append_getElem hi, List.filter_append, List.getD_eq_getElem?_getD, List.getElem?_eq_getElem hi, Option.getD_some]
  congr 1
  by_cases h : rows[i] = y
  · simp [h]
  · simp [h]
set_option maxHeartbeats 4000000 in
set_option maxRecDepth 100000 in
theorem docm_remove {w0 w : World} {F0 : Nat → Prop} {R : List Thing} {lv : Value} {rows : List (List Int)} (h : Mid w0 F0 (rowsT lv rows :: R) w) {y : List Int} (hy : RowOk y) (hn : rows.length ≤ 1048576) :
    Calls Tryz.prog 17 #[lv, rowV y] w fun e w' => ∃ lv', e = .returned lv' ∧ Mid w0 F0 (rowsT lv' (minusRow rows y) :: R) w' := by
  have HM := Lib.hid h
  obtain ⟨F, hrT, _⟩ := h.turn1
  have hok := hrT.2
  obtain ⟨ad, cap, rfl⟩ := own_slice0 hrT.1.1
  clear h hrT
  have HO := Lib.hid hok
  clear hok
  have hyl := hy.1
  have hsz1 : (Tryz.prog.info? 64).map (·.size) = some (y.map symV).length := by rw [infoRow]; simp [hyl]
  go_enter Tryz.func17, Tryz.ntmps17
  go_wp2_with fail
  have HM1 := Lib.hid (HM.out.alloc (y.map symV) 64)
  clear HM
  generalize w.alloc (.cells (y.map symV).toArray 64) = w1 at *
  generalize w.heap.size = N at *
  go_loopg [5, 6] rows.length (fun n s5 s6 wr => ∃ i : Nat, s6 = .int .i64 (i : Int) ∧ i ≤ rows.length ∧ rows.length - i ≤ n ∧
    Hid (Mid w0 F0 (ownT 64 24 s5 (minusRow (rows.take i) y).length (rowsV (minusRow (rows.take i) y)) :: cellsT N (y.map symV) 64 :: rowsT (.slice ad rows.length cap) rows :: R) wr))
  case atStart => exact ⟨0, rfl, Nat.zero_le _, by omega, HM1.out.more (l' := [_]) (F := fun k => (Value.slice none 0 0).ownBlock = some k) (Below.refl _ _) (All.one ⟨World.ownsRow_nil _ _ _ _, rfl⟩) (fun k hk => by cases hk)⟩
  clear HM1 w1
  obtain ⟨i, rfl, hi, hn2, HM⟩ := hrel
  by_cases hil : i < rows.length
  case neg =>
    have hz : ¬ (i : Int) < (rows.length : Int) := by omega
    obtain rfl : i = rows.length := by omega
    go_wp2_with fail
    refine bodyPost_ret (v := u5) (by simp [results, Tryz.results17, go_sem]) rfl ⟨u5, rfl, ?_⟩
    have h1 := HM.out
    rw [List.take_length] at h1
    refine rowsT_of (h1.up1.drop1.up1.drop1) fun z hz => HO.out z (List.mem_filter.1 hz).1
  have hz : (i : Int) < (rows.length : Int) := by omega
  have hrT : wr.ownsRow 0 64 24 (.slice ad rows.length cap) rows.length (rowsV rows) := by
    obtain ⟨F, h, _⟩ := HM.out.get mem2
    exact h.1
  obtain ⟨a', c', e, hr⟩ := rows_at hrT HO.out
  injection e with e1 _ e2
  subst e1; subst e2
  obtain ⟨g, rfl, hg, hrx⟩ := hr i hil
  have hX := HM.out.cells mem1
  clear hr hrT
  obtain ⟨x, hx⟩ : ∃ x, rows.getD i [] = x := ⟨_, rfl⟩
  rw [hx] at hrx
  have hxo : RowOk x := HO.out x (by
    rw [← hx, List.getD_eq_getElem?_getD, List.getElem?_eq_getElem hil, Option.getD_some]
    exact List.getElem_mem _)
  have hxl := hxo.1
  have hsx1 : (Tryz.prog.info? 64).map (·.size) = some (x.map symV).length := by rw [infoRow]; simp [hxl]
  have heq := fun w => run_eqIn_row hxo hy w
  have hks := keep_succ (y := y) hil
  rw [hx] at hks
  replace hks := Lib.hid hks
  clear hx
  have hS : (fun w' : World => w'.rangeAt g (i * 24) (x.map symV) ∧ w'.rangeAt N 0 (y.map symV)) wr.drew := ⟨range_below hrx (below_drew' (Below.refl _ _)) hg, fun q v hq => by
    show wr.cell? _ = _
    simp only [World.cell?, hX, Nat.zero_add]
    simpa using hq⟩
  have HM5 := Lib.hid (HM.out.below (below_drew' (Below.refl _ _)))
  clear HM hrx hX
  go_upto_region 5 with fail
  refine wp_region_held_drew (S := (fun w' : World => w'.rangeAt g (i * 24) (x.map symV) ∧ w'.rangeAt N 0 (y.map symV))) (by kernel_rfl) hS (fun hS => ?_)
  generalize wr.drew = W5 at *
  refine wpAnyH_take (i := 0) (v := ?_) rfl (by kernel_rfl) (by kernel_rfl) (by kernel_rfl) (fun _ _ _ h => h) (Or.inl ⟨by rfl, ?_⟩) (by assumption) ?_
  rotate_left
  · intro w hSw; (try dsimp only at hSw); go_simp; try with_reducible rfl
  try simp only [Act.put, List.getElem_toArray, List.getElem_cons_succ, List.getElem_cons_zero, List.setIfInBounds_toArray, List.set_cons_zero, List.set_cons_succ]
  refine wpAnyH_take (i := 1) (v := ?_) rfl (by kernel_rfl) (by kernel_rfl) (by kernel_rfl) (fun _ _ _ h => h) (Or.inl ⟨by rfl, ?_⟩) (by assumption) ?_
  rotate_left
  · intro w hSw; (try dsimp only at hSw); go_simp; try with_reducible rfl
  try simp only [Act.put, List.getElem_toArray, List.getElem_cons_succ, List.getElem_cons_zero, List.setIfInBounds_toArray, List.set_cons_zero, List.set_cons_succ]
  refine wpAnyH_take (i := 2) (v := ?_) rfl (by kernel_rfl) (by kernel_rfl) (by kernel_rfl) (fun _ _ _ h => h) (Or.inl ⟨by rfl, ?_⟩) (by assumption) ?_
  rotate_left
  · intro w hSw; (try dsimp only at hSw); go_simp; try with_reducible rfl
  try simp only [Act.put, List.getElem_toArray, List.getElem_cons_succ, List.getElem_cons_zero, List.setIfInBounds_toArray, List.set_cons_zero, List.set_cons_succ]
  refine wpAnyH_take (i := 3) (v := _) rfl (by kernel_rfl) (by kernel_rfl) (by kernel_rfl) (fun _ _ _ h => h) (yieldsIf_load_mid (by rfl) 64 _ rfl g (i * 24) rfl (x.map symV) _ (fun w' hw' => hw'.1) Tryz.underlying64 rfl hsx1) (by assumption) ?_
  try simp only [Act.put, List.getElem_toArray, List.getElem_cons_succ, List.getElem_cons_zero, List.setIfInBounds_toArray, List.set_cons_zero, List.set_cons_succ]
  refine wpAnyH_take (i := 4) (v := _) rfl (by kernel_rfl) (by kernel_rfl) (by kernel_rfl) (fun _ _ _ h => h) (yieldsIf_load_mid (by rfl) 64 _ rfl N 0 rfl (y.map symV) _ (fun w' hw' => hw'.2) Tryz.underlying64 rfl hsz1) (by assumption) ?_
  try simp only [Act.put, List.getElem_toArray, List.getElem_cons_succ, List.getElem_cons_zero, List.setIfInBounds_toArray, List.set_cons_zero, List.set_cons_succ]
  refine wpAnyH_take (i := 5) (v := ?_) rfl (by kernel_rfl) (by kernel_rfl) (by kernel_rfl) (fun _ _ _ h => h) (Or.inl ⟨by rfl, ?_⟩) (by assumption) ?_
  rotate_left
  · intro w hSw; (try dsimp only at hSw); go_simp; try with_reducible rfl
  try simp only [Act.put, List.getElem_toArray, List.getElem_cons_succ, List.getElem_cons_zero, List.setIfInBounds_toArray, List.set_cons_zero, List.set_cons_succ]
  refine wpAnyH_done (by kernel_rfl) ?_ _
  have hrx5 := hS.1
  by_cases hxy : x = y
  · have hk := hks.out
    rw [if_pos hxy, List.append_nil] at hk
    have HM6 : Hid (Mid w0 F0 (ownT 64 24 u5 (minusRow (rows.take (i + 1)) y).length (rowsV (minusRow (rows.take (i + 1)) y)) :: cellsT N (y.map symV) 64 :: rowsT (.slice (some ⟨g, 0, none⟩) rows.length cap) rows :: R) W5) := by rw [hk]; exact HM5.out
    rw [decide_eq_true hxy]
    clear heq hS hxy hk hks HM5 hrx5
    go_wp2_with fail
    go_roundg (rows.length - (i + 1))
    case measure => omega
    case rel => exact ⟨i + 1, by go_num, by omega, Nat.le_refl _, HM6⟩
  · have hk := hks.out
    rw [if_neg hxy] at hk
    rw [decide_eq_false hxy]
    obtain ⟨fl, hfl⟩ : ∃ fl, minusRow (rows.take i) y = fl := ⟨_, rfl⟩
    have hfll : fl.length ≤ 1048576 := by
      rw [← hfl]
      refine Nat.le_trans (List.length_filter_le _ _) ?_
      rw [List.length_take]
      omega
    rw [hfl] at HM5 hk
    have hkk := Lib.hid hk
    have hown : Hid (W5.ownsRow 0 64 24 u5 fl.length (rowsV fl)) := HM5.out.own (List.mem_cons_self ..)
    obtain ⟨i0, hi0, hz0, hz1, hz2⟩ := info_parts infoR
    have HI := Lib.hid (And.intro hi0 (And.intro hz0 (And.intro hz1 hz2)))
    have hfill := Lib.hid (fill_row1 hxo i0 hz1)
    have hone : ∀ u ∈ List.map symV x, u.oneCell' = true := fun u hu => by obtain ⟨n, _, rfl⟩ := List.mem_map.1 hu; rfl
    have HON := Lib.hid hone
    have hlen : Hid ((List.map symV x).length = 24) := by show _ = 24; simp [hxl]
    clear heq hS hxy hk hks hi0 hz0 hz1 hz2 hone hfl
    go_wp2_with (refine wpList_load_mid rfl 64 _ rfl g (i * 24) rfl _ _ hrx5 Tryz.underlying64 rfl hsx1 ?_; refine halt1 ?_)
    unfold Halt1
    refine wpList_buildSlice rfl 69 64 1 #[(0, .tmp 23)] rfl (List.map symV x).toArray i0 (rowV zRow) Tryz.underlying69 HI.out.1 HI.out.2.1 (by rw [HI.out.2.2.1]; decide) (by rw [HI.out.2.2.1]; decide) (by simp only [List.map_toArray, List.map_cons, List.map_nil]; exact hfill.out) ?_
    refine wpList_append_own_at _ rfl _ _ 69 rfl 0 64 i0 (rowV zRow) 24 96 Tryz.underlying69 HI.out.1 HI.out.2.1 HI.out.2.2.1 HI.out.2.2.2 rfl (by decide) u5 fl.length (rowsV fl) rfl (hown.out.alloc _) ⟨W5.heap.size, 0, none⟩ 1 1 (List.map symV x) rfl (by rw [hlen.out]) (World.news_of_block (heap_alloc_new W5 _)) HON.out (by unfold maxLen; omega) (by omega) (Nat.zero_le _) ?_
    intro v' w2 hown2 hgrow2 hnil2 hat2
    have HM6 : Hid (Mid w0 F0 (ownT 64 24 v' (minusRow (rows.take (i + 1)) y).length (rowsV (minusRow (rows.take (i + 1)) y)) :: cellsT N (y.map symV) 64 :: rowsT (.slice (some ⟨g, 0, none⟩) rows.length cap) rows :: R) w2) := by
      have h1 := HM5.out.below ((Below.refl _ W5).alloc (Nat.le_refl _) (.cells (x.map symV).toArray 64))
      have h2 := h1.appended hown2 hgrow2 hat2
      rw [hkk.out, List.length_append, List.length_singleton, show rowsV (fl ++ [x]) = rowsV fl ++ List.map symV x by simp [rowsV]]
      exact h2
    clear HM5 hown hown2 hgrow2 hnil2 hat2 HI hfill HON hkk hrx5
    go_wp2_with fail
    go_roundg (rows.length - (i + 1))
    case measure => omega
    case rel => exact ⟨i + 1, by go_num, by omega, Nat.le_refl _, HM6⟩
end Go.Proofs.YtckhkfchgcdajaaGreatDoor

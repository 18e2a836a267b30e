import Derived.Test.YtckhkfchgcdajaaGreatDoorYJxI6
namespace Go.Proofs.YtckhkfchgcdajaaGreatDoor
open Go.Fx Go.RowKit Go.Maps Go.Sort
theorem tells_nil : Tells [] [] := ⟨List.Pairwise.nil, List.nodup_nil, fun m n => ⟨fun h => (List.not_mem_nil h).elim, fun ⟨a, h, _⟩ => (List.not_mem_nil h).elim⟩⟩
def MadeOut (w0 : World) (F0 : Nat → Prop) (kb : Nat) (R : List Thing) (e : Ending) (w' : World) : Prop := ∃ s, e = .returned (.tuple #[.pointer (some ⟨s, 0, none⟩), .bool true]) ∧ Mid w0 F0 (shelfT s kb 0 :: R) w'
theorem w_new {w0 w : World} {F0 : Nat → Prop} {R : List Thing} (h : Mid w0 F0 R w) {arity : Nat} (ha : arity ≤ 24) : Calls Tryz.prog 10 #[.int .i64 (arity : Int)] w fun e w' => ∃ b, e = .returned (.tuple #[.pointer (some ⟨b, 0, none⟩), .int .i64 0]) ∧ Mid w0 F0 (relT b arity 0 [] :: R) w' := by
  refine (b_new ha).mono ?_
  rintro e w' ⟨b, F, rfl, h1, h2, h3⟩
  exact ⟨b, rfl, h.more (l' := [relT b arity 0 []]) h2 (All.one h1) h3⟩
theorem w_open {w0 w : World} {F0 : Nat → Prop} {R : List Thing} {b arity : Nat} {gone : Int} {rows : List (List Int)} (h : Mid w0 F0 (relT b arity gone rows :: R) w) : Calls Tryz.prog 11 #[.pointer (some ⟨b, 0, none⟩)] w fun e w' => ∃ bk, e = .returned (.tuple #[.pointer (some ⟨bk, 0, none⟩), .int .i64 0]) ∧ Mid w0 F0 (bkT bk b [] :: relT b arity gone rows :: R) w' := by
  obtain ⟨F, hR, _⟩ := h.turn1
  refine (b_open hR).mono ?_
  rintro e w' ⟨bk, F', rfl, h1, h2, h3⟩
  exact ⟨bk, rfl, h.more (l' := [bkT bk b []]) h2 (All.one h1) h3⟩
theorem w_dnew {w0 w : World} {F0 : Nat → Prop} {R : List Thing} (h : Mid w0 F0 R w) {arity : Nat} : Calls Tryz.prog 12 #[.int .i64 (arity : Int)] w fun e w' => ∃ k, e = .returned (.pointer (some ⟨k, 0, none⟩)) ∧ Mid w0 F0 (docT k arity [] :: R) w' := by
  refine docm_new.mono ?_
  rintro e w' ⟨k, D, rfl, h1, h2, h3⟩
  exact ⟨k, rfl, h.more (l' := [docT k arity []]) h2 (All.one h1) h3⟩
set_option maxRecDepth 100000 in
set_option maxHeartbeats 4000000 in
theorem made_calls {w0 w : World} {F0 : Nat → Prop} {R : List Thing} (h : Mid w0 F0 R w) {arity kb : Nat} (ha : arity ≤ 24) :
    Calls Tryz.prog 4 #[.int .i64 (arity : Int), .pointer (some ⟨kb, 0, none⟩)] w (MadeOut w0 F0 kb R) := by
  have HM := Lib.hid h
  clear h
  go_enter Tryz.func4, Tryz.ntmps4
  go_wp2_with fail
  refine (w_new HM.out ha).mono ?_
  rintro e w1 ⟨b, rfl, h1⟩
  clear HM
  have HM := Lib.hid h1
  clear h1
  go_wp2_with fail
  have HM1 := Lib.hid (HM.out.alloc [ptrV b, .int .i64 (arity : Int), .slice none 0 0, .pointer none, .pointer none, .pointer none, .pointer none, ptrV kb] 75)
  clear HM
  generalize w1.alloc _ = w2 at *
  generalize w1.heap.size = s at *
  refine wp_loop_rounds 3 ?_
  rw [rounds_succ]
  go_wp2_with fail
  refine (w_open HM1.out.up1).mono ?_
  rintro e v0 ⟨bk0, rfl, h0⟩
  have HM2 := Lib.hid h0.up2
  clear HM1 h0
  have c0 : v0.cell? ⟨s, 3, none⟩ = some (.pointer none) := HM2.out.cellAt (List.mem_cons_self ..) rfl
  have f0 : v0.frozen? ⟨s, 3, none⟩ = false := by simp [World.frozen?, HM2.out.cells (List.mem_cons_self ..)]
  have HM3 := Lib.hid (HM2.out.setCells (k := 3) (ptrV bk0))
  clear HM2
  go_upto_region 12 with fail
  generalize v0.setCell ⟨s, 3, none⟩ _ = x0 at *
  clear c0 f0
  have HMd := Lib.hid (HM3.out.below (below_drew' (Below.refl _ _)))
  clear HM3
  refine wp_region_held_drew (S := fun _ => True) (by kernel_rfl) trivial (fun _ => ?_)
  generalize x0.drew = y0 at *
  refine wpAnyH_take (i := 0) (v := ?_) rfl (by kernel_rfl) (by kernel_rfl) (by kernel_rfl) (fun _ _ _ h => h) (Or.inl ⟨by rfl, ?_⟩) trivial ?_
  rotate_left
  · intro w hSw; go_simp; try with_reducible rfl
  try simp only [Act.put, List.getElem_toArray, List.getElem_cons_succ, List.getElem_cons_zero, List.setIfInBounds_toArray, List.set_cons_zero, List.set_cons_succ]
  refine wpAnyH_take (i := 1) (v := ?_) rfl (by kernel_rfl) (by kernel_rfl) (by kernel_rfl) (fun _ _ _ h => h) (Or.inl ⟨by rfl, ?_⟩) trivial ?_
  rotate_left
  · intro w hSw; go_simp; try with_reducible rfl
  try simp only [Act.put, List.getElem_toArray, List.getElem_cons_succ, List.getElem_cons_zero, List.setIfInBounds_toArray, List.set_cons_zero, List.set_cons_succ]
  refine wpAnyH_take (i := 2) (v := ?_) rfl (by kernel_rfl) (by kernel_rfl) (by kernel_rfl) (fun _ _ _ h => h) (Or.inl ⟨by rfl, ?_⟩) trivial ?_
  rotate_left
  · intro w hSw; go_simp; try with_reducible rfl
  try simp only [Act.put, List.getElem_toArray, List.getElem_cons_succ, List.getElem_cons_zero, List.setIfInBounds_toArray, List.set_cons_zero, List.set_cons_succ]
  refine wpAnyH_take (i := 4) (v := ?_) rfl (by kernel_rfl) (by kernel_rfl) (by kernel_rfl) (fun _ _ _ h => h) (Or.inl ⟨by rfl, ?_⟩) trivial ?_
  rotate_left
  · intro w hSw; go_simp; try with_reducible rfl
  try simp only [Act.put, List.getElem_toArray, List.getElem_cons_succ, List.getElem_cons_zero, List.setIfInBounds_toArray, List.set_cons_zero, List.set_cons_succ]
  refine wpAnyH_take (i := 5) (v := ?_) rfl (by kernel_rfl) (by kernel_rfl) (by kernel_rfl) (fun _ _ _ h => h) (Or.inl ⟨by rfl, ?_⟩) trivial ?_
  rotate_left
  · intro w hSw; go_simp; try with_reducible rfl
  try simp only [Act.put, List.getElem_toArray, List.getElem_cons_succ, List.getElem_cons_zero, List.setIfInBounds_toArray, List.set_cons_zero, List.set_cons_succ]
  refine wpAnyH_ready (rs := [3]) (by kernel_rfl) (by simp) (AllReadyH.cons rfl (fun K hK => ?_) AllReadyH.nil)
  rw [if_pos (by rfl)]
  go_simp
  refine (w_dnew HMd.out).mono ?_
  rintro e z0 ⟨k0, rfl, g0⟩
  have HM4 := Lib.hid g0.up1
  clear HMd g0
  refine hK.out _ _ trivial (fun _ => ?_)
  clear hK K
  try simp only [Act.put, List.getElem_toArray, List.getElem_cons_succ, List.getElem_cons_zero, List.setIfInBounds_toArray, List.set_cons_zero, List.set_cons_succ]
  refine wpAnyH_take (i := 6) (v := ?_) rfl (by kernel_rfl) (by kernel_rfl) (by kernel_rfl) (fun _ _ _ h => h) (Or.inl ⟨by rfl, ?_⟩) trivial ?_
  rotate_left
  · intro w hSw; go_simp; try with_reducible rfl
  try simp only [Act.put, List.getElem_toArray, List.getElem_cons_succ, List.getElem_cons_zero, List.setIfInBounds_toArray, List.set_cons_zero, List.set_cons_succ]
  have c0 : z0.cell? ⟨s, 5, none⟩ = some (.pointer none) := HM4.out.cellAt (List.mem_cons_self ..) rfl
  have f0 : z0.frozen? ⟨s, 5, none⟩ = false := by simp [World.frozen?, HM4.out.cells (List.mem_cons_self ..)]
  have HM5 := Lib.hid (HM4.out.setCells (k := 5) (ptrV k0))
  clear HM4
  refine wpAnyH_ready (rs := [7]) (by kernel_rfl) (by simp) (AllReadyH.cons rfl (fun K hK => ?_) AllReadyH.nil)
  rw [if_pos (by rfl)]
  go_simp
  refine hK.out _ _ trivial (fun _ => ?_)
  clear hK K
  refine wpAnyH_done (by kernel_rfl) ?_ _
  generalize z0.setCell ⟨s, 5, none⟩ _ = q0 at *
  clear c0 f0
  have HM1 := Lib.hid HM5.out.up3
  have HM1' := Lib.hid HM1.out.up1
  clear HM1 HM5
  have HM1 := HM1'
  clear HM1'
  go_wp2_with fail
  rw [rounds_succ]
  go_wp2_with fail
  refine (w_open HM1.out.up1).mono ?_
  rintro e v1 ⟨bk1, rfl, h1⟩
  have HM2 := Lib.hid h1.up2
  clear HM1 h1
  have c1 : v1.cell? ⟨s, 4, none⟩ = some (.pointer none) := HM2.out.cellAt (List.mem_cons_self ..) rfl
  have f1 : v1.frozen? ⟨s, 4, none⟩ = false := by simp [World.frozen?, HM2.out.cells (List.mem_cons_self ..)]
  have HM3 := Lib.hid (HM2.out.setCells (k := 4) (ptrV bk1))
  clear HM2
  go_upto_region 12 with fail
  generalize v1.setCell ⟨s, 4, none⟩ _ = x1 at *
  clear c1 f1
  have HMd := Lib.hid (HM3.out.below (below_drew' (Below.refl _ _)))
  clear HM3
  refine wp_region_held_drew (S := fun _ => True) (by kernel_rfl) trivial (fun _ => ?_)
  generalize x1.drew = y1 at *
  refine wpAnyH_take (i := 0) (v := ?_) rfl (by kernel_rfl) (by kernel_rfl) (by kernel_rfl) (fun _ _ _ h => h) (Or.inl ⟨by rfl, ?_⟩) trivial ?_
  rotate_left
  · intro w hSw; go_simp; try with_reducible rfl
  try simp only [Act.put, List.getElem_toArray, List.getElem_cons_succ, List.getElem_cons_zero, List.setIfInBounds_toArray, List.set_cons_zero, List.set_cons_succ]
  refine wpAnyH_take (i := 1) (v := ?_) rfl (by kernel_rfl) (by kernel_rfl) (by kernel_rfl) (fun _ _ _ h => h) (Or.inl ⟨by rfl, ?_⟩) trivial ?_
  rotate_left
  · intro w hSw; go_simp; try with_reducible rfl
  try simp only [Act.put, List.getElem_toArray, List.getElem_cons_succ, List.getElem_cons_zero, List.setIfInBounds_toArray, List.set_cons_zero, List.set_cons_succ]
  refine wpAnyH_take (i := 2) (v := ?_) rfl (by kernel_rfl) (by kernel_rfl) (by kernel_rfl) (fun _ _ _ h => h) (Or.inl ⟨by rfl, ?_⟩) trivial ?_
  rotate_left
  · intro w hSw; go_simp; try with_reducible rfl
  try simp only [Act.put, List.getElem_toArray, List.getElem_cons_succ, List.getElem_cons_zero, List.setIfInBounds_toArray, List.set_cons_zero, List.set_cons_succ]
  refine wpAnyH_take (i := 4) (v := ?_) rfl (by kernel_rfl) (by kernel_rfl) (by kernel_rfl) (fun _ _ _ h => h) (Or.inl ⟨by rfl, ?_⟩) trivial ?_
  rotate_left
  · intro w hSw; go_simp; try with_reducible rfl
  try simp only [Act.put, List.getElem_toArray, List.getElem_cons_succ, List.getElem_cons_zero, List.setIfInBounds_toArray, List.set_cons_zero, List.set_cons_succ]
  refine wpAnyH_take (i := 5) (v := ?_) rfl (by kernel_rfl) (by kernel_rfl) (by kernel_rfl) (fun _ _ _ h => h) (Or.inl ⟨by rfl, ?_⟩) trivial ?_
  rotate_left
  · intro w hSw; go_simp; try with_reducible rfl
  try simp only [Act.put, List.getElem_toArray, List.getElem_cons_succ, List.getElem_cons_zero, List.setIfInBounds_toArray, List.set_cons_zero, List.set_cons_succ]
  refine wpAnyH_ready (rs := [3]) (by kernel_rfl) (by simp) (AllReadyH.cons rfl (fun K hK => ?_) AllReadyH.nil)
  rw [if_pos (by rfl)]
  go_simp
  refine (w_dnew HMd.out).mono ?_
  rintro e z1 ⟨k1, rfl, g1⟩
  have HM4 := Lib.hid g1.up1
  clear HMd g1
  refine hK.out _ _ trivial (fun _ => ?_)
  clear hK K
  try simp only [Act.put, List.getElem_toArray, List.getElem_cons_succ, List.getElem_cons_zero, List.setIfInBounds_toArray, List.set_cons_zero, List.set_cons_succ]
  refine wpAnyH_take (i := 6) (v := ?_) rfl (by kernel_rfl) (by kernel_rfl) (by kernel_rfl) (fun _ _ _ h => h) (Or.inl ⟨by rfl, ?_⟩) trivial ?_
  rotate_left
  · intro w hSw; go_simp; try with_reducible rfl
  try simp only [Act.put, List.getElem_toArray, List.getElem_cons_succ, List.getElem_cons_zero, List.setIfInBounds_toArray, List.set_cons_zero, List.set_cons_succ]
  have c1 : z1.cell? ⟨s, 6, none⟩ = some (.pointer none) := HM4.out.cellAt (List.mem_cons_self ..) rfl
  have f1 : z1.frozen? ⟨s, 6, none⟩ = false := by simp [World.frozen?, HM4.out.cells (List.mem_cons_self ..)]
  have HM5 := Lib.hid (HM4.out.setCells (k := 6) (ptrV k1))
  clear HM4
  refine wpAnyH_ready (rs := [7]) (by kernel_rfl) (by simp) (AllReadyH.cons rfl (fun K hK => ?_) AllReadyH.nil)
  rw [if_pos (by rfl)]
  go_simp
  refine hK.out _ _ trivial (fun _ => ?_)
  clear hK K
  refine wpAnyH_done (by kernel_rfl) ?_ _
  generalize z1.setCell ⟨s, 6, none⟩ _ = q1 at *
  clear c1 f1
  go_wp2_with fail
  rw [rounds_succ]
  go_wp2_with fail
  refine bodyPost_ret (v := .tuple #[.pointer (some ⟨s, 0, none⟩), .bool true]) (by simp [results, Tryz.results4, go_sem]) rfl ⟨s, rfl, ?_⟩
  have h9 := (HM5.out.row (v := .slice none 0 0) (ty := 64) (size := 24) (n := 0) (xs := []) (Below.refl _ _) (World.ownsRow_nil _ _ _ _))
  have h10 := (rowsT_of (rows := []) h9 (fun y hy => by cases hy)).up2.up3.up5.up6.up4.up6.up6
  exact shelf_shut (x := ⟨b, bk0, bk1, k0, k1, arity, 0, [], .slice none 0 0, [], [], [], []⟩) h10 ⟨tells_nil, tells_nil, Fine.nil _ _, Fine.nil _ _, ha, Nat.zero_le _, ⟨by show (0 : Int) ≤ 0; omega, by show (0 : Int) ≤ ((0 : Nat) : Int); omega⟩, Nat.zero_le _, Nat.zero_le _, Nat.zero_le _, Nat.zero_le _⟩
end Go.Proofs.YtckhkfchgcdajaaGreatDoor

import Derived.Test.YtckhkfchgcdajaaGreatDoorYJxI5
namespace Go.Proofs.YtckhkfchgcdajaaGreatDoor
open Go.Fx Go.RowKit Go.Maps Go.Sort
section
variable {w0 w : World} {F0 : Nat → Prop} {R : List Thing}
theorem _root_.Go.Fx.Mid.up9 {a b c d e f g i j k : Thing} {l : List Thing} (h : Mid w0 F0 (a :: b :: c :: d :: e :: f :: g :: i :: j :: k :: l) w) : Mid w0 F0 (k :: a :: b :: c :: d :: e :: f :: g :: i :: j :: l) w := h.perm (List.perm_middle (l₁ := [a, b, c, d, e, f, g, i, j]))
end
theorem mem7 {α : Type} {a b c d e f g i : α} {l : List α} : i ∈ a :: b :: c :: d :: e :: f :: g :: i :: l := by simp
def DoesOut (w0 : World) (F0 : Nat → Prop) (s kb B B2 : Nat) (R : List Thing) (e : Ending) (w' : World) : Prop := e = .returned (.bool true) ∧ Mid w0 F0 (shelfT s kb (B + 1) :: kT kb (B2 + 2) :: R) w'
theorem range_cells {w : World} {M : Nat} {cs : List Value} {ty : TypeId} (h : w.heap[M]? = some (.cells cs.toArray ty (0, 0))) : w.rangeAt M 0 cs := fun q v hq => by
  simp only [World.cell?, h, Nat.zero_add]
  simpa using hq
set_option maxRecDepth 100000 in
set_option maxHeartbeats 8000000 in
theorem does_calls {w0 w : World} {F0 : Nat → Prop} {R : List Thing} {s kb B B2 : Nat} {kind on book : Int} {m : Nat} {row : List Int} (h : Mid w0 F0 (shelfT s kb B :: kT kb B2 :: R) w) (hB : B ≤ 1048576) (hB2 : B2 ≤ 4194000) (hrow : RowOk row) (hm : MskOk m) :
    Calls Tryz.prog 5 #[.pointer (some ⟨s, 0, none⟩), .agg (opV kind on book m row).toArray] w (DoesOut w0 F0 s kb B B2 R) := by
  obtain ⟨⟨b, bk0, bk1, k0, k1, arity, gone, rows, lv, abs0, abs1, l0, l1⟩, hx, h1⟩ := shelf_open h
  have HX := Lib.hid hx
  clear h hx
  have hsz := op_row hrow
  have hszo : (Tryz.prog.info? 66).map (·.size) = some (opV kind on book m row).length := by
    have : (Tryz.prog.info? 66).map (·.size) = some 28 := by kernel_rfl
    rw [this]; simp [opV, hrow.1]
  have HM : Hid (Mid w0 F0 (cellsT w.heap.size (opV kind on book m row) 66 :: cellsT s [ptrV b, .int .i64 (arity : Int), lv, ptrV bk0, ptrV bk1, ptrV k0, ptrV k1, ptrV kb] 75 :: relT b arity gone rows :: rowsT lv rows :: bkT bk0 b abs0 :: docT k0 arity l0 :: bkT bk1 b abs1 :: docT k1 arity l1 :: kT kb B2 :: R) (w.alloc (.cells (opV kind on book m row).toArray 66))) := h1.alloc (opV kind on book m row) 66
  clear h1
  have hN := HM.out.cells (List.mem_cons_self ..)
  go_enter Tryz.func5, Tryz.ntmps5
  go_upto_region 1 with fail
  generalize w.alloc (.cells (opV kind on book m row).toArray 66) = w1 at *
  generalize w.heap.size = N at *
  obtain ⟨c0, c3, hr⟩ := op_facts hN
  have s1 : w1.cell? ⟨s, 1, none⟩ = some (.int .i64 (arity : Int)) := HM.out.cellAt mem1 rfl
  have hS : (fun w' : World => w'.rangeAt N 4 (row.map symV) ∧ w'.cell? ⟨s, 1, none⟩ = some (.int .i64 (arity : Int))) w1.drew := ⟨hr, s1⟩
  go_cut [5] from 9 to 16 (fun s5 wx => ∃ M : Nat, s5 = .pointer (some ⟨M, 0, none⟩) ∧ Hid (Mid w0 F0 (cellsT M ((fitRow arity row).map symV) 64 :: cellsT N (opV kind on book m row) 66 :: cellsT s [ptrV b, .int .i64 (arity : Int), lv, ptrV bk0, ptrV bk1, ptrV k0, ptrV k1, ptrV kb] 75 :: relT b arity gone rows :: rowsT lv rows :: bkT bk0 b abs0 :: docT k0 arity l0 :: bkT bk1 b abs1 :: docT k1 arity l1 :: kT kb B2 :: R) wx))
  case first =>
    have HMd := Lib.hid (HM.out.below (below_drew' (Below.refl _ _)))
    have hsl := HM.out.lt mem1
    have hNl := HM.out.lt (List.mem_cons_self ..)
    clear HM hN c0 c3 hr s1
    refine wp_region_held_drew (S := (fun w' : World => w'.rangeAt N 4 (row.map symV) ∧ w'.cell? ⟨s, 1, none⟩ = some (.int .i64 (arity : Int)))) (by kernel_rfl) hS (fun hS => ?_)
    replace hsl : s < w1.drew.heap.size := hsl
    replace hNl : N < w1.drew.heap.size := hNl
    generalize w1.drew = W5 at *
    have hkeep : ∀ W : World, Below W5.heap.size W5 W → W.rangeAt N 4 (row.map symV) ∧ W.cell? ⟨s, 1, none⟩ = some (.int .i64 (arity : Int)) := fun W hb => ⟨range_below hS.1 hb hNl, (hb.cell (p := ⟨s, 1, none⟩) hsl).trans hS.2⟩
    refine wpAnyH_take (i := 0) (v := ?_) rfl (by kernel_rfl) (by kernel_rfl) (by kernel_rfl) (fun _ _ _ h => h) (Or.inl ⟨by rfl, ?_⟩) (by assumption) ?_
    rotate_left
    · intro w hSw; (try dsimp only at hSw); go_simp; try with_reducible rfl
    try simp only [Act.put, List.getElem_toArray, List.getElem_cons_succ, List.getElem_cons_zero, List.setIfInBounds_toArray, List.set_cons_zero, List.set_cons_succ]
    refine wpAnyH_take (i := 1) (v := _) rfl (by kernel_rfl) (by kernel_rfl) (by kernel_rfl) (fun _ _ _ h => h) (yieldsIf_load_mid (by rfl) 64 _ rfl N 4 rfl (row.map symV) _ (fun w' hw' => hw'.1) Tryz.underlying64 rfl hsz) (by assumption) ?_
    try simp only [Act.put, List.getElem_toArray, List.getElem_cons_succ, List.getElem_cons_zero, List.setIfInBounds_toArray, List.set_cons_zero, List.set_cons_succ]
    refine wpAnyH_take (i := 2) (v := ?_) rfl (by kernel_rfl) (by kernel_rfl) (by kernel_rfl) (fun _ _ _ h => h) (Or.inl ⟨by rfl, ?_⟩) (by assumption) ?_
    rotate_left
    · intro w hSw; (try dsimp only at hSw); go_simp; try with_reducible rfl
    try simp only [Act.put, List.getElem_toArray, List.getElem_cons_succ, List.getElem_cons_zero, List.setIfInBounds_toArray, List.set_cons_zero, List.set_cons_succ]
    refine wpAnyH_take (i := 3) (v := ?_) rfl (by kernel_rfl) (by kernel_rfl) (by kernel_rfl) (fun _ _ _ h => h) (Or.inl ⟨by rfl, ?_⟩) (by assumption) ?_
    rotate_left
    · intro w hSw; (try dsimp only at hSw); go_simp; try with_reducible rfl
    try simp only [Act.put, List.getElem_toArray, List.getElem_cons_succ, List.getElem_cons_zero, List.setIfInBounds_toArray, List.set_cons_zero, List.set_cons_succ]
    refine wpAnyH_take (i := 4) (v := ?_) rfl (by kernel_rfl) (by kernel_rfl) (by kernel_rfl) (fun _ _ _ h => h) (Or.inl ⟨by rfl, ?_⟩) (by assumption) ?_
    rotate_left
    · intro w hSw; (try dsimp only at hSw); go_simp; try with_reducible rfl
    try simp only [Act.put, List.getElem_toArray, List.getElem_cons_succ, List.getElem_cons_zero, List.setIfInBounds_toArray, List.set_cons_zero, List.set_cons_succ]
    refine wpAnyH_take (i := 5) (v := ?_) rfl (by kernel_rfl) (by kernel_rfl) (by kernel_rfl) (fun _ _ _ h => h) (Or.inl ⟨by rfl, ?_⟩) (by assumption) ?_
    rotate_left
    · intro w hSw; (try dsimp only at hSw); go_simp; try with_reducible rfl
    try simp only [Act.put, List.getElem_toArray, List.getElem_cons_succ, List.getElem_cons_zero, List.setIfInBounds_toArray, List.set_cons_zero, List.set_cons_succ]
    have hfo := fitRow_ok (arity := arity) hrow
    have hone := row_one (fitRow arity row)
    have hszf : (Tryz.prog.info? 64).map (·.size) = some ((fitRow arity row).map symV).toArray.size := by rw [infoRow]; simp [hfo.1]
    refine wpAnyH_ready (rs := [6, 7]) (by kernel_rfl) (by simp) (AllReadyH.cons rfl (fun K hK => ?_) (AllReadyH.cons rfl (fun K hK => ?_) AllReadyH.nil))
    · rw [if_pos (by rfl)]
      go_simp
      refine (fit_calls hrow HX.out.wide).mono ?_
      rintro e W6 ⟨rfl, hb6⟩
      refine hK.out _ _ (hkeep W6 hb6) (fun hS6 => ?_)
      clear hK K
      try simp only [Act.put, List.getElem_toArray, List.getElem_cons_succ, List.getElem_cons_zero, List.setIfInBounds_toArray, List.set_cons_zero, List.set_cons_succ]
      refine wpAnyH_ready (rs := [7]) (by kernel_rfl) (by simp) (AllReadyH.cons rfl (fun K hK => ?_) AllReadyH.nil)
      rw [if_pos (by rfl)]
      go_simp
      have HM7 := Lib.hid ((HMd.out.below hb6).alloc (List.replicate 24 (Value.int .i32 0)) 64)
      have hb7 := hb6.alloc hb6.size (.cells (List.replicate 24 (Value.int .i32 0)).toArray 64)
      have hz := heap_alloc_new W6 (.cells (List.replicate 24 (Value.int .i32 0)).toArray 64)
      simp only [List.replicate] at HM7 hb7 hz
      refine hK.out _ _ (hkeep _ hb7) (fun hS7 => ?_)
      clear hK K
      generalize W6.alloc _ = W7 at *
      try simp only [Act.put, List.getElem_toArray, List.getElem_cons_succ, List.getElem_cons_zero, List.setIfInBounds_toArray, List.set_cons_zero, List.set_cons_succ]
      refine wpAnyH_ready (rs := [8]) (by kernel_rfl) (by simp) (AllReadyH.cons rfl (fun K hK => ?_) AllReadyH.nil)
      rw [if_pos (by rfl)]
      refine wp_store_row 64 _ _ rfl W6.heap.size _ rfl rfl 64 _ hz hszf (by simp [hfo.1]) hone ?_
      have HM8 := Lib.hid (HM7.out.setRow ((fitRow arity row).map symV))
      have hb8 := below_setRow hb7 hb6.size ((fitRow arity row).map symV).toArray
      refine hK.out _ _ (hkeep _ hb8) (fun hS8 => ?_)
      clear hK K
      refine wpAnyH_done (by kernel_rfl) ?_ _
      generalize W7.setRow W6.heap.size _ = W8 at *
      go_wp2_with fail
      go_meet
      exact ⟨_, rfl, HM8⟩
    · rw [if_pos (by rfl)]
      go_simp
      have HM6 := Lib.hid (HMd.out.alloc (List.replicate 24 (Value.int .i32 0)) 64)
      have hb6 := (Below.refl W5.heap.size W5).alloc (Nat.le_refl _) (.cells (List.replicate 24 (Value.int .i32 0)).toArray 64)
      have hz := heap_alloc_new W5 (.cells (List.replicate 24 (Value.int .i32 0)).toArray 64)
      simp only [List.replicate] at HM6 hb6 hz
      refine hK.out _ _ (hkeep _ hb6) (fun hS6 => ?_)
      clear hK K
      generalize W5.alloc _ = W6 at *
      try simp only [Act.put, List.getElem_toArray, List.getElem_cons_succ, List.getElem_cons_zero, List.setIfInBounds_toArray, List.set_cons_zero, List.set_cons_succ]
      refine wpAnyH_ready (rs := [6]) (by kernel_rfl) (by simp) (AllReadyH.cons rfl (fun K hK => ?_) AllReadyH.nil)
      rw [if_pos (by rfl)]
      go_simp
      refine (fit_calls hrow HX.out.wide).mono ?_
      rintro e W7 ⟨rfl, hb⟩
      have HM7 := Lib.hid (HM6.out.below hb)
      have hz7 := (hb.block W5.heap.size (Array.getElem?_eq_some_iff.1 hz).1).trans hz
      have hb7 := hb6.trans (hb.mono hb6.size)
      refine hK.out _ _ (hkeep _ hb7) (fun hS7 => ?_)
      clear hK K
      try simp only [Act.put, List.getElem_toArray, List.getElem_cons_succ, List.getElem_cons_zero, List.setIfInBounds_toArray, List.set_cons_zero, List.set_cons_succ]
      refine wpAnyH_ready (rs := [8]) (by kernel_rfl) (by simp) (AllReadyH.cons rfl (fun K hK => ?_) AllReadyH.nil)
      rw [if_pos (by rfl)]
      refine wp_store_row 64 _ _ rfl W5.heap.size _ rfl rfl 64 _ hz7 hszf (by simp [hfo.1]) hone ?_
      have HM8 := Lib.hid (HM7.out.setRow ((fitRow arity row).map symV))
      have hb8 := below_setRow hb7 (Nat.le_refl _) ((fitRow arity row).map symV).toArray
      refine hK.out _ _ (hkeep _ hb8) (fun hS8 => ?_)
      clear hK K
      refine wpAnyH_done (by kernel_rfl) ?_ _
      generalize W7.setRow W5.heap.size _ = W8 at *
      go_wp2_with fail
      go_meet
      exact ⟨_, rfl, HM8⟩
  obtain ⟨M, rfl, HM1⟩ := hcut
  clear HM hN c0 c3 hr s1 hS w1
  obtain ⟨fx, hfx⟩ : ∃ fx, fitRow arity row = fx := ⟨_, rfl⟩
  have hfo : RowOk fx := hfx ▸ fitRow_ok hrow
  have hfr : Hid (rightRow arity fx = true) := by show _ = _; rw [← hfx]; exact fitRow_right
  rw [hfx] at HM1
  clear hfx
  have hszx : (Tryz.prog.info? 64).map (·.size) = some (fx.map symV).length := by rw [infoRow]; simp [hfo.1]
  obtain ⟨c0, c3, hr⟩ := op_facts (HM1.out.cells mem1)
  have cb : wc.cell? ⟨N, 2, none⟩ = some (.int .i64 book) := HM1.out.cellAt mem1 rfl
  have hrn : rows.length ≤ 1048576 := Nat.le_trans HX.out.n hB
  by_cases kd1 : kind = 1
  · subst kd1
    have c1s : wc.cell? ⟨s, 0, none⟩ = some (ptrV b) := HM1.out.cellAt mem2 rfl
    have hxr : wc.rangeAt M 0 (fx.map symV) := range_cells (HM1.out.cells (List.mem_cons_self ..))
    go_upto_region 4 with fail
    have hS : (fun w' : World => w'.cell? ⟨s, 0, none⟩ = some (ptrV b) ∧ w'.rangeAt M 0 (fx.map symV)) wc.drew := ⟨c1s, hxr⟩
    have HMd := Lib.hid (HM1.out.below (below_drew' (Below.refl _ _)))
    clear HM1 c0 c3 hr cb c1s hxr
    refine wp_region_held_drew (S := (fun w' : World => w'.cell? ⟨s, 0, none⟩ = some (ptrV b) ∧ w'.rangeAt M 0 (fx.map symV))) (by kernel_rfl) hS (fun hS => ?_)
    generalize wc.drew = W5 at *
    refine wpAnyH_take (i := 0) (v := ?_) rfl (by kernel_rfl) (by kernel_rfl) (by kernel_rfl) (fun _ _ _ h => h) (Or.inl ⟨by rfl, ?_⟩) (by assumption) ?_
    rotate_left
    · intro w hSw; (try dsimp only at hSw); go_simp; try with_reducible rfl
    try simp only [Act.put, List.getElem_toArray, List.getElem_cons_succ, List.getElem_cons_zero, List.setIfInBounds_toArray, List.set_cons_zero, List.set_cons_succ]
    refine wpAnyH_take (i := 1) (v := ?_) rfl (by kernel_rfl) (by kernel_rfl) (by kernel_rfl) (fun _ _ _ h => h) (Or.inl ⟨by rfl, ?_⟩) (by assumption) ?_
    rotate_left
    · intro w hSw; (try dsimp only at hSw); go_simp; try with_reducible rfl
    try simp only [Act.put, List.getElem_toArray, List.getElem_cons_succ, List.getElem_cons_zero, List.setIfInBounds_toArray, List.set_cons_zero, List.set_cons_succ]
    refine wpAnyH_take (i := 2) (v := ?_) rfl (by kernel_rfl) (by kernel_rfl) (by kernel_rfl) (fun _ _ _ h => h) (Or.inl ⟨by rfl, ?_⟩) (by assumption) ?_
    rotate_left
    · intro w hSw; (try dsimp only at hSw); go_simp; try with_reducible rfl
    try simp only [Act.put, List.getElem_toArray, List.getElem_cons_succ, List.getElem_cons_zero, List.setIfInBounds_toArray, List.set_cons_zero, List.set_cons_succ]
    refine wpAnyH_take (i := 3) (v := ?_) rfl (by kernel_rfl) (by kernel_rfl) (by kernel_rfl) (fun _ _ _ h => h) (Or.inl ⟨by rfl, ?_⟩) (by assumption) ?_
    rotate_left
    · intro w hSw; (try dsimp only at hSw); go_simp; try with_reducible rfl
    try simp only [Act.put, List.getElem_toArray, List.getElem_cons_succ, List.getElem_cons_zero, List.setIfInBounds_toArray, List.set_cons_zero, List.set_cons_succ]
    refine wpAnyH_take (i := 4) (v := _) rfl (by kernel_rfl) (by kernel_rfl) (by kernel_rfl) (fun _ _ _ h => h) (yieldsIf_load_mid (by rfl) 64 _ rfl M 0 rfl (fx.map symV) _ (fun w' hw' => hw'.2) Tryz.underlying64 rfl hszx) (by assumption) ?_
    try simp only [Act.put, List.getElem_toArray, List.getElem_cons_succ, List.getElem_cons_zero, List.setIfInBounds_toArray, List.set_cons_zero, List.set_cons_succ]
    refine wpAnyH_ready (rs := [5]) (by kernel_rfl) (by simp) (AllReadyH.cons rfl (fun K hK => ?_) AllReadyH.nil)
    rw [if_pos (by rfl)]
    go_simp
    refine (w_add HMd.out.up3 hfo hfr.out hrn).mono ?_
    rintro e W6 ⟨t, rfl, h6⟩
    have HM6 := Lib.hid h6
    clear HMd h6
    refine hK.out _ _ ⟨HM6.out.cellAt mem3 rfl, range_cells (HM6.out.cells mem1)⟩ (fun hS6 => ?_)
    clear hK K hS
    try simp only [Act.put, List.getElem_toArray, List.getElem_cons_succ, List.getElem_cons_zero, List.setIfInBounds_toArray, List.set_cons_zero, List.set_cons_succ]
    refine wpAnyH_take (i := 6) (v := ?_) rfl (by kernel_rfl) (by kernel_rfl) (by kernel_rfl) (fun _ _ _ h => h) (Or.inl ⟨by rfl, ?_⟩) (by assumption) ?_
    rotate_left
    · intro w hSw; (try dsimp only at hSw); go_simp; try with_reducible rfl
    try simp only [Act.put, List.getElem_toArray, List.getElem_cons_succ, List.getElem_cons_zero, List.setIfInBounds_toArray, List.set_cons_zero, List.set_cons_succ]
    refine wpAnyH_take (i := 7) (v := ?_) rfl (by kernel_rfl) (by kernel_rfl) (by kernel_rfl) (fun _ _ _ h => h) (Or.inl ⟨by rfl, ?_⟩) (by assumption) ?_
    rotate_left
    · intro w hSw; (try dsimp only at hSw); go_simp; try with_reducible rfl
    try simp only [Act.put, List.getElem_toArray, List.getElem_cons_succ, List.getElem_cons_zero, List.setIfInBounds_toArray, List.set_cons_zero, List.set_cons_succ]
    refine wpAnyH_take (i := 8) (v := ?_) rfl (by kernel_rfl) (by kernel_rfl) (by kernel_rfl) (fun _ _ _ h => h) (Or.inl ⟨by rfl, ?_⟩) (by assumption) ?_
    rotate_left
    · intro w hSw; (try dsimp only at hSw); go_simp; try with_reducible rfl
    try simp only [Act.put, List.getElem_toArray, List.getElem_cons_succ, List.getElem_cons_zero, List.setIfInBounds_toArray, List.set_cons_zero, List.set_cons_succ]
    refine wpAnyH_take (i := 9) (v := ?_) rfl (by kernel_rfl) (by kernel_rfl) (by kernel_rfl) (fun _ _ _ h => h) (Or.inl ⟨by rfl, ?_⟩) (by assumption) ?_
    rotate_left
    · intro w hSw; (try dsimp only at hSw); go_simp; try with_reducible rfl
    try simp only [Act.put, List.getElem_toArray, List.getElem_cons_succ, List.getElem_cons_zero, List.setIfInBounds_toArray, List.set_cons_zero, List.set_cons_succ]
    refine wpAnyH_take (i := 10) (v := ?_) rfl (by kernel_rfl) (by kernel_rfl) (by kernel_rfl) (fun _ _ _ h => h) (Or.inl ⟨by rfl, ?_⟩) (by assumption) ?_
    rotate_left
    · intro w hSw; (try dsimp only at hSw); go_simp; try with_reducible rfl
    try simp only [Act.put, List.getElem_toArray, List.getElem_cons_succ, List.getElem_cons_zero, List.setIfInBounds_toArray, List.set_cons_zero, List.set_cons_succ]
    refine wpAnyH_done (by kernel_rfl) ?_ _
    have c2s : W6.cell? ⟨s, 2, none⟩ = some lv := HM6.out.cellAt mem3 rfl
    have f2s : W6.frozen? ⟨s, 2, none⟩ = false := by simp [World.frozen?, HM6.out.cells mem3]
    have hxr : W6.rangeAt M 0 (fx.map symV) := hS6.2
    clear hS6
    go_upto_region 5 with fail
    have hS : (fun w' : World => w'.rangeAt M 0 (fx.map symV)) W6.drew := hxr
    have HMd := Lib.hid (HM6.out.below (below_drew' (Below.refl _ _)))
    replace c2s : W6.drew.cell? ⟨s, 2, none⟩ = some lv := c2s
    replace f2s : W6.drew.frozen? ⟨s, 2, none⟩ = false := f2s
    clear HM6 hxr
    refine wp_region_held_drew (S := (fun w' : World => w'.rangeAt M 0 (fx.map symV))) (by kernel_rfl) hS (fun hS => ?_)
    generalize W6.drew = W7 at *
    refine wpAnyH_take (i := 0) (v := ?_) rfl (by kernel_rfl) (by kernel_rfl) (by kernel_rfl) (fun _ _ _ h => h) (Or.inl ⟨by rfl, ?_⟩) (by assumption) ?_
    rotate_left
    · intro w hSw; (try dsimp only at hSw); go_simp; try with_reducible rfl
    try simp only [Act.put, List.getElem_toArray, List.getElem_cons_succ, List.getElem_cons_zero, List.setIfInBounds_toArray, List.set_cons_zero, List.set_cons_succ]
    refine wpAnyH_take (i := 1) (v := ?_) rfl (by kernel_rfl) (by kernel_rfl) (by kernel_rfl) (fun _ _ _ h => h) (Or.inl ⟨by rfl, ?_⟩) (by assumption) ?_
    rotate_left
    · intro w hSw; (try dsimp only at hSw); go_simp; try with_reducible rfl
    try simp only [Act.put, List.getElem_toArray, List.getElem_cons_succ, List.getElem_cons_zero, List.setIfInBounds_toArray, List.set_cons_zero, List.set_cons_succ]
    refine wpAnyH_take (i := 2) (v := ?_) rfl (by kernel_rfl) (by kernel_rfl) (by kernel_rfl) (fun _ _ _ h => h) (Or.inl ⟨by rfl, ?_⟩) (by assumption) ?_
    rotate_left
    · intro w hSw; (try dsimp only at hSw); go_simp; try with_reducible rfl
    try simp only [Act.put, List.getElem_toArray, List.getElem_cons_succ, List.getElem_cons_zero, List.setIfInBounds_toArray, List.set_cons_zero, List.set_cons_succ]
    refine wpAnyH_take (i := 3) (v := ?_) rfl (by kernel_rfl) (by kernel_rfl) (by kernel_rfl) (fun _ _ _ h => h) (Or.inl ⟨by rfl, ?_⟩) (by assumption) ?_
    rotate_left
    · intro w hSw; (try dsimp only at hSw); go_simp; try with_reducible rfl
    try simp only [Act.put, List.getElem_toArray, List.getElem_cons_succ, List.getElem_cons_zero, List.setIfInBounds_toArray, List.set_cons_zero, List.set_cons_succ]
    refine wpAnyH_take (i := 5) (v := _) rfl (by kernel_rfl) (by kernel_rfl) (by kernel_rfl) (fun _ _ _ h => h) (yieldsIf_load_mid (by rfl) 64 _ rfl M 0 rfl (fx.map symV) _ (fun w' hw' => hw') Tryz.underlying64 rfl hszx) (by assumption) ?_
    try simp only [Act.put, List.getElem_toArray, List.getElem_cons_succ, List.getElem_cons_zero, List.setIfInBounds_toArray, List.set_cons_zero, List.set_cons_succ]
    refine wpAnyH_ready (rs := [4]) (by kernel_rfl) (by simp) (AllReadyH.cons rfl (fun K hK => ?_) AllReadyH.nil)
    rw [if_pos (by rfl)]
    go_simp
    refine hK.out _ _ hS (fun _ => ?_)
    clear hK K
    try simp only [Act.put, List.getElem_toArray, List.getElem_cons_succ, List.getElem_cons_zero, List.setIfInBounds_toArray, List.set_cons_zero, List.set_cons_succ]
    refine wpAnyH_ready (rs := [6]) (by kernel_rfl) (by simp) (AllReadyH.cons rfl (fun K hK => ?_) AllReadyH.nil)
    rw [if_pos (by rfl)]
    go_simp
    refine (docm_add HMd.out.up4 hfo hrn).mono ?_
    rintro e W8 ⟨lv', rfl, h8⟩
    obtain ⟨sa, sn, sc, rfl⟩ : ∃ a n c, lv' = .slice a n c := by obtain ⟨F, hT, _⟩ := h8.turn1; obtain ⟨a, c, e⟩ := own_slice0 hT.1.1; exact ⟨_, _, _, e⟩
    have HM8 := Lib.hid h8
    clear HMd h8 c2s f2s
    refine hK.out _ _ (range_cells (HM8.out.cells mem2)) (fun hS8 => ?_)
    clear hK K hS
    try simp only [Act.put, List.getElem_toArray, List.getElem_cons_succ, List.getElem_cons_zero, List.setIfInBounds_toArray, List.set_cons_zero, List.set_cons_succ]
    refine wpAnyH_take (i := 7) (v := ?_) rfl (by kernel_rfl) (by kernel_rfl) (by kernel_rfl) (fun _ _ _ h => h) (Or.inl ⟨by rfl, ?_⟩) (by assumption) ?_
    rotate_left
    · intro w hSw; (try dsimp only at hSw); go_simp; try with_reducible rfl
    try simp only [Act.put, List.getElem_toArray, List.getElem_cons_succ, List.getElem_cons_zero, List.setIfInBounds_toArray, List.set_cons_zero, List.set_cons_succ]
    refine wpAnyH_take (i := 8) (v := ?_) rfl (by kernel_rfl) (by kernel_rfl) (by kernel_rfl) (fun _ _ _ h => h) (Or.inl ⟨by rfl, ?_⟩) (by assumption) ?_
    rotate_left
    · intro w hSw; (try dsimp only at hSw); go_simp; try with_reducible rfl
    try simp only [Act.put, List.getElem_toArray, List.getElem_cons_succ, List.getElem_cons_zero, List.setIfInBounds_toArray, List.set_cons_zero, List.set_cons_succ]
    have c2s : W8.cell? ⟨s, 2, none⟩ = some lv := HM8.out.cellAt mem4 rfl
    have f2s : W8.frozen? ⟨s, 2, none⟩ = false := by simp [World.frozen?, HM8.out.cells mem4]
    have HM9 := Lib.hid ((HM8.out.up4).setCells (k := 2) (.slice sa sn sc))
    clear HM8
    refine wpAnyH_ready (rs := [9]) (by kernel_rfl) (by simp) (AllReadyH.cons rfl (fun K hK => ?_) AllReadyH.nil)
    rw [if_pos (by rfl)]
    go_simp
    refine hK.out _ _ (range_cells (HM9.out.cells mem3)) (fun hS9 => ?_)
    clear hK K hS8
    refine wpAnyH_done (by kernel_rfl) ?_ _
    generalize W8.setCell ⟨s, 2, none⟩ (.slice sa sn sc) = W9 at *
    clear c2s f2s hS9
    have HZ : Hid (Mid w0 F0 (shelfT s kb (B + 1) :: kT kb (B2 + 2) :: R) W9) := by
      refine (kT_more (Nat.le_add_right B2 2) (shelf_shut (x := ⟨b, bk0, bk1, k0, k1, arity, gone, (addRow rows fx), .slice sa sn sc, abs0, abs1, l0, l1⟩) (R := kT kb B2 :: R) (((HM9.out).up3.drop1).up3.drop1).up7.up7.up7.up7.up7.up6.up7.up7 ?_).up1).up1
      have hx := HX.out
      exact ⟨hx.t0, hx.t1, fine_addRow hx.f0 fx, fine_addRow hx.f1 fx, hx.wide, Nat.le_trans (addRow_len _ _) (Nat.succ_le_succ hx.n), ⟨hx.g.1, by have := hx.g.2; simp only at this ⊢; omega⟩, Nat.le_succ_of_le hx.a0, Nat.le_succ_of_le hx.a1, Nat.le_succ_of_le hx.l0, Nat.le_succ_of_le hx.l1⟩
    clear HM9
    go_wp2_with fail
    exact bodyPost_ret (v := .bool true) (by simp [results, Tryz.results5, go_sem]) rfl ⟨rfl, HZ.out⟩
  by_cases kd2 : kind = 2
  · subst kd2
    have c1s : wc.cell? ⟨s, 0, none⟩ = some (ptrV b) := HM1.out.cellAt mem2 rfl
    have hxr : wc.rangeAt M 0 (fx.map symV) := range_cells (HM1.out.cells (List.mem_cons_self ..))
    go_upto_region 8 with fail
    have hS : (fun w' : World => w'.cell? ⟨s, 0, none⟩ = some (ptrV b) ∧ w'.rangeAt M 0 (fx.map symV)) wc.drew := ⟨c1s, hxr⟩
    have HMd := Lib.hid (HM1.out.below (below_drew' (Below.refl _ _)))
    clear HM1 c0 c3 hr cb c1s hxr
    refine wp_region_held_drew (S := (fun w' : World => w'.cell? ⟨s, 0, none⟩ = some (ptrV b) ∧ w'.rangeAt M 0 (fx.map symV))) (by kernel_rfl) hS (fun hS => ?_)
    generalize wc.drew = W5 at *
    refine wpAnyH_take (i := 0) (v := ?_) rfl (by kernel_rfl) (by kernel_rfl) (by kernel_rfl) (fun _ _ _ h => h) (Or.inl ⟨by rfl, ?_⟩) (by assumption) ?_
    rotate_left
    · intro w hSw; (try dsimp only at hSw); go_simp; try with_reducible rfl
    try simp only [Act.put, List.getElem_toArray, List.getElem_cons_succ, List.getElem_cons_zero, List.setIfInBounds_toArray, List.set_cons_zero, List.set_cons_succ]
    refine wpAnyH_take (i := 1) (v := ?_) rfl (by kernel_rfl) (by kernel_rfl) (by kernel_rfl) (fun _ _ _ h => h) (Or.inl ⟨by rfl, ?_⟩) (by assumption) ?_
    rotate_left
    · intro w hSw; (try dsimp only at hSw); go_simp; try with_reducible rfl
    try simp only [Act.put, List.getElem_toArray, List.getElem_cons_succ, List.getElem_cons_zero, List.setIfInBounds_toArray, List.set_cons_zero, List.set_cons_succ]
    refine wpAnyH_take (i := 2) (v := ?_) rfl (by kernel_rfl) (by kernel_rfl) (by kernel_rfl) (fun _ _ _ h => h) (Or.inl ⟨by rfl, ?_⟩) (by assumption) ?_
    rotate_left
    · intro w hSw; (try dsimp only at hSw); go_simp; try with_reducible rfl
    try simp only [Act.put, List.getElem_toArray, List.getElem_cons_succ, List.getElem_cons_zero, List.setIfInBounds_toArray, List.set_cons_zero, List.set_cons_succ]
    refine wpAnyH_take (i := 3) (v := ?_) rfl (by kernel_rfl) (by kernel_rfl) (by kernel_rfl) (fun _ _ _ h => h) (Or.inl ⟨by rfl, ?_⟩) (by assumption) ?_
    rotate_left
    · intro w hSw; (try dsimp only at hSw); go_simp; try with_reducible rfl
    try simp only [Act.put, List.getElem_toArray, List.getElem_cons_succ, List.getElem_cons_zero, List.setIfInBounds_toArray, List.set_cons_zero, List.set_cons_succ]
    refine wpAnyH_take (i := 4) (v := _) rfl (by kernel_rfl) (by kernel_rfl) (by kernel_rfl) (fun _ _ _ h => h) (yieldsIf_load_mid (by rfl) 64 _ rfl M 0 rfl (fx.map symV) _ (fun w' hw' => hw'.2) Tryz.underlying64 rfl hszx) (by assumption) ?_
    try simp only [Act.put, List.getElem_toArray, List.getElem_cons_succ, List.getElem_cons_zero, List.setIfInBounds_toArray, List.set_cons_zero, List.set_cons_succ]
    refine wpAnyH_ready (rs := [5]) (by kernel_rfl) (by simp) (AllReadyH.cons rfl (fun K hK => ?_) AllReadyH.nil)
    rw [if_pos (by rfl)]
    go_simp
    refine (w_rem HMd.out.up3 hfo hrn ⟨HX.out.g.1, by have := HX.out.g.2; simp only at this; omega⟩).mono ?_
    rintro e W6 ⟨t, gone', rfl, h6, hg1, hg2, hfine⟩
    have HM6 := Lib.hid h6
    clear HMd h6
    refine hK.out _ _ ⟨HM6.out.cellAt mem3 rfl, range_cells (HM6.out.cells mem1)⟩ (fun hS6 => ?_)
    clear hK K hS
    try simp only [Act.put, List.getElem_toArray, List.getElem_cons_succ, List.getElem_cons_zero, List.setIfInBounds_toArray, List.set_cons_zero, List.set_cons_succ]
    refine wpAnyH_done (by kernel_rfl) ?_ _
    have c2s : W6.cell? ⟨s, 2, none⟩ = some lv := HM6.out.cellAt mem3 rfl
    have f2s : W6.frozen? ⟨s, 2, none⟩ = false := by simp [World.frozen?, HM6.out.cells mem3]
    have hxr : W6.rangeAt M 0 (fx.map symV) := hS6.2
    clear hS6
    go_upto_region 9 with fail
    have hS : (fun w' : World => w'.rangeAt M 0 (fx.map symV)) W6.drew := hxr
    have HMd := Lib.hid (HM6.out.below (below_drew' (Below.refl _ _)))
    replace c2s : W6.drew.cell? ⟨s, 2, none⟩ = some lv := c2s
    replace f2s : W6.drew.frozen? ⟨s, 2, none⟩ = false := f2s
    clear HM6 hxr
    refine wp_region_held_drew (S := (fun w' : World => w'.rangeAt M 0 (fx.map symV))) (by kernel_rfl) hS (fun hS => ?_)
    generalize W6.drew = W7 at *
    refine wpAnyH_take (i := 0) (v := ?_) rfl (by kernel_rfl) (by kernel_rfl) (by kernel_rfl) (fun _ _ _ h => h) (Or.inl ⟨by rfl, ?_⟩) (by assumption) ?_
    rotate_left
    · intro w hSw; (try dsimp only at hSw); go_simp; try with_reducible rfl
    try simp only [Act.put, List.getElem_toArray, List.getElem_cons_succ, List.getElem_cons_zero, List.setIfInBounds_toArray, List.set_cons_zero, List.set_cons_succ]
    refine wpAnyH_take (i := 1) (v := ?_) rfl (by kernel_rfl) (by kernel_rfl) (by kernel_rfl) (fun _ _ _ h => h) (Or.inl ⟨by rfl, ?_⟩) (by assumption) ?_
    rotate_left
    · intro w hSw; (try dsimp only at hSw); go_simp; try with_reducible rfl
    try simp only [Act.put, List.getElem_toArray, List.getElem_cons_succ, List.getElem_cons_zero, List.setIfInBounds_toArray, List.set_cons_zero, List.set_cons_succ]
    refine wpAnyH_take (i := 2) (v := ?_) rfl (by kernel_rfl) (by kernel_rfl) (by kernel_rfl) (fun _ _ _ h => h) (Or.inl ⟨by rfl, ?_⟩) (by assumption) ?_
    rotate_left
    · intro w hSw; (try dsimp only at hSw); go_simp; try with_reducible rfl
    try simp only [Act.put, List.getElem_toArray, List.getElem_cons_succ, List.getElem_cons_zero, List.setIfInBounds_toArray, List.set_cons_zero, List.set_cons_succ]
    refine wpAnyH_take (i := 3) (v := ?_) rfl (by kernel_rfl) (by kernel_rfl) (by kernel_rfl) (fun _ _ _ h => h) (Or.inl ⟨by rfl, ?_⟩) (by assumption) ?_
    rotate_left
    · intro w hSw; (try dsimp only at hSw); go_simp; try with_reducible rfl
    try simp only [Act.put, List.getElem_toArray, List.getElem_cons_succ, List.getElem_cons_zero, List.setIfInBounds_toArray, List.set_cons_zero, List.set_cons_succ]
    refine wpAnyH_take (i := 5) (v := _) rfl (by kernel_rfl) (by kernel_rfl) (by kernel_rfl) (fun _ _ _ h => h) (yieldsIf_load_mid (by rfl) 64 _ rfl M 0 rfl (fx.map symV) _ (fun w' hw' => hw') Tryz.underlying64 rfl hszx) (by assumption) ?_
    try simp only [Act.put, List.getElem_toArray, List.getElem_cons_succ, List.getElem_cons_zero, List.setIfInBounds_toArray, List.set_cons_zero, List.set_cons_succ]
    refine wpAnyH_ready (rs := [4]) (by kernel_rfl) (by simp) (AllReadyH.cons rfl (fun K hK => ?_) AllReadyH.nil)
    rw [if_pos (by rfl)]
    go_simp
    refine hK.out _ _ hS (fun _ => ?_)
    clear hK K
    try simp only [Act.put, List.getElem_toArray, List.getElem_cons_succ, List.getElem_cons_zero, List.setIfInBounds_toArray, List.set_cons_zero, List.set_cons_succ]
    refine wpAnyH_ready (rs := [6]) (by kernel_rfl) (by simp) (AllReadyH.cons rfl (fun K hK => ?_) AllReadyH.nil)
    rw [if_pos (by rfl)]
    go_simp
    refine (docm_remove HMd.out.up4 hfo hrn).mono ?_
    rintro e W8 ⟨lv', rfl, h8⟩
    obtain ⟨sa, sn, sc, rfl⟩ : ∃ a n c, lv' = .slice a n c := by obtain ⟨F, hT, _⟩ := h8.turn1; obtain ⟨a, c, e⟩ := own_slice0 hT.1.1; exact ⟨_, _, _, e⟩
    have HM8 := Lib.hid h8
    clear HMd h8 c2s f2s
    refine hK.out _ _ (range_cells (HM8.out.cells mem2)) (fun hS8 => ?_)
    clear hK K hS
    try simp only [Act.put, List.getElem_toArray, List.getElem_cons_succ, List.getElem_cons_zero, List.setIfInBounds_toArray, List.set_cons_zero, List.set_cons_succ]
    refine wpAnyH_take (i := 7) (v := ?_) rfl (by kernel_rfl) (by kernel_rfl) (by kernel_rfl) (fun _ _ _ h => h) (Or.inl ⟨by rfl, ?_⟩) (by assumption) ?_
    rotate_left
    · intro w hSw; (try dsimp only at hSw); go_simp; try with_reducible rfl
    try simp only [Act.put, List.getElem_toArray, List.getElem_cons_succ, List.getElem_cons_zero, List.setIfInBounds_toArray, List.set_cons_zero, List.set_cons_succ]
    refine wpAnyH_take (i := 8) (v := ?_) rfl (by kernel_rfl) (by kernel_rfl) (by kernel_rfl) (fun _ _ _ h => h) (Or.inl ⟨by rfl, ?_⟩) (by assumption) ?_
    rotate_left
    · intro w hSw; (try dsimp only at hSw); go_simp; try with_reducible rfl
    try simp only [Act.put, List.getElem_toArray, List.getElem_cons_succ, List.getElem_cons_zero, List.setIfInBounds_toArray, List.set_cons_zero, List.set_cons_succ]
    have c2s : W8.cell? ⟨s, 2, none⟩ = some lv := HM8.out.cellAt mem4 rfl
    have f2s : W8.frozen? ⟨s, 2, none⟩ = false := by simp [World.frozen?, HM8.out.cells mem4]
    have HM9 := Lib.hid ((HM8.out.up4).setCells (k := 2) (.slice sa sn sc))
    clear HM8
    refine wpAnyH_ready (rs := [9]) (by kernel_rfl) (by simp) (AllReadyH.cons rfl (fun K hK => ?_) AllReadyH.nil)
    rw [if_pos (by rfl)]
    go_simp
    refine hK.out _ _ (range_cells (HM9.out.cells mem3)) (fun hS9 => ?_)
    clear hK K hS8
    refine wpAnyH_done (by kernel_rfl) ?_ _
    generalize W8.setCell ⟨s, 2, none⟩ (.slice sa sn sc) = W9 at *
    clear c2s f2s hS9
    have HZ : Hid (Mid w0 F0 (shelfT s kb (B + 1) :: kT kb (B2 + 2) :: R) W9) := by
      refine (kT_more (Nat.le_add_right B2 2) (shelf_shut (x := ⟨b, bk0, bk1, k0, k1, arity, gone', (minusRow rows fx), .slice sa sn sc, abs0, abs1, l0, l1⟩) (R := kT kb B2 :: R) (((HM9.out).up3.drop1).up3.drop1).up7.up7.up7.up7.up7.up6.up7.up7 ?_).up1).up1
      have hx := HX.out
      exact ⟨hx.t0, hx.t1, hfine _ hx.f0, hfine _ hx.f1, hx.wide, Nat.le_trans (minus_len _ _) (Nat.le_succ_of_le hx.n), ⟨by have := hx.g.1; simp only at this ⊢; omega, by have := hx.g.2; simp only at this ⊢; omega⟩, Nat.le_succ_of_le hx.a0, Nat.le_succ_of_le hx.a1, Nat.le_succ_of_le hx.l0, Nat.le_succ_of_le hx.l1⟩
    clear HM9 hg1 hg2 hfine
    go_wp2_with fail
    exact bodyPost_ret (v := .bool true) (by simp [results, Tryz.results5, go_sem]) rfl ⟨rfl, HZ.out⟩
  have e1 : (kind == 1) = false := by simpa using kd1
  have e2 : (kind == 2) = false := by simpa using kd2
  by_cases hbk : book.tmod 2 = 0
  · have hbz := hbk
    go_upto_region 14 with fail
    have hS : (fun w' : World => w'.cell? ⟨s, 2, none⟩ = some lv ∧ w'.cell? ⟨s, 3, none⟩ = some (ptrV bk0) ∧ w'.cell? ⟨s, 5, none⟩ = some (ptrV k0) ∧ w'.cell? ⟨s, 7, none⟩ = some (ptrV kb) ∧ w'.rangeAt N 0 (opV kind on book m row)) wc.drew := ⟨HM1.out.cellAt mem2 rfl, HM1.out.cellAt mem2 rfl, HM1.out.cellAt mem2 rfl, HM1.out.cellAt mem2 rfl, range_cells (HM1.out.cells mem1)⟩
    have HMd := Lib.hid (HM1.out.below (below_drew' (Below.refl _ _)))
    clear HM1 c0 c3 hr cb
    refine wp_region_held_drew (S := (fun w' : World => w'.cell? ⟨s, 2, none⟩ = some lv ∧ w'.cell? ⟨s, 3, none⟩ = some (ptrV bk0) ∧ w'.cell? ⟨s, 5, none⟩ = some (ptrV k0) ∧ w'.cell? ⟨s, 7, none⟩ = some (ptrV kb) ∧ w'.rangeAt N 0 (opV kind on book m row))) (by kernel_rfl) hS (fun hS => ?_)
    generalize wc.drew = W5 at *
    refine wpAnyH_take (i := 0) (v := ?_) rfl (by kernel_rfl) (by kernel_rfl) (by kernel_rfl) (fun _ _ _ h => h) (Or.inl ⟨by rfl, ?_⟩) (by assumption) ?_
    rotate_left
    · intro w hSw; (try dsimp only at hSw); go_simp; try with_reducible rfl
    try simp only [Act.put, List.getElem_toArray, List.getElem_cons_succ, List.getElem_cons_zero, List.setIfInBounds_toArray, List.set_cons_zero, List.set_cons_succ]
    refine wpAnyH_take (i := 1) (v := ?_) rfl (by kernel_rfl) (by kernel_rfl) (by kernel_rfl) (fun _ _ _ h => h) (Or.inl ⟨by rfl, ?_⟩) (by assumption) ?_
    rotate_left
    · intro w hSw; (try dsimp only at hSw); go_simp; try with_reducible rfl
    try simp only [Act.put, List.getElem_toArray, List.getElem_cons_succ, List.getElem_cons_zero, List.setIfInBounds_toArray, List.set_cons_zero, List.set_cons_succ]
    refine wpAnyH_take (i := 2) (v := ?_) rfl (by kernel_rfl) (by kernel_rfl) (by kernel_rfl) (fun _ _ _ h => h) (Or.inl ⟨by rfl, ?_⟩) (by assumption) ?_
    rotate_left
    · intro w hSw; (try dsimp only at hSw); go_simp; try with_reducible rfl
    try simp only [Act.put, List.getElem_toArray, List.getElem_cons_succ, List.getElem_cons_zero, List.setIfInBounds_toArray, List.set_cons_zero, List.set_cons_succ]
    refine wpAnyH_take (i := 3) (v := ?_) rfl (by kernel_rfl) (by kernel_rfl) (by kernel_rfl) (fun _ _ _ h => h) (Or.inl ⟨by rfl, ?_⟩) (by assumption) ?_
    rotate_left
    · intro w hSw; (try dsimp only at hSw); go_simp; try with_reducible rfl
    try simp only [Act.put, List.getElem_toArray, List.getElem_cons_succ, List.getElem_cons_zero, List.setIfInBounds_toArray, List.set_cons_zero, List.set_cons_succ]
    refine wpAnyH_take (i := 4) (v := ?_) rfl (by kernel_rfl) (by kernel_rfl) (by kernel_rfl) (fun _ _ _ h => h) (Or.inl ⟨by rfl, ?_⟩) (by assumption) ?_
    rotate_left
    · intro w hSw; (try dsimp only at hSw); go_simp; try with_reducible rfl
    try simp only [Act.put, List.getElem_toArray, List.getElem_cons_succ, List.getElem_cons_zero, List.setIfInBounds_toArray, List.set_cons_zero, List.set_cons_succ]
    refine wpAnyH_take (i := 5) (v := ?_) rfl (by kernel_rfl) (by kernel_rfl) (by kernel_rfl) (fun _ _ _ h => h) (Or.inl ⟨by rfl, ?_⟩) (by assumption) ?_
    rotate_left
    · intro w hSw; (try dsimp only at hSw); go_simp; try with_reducible rfl
    try simp only [Act.put, List.getElem_toArray, List.getElem_cons_succ, List.getElem_cons_zero, List.setIfInBounds_toArray, List.set_cons_zero, List.set_cons_succ]
    refine wpAnyH_take (i := 6) (v := ?_) rfl (by kernel_rfl) (by kernel_rfl) (by kernel_rfl) (fun _ _ _ h => h) (Or.inl ⟨by rfl, ?_⟩) (by assumption) ?_
    rotate_left
    · intro w hSw; (try dsimp only at hSw); go_simp; try with_reducible rfl
    try simp only [Act.put, List.getElem_toArray, List.getElem_cons_succ, List.getElem_cons_zero, List.setIfInBounds_toArray, List.set_cons_zero, List.set_cons_succ]
    refine wpAnyH_take (i := 7) (v := ?_) rfl (by kernel_rfl) (by kernel_rfl) (by kernel_rfl) (fun _ _ _ h => h) (Or.inl ⟨by rfl, ?_⟩) (by assumption) ?_
    rotate_left
    · intro w hSw; (try dsimp only at hSw); go_simp; try with_reducible rfl
    try simp only [Act.put, List.getElem_toArray, List.getElem_cons_succ, List.getElem_cons_zero, List.setIfInBounds_toArray, List.set_cons_zero, List.set_cons_succ]
    refine wpAnyH_take (i := 8) (v := ?_) rfl (by kernel_rfl) (by kernel_rfl) (by kernel_rfl) (fun _ _ _ h => h) (Or.inl ⟨by rfl, ?_⟩) (by assumption) ?_
    rotate_left
    · intro w hSw; (try dsimp only at hSw); go_simp; try with_reducible rfl
    try simp only [Act.put, List.getElem_toArray, List.getElem_cons_succ, List.getElem_cons_zero, List.setIfInBounds_toArray, List.set_cons_zero, List.set_cons_succ]
    refine wpAnyH_take (i := 9) (v := ?_) rfl (by kernel_rfl) (by kernel_rfl) (by kernel_rfl) (fun _ _ _ h => h) (Or.inl ⟨by rfl, ?_⟩) (by assumption) ?_
    rotate_left
    · intro w hSw; (try dsimp only at hSw); go_simp; try with_reducible rfl
    try simp only [Act.put, List.getElem_toArray, List.getElem_cons_succ, List.getElem_cons_zero, List.setIfInBounds_toArray, List.set_cons_zero, List.set_cons_succ]
    refine wpAnyH_take (i := 10) (v := ?_) rfl (by kernel_rfl) (by kernel_rfl) (by kernel_rfl) (fun _ _ _ h => h) (Or.inl ⟨by rfl, ?_⟩) (by assumption) ?_
    rotate_left
    · intro w hSw; (try dsimp only at hSw); go_simp; try with_reducible rfl
    try simp only [Act.put, List.getElem_toArray, List.getElem_cons_succ, List.getElem_cons_zero, List.setIfInBounds_toArray, List.set_cons_zero, List.set_cons_succ]
    refine wpAnyH_take (i := 11) (v := ?_) rfl (by kernel_rfl) (by kernel_rfl) (by kernel_rfl) (fun _ _ _ h => h) (Or.inl ⟨by rfl, ?_⟩) (by assumption) ?_
    rotate_left
    · intro w hSw; (try dsimp only at hSw); go_simp; try with_reducible rfl
    try simp only [Act.put, List.getElem_toArray, List.getElem_cons_succ, List.getElem_cons_zero, List.setIfInBounds_toArray, List.set_cons_zero, List.set_cons_succ]
    refine wpAnyH_take (i := 12) (v := ?_) rfl (by kernel_rfl) (by kernel_rfl) (by kernel_rfl) (fun _ _ _ h => h) (Or.inl ⟨by rfl, ?_⟩) (by assumption) ?_
    rotate_left
    · intro w hSw; (try dsimp only at hSw); go_simp; try with_reducible rfl
    try simp only [Act.put, List.getElem_toArray, List.getElem_cons_succ, List.getElem_cons_zero, List.setIfInBounds_toArray, List.set_cons_zero, List.set_cons_succ]
    refine wpAnyH_take (i := 13) (v := ?_) rfl (by kernel_rfl) (by kernel_rfl) (by kernel_rfl) (fun _ _ _ h => h) (Or.inl ⟨by rfl, ?_⟩) (by assumption) ?_
    rotate_left
    · intro w hSw; (try dsimp only at hSw); go_simp; try with_reducible rfl
    try simp only [Act.put, List.getElem_toArray, List.getElem_cons_succ, List.getElem_cons_zero, List.setIfInBounds_toArray, List.set_cons_zero, List.set_cons_succ]
    refine wpAnyH_take (i := 14) (v := ?_) rfl (by kernel_rfl) (by kernel_rfl) (by kernel_rfl) (fun _ _ _ h => h) (Or.inl ⟨by rfl, ?_⟩) (by assumption) ?_
    rotate_left
    · intro w hSw; (try dsimp only at hSw); go_simp; try with_reducible rfl
    try simp only [Act.put, List.getElem_toArray, List.getElem_cons_succ, List.getElem_cons_zero, List.setIfInBounds_toArray, List.set_cons_zero, List.set_cons_succ]
    refine wpAnyH_take (i := 15) (v := ?_) rfl (by kernel_rfl) (by kernel_rfl) (by kernel_rfl) (fun _ _ _ h => h) (Or.inl ⟨by rfl, ?_⟩) (by assumption) ?_
    rotate_left
    · intro w hSw; (try dsimp only at hSw); go_simp; try with_reducible rfl
    try simp only [Act.put, List.getElem_toArray, List.getElem_cons_succ, List.getElem_cons_zero, List.setIfInBounds_toArray, List.set_cons_zero, List.set_cons_succ]
    refine wpAnyH_take (i := 16) (v := _) rfl (by kernel_rfl) (by kernel_rfl) (by kernel_rfl) (fun _ _ _ h => h) (yieldsIf_load_mid (by rfl) 66 _ rfl N 0 rfl (opV kind on book m row) _ (fun w' hw' => hw'.2.2.2.2) Tryz.underlying66 rfl hszo) (by assumption) ?_
    try simp only [Act.put, List.getElem_toArray, List.getElem_cons_succ, List.getElem_cons_zero, List.setIfInBounds_toArray, List.set_cons_zero, List.set_cons_succ]
    refine wpAnyH_take (i := 17) (v := ?_) rfl (by kernel_rfl) (by kernel_rfl) (by kernel_rfl) (fun _ _ _ h => h) (Or.inl ⟨by rfl, ?_⟩) (by assumption) ?_
    rotate_left
    · intro w hSw; (try dsimp only at hSw); go_simp; try with_reducible rfl
    try simp only [Act.put, List.getElem_toArray, List.getElem_cons_succ, List.getElem_cons_zero, List.setIfInBounds_toArray, List.set_cons_zero, List.set_cons_succ]
    refine wpAnyH_take (i := 18) (v := ?_) rfl (by kernel_rfl) (by kernel_rfl) (by kernel_rfl) (fun _ _ _ h => h) (Or.inl ⟨by rfl, ?_⟩) (by assumption) ?_
    rotate_left
    · intro w hSw; (try dsimp only at hSw); go_simp; try with_reducible rfl
    try simp only [Act.put, List.getElem_toArray, List.getElem_cons_succ, List.getElem_cons_zero, List.setIfInBounds_toArray, List.set_cons_zero, List.set_cons_succ]
    refine wpAnyH_take (i := 19) (v := ?_) rfl (by kernel_rfl) (by kernel_rfl) (by kernel_rfl) (fun _ _ _ h => h) (Or.inl ⟨by rfl, ?_⟩) (by assumption) ?_
    rotate_left
    · intro w hSw; (try dsimp only at hSw); go_simp; try with_reducible rfl
    try simp only [Act.put, List.getElem_toArray, List.getElem_cons_succ, List.getElem_cons_zero, List.setIfInBounds_toArray, List.set_cons_zero, List.set_cons_succ]
    refine wpAnyH_take (i := 20) (v := ?_) rfl (by kernel_rfl) (by kernel_rfl) (by kernel_rfl) (fun _ _ _ h => h) (Or.inl ⟨by rfl, ?_⟩) (by assumption) ?_
    rotate_left
    · intro w hSw; (try dsimp only at hSw); go_simp; try with_reducible rfl
    try simp only [Act.put, List.getElem_toArray, List.getElem_cons_succ, List.getElem_cons_zero, List.setIfInBounds_toArray, List.set_cons_zero, List.set_cons_succ]
    refine wpAnyH_ready (rs := [21]) (by kernel_rfl) (by simp) (AllReadyH.cons rfl (fun K hK => ?_) AllReadyH.nil)
    rw [if_pos (by rfl)]
    go_simp
    have hx := HX.out
    refine (asks_calls HMd.out.up9.up5.up7.up6.up7 ⟨hx.t0, hx.f0, hx.wide, hrn, by have := hx.l0; simp only at this; omega, by have := hx.a0; simp only at this; omega⟩ hB2 hrow hm).mono ?_
    rintro e W6 ⟨rfl, abs', l', ht', hf', hl', ha', h6⟩
    have HM6 := Lib.hid h6
    clear HMd h6
    refine hK.out _ _ ⟨HM6.out.cellAt mem7 rfl, HM6.out.cellAt mem7 rfl, HM6.out.cellAt mem7 rfl, HM6.out.cellAt mem7 rfl, range_cells (HM6.out.cells mem6)⟩ (fun hS6 => ?_)
    clear hK K hS
    try simp only [Act.put, List.getElem_toArray, List.getElem_cons_succ, List.getElem_cons_zero, List.setIfInBounds_toArray, List.set_cons_zero, List.set_cons_succ]
    refine wpAnyH_take (i := 22) (v := ?_) rfl (by kernel_rfl) (by kernel_rfl) (by kernel_rfl) (fun _ _ _ h => h) (Or.inl ⟨by rfl, ?_⟩) (by assumption) ?_
    rotate_left
    · intro w hSw; (try dsimp only at hSw); go_simp; try with_reducible rfl
    try simp only [Act.put, List.getElem_toArray, List.getElem_cons_succ, List.getElem_cons_zero, List.setIfInBounds_toArray, List.set_cons_zero, List.set_cons_succ]
    refine wpAnyH_done (by kernel_rfl) ?_ _
    clear hS6
    have HZ : Hid (Mid w0 F0 (shelfT s kb (B + 1) :: kT kb (B2 + 2) :: R) W6) := by
      refine shelf_shut (x := ⟨b, bk0, bk1, k0, k1, arity, gone, rows, lv, abs', abs1, l', l1⟩) (R := kT kb (B2 + 2) :: R) (((HM6.out).up5.drop1).up5.drop1).up4.up7.up7.up5.up4.up6.up6.up7 ?_
      exact ⟨ht', hx.t1, hf', hx.f1, hx.wide, Nat.le_succ_of_le hx.n, ⟨hx.g.1, by have := hx.g.2; simp only at this ⊢; omega⟩, Nat.le_trans ha' (Nat.succ_le_succ hx.a0), Nat.le_succ_of_le hx.a1, Nat.le_trans hl' (Nat.succ_le_succ hx.l0), Nat.le_succ_of_le hx.l1⟩
    clear HM6 hx ht' hf' hl' ha'
    go_wp2_with fail
    exact bodyPost_ret (v := .bool true) (by simp [results, Tryz.results5, go_sem]) rfl ⟨rfl, HZ.out⟩
  · have hbz := hbk
    go_upto_region 14 with fail
    have hS : (fun w' : World => w'.cell? ⟨s, 2, none⟩ = some lv ∧ w'.cell? ⟨s, 4, none⟩ = some (ptrV bk1) ∧ w'.cell? ⟨s, 6, none⟩ = some (ptrV k1) ∧ w'.cell? ⟨s, 7, none⟩ = some (ptrV kb) ∧ w'.rangeAt N 0 (opV kind on book m row)) wc.drew := ⟨HM1.out.cellAt mem2 rfl, HM1.out.cellAt mem2 rfl, HM1.out.cellAt mem2 rfl, HM1.out.cellAt mem2 rfl, range_cells (HM1.out.cells mem1)⟩
    have HMd := Lib.hid (HM1.out.below (below_drew' (Below.refl _ _)))
    clear HM1 c0 c3 hr cb
    refine wp_region_held_drew (S := (fun w' : World => w'.cell? ⟨s, 2, none⟩ = some lv ∧ w'.cell? ⟨s, 4, none⟩ = some (ptrV bk1) ∧ w'.cell? ⟨s, 6, none⟩ = some (ptrV k1) ∧ w'.cell? ⟨s, 7, none⟩ = some (ptrV kb) ∧ w'.rangeAt N 0 (opV kind on book m row))) (by kernel_rfl) hS (fun hS => ?_)
    generalize wc.drew = W5 at *
    refine wpAnyH_take (i := 0) (v := ?_) rfl (by kernel_rfl) (by kernel_rfl) (by kernel_rfl) (fun _ _ _ h => h) (Or.inl ⟨by rfl, ?_⟩) (by assumption) ?_
    rotate_left
    · intro w hSw; (try dsimp only at hSw); go_simp; try with_reducible rfl
    try simp only [Act.put, List.getElem_toArray, List.getElem_cons_succ, List.getElem_cons_zero, List.setIfInBounds_toArray, List.set_cons_zero, List.set_cons_succ]
    refine wpAnyH_take (i := 1) (v := ?_) rfl (by kernel_rfl) (by kernel_rfl) (by kernel_rfl) (fun _ _ _ h => h) (Or.inl ⟨by rfl, ?_⟩) (by assumption) ?_
    rotate_left
    · intro w hSw; (try dsimp only at hSw); go_simp; try with_reducible rfl
    try simp only [Act.put, List.getElem_toArray, List.getElem_cons_succ, List.getElem_cons_zero, List.setIfInBounds_toArray, List.set_cons_zero, List.set_cons_succ]
    refine wpAnyH_take (i := 2) (v := ?_) rfl (by kernel_rfl) (by kernel_rfl) (by kernel_rfl) (fun _ _ _ h => h) (Or.inl ⟨by rfl, ?_⟩) (by assumption) ?_
    rotate_left
    · intro w hSw; (try dsimp only at hSw); go_simp; try with_reducible rfl
    try simp only [Act.put, List.getElem_toArray, List.getElem_cons_succ, List.getElem_cons_zero, List.setIfInBounds_toArray, List.set_cons_zero, List.set_cons_succ]
    refine wpAnyH_take (i := 3) (v := ?_) rfl (by kernel_rfl) (by kernel_rfl) (by kernel_rfl) (fun _ _ _ h => h) (Or.inl ⟨by rfl, ?_⟩) (by assumption) ?_
    rotate_left
    · intro w hSw; (try dsimp only at hSw); go_simp; try with_reducible rfl
    try simp only [Act.put, List.getElem_toArray, List.getElem_cons_succ, List.getElem_cons_zero, List.setIfInBounds_toArray, List.set_cons_zero, List.set_cons_succ]
    refine wpAnyH_take (i := 4) (v := ?_) rfl (by kernel_rfl) (by kernel_rfl) (by kernel_rfl) (fun _ _ _ h => h) (Or.inl ⟨by rfl, ?_⟩) (by assumption) ?_
    rotate_left
    · intro w hSw; (try dsimp only at hSw); go_simp; try with_reducible rfl
    try simp only [Act.put, List.getElem_toArray, List.getElem_cons_succ, List.getElem_cons_zero, List.setIfInBounds_toArray, List.set_cons_zero, List.set_cons_succ]
    refine wpAnyH_take (i := 5) (v := ?_) rfl (by kernel_rfl) (by kernel_rfl) (by kernel_rfl) (fun _ _ _ h => h) (Or.inl ⟨by rfl, ?_⟩) (by assumption) ?_
    rotate_left
    · intro w hSw; (try dsimp only at hSw); go_simp; try with_reducible rfl
    try simp only [Act.put, List.getElem_toArray, List.getElem_cons_succ, List.getElem_cons_zero, List.setIfInBounds_toArray, List.set_cons_zero, List.set_cons_succ]
    refine wpAnyH_take (i := 6) (v := ?_) rfl (by kernel_rfl) (by kernel_rfl) (by kernel_rfl) (fun _ _ _ h => h) (Or.inl ⟨by rfl, ?_⟩) (by assumption) ?_
    rotate_left
    · intro w hSw; (try dsimp only at hSw); go_simp; try with_reducible rfl
    try simp only [Act.put, List.getElem_toArray, List.getElem_cons_succ, List.getElem_cons_zero, List.setIfInBounds_toArray, List.set_cons_zero, List.set_cons_succ]
    refine wpAnyH_take (i := 7) (v := ?_) rfl (by kernel_rfl) (by kernel_rfl) (by kernel_rfl) (fun _ _ _ h => h) (Or.inl ⟨by rfl, ?_⟩) (by assumption) ?_
    rotate_left
    · intro w hSw; (try dsimp only at hSw); go_simp; try with_reducible rfl
    try simp only [Act.put, List.getElem_toArray, List.getElem_cons_succ, List.getElem_cons_zero, List.setIfInBounds_toArray, List.set_cons_zero, List.set_cons_succ]
    refine wpAnyH_take (i := 8) (v := ?_) rfl (by kernel_rfl) (by kernel_rfl) (by kernel_rfl) (fun _ _ _ h => h) (Or.inl ⟨by rfl, ?_⟩) (by assumption) ?_
    rotate_left
    · intro w hSw; (try dsimp only at hSw); go_simp; try with_reducible rfl
    try simp only [Act.put, List.getElem_toArray, List.getElem_cons_succ, List.getElem_cons_zero, List.setIfInBounds_toArray, List.set_cons_zero, List.set_cons_succ]
    refine wpAnyH_take (i := 9) (v := ?_) rfl (by kernel_rfl) (by kernel_rfl) (by kernel_rfl) (fun _ _ _ h => h) (Or.inl ⟨by rfl, ?_⟩) (by assumption) ?_
    rotate_left
    · intro w hSw; (try dsimp only at hSw); go_simp; try with_reducible rfl
    try simp only [Act.put, List.getElem_toArray, List.getElem_cons_succ, List.getElem_cons_zero, List.setIfInBounds_toArray, List.set_cons_zero, List.set_cons_succ]
    refine wpAnyH_take (i := 10) (v := ?_) rfl (by kernel_rfl) (by kernel_rfl) (by kernel_rfl) (fun _ _ _ h => h) (Or.inl ⟨by rfl, ?_⟩) (by assumption) ?_
    rotate_left
    · intro w hSw; (try dsimp only at hSw); go_simp; try with_reducible rfl
    try simp only [Act.put, List.getElem_toArray, List.getElem_cons_succ, List.getElem_cons_zero, List.setIfInBounds_toArray, List.set_cons_zero, List.set_cons_succ]
    refine wpAnyH_take (i := 11) (v := ?_) rfl (by kernel_rfl) (by kernel_rfl) (by kernel_rfl) (fun _ _ _ h => h) (Or.inl ⟨by rfl, ?_⟩) (by assumption) ?_
    rotate_left
    · intro w hSw; (try dsimp only at hSw); go_simp; try with_reducible rfl
    try simp only [Act.put, List.getElem_toArray, List.getElem_cons_succ, List.getElem_cons_zero, List.setIfInBounds_toArray, List.set_cons_zero, List.set_cons_succ]
    refine wpAnyH_take (i := 12) (v := ?_) rfl (by kernel_rfl) (by kernel_rfl) (by kernel_rfl) (fun _ _ _ h => h) (Or.inl ⟨by rfl, ?_⟩) (by assumption) ?_
    rotate_left
    · intro w hSw; (try dsimp only at hSw); go_simp; try with_reducible rfl
    try simp only [Act.put, List.getElem_toArray, List.getElem_cons_succ, List.getElem_cons_zero, List.setIfInBounds_toArray, List.set_cons_zero, List.set_cons_succ]
    refine wpAnyH_take (i := 13) (v := ?_) rfl (by kernel_rfl) (by kernel_rfl) (by kernel_rfl) (fun _ _ _ h => h) (Or.inl ⟨by rfl, ?_⟩) (by assumption) ?_
    rotate_left
    · intro w hSw; (try dsimp only at hSw); go_simp; try with_reducible rfl
    try simp only [Act.put, List.getElem_toArray, List.getElem_cons_succ, List.getElem_cons_zero, List.setIfInBounds_toArray, List.set_cons_zero, List.set_cons_succ]
    refine wpAnyH_take (i := 14) (v := ?_) rfl (by kernel_rfl) (by kernel_rfl) (by kernel_rfl) (fun _ _ _ h => h) (Or.inl ⟨by rfl, ?_⟩) (by assumption) ?_
    rotate_left
    · intro w hSw; (try dsimp only at hSw); go_simp; try with_reducible rfl
    try simp only [Act.put, List.getElem_toArray, List.getElem_cons_succ, List.getElem_cons_zero, List.setIfInBounds_toArray, List.set_cons_zero, List.set_cons_succ]
    refine wpAnyH_take (i := 15) (v := ?_) rfl (by kernel_rfl) (by kernel_rfl) (by kernel_rfl) (fun _ _ _ h => h) (Or.inl ⟨by rfl, ?_⟩) (by assumption) ?_
    rotate_left
    · intro w hSw; (try dsimp only at hSw); go_simp; try with_reducible rfl
    try simp only [Act.put, List.getElem_toArray, List.getElem_cons_succ, List.getElem_cons_zero, List.setIfInBounds_toArray, List.set_cons_zero, List.set_cons_succ]
    refine wpAnyH_take (i := 16) (v := _) rfl (by kernel_rfl) (by kernel_rfl) (by kernel_rfl) (fun _ _ _ h => h) (yieldsIf_load_mid (by rfl) 66 _ rfl N 0 rfl (opV kind on book m row) _ (fun w' hw' => hw'.2.2.2.2) Tryz.underlying66 rfl hszo) (by assumption) ?_
    try simp only [Act.put, List.getElem_toArray, List.getElem_cons_succ, List.getElem_cons_zero, List.setIfInBounds_toArray, List.set_cons_zero, List.set_cons_succ]
    refine wpAnyH_take (i := 17) (v := ?_) rfl (by kernel_rfl) (by kernel_rfl) (by kernel_rfl) (fun _ _ _ h => h) (Or.inl ⟨by rfl, ?_⟩) (by assumption) ?_
    rotate_left
    · intro w hSw; (try dsimp only at hSw); go_simp; try with_reducible rfl
    try simp only [Act.put, List.getElem_toArray, List.getElem_cons_succ, List.getElem_cons_zero, List.setIfInBounds_toArray, List.set_cons_zero, List.set_cons_succ]
    refine wpAnyH_take (i := 18) (v := ?_) rfl (by kernel_rfl) (by kernel_rfl) (by kernel_rfl) (fun _ _ _ h => h) (Or.inl ⟨by rfl, ?_⟩) (by assumption) ?_
    rotate_left
    · intro w hSw; (try dsimp only at hSw); go_simp; try with_reducible rfl
    try simp only [Act.put, List.getElem_toArray, List.getElem_cons_succ, List.getElem_cons_zero, List.setIfInBounds_toArray, List.set_cons_zero, List.set_cons_succ]
    refine wpAnyH_take (i := 19) (v := ?_) rfl (by kernel_rfl) (by kernel_rfl) (by kernel_rfl) (fun _ _ _ h => h) (Or.inl ⟨by rfl, ?_⟩) (by assumption) ?_
    rotate_left
    · intro w hSw; (try dsimp only at hSw); go_simp; try with_reducible rfl
    try simp only [Act.put, List.getElem_toArray, List.getElem_cons_succ, List.getElem_cons_zero, List.setIfInBounds_toArray, List.set_cons_zero, List.set_cons_succ]
    refine wpAnyH_take (i := 20) (v := ?_) rfl (by kernel_rfl) (by kernel_rfl) (by kernel_rfl) (fun _ _ _ h => h) (Or.inl ⟨by rfl, ?_⟩) (by assumption) ?_
    rotate_left
    · intro w hSw; (try dsimp only at hSw); go_simp; try with_reducible rfl
    try simp only [Act.put, List.getElem_toArray, List.getElem_cons_succ, List.getElem_cons_zero, List.setIfInBounds_toArray, List.set_cons_zero, List.set_cons_succ]
    refine wpAnyH_ready (rs := [21]) (by kernel_rfl) (by simp) (AllReadyH.cons rfl (fun K hK => ?_) AllReadyH.nil)
    rw [if_pos (by rfl)]
    go_simp
    have hx := HX.out
    refine (asks_calls HMd.out.up9.up5.up9.up6.up9 ⟨hx.t1, hx.f1, hx.wide, hrn, by have := hx.l1; simp only at this; omega, by have := hx.a1; simp only at this; omega⟩ hB2 hrow hm).mono ?_
    rintro e W6 ⟨rfl, abs', l', ht', hf', hl', ha', h6⟩
    have HM6 := Lib.hid h6
    clear HMd h6
    refine hK.out _ _ ⟨HM6.out.cellAt mem7 rfl, HM6.out.cellAt mem7 rfl, HM6.out.cellAt mem7 rfl, HM6.out.cellAt mem7 rfl, range_cells (HM6.out.cells mem6)⟩ (fun hS6 => ?_)
    clear hK K hS
    try simp only [Act.put, List.getElem_toArray, List.getElem_cons_succ, List.getElem_cons_zero, List.setIfInBounds_toArray, List.set_cons_zero, List.set_cons_succ]
    refine wpAnyH_take (i := 22) (v := ?_) rfl (by kernel_rfl) (by kernel_rfl) (by kernel_rfl) (fun _ _ _ h => h) (Or.inl ⟨by rfl, ?_⟩) (by assumption) ?_
    rotate_left
    · intro w hSw; (try dsimp only at hSw); go_simp; try with_reducible rfl
    try simp only [Act.put, List.getElem_toArray, List.getElem_cons_succ, List.getElem_cons_zero, List.setIfInBounds_toArray, List.set_cons_zero, List.set_cons_succ]
    refine wpAnyH_done (by kernel_rfl) ?_ _
    clear hS6
    have HZ : Hid (Mid w0 F0 (shelfT s kb (B + 1) :: kT kb (B2 + 2) :: R) W6) := by
      refine shelf_shut (x := ⟨b, bk0, bk1, k0, k1, arity, gone, rows, lv, abs0, abs', l0, l'⟩) (R := kT kb (B2 + 2) :: R) (((HM6.out).up5.drop1).up5.drop1).up4.up3.up2.up7.up7.up6.up6.up7 ?_
      exact ⟨hx.t0, ht', hx.f0, hf', hx.wide, Nat.le_succ_of_le hx.n, ⟨hx.g.1, by have := hx.g.2; simp only at this ⊢; omega⟩, Nat.le_succ_of_le hx.a0, Nat.le_trans ha' (Nat.succ_le_succ hx.a1), Nat.le_succ_of_le hx.l0, Nat.le_trans hl' (Nat.succ_le_succ hx.l1)⟩
    clear HM6 hx ht' hf' hl' ha'
    go_wp2_with fail
    exact bodyPost_ret (v := .bool true) (by simp [results, Tryz.results5, go_sem]) rfl ⟨rfl, HZ.out⟩
end Go.Proofs.YtckhkfchgcdajaaGreatDoor

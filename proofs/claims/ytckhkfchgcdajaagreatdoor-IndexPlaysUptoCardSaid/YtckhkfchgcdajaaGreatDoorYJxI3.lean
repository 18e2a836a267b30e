import Derived.Test.YtckhkfchgcdajaaGreatDoorYJxI2
namespace Go.Proofs.YtckhkfchgcdajaaGreatDoor
open Go.Fx Go.RowKit Go.Maps Go.Sort
def opV (kind on book : Int) (m : Nat) (row : List Int) : List Value := .int .i64 kind :: .int .i64 on :: .int .i64 book :: .int .u32 (m : Int) :: row.map symV
theorem op_facts {w : World} {N : Nat} {kind on book : Int} {m : Nat} {row : List Int} (h : w.heap[N]? = some (.cells (opV kind on book m row).toArray 66 (0, 0))) :
    w.cell? ⟨N, 0, none⟩ = some (.int .i64 kind) ∧ w.cell? ⟨N, 3, none⟩ = some (.int .u32 (m : Int)) ∧ w.rangeAt N 4 (row.map symV) := by
  refine ⟨by simp [World.cell?, h, opV], by simp [World.cell?, h, opV], fun j v hj => ?_⟩
  have : (opV kind on book m row)[4 + j]? = (row.map symV)[j]? := by
    rw [show 4 + j = j + 4 by omega]
    rfl
  simp only [World.cell?, h]
  rw [List.getElem?_toArray, this]
  simpa using hj
theorem ask_twice (abs : Abs) (m : Nat) (rows : List (List Int)) (gone : Int) : askAbs (askAbs abs m rows gone) m rows gone = askAbs abs m rows gone := by
  by_cases h : m ∈ abs.map (·.1)
  · have h2 : askAbs abs m rows gone = abs.map fun a => if a.1 = m then (m, nums 0 rows, gone) else a := by unfold askAbs; rw [if_pos h]
    have h3 : m ∈ (askAbs abs m rows gone).map (·.1) := by
      rw [h2]
      obtain ⟨a, ha, e⟩ := List.mem_map.1 h
      exact List.mem_map.2 ⟨(m, nums 0 rows, gone), List.mem_map.2 ⟨a, ha, by rw [if_pos e]⟩, rfl⟩
    rw [askAbs, if_pos h3, h2, List.map_map]
    refine List.map_congr_left fun a _ => ?_
    by_cases e : a.1 = m <;> simp [e]
  · have h2 : askAbs abs m rows gone = abs ++ [(m, nums 0 rows, gone)] := by unfold askAbs; rw [if_neg h]
    have h3 : m ∈ (askAbs abs m rows gone).map (·.1) := by rw [h2]; simp
    rw [askAbs, if_pos h3, h2, List.map_append]
    congr 1
    · have : abs.map (fun a => if a.1 = m then (m, nums 0 rows, gone) else a) = abs.map id := List.map_congr_left fun a ha => by
        rw [if_neg fun e => h (List.mem_map.2 ⟨a, ha, e⟩)]
        rfl
      rw [this, List.map_id]
    · simp
theorem ask_length (abs : Abs) (m : Nat) (rows : List (List Int)) (gone : Int) : (askAbs abs m rows gone).length ≤ abs.length + 1 := by
  unfold askAbs
  split
  · simp
  · simp
theorem askPut_length (m n : Nat) : ∀ l : List (Nat × Nat), (askPut m n l).length ≤ l.length + 1
  | [] => by simp [askPut]
  | p :: l => by
    unfold askPut
    split
    · have := askPut_length m n l; simp only [List.length_cons]; omega
    · split <;> simp
theorem ids_le (m : Nat) (rows : List (List Int)) (q : List Int) : (idsOf m (nums 0 rows) q).length ≤ rows.length := by
  unfold idsOf
  rw [List.length_map]
  refine Nat.le_trans (List.length_filter_le _ _) ?_
  rw [nums_len]
  exact Nat.le_refl _
structure AskIn (arity : Nat) (gone : Int) (rows : List (List Int)) (abs : Abs) (l : List (Nat × Nat)) : Prop where
  tells : Tells l abs
  fine : Fine abs gone rows
  wide : arity ≤ 24
  n : rows.length ≤ 1048576
  l : l.length ≤ 2097152
  a : abs.length ≤ 2097152
def AskOut (w0 : World) (F0 : Nat → Prop) (bk b k arity : Nat) (gone : Int) (rows : List (List Int)) (lv : Value) (kb B : Nat) (R : List Thing) (abs : Abs) (l : List (Nat × Nat)) (e : Ending) (w' : World) : Prop :=
  e = .returned (.bool true) ∧ ∃ abs' l', Tells l' abs' ∧ Fine abs' gone rows ∧ l'.length ≤ l.length + 1 ∧ abs'.length ≤ abs.length + 1 ∧ Mid w0 F0 (bkT bk b abs' :: relT b arity gone rows :: docT k arity l' :: rowsT lv rows :: kT kb (B + 2) :: R) w'
theorem kT_more {kb B B' : Nat} (hB : B ≤ B') {w0 w : World} {F0 : Nat → Prop} {R : List Thing} (h : Mid w0 F0 (kT kb B :: R) w) : Mid w0 F0 (kT kb B' :: R) w := by
  obtain ⟨n, LI, LM, ⟨k1, k2, k3, k4, k5⟩, h2⟩ := kT_open h
  exact kT_shut h2 ⟨Nat.le_trans k1 hB, Nat.le_trans k2 hB, Nat.le_trans k3 hB, k4, k5⟩
section
variable {w0 w : World} {F0 : Nat → Prop}
theorem _root_.Go.Fx.Mid.up6 {a b c d e f g : Thing} {l : List Thing} (h : Mid w0 F0 (a :: b :: c :: d :: e :: f :: g :: l) w) : Mid w0 F0 (g :: a :: b :: c :: d :: e :: f :: l) w := h.perm (List.perm_middle (l₁ := [a, b, c, d, e, f]))
theorem _root_.Go.Fx.Mid.up7 {a b c d e f g i : Thing} {l : List Thing} (h : Mid w0 F0 (a :: b :: c :: d :: e :: f :: g :: i :: l) w) : Mid w0 F0 (i :: a :: b :: c :: d :: e :: f :: g :: l) w := h.perm (List.perm_middle (l₁ := [a, b, c, d, e, f, g]))
theorem _root_.Go.Fx.Mid.up8 {a b c d e f g i j : Thing} {l : List Thing} (h : Mid w0 F0 (a :: b :: c :: d :: e :: f :: g :: i :: j :: l) w) : Mid w0 F0 (j :: a :: b :: c :: d :: e :: f :: g :: i :: l) w := h.perm (List.perm_middle (l₁ := [a, b, c, d, e, f, g, i]))
theorem mem4 {α : Type} {a b c d e : α} {l : List α} : e ∈ a :: b :: c :: d :: e :: l := by simp
theorem mem5 {α : Type} {a b c d e f : α} {l : List α} : f ∈ a :: b :: c :: d :: e :: f :: l := by simp
theorem mem6 {α : Type} {a b c d e f g : α} {l : List α} : g ∈ a :: b :: c :: d :: e :: f :: g :: l := by simp
end
section
variable {w0 w : World} {F0 : Nat → Prop} {bk b k arity kb B : Nat} {gone : Int} {rows : List (List Int)} {lv : Value} {R : List Thing} {abs : Abs} {l : List (Nat × Nat)} {on book : Int} {m : Nat} {row : List Int}
theorem op_row (hrow : RowOk row) : (Tryz.prog.info? 64).map (·.size) = some (row.map symV).length := by rw [infoRow]; simp [hrow.1]
theorem masks_at {w : World} {v : Value} {n : Nat} {ms : List Nat} (h : w.ownsRow 0 61 1 v n (ms.map encU)) (hn : ms.length = n) : U32At w v (ms.map fun m : Nat => (m : Int)) := by
  subst hn
  exact U32At.ofMasks h
set_option maxRecDepth 100000 in
theorem same_nil (w : World) : Calls Tryz.prog 56 #[.slice none 0 0, .slice none 0 0] w fun e w' => e = .returned (.bool true) ∧ Below w.heap.size w w' := by
  have h := same_calls (show IntsAt w (.slice none 0 0) [] from World.ownsRow_nil _ _ _ _) (show IntsAt w (.slice none 0 0) [] from World.ownsRow_nil _ _ _ _)
  rw [decide_eq_true rfl] at h
  exact h
set_option maxRecDepth 100000 in
set_option maxHeartbeats 4000000 in
theorem asks_look (h : Mid w0 F0 (bkT bk b abs :: relT b arity gone rows :: docT k arity l :: rowsT lv rows :: kT kb B :: R) w) (hin : AskIn arity gone rows abs l) (hB : B ≤ 4194000) (hrow : RowOk row) (hm : MskOk m) (hma : m < 2 ^ arity) :
    Calls Tryz.prog 18 #[.pointer (some ⟨bk, 0, none⟩), .pointer (some ⟨k, 0, none⟩), lv, .agg (opV 3 on book m row).toArray, .pointer (some ⟨kb, 0, none⟩)] w (AskOut w0 F0 bk b k arity gone rows lv kb B R abs l) := by
  have hsz := op_row hrow
  have HM := Lib.hid (h.alloc (opV 3 on book m row) 66)
  have HI := Lib.hid hin
  have hN := HM.out.cells (List.mem_cons_self ..)
  obtain ⟨c0, c3, hr⟩ := op_facts hN
  clear h hin hN
  go_enter Tryz.func18, Tryz.ntmps18
  go_wp2_with (refine wpList_load_mid rfl 64 _ rfl w.heap.size 4 rfl _ _ hr Tryz.underlying64 rfl hsz ?_)
  generalize w.alloc (.cells (opV 3 on book m row).toArray 66) = w1 at *
  generalize w.heap.size = N at *
  clear c0 c3 hr
  refine (w_look (HM.out.up2.up2) HI.out.fine hm hma HI.out.n hrow).mono ?_
  rintro e w2 ⟨v1, rfl, h2⟩
  have HM' := Lib.hid (h2.up5.up5)
  clear HM h2
  have HM := HM'
  clear HM'
  obtain ⟨c0, c3, hr⟩ := op_facts (HM.out.cells mem5)
  go_wp2_with (refine wpList_load_mid rfl 64 _ rfl N 4 rfl _ _ hr Tryz.underlying64 rfl hsz ?_)
  clear c0 c3 hr
  refine (w_dlook HM.out HI.out.wide hm hma (by have := HI.out.l; omega) HI.out.n hrow).mono ?_
  rintro e w3 ⟨v2, rfl, h3⟩
  have HM' := Lib.hid (h3.up5.up4)
  clear HM h3
  have HM := HM'
  clear HM'
  obtain ⟨c0, c3, hr⟩ := op_facts (HM.out.cells mem6)
  go_wp2_with (refine wpList_load_mid rfl 64 _ rfl N 4 rfl _ _ hr Tryz.underlying64 rfl hsz ?_)
  clear c0 c3 hr
  refine (w_look HM.out (HI.out.fine.ask m) hm hma HI.out.n hrow).mono ?_
  rintro e w4 ⟨v3, rfl, h4⟩
  rw [ask_twice] at h4
  have HM' := Lib.hid (h4)
  clear HM h4
  have HM := HM'
  clear HM'
  go_wp2_with fail
  have hs := same_calls (IntsAt.of (HM.out.own mem6)) (IntsAt.of (HM.out.own mem4))
  rw [decide_eq_true rfl] at hs
  refine hs.mono ?_
  rintro e w5 ⟨rfl, hb5⟩
  have h5 := HM.out.below hb5
  clear hs hb5
  have HM' := Lib.hid (h5)
  clear HM h5
  have HM := HM'
  clear HM'
  go_wp2_with fail
  have hs := same_calls (IntsAt.of (HM.out.own mem1)) (IntsAt.of (HM.out.own mem4))
  rw [decide_eq_true rfl] at hs
  refine hs.mono ?_
  rintro e w6 ⟨rfl, hb6⟩
  have h6 := HM.out.below hb6
  clear hs hb6
  have HM' := Lib.hid (h6.up6.up8)
  clear HM h6
  have HM := HM'
  clear HM'
  have hid := ids_le m rows (keyRow m row)
  have hrn := HI.out.n
  go_wp2_with fail
  refine (told_int HM.out (by omega) (by omega)).mono ?_
  rintro e w7 ⟨rfl, h7⟩
  have HM' := Lib.hid (h7.up2.up1)
  clear HM h7
  have HM := HM'
  clear HM'
  go_wp2_with fail
  refine (told_int HM.out (by omega) (by omega)).mono ?_
  rintro e w8 ⟨rfl, h8⟩
  have HZ : Hid (∃ abs' l', Tells l' abs' ∧ Fine abs' gone rows ∧ l'.length ≤ l.length + 1 ∧ abs'.length ≤ abs.length + 1 ∧ Mid w0 F0 (bkT bk b abs' :: relT b arity gone rows :: docT k arity l' :: rowsT lv rows :: kT kb (B + 2) :: R) w8) := ⟨_, _, HI.out.tells.ask m rows gone, HI.out.fine.ask m, askPut_length _ _ _, ask_length _ _ _ _, h8.up4.drop1.up5.drop1.up4.up4.up4.up4⟩
  clear HM h8 hid hrn
  go_wp2_with fail
  exact bodyPost_ret (v := .bool true) (by simp [results, Tryz.results18, go_sem]) rfl ⟨rfl, HZ.out⟩
set_option maxRecDepth 100000 in
set_option maxHeartbeats 4000000 in
theorem asks_look_bad (h : Mid w0 F0 (bkT bk b abs :: relT b arity gone rows :: docT k arity l :: rowsT lv rows :: kT kb B :: R) w) (hin : AskIn arity gone rows abs l) (hB : B ≤ 4194000) (hrow : RowOk row) (hm : MskOk m) (hma : ¬ m < 2 ^ arity) :
    Calls Tryz.prog 18 #[.pointer (some ⟨bk, 0, none⟩), .pointer (some ⟨k, 0, none⟩), lv, .agg (opV 3 on book m row).toArray, .pointer (some ⟨kb, 0, none⟩)] w (AskOut w0 F0 bk b k arity gone rows lv kb B R abs l) := by
  have hsz := op_row hrow
  have HM := Lib.hid (h.alloc (opV 3 on book m row) 66)
  have HI := Lib.hid hin
  have hN := HM.out.cells (List.mem_cons_self ..)
  obtain ⟨c0, c3, hr⟩ := op_facts hN
  clear h hin hN
  go_enter Tryz.func18, Tryz.ntmps18
  go_wp2_with (refine wpList_load_mid rfl 64 _ rfl w.heap.size 4 rfl _ _ hr Tryz.underlying64 rfl hsz ?_)
  generalize w.alloc (.cells (opV 3 on book m row).toArray 66) = w1 at *
  generalize w.heap.size = N at *
  clear c0 c3 hr
  refine (w_look_bad (HM.out.up2.up2) hm hma).mono ?_
  rintro e w2 ⟨rfl, h2⟩
  have HM' := Lib.hid (h2.up3)
  clear HM h2
  have HM := HM'
  clear HM'
  obtain ⟨c0, c3, hr⟩ := op_facts (HM.out.cells mem3)
  go_wp2_with (refine wpList_load_mid rfl 64 _ rfl N 4 rfl _ _ hr Tryz.underlying64 rfl hsz ?_)
  clear c0 c3 hr
  refine (w_dlook_bad HM.out HI.out.wide hm hma).mono ?_
  rintro e w3 ⟨rfl, h3⟩
  have HM' := Lib.hid (h3.up2.up2)
  clear HM h3
  have HM := HM'
  clear HM'
  obtain ⟨c0, c3, hr⟩ := op_facts (HM.out.cells mem3)
  go_wp2_with (refine wpList_load_mid rfl 64 _ rfl N 4 rfl _ _ hr Tryz.underlying64 rfl hsz ?_)
  clear c0 c3 hr
  refine (w_look_bad HM.out hm hma).mono ?_
  rintro e w4 ⟨rfl, h4⟩
  have HM' := Lib.hid (h4.up5)
  clear HM h4
  have HM := HM'
  clear HM'
  go_wp2_with fail
  refine (same_nil _).mono ?_
  rintro e w5 ⟨rfl, hb5⟩
  have h5 := HM.out.below hb5
  clear hb5
  have HM' := Lib.hid (h5)
  clear HM h5
  have HM := HM'
  clear HM'
  go_wp2_with fail
  refine (same_nil _).mono ?_
  rintro e w6 ⟨rfl, hb6⟩
  have h6 := HM.out.below hb6
  clear hb6
  have HM' := Lib.hid (h6)
  clear HM h6
  have HM := HM'
  clear HM'
  have h7' := HM.out.row (v := .slice none 0 0) (ty := 3) (size := 1) (n := 0) (xs := []) (Below.refl _ _) (World.ownsRow_nil _ _ _ _)
  have HM' := Lib.hid (h7'.up1)
  clear HM h7'
  have HM := HM'
  clear HM'
  go_wp2_with fail
  refine (told_int HM.out (by omega) (by omega)).mono ?_
  rintro e w7 ⟨rfl, h7⟩
  have HM' := Lib.hid (h7)
  clear HM h7
  have HM := HM'
  clear HM'
  have h8' := HM.out.row (v := .slice none 0 0) (ty := 3) (size := 1) (n := 0) (xs := []) (Below.refl _ _) (World.ownsRow_nil _ _ _ _)
  have HM' := Lib.hid (h8'.up1)
  clear HM h8'
  have HM := HM'
  clear HM'
  go_wp2_with fail
  refine (told_int HM.out (by omega) (by omega)).mono ?_
  rintro e w8 ⟨rfl, h8⟩
  have HZ : Hid (∃ abs' l', Tells l' abs' ∧ Fine abs' gone rows ∧ l'.length ≤ l.length + 1 ∧ abs'.length ≤ abs.length + 1 ∧ Mid w0 F0 (bkT bk b abs' :: relT b arity gone rows :: docT k arity l' :: rowsT lv rows :: kT kb (B + 2) :: R) w8) := ⟨_, _, HI.out.tells, HI.out.fine, by omega, by omega, h8.up4.drop1.up4.up4.up4.up4⟩
  clear HM h8
  go_wp2_with fail
  exact bodyPost_ret (v := .bool true) (by simp [results, Tryz.results18, go_sem]) rfl ⟨rfl, HZ.out⟩
set_option maxRecDepth 100000 in
set_option maxHeartbeats 4000000 in
theorem asks_count (h : Mid w0 F0 (bkT bk b abs :: relT b arity gone rows :: docT k arity l :: rowsT lv rows :: kT kb B :: R) w) (hin : AskIn arity gone rows abs l) (hB : B ≤ 4194000) (hrow : RowOk row) (hm : MskOk m) (hma : m < 2 ^ arity) :
    Calls Tryz.prog 18 #[.pointer (some ⟨bk, 0, none⟩), .pointer (some ⟨k, 0, none⟩), lv, .agg (opV 4 on book m row).toArray, .pointer (some ⟨kb, 0, none⟩)] w (AskOut w0 F0 bk b k arity gone rows lv kb B R abs l) := by
  have hsz := op_row hrow
  have HM := Lib.hid (h.alloc (opV 4 on book m row) 66)
  have HI := Lib.hid hin
  have hN := HM.out.cells (List.mem_cons_self ..)
  obtain ⟨c0, c3, hr⟩ := op_facts hN
  clear h hin hN
  go_enter Tryz.func18, Tryz.ntmps18
  go_wp2_with (refine wpList_load_mid rfl 64 _ rfl w.heap.size 4 rfl _ _ hr Tryz.underlying64 rfl hsz ?_)
  generalize w.alloc (.cells (opV 4 on book m row).toArray 66) = w1 at *
  generalize w.heap.size = N at *
  clear c0 c3 hr
  refine (w_count (HM.out.up2.up2) HI.out.fine hm hma HI.out.n hrow).mono ?_
  rintro e w2 ⟨rfl, h2⟩
  have HM' := Lib.hid (h2.up4.up4)
  clear HM h2
  have HM := HM'
  clear HM'
  obtain ⟨c0, c3, hr⟩ := op_facts (HM.out.cells mem4)
  go_wp2_with (refine wpList_load_mid rfl 64 _ rfl N 4 rfl _ _ hr Tryz.underlying64 rfl hsz ?_)
  clear c0 c3 hr
  refine (w_dcount HM.out HI.out.wide hm hma (by have := HI.out.l; omega) HI.out.n hrow).mono ?_
  rintro e w3 ⟨rfl, h3⟩
  have HZ : Hid (∃ abs' l', Tells l' abs' ∧ Fine abs' gone rows ∧ l'.length ≤ l.length + 1 ∧ abs'.length ≤ abs.length + 1 ∧ Mid w0 F0 (bkT bk b abs' :: relT b arity gone rows :: docT k arity l' :: rowsT lv rows :: kT kb (B + 2) :: R) w3) := ⟨_, _, HI.out.tells.ask m rows gone, HI.out.fine.ask m, askPut_length _ _ _, ask_length _ _ _ _, (kT_more (Nat.le_add_right B 2) h3.up4.drop1.up4).up2.up2.up4.up4⟩
  clear HM h3
  go_wp2_with fail
  exact bodyPost_ret (v := .bool true) (by simp [results, Tryz.results18, go_sem]) rfl ⟨rfl, HZ.out⟩
set_option maxRecDepth 100000 in
set_option maxHeartbeats 4000000 in
theorem asks_count_bad (h : Mid w0 F0 (bkT bk b abs :: relT b arity gone rows :: docT k arity l :: rowsT lv rows :: kT kb B :: R) w) (hin : AskIn arity gone rows abs l) (hB : B ≤ 4194000) (hrow : RowOk row) (hm : MskOk m) (hma : ¬ m < 2 ^ arity) :
    Calls Tryz.prog 18 #[.pointer (some ⟨bk, 0, none⟩), .pointer (some ⟨k, 0, none⟩), lv, .agg (opV 4 on book m row).toArray, .pointer (some ⟨kb, 0, none⟩)] w (AskOut w0 F0 bk b k arity gone rows lv kb B R abs l) := by
  have hsz := op_row hrow
  have HM := Lib.hid (h.alloc (opV 4 on book m row) 66)
  have HI := Lib.hid hin
  have hN := HM.out.cells (List.mem_cons_self ..)
  obtain ⟨c0, c3, hr⟩ := op_facts hN
  clear h hin hN
  go_enter Tryz.func18, Tryz.ntmps18
  go_wp2_with (refine wpList_load_mid rfl 64 _ rfl w.heap.size 4 rfl _ _ hr Tryz.underlying64 rfl hsz ?_)
  generalize w.alloc (.cells (opV 4 on book m row).toArray 66) = w1 at *
  generalize w.heap.size = N at *
  clear c0 c3 hr
  refine (w_count_bad (HM.out.up2.up2) hm hma).mono ?_
  rintro e w2 ⟨rfl, h2⟩
  have HM' := Lib.hid (h2.up3)
  clear HM h2
  have HM := HM'
  clear HM'
  obtain ⟨c0, c3, hr⟩ := op_facts (HM.out.cells mem3)
  go_wp2_with (refine wpList_load_mid rfl 64 _ rfl N 4 rfl _ _ hr Tryz.underlying64 rfl hsz ?_)
  clear c0 c3 hr
  refine (w_dcount_bad HM.out HI.out.wide hm hma).mono ?_
  rintro e w3 ⟨rfl, h3⟩
  have HZ : Hid (∃ abs' l', Tells l' abs' ∧ Fine abs' gone rows ∧ l'.length ≤ l.length + 1 ∧ abs'.length ≤ abs.length + 1 ∧ Mid w0 F0 (bkT bk b abs' :: relT b arity gone rows :: docT k arity l' :: rowsT lv rows :: kT kb (B + 2) :: R) w3) := ⟨_, _, HI.out.tells, HI.out.fine, by omega, by omega, (kT_more (Nat.le_add_right B 2) h3.up3.drop1.up4).up4.up2.up4.up4⟩
  clear HM h3
  go_wp2_with fail
  exact bodyPost_ret (v := .bool true) (by simp [results, Tryz.results18, go_sem]) rfl ⟨rfl, HZ.out⟩
set_option maxRecDepth 100000 in
set_option maxHeartbeats 4000000 in
theorem asks_distinct (h : Mid w0 F0 (bkT bk b abs :: relT b arity gone rows :: docT k arity l :: rowsT lv rows :: kT kb B :: R) w) (hin : AskIn arity gone rows abs l) (hB : B ≤ 4194000) (hrow : RowOk row) (hm : MskOk m) (hma : m < 2 ^ arity) :
    Calls Tryz.prog 18 #[.pointer (some ⟨bk, 0, none⟩), .pointer (some ⟨k, 0, none⟩), lv, .agg (opV 5 on book m row).toArray, .pointer (some ⟨kb, 0, none⟩)] w (AskOut w0 F0 bk b k arity gone rows lv kb B R abs l) := by
  have hsz := op_row hrow
  have HM := Lib.hid (h.alloc (opV 5 on book m row) 66)
  have HI := Lib.hid hin
  have hN := HM.out.cells (List.mem_cons_self ..)
  obtain ⟨c0, c3, hr⟩ := op_facts hN
  clear h hin hN
  go_enter Tryz.func18, Tryz.ntmps18
  go_wp2_with fail
  generalize w.alloc (.cells (opV 5 on book m row).toArray 66) = w1 at *
  generalize w.heap.size = N at *
  clear c0 c3 hr
  refine (w_distinct (HM.out.up2.up2) HI.out.fine hm hma HI.out.n).mono ?_
  rintro e w2 ⟨rfl, h2⟩
  have HM' := Lib.hid (h2.up4.up4)
  clear HM h2
  have HM := HM'
  clear HM'
  obtain ⟨c0, c3, hr⟩ := op_facts (HM.out.cells mem4)
  go_wp2_with fail
  clear c0 c3 hr
  refine (w_ddistinct HM.out HI.out.wide hm hma (by have := HI.out.l; omega) HI.out.n).mono ?_
  rintro e w3 ⟨rfl, h3⟩
  have HZ : Hid (∃ abs' l', Tells l' abs' ∧ Fine abs' gone rows ∧ l'.length ≤ l.length + 1 ∧ abs'.length ≤ abs.length + 1 ∧ Mid w0 F0 (bkT bk b abs' :: relT b arity gone rows :: docT k arity l' :: rowsT lv rows :: kT kb (B + 2) :: R) w3) := ⟨_, _, HI.out.tells.ask m rows gone, HI.out.fine.ask m, askPut_length _ _ _, ask_length _ _ _ _, (kT_more (Nat.le_add_right B 2) h3.up4.drop1.up4).up2.up2.up4.up4⟩
  clear HM h3
  go_wp2_with fail
  exact bodyPost_ret (v := .bool true) (by simp [results, Tryz.results18, go_sem]) rfl ⟨rfl, HZ.out⟩
set_option maxRecDepth 100000 in
set_option maxHeartbeats 4000000 in
theorem asks_distinct_bad (h : Mid w0 F0 (bkT bk b abs :: relT b arity gone rows :: docT k arity l :: rowsT lv rows :: kT kb B :: R) w) (hin : AskIn arity gone rows abs l) (hB : B ≤ 4194000) (hrow : RowOk row) (hm : MskOk m) (hma : ¬ m < 2 ^ arity) :
    Calls Tryz.prog 18 #[.pointer (some ⟨bk, 0, none⟩), .pointer (some ⟨k, 0, none⟩), lv, .agg (opV 5 on book m row).toArray, .pointer (some ⟨kb, 0, none⟩)] w (AskOut w0 F0 bk b k arity gone rows lv kb B R abs l) := by
  have hsz := op_row hrow
  have HM := Lib.hid (h.alloc (opV 5 on book m row) 66)
  have HI := Lib.hid hin
  have hN := HM.out.cells (List.mem_cons_self ..)
  obtain ⟨c0, c3, hr⟩ := op_facts hN
  clear h hin hN
  go_enter Tryz.func18, Tryz.ntmps18
  go_wp2_with fail
  generalize w.alloc (.cells (opV 5 on book m row).toArray 66) = w1 at *
  generalize w.heap.size = N at *
  clear c0 c3 hr
  refine (w_distinct_bad (HM.out.up2.up2) hm hma).mono ?_
  rintro e w2 ⟨rfl, h2⟩
  have HM' := Lib.hid (h2.up3)
  clear HM h2
  have HM := HM'
  clear HM'
  obtain ⟨c0, c3, hr⟩ := op_facts (HM.out.cells mem3)
  go_wp2_with fail
  clear c0 c3 hr
  refine (w_ddistinct_bad HM.out HI.out.wide hm hma).mono ?_
  rintro e w3 ⟨rfl, h3⟩
  have HZ : Hid (∃ abs' l', Tells l' abs' ∧ Fine abs' gone rows ∧ l'.length ≤ l.length + 1 ∧ abs'.length ≤ abs.length + 1 ∧ Mid w0 F0 (bkT bk b abs' :: relT b arity gone rows :: docT k arity l' :: rowsT lv rows :: kT kb (B + 2) :: R) w3) := ⟨_, _, HI.out.tells, HI.out.fine, by omega, by omega, (kT_more (Nat.le_add_right B 2) h3.up3.drop1.up4).up4.up2.up4.up4⟩
  clear HM h3
  go_wp2_with fail
  exact bodyPost_ret (v := .bool true) (by simp [results, Tryz.results18, go_sem]) rfl ⟨rfl, HZ.out⟩
set_option maxRecDepth 100000 in
set_option maxHeartbeats 4000000 in
theorem asks_masks (h : Mid w0 F0 (bkT bk b abs :: relT b arity gone rows :: docT k arity l :: rowsT lv rows :: kT kb B :: R) w) (hin : AskIn arity gone rows abs l) (hB : B ≤ 4194000) (hrow : RowOk row) (hm : MskOk m) :
    Calls Tryz.prog 18 #[.pointer (some ⟨bk, 0, none⟩), .pointer (some ⟨k, 0, none⟩), lv, .agg (opV 6 on book m row).toArray, .pointer (some ⟨kb, 0, none⟩)] w (AskOut w0 F0 bk b k arity gone rows lv kb B R abs l) := by
  have hsz := op_row hrow
  have HM := Lib.hid (h.alloc (opV 6 on book m row) 66)
  have HI := Lib.hid hin
  have hN := HM.out.cells (List.mem_cons_self ..)
  obtain ⟨c0, c3, hr⟩ := op_facts hN
  clear h hin hN
  go_enter Tryz.func18, Tryz.ntmps18
  go_wp2_with fail
  generalize w.alloc (.cells (opV 6 on book m row).toArray 66) = w1 at *
  generalize w.heap.size = N at *
  clear c0 c3 hr
  refine (w_masks (HM.out.up1) (by have := HI.out.a; omega)).mono ?_
  rintro e w2 ⟨v1, rfl, h2⟩
  have HM' := Lib.hid (h2.up1)
  clear HM h2
  have HM := HM'
  clear HM'
  go_wp2_with fail
  refine (w_masks HM.out (by have := HI.out.a; omega)).mono ?_
  rintro e w3 ⟨v2, rfl, h3⟩
  have HM' := Lib.hid (h3.up5)
  clear HM h3
  have HM := HM'
  clear HM'
  go_wp2_with fail
  refine (w_dmasks HM.out (by have := HI.out.l; omega)).mono ?_
  rintro e w4 ⟨v3, rfl, h4⟩
  have HM' := Lib.hid (h4)
  clear HM h4
  have HM := HM'
  clear HM'
  have hmk := Lib.hid HI.out.tells.masks
  have hlen : Hid ((rising (abs.map (·.1))).length = abs.length) := by show _ = _; rw [rising_length, List.length_map]
  have hl2 : Hid ((l.map (·.1)).length = l.length) := List.length_map ..
  go_wp2_with fail
  have hs := same_masks (masks_at (HM.out.own mem4) hlen.out) (masks_at (HM.out.own (List.mem_cons_self ..)) hl2.out)
  rw [hmk.out, decide_eq_true rfl] at hs
  refine hs.mono ?_
  rintro e w5 ⟨rfl, hb5⟩
  have h5 := HM.out.below hb5
  clear hs hb5
  have HM' := Lib.hid (h5)
  clear HM h5
  have HM := HM'
  clear HM'
  go_wp2_with fail
  have hs := same_masks (masks_at (HM.out.own mem2) hlen.out) (masks_at (HM.out.own (List.mem_cons_self ..)) hl2.out)
  rw [hmk.out, decide_eq_true rfl] at hs
  refine hs.mono ?_
  rintro e w6 ⟨rfl, hb6⟩
  have h6 := HM.out.below hb6
  clear hs hb6
  have HM' := Lib.hid (h6.up4.up8)
  clear HM h6
  have HM := HM'
  clear HM'
  clear hmk hlen hl2
  have han := HI.out.a
  go_wp2_with fail
  refine (told_mask HM.out (by omega) (by omega)).mono ?_
  rintro e w7 ⟨rfl, h7⟩
  have HM' := Lib.hid (h7.up3.up1)
  clear HM h7
  have HM := HM'
  clear HM'
  go_wp2_with fail
  refine (told_mask HM.out (by omega) (by omega)).mono ?_
  rintro e w8 ⟨rfl, h8⟩
  have HZ : Hid (∃ abs' l', Tells l' abs' ∧ Fine abs' gone rows ∧ l'.length ≤ l.length + 1 ∧ abs'.length ≤ abs.length + 1 ∧ Mid w0 F0 (bkT bk b abs' :: relT b arity gone rows :: docT k arity l' :: rowsT lv rows :: kT kb (B + 2) :: R) w8) := ⟨_, _, HI.out.tells, HI.out.fine, by omega, by omega, h8.up1.drop1.up3.drop1.up4.up2.up4.up4⟩
  clear HM h8 han
  go_wp2_with fail
  exact bodyPost_ret (v := .bool true) (by simp [results, Tryz.results18, go_sem]) rfl ⟨rfl, HZ.out⟩
end
end Go.Proofs.YtckhkfchgcdajaaGreatDoor

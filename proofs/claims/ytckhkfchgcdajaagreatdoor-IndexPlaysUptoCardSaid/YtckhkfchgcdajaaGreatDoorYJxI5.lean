import Derived.Test.YtckhkfchgcdajaaGreatDoorYJxI3
namespace Go.Proofs.YtckhkfchgcdajaaGreatDoor
open Go.Fx Go.RowKit Go.Maps Go.Sort
section
variable {w0 w : World} {F0 : Nat → Prop} {bk b k arity kb B : Nat} {gone : Int} {rows : List (List Int)} {lv : Value} {R : List Thing} {abs : Abs} {l : List (Nat × Nat)} {on book : Int} {m : Nat} {row : List Int}
set_option maxRecDepth 100000 in
set_option maxHeartbeats 4000000 in
theorem asks_seen (h : Mid w0 F0 (bkT bk b abs :: relT b arity gone rows :: docT k arity l :: rowsT lv rows :: kT kb B :: R) w) (hin : AskIn arity gone rows abs l) (hm : MskOk m) :
    Calls Tryz.prog 18 #[.pointer (some ⟨bk, 0, none⟩), .pointer (some ⟨k, 0, none⟩), lv, .agg (opV 7 on book m row).toArray, .pointer (some ⟨kb, 0, none⟩)] w (AskOut w0 F0 bk b k arity gone rows lv kb B R abs l) := by
  have HM := Lib.hid (h.alloc (opV 7 on book m row) 66)
  have HI := Lib.hid hin
  have hN := HM.out.cells (List.mem_cons_self ..)
  obtain ⟨c0, c3, hr⟩ := op_facts hN
  clear h hin hN
  go_enter Tryz.func18, Tryz.ntmps18
  go_upto_region 27 with fail
  generalize w.alloc (.cells (opV 7 on book m row).toArray 66) = w1 at *
  generalize w.heap.size = N at *
  clear c0 hr
  have h1 := fun n : Nat => w_seen (m := m) ((HM.out.below (below_drewN (Below.refl _ _) n)).up1) hm
  have h2 := fun n : Nat => w_dseen (HM.out.below (below_drewN (Below.refl _ _) n)).up3 m
  have hs := HI.out.tells.seen m
  rw [hs] at h2
  clear hs
  go_quiet (first | (go_at_call 69; exact Calls.quiet_of_same (h1 _)) | (go_at_call 70; exact Calls.quiet_of_same (h2 _)))
  have HZ : Hid (∀ n : Nat, ∃ abs' l', Tells l' abs' ∧ Fine abs' gone rows ∧ l'.length ≤ l.length + 1 ∧ abs'.length ≤ abs.length + 1 ∧ Mid w0 F0 (bkT bk b abs' :: relT b arity gone rows :: docT k arity l' :: rowsT lv rows :: kT kb (B + 2) :: R) (w1.drewN n)) :=
    fun n => ⟨_, _, HI.out.tells, HI.out.fine, by omega, by omega, (kT_more (Nat.le_add_right B 2) (HM.out.below (below_drewN (Below.refl _ _) n)).drop1.up4).dn4⟩
  clear HM c3 h1 h2
  go_wp2_with fail
  exact bodyPost_ret (v := .bool true) (by simp [results, Tryz.results18, go_sem]) rfl ⟨rfl, HZ.out _⟩
set_option maxRecDepth 100000 in
set_option maxHeartbeats 4000000 in
theorem asks_other {kind : Int} (h : Mid w0 F0 (bkT bk b abs :: relT b arity gone rows :: docT k arity l :: rowsT lv rows :: kT kb B :: R) w) (hin : AskIn arity gone rows abs l)
    (k3 : ¬ kind = 3) (k4 : ¬ kind = 4) (k5 : ¬ kind = 5) (k6 : ¬ kind = 6) (k7 : ¬ kind = 7) :
    Calls Tryz.prog 18 #[.pointer (some ⟨bk, 0, none⟩), .pointer (some ⟨k, 0, none⟩), lv, .agg (opV kind on book m row).toArray, .pointer (some ⟨kb, 0, none⟩)] w (AskOut w0 F0 bk b k arity gone rows lv kb B R abs l) := by
  have HM := Lib.hid (h.alloc (opV kind on book m row) 66)
  have HI := Lib.hid hin
  have hN := HM.out.cells (List.mem_cons_self ..)
  obtain ⟨c0, c3, hr⟩ := op_facts hN
  clear h hin hN
  have e3 : (kind == 3) = false := by simpa using k3
  have e4 : (kind == 4) = false := by simpa using k4
  have e5 : (kind == 5) = false := by simpa using k5
  have e6 : (kind == 6) = false := by simpa using k6
  have e7 : (kind == 7) = false := by simpa using k7
  go_enter Tryz.func18, Tryz.ntmps18
  go_wp2_with fail
  exact bodyPost_ret (v := .bool true) (by simp [results, Tryz.results18, go_sem]) rfl ⟨rfl, _, _, HI.out.tells, HI.out.fine, by omega, by omega, (kT_more (Nat.le_add_right B 2) HM.out.drop1.up4).dn4⟩
theorem asks_calls {kind : Int} (h : Mid w0 F0 (bkT bk b abs :: relT b arity gone rows :: docT k arity l :: rowsT lv rows :: kT kb B :: R) w) (hin : AskIn arity gone rows abs l) (hB : B ≤ 4194000) (hrow : RowOk row) (hm : MskOk m) :
    Calls Tryz.prog 18 #[.pointer (some ⟨bk, 0, none⟩), .pointer (some ⟨k, 0, none⟩), lv, .agg (opV kind on book m row).toArray, .pointer (some ⟨kb, 0, none⟩)] w (AskOut w0 F0 bk b k arity gone rows lv kb B R abs l) := by
  by_cases hma : m < 2 ^ arity
  · by_cases k3 : kind = 3
    · subst k3; exact asks_look h hin hB hrow hm hma
    by_cases k4 : kind = 4
    · subst k4; exact asks_count h hin hB hrow hm hma
    by_cases k5 : kind = 5
    · subst k5; exact asks_distinct h hin hB hrow hm hma
    by_cases k6 : kind = 6
    · subst k6; exact asks_masks h hin hB hrow hm
    by_cases k7 : kind = 7
    · subst k7; exact asks_seen h hin hm
    exact asks_other h hin k3 k4 k5 k6 k7
  · by_cases k3 : kind = 3
    · subst k3; exact asks_look_bad h hin hB hrow hm hma
    by_cases k4 : kind = 4
    · subst k4; exact asks_count_bad h hin hB hrow hm hma
    by_cases k5 : kind = 5
    · subst k5; exact asks_distinct_bad h hin hB hrow hm hma
    by_cases k6 : kind = 6
    · subst k6; exact asks_masks h hin hB hrow hm
    by_cases k7 : kind = 7
    · subst k7; exact asks_seen h hin hm
    exact asks_other h hin k3 k4 k5 k6 k7
end
end Go.Proofs.YtckhkfchgcdajaaGreatDoor

namespace Go.Proofs.YtckhkfchgcdajaaGreatDoor
open Go.Fx Go.RowKit Go.Maps Go.Sort
structure Sh where
  b : Nat
  bk0 : Nat
  bk1 : Nat
  k0 : Nat
  k1 : Nat
  arity : Nat
  gone : Int
  rows : List (List Int)
  lv : Value
  abs0 : Abs
  abs1 : Abs
  l0 : List (Nat × Nat)
  l1 : List (Nat × Nat)
abbrev ptrV (k : Nat) : Value := .pointer (some ⟨k, 0, none⟩)
def shelfC (kb : Nat) (x : Sh) : List Value := [ptrV x.b, .int .i64 (x.arity : Int), x.lv, ptrV x.bk0, ptrV x.bk1, ptrV x.k0, ptrV x.k1, ptrV kb]
def shelfL (s kb : Nat) (x : Sh) : List Thing := [cellsT s (shelfC kb x) 75, relT x.b x.arity x.gone x.rows, rowsT x.lv x.rows, bkT x.bk0 x.b x.abs0, docT x.k0 x.arity x.l0, bkT x.bk1 x.b x.abs1, docT x.k1 x.arity x.l1]
structure ShIn (B : Nat) (x : Sh) : Prop where
  t0 : Tells x.l0 x.abs0
  t1 : Tells x.l1 x.abs1
  f0 : Fine x.abs0 x.gone x.rows
  f1 : Fine x.abs1 x.gone x.rows
  wide : x.arity ≤ 24
  n : x.rows.length ≤ B
  g : 0 ≤ x.gone ∧ x.gone ≤ B
  a0 : x.abs0.length ≤ B
  a1 : x.abs1.length ≤ B
  l0 : x.l0.length ≤ B
  l1 : x.l1.length ≤ B
def shelfT (s kb B : Nat) : Thing := exT fun x : Sh => pureT (ShIn B x) (allT (shelfL s kb x))
theorem shelf_open {s kb B : Nat} {w0 w : World} {F0 : Nat → Prop} {R : List Thing} (h : Mid w0 F0 (shelfT s kb B :: R) w) : ∃ x, ShIn B x ∧ Mid w0 F0 (shelfL s kb x ++ R) w := by
  obtain ⟨x, h1⟩ := h.exElim
  obtain ⟨h2, h3⟩ := h1.pureElim
  exact ⟨x, h2, h3.unpack⟩
theorem shelf_shut {s kb B : Nat} {x : Sh} {w0 w : World} {F0 : Nat → Prop} {R : List Thing} (h : Mid w0 F0 (shelfL s kb x ++ R) w) (hx : ShIn B x) : Mid w0 F0 (shelfT s kb B :: R) w :=
  Mid.exIntro x (Mid.pureIntro hx h.pack)
theorem ShIn.more {B B' : Nat} {x : Sh} (h : ShIn B x) (hB : B ≤ B') : ShIn B' x :=
  ⟨h.t0, h.t1, h.f0, h.f1, h.wide, Nat.le_trans h.n hB, ⟨h.g.1, by have := h.g.2; omega⟩, Nat.le_trans h.a0 hB, Nat.le_trans h.a1 hB, Nat.le_trans h.l0 hB, Nat.le_trans h.l1 hB⟩
theorem addRow_len (rows : List (List Int)) (y : List Int) : (addRow rows y).length ≤ rows.length + 1 := by
  unfold addRow
  split
  · omega
  · simp
theorem fine_addRow {abs : Abs} {gone : Int} {rows : List (List Int)} (h : Fine abs gone rows) (y : List Int) : Fine abs gone (addRow rows y) := by
  unfold addRow
  split
  · exact h
  · exact h.add y
theorem minus_not {rows : List (List Int)} {y : List Int} (h : y ∉ rows) : minusRow rows y = rows := by
  unfold minusRow
  rw [List.filter_eq_self]
  intro a ha
  simp only [decide_eq_true_eq]
  exact fun e => h (e ▸ ha)
theorem minus_in {rows : List (List Int)} {y : List Int} (hnd : rows.Nodup) : rows.erase y = minusRow rows y := by
  rw [hnd.erase_eq_filter]
  unfold minusRow
  congr 1
  funext r
  by_cases h : r = y <;> simp [h]
theorem minus_len (rows : List (List Int)) (y : List Int) : (minusRow rows y).length ≤ rows.length := List.length_filter_le _ _
theorem b_rem {w : World} {R : Nat → Prop} {b arity : Nat} {gone : Int} {rows : List (List Int)} (hR : Rel w R b arity gone rows) {x : List Int} (hx : RowOk x) (hn : rows.length ≤ 1048576) (hg : 0 ≤ gone ∧ gone < 4611686018427387904) :
    Calls Tryz.prog 16 #[.pointer (some ⟨b, 0, none⟩), rowV x] w fun e w' => ∃ t R' gone', e = .returned (.bool t) ∧ Rel w' R' b arity gone' (minusRow rows x) ∧ Step w R w' R' ∧ gone ≤ gone' ∧ gone' ≤ gone + 1 ∧ ∀ abs, Fine abs gone rows → Fine abs gone' (minusRow rows x) := by
  have hnd : rows.Nodup := by obtain ⟨pb, mb, lv, h, _⟩ := hR; exact h.nodup
  by_cases hin : x ∈ rows
  · refine (b_remove hR hx hin hn hg).mono ?_
    rintro e w' ⟨rfl, R', h1, h2⟩
    rw [minus_in hnd] at h1
    exact ⟨true, R', gone + 1, rfl, h1, h2, by omega, by omega, fun abs h => fine_gone h (by omega)⟩
  · refine (b_remove_not hR hx hin).mono ?_
    rintro e w' ⟨rfl, hb⟩
    rw [minus_not hin]
    exact ⟨false, R, gone, rfl, hR.below hb, Turn.of_below R hb, by omega, by omega, fun abs h => h⟩
section
variable {w0 w : World} {F0 : Nat → Prop} {R : List Thing} {b arity : Nat} {gone : Int} {rows : List (List Int)}
theorem w_add (h : Mid w0 F0 (relT b arity gone rows :: R) w) {x : List Int} (hx : RowOk x) (hr : rightRow arity x = true) (hn : rows.length ≤ 1048576) :
    Calls Tryz.prog 14 #[.pointer (some ⟨b, 0, none⟩), rowV x] w fun e w' => ∃ t, e = .returned (.tuple #[.bool t, .int .i64 0]) ∧ Mid w0 F0 (relT b arity gone (addRow rows x) :: R) w' := by
  obtain ⟨F, hR, ht⟩ := h.turn1
  refine (b_add hR hx hr hn).mono ?_
  rintro e w' ⟨t, R', rfl, h1, h2⟩
  exact ⟨t, rfl, ht (t' := relT b arity gone (addRow rows x)) h1 h2⟩
theorem w_rem (h : Mid w0 F0 (relT b arity gone rows :: R) w) {x : List Int} (hx : RowOk x) (hn : rows.length ≤ 1048576) (hg : 0 ≤ gone ∧ gone < 4611686018427387904) :
    Calls Tryz.prog 16 #[.pointer (some ⟨b, 0, none⟩), rowV x] w fun e w' => ∃ t gone', e = .returned (.bool t) ∧ Mid w0 F0 (relT b arity gone' (minusRow rows x) :: R) w' ∧ gone ≤ gone' ∧ gone' ≤ gone + 1 ∧ ∀ abs, Fine abs gone rows → Fine abs gone' (minusRow rows x) := by
  obtain ⟨F, hR, ht⟩ := h.turn1
  refine (b_rem hR hx hn hg).mono ?_
  rintro e w' ⟨t, R', gone', rfl, h1, h2, h3, h4, h5⟩
  exact ⟨t, gone', rfl, ht (t' := relT b arity gone' (minusRow rows x)) h1 h2, h3, h4, h5⟩
end
end Go.Proofs.YtckhkfchgcdajaaGreatDoor

import Derived.Test.YtiomojlcnemnhaaAHxG2
import Derived.Test.YtiomojlcnemnhaaAHxE7
namespace Go.Proofs.Ytiomojlcnemnhaa
open Go.Fx Go.RowKit
theorem b_remove {w : World} {R : Nat → Prop} {b arity : Nat} {gone : Int} {rows : List (List Int)} (hR : Rel w R b arity gone rows) {x : List Int} (hx : RowOk x) (hin : x ∈ rows) (hn : rows.length ≤ 1048576) (hg : 0 ≤ gone ∧ gone < 4611686018427387904) :
    Calls Try.prog 23 #[.pointer (some ⟨b, 0, none⟩), rowV x] w fun e w' => e = .returned (.bool true) ∧ ∃ R', Rel w' R' b arity (gone + 1) (rows.erase x) ∧ Step w R w' R' := by
  obtain ⟨pb, mb, lv, hR, rfl⟩ := hR
  refine (remove_in hR hx hin hn hg).mono ?_
  rintro e w' ⟨rfl, lv', h1, h2, h3⟩
  exact ⟨rfl, _, ⟨pb, mb, lv', h1, rfl⟩, h2, h3⟩
def seenN (abs : Abs) (m : Nat) : Nat := ((abs.find? fun a => decide (a.1 = m)).map fun a => a.2.1.length).getD 0
set_option maxRecDepth 100000 in
theorem b_seen {w : World} {F : Nat → Prop} {bk b : Nat} {abs : Abs} (hB : Bk w F bk b abs) {m : Nat} (hm : MskOk m) :
    Calls Try.prog 26 #[.pointer (some ⟨bk, 0, none⟩), .int .u32 (m : Int)] w fun e w' => e = .returned (.int .i64 (seenN abs m : Nat)) ∧ w' = w := by
  obtain ⟨bm, ixs, hB, rfl, rfl⟩ := hB
  have c1 : w.cell? ⟨bk, 1, none⟩ = some (.map (some bm)) := by simp [World.cell?, hB.hb]
  have hlk := msk_look false (t := 102) Try.underlying102 (Try.zeroValue165 w) hB.hm hm
  rcases hB.look m with ⟨l1, x, l2, hix, hxm, hlo⟩ | ⟨hno, hlo⟩
  · rw [hlo] at hlk
    simp only [Option.getD_some, Bool.false_eq_true, if_false] at hlk
    have hxI := hB.ix x (by rw [hix]; simp)
    have c2 : w.cell? ⟨x.rb, 1, none⟩ = some (.int .i64 (x.took.length : Int)) := by simp [World.cell?, hxI.hr]
    have hs : seenN (ixs.map Ix.abs) m = x.took.length := by
      unfold seenN
      have hnd := hB.nodup
      have : (ixs.map Ix.abs).find? (fun a => decide (a.1 = m)) = some x.abs := by
        rw [hix, List.map_append, List.find?_append, List.find?_eq_none.2, Option.none_or, List.map_cons, List.find?_cons_of_pos]
        · show decide (x.m = m) = true
          exact decide_eq_true hxm
        · intro a ha
          obtain ⟨y, hy, rfl⟩ := List.mem_map.1 ha
          rw [hix, List.map_append, List.nodup_append] at hnd
          simp only [decide_eq_true_eq]
          intro e
          exact hnd.2.2 y.m (List.mem_map_of_mem hy) x.m (by simp) (e.trans hxm.symm)
      rw [this]
      rfl
    rw [hs]
    go_enter Try.func26, Try.ntmps26
    go_wp2_with fail
    exact bodyPost_ret (v := .int .i64 (x.took.length : Int)) (by simp [results, Try.results26, go_sem]) rfl ⟨rfl, rfl⟩
  · rw [hlo] at hlk
    simp only [Option.getD_none, Bool.false_eq_true, if_false] at hlk
    have hs : seenN (ixs.map Ix.abs) m = 0 := by
      unfold seenN
      rw [List.find?_eq_none.2]
      · rfl
      · intro a ha
        obtain ⟨y, hy, rfl⟩ := List.mem_map.1 ha
        simp only [decide_eq_true_eq]
        exact fun e => hno (e ▸ List.mem_map_of_mem hy)
    rw [hs]
    go_enter Try.func26, Try.ntmps26
    go_wp2_with fail
    exact bodyPost_ret (v := .int .i64 0) (by simp [results, Try.results26, go_sem]) rfl ⟨rfl, rfl⟩
def Anew (w0 : World) (M : Nat → Prop) (b bk arity : Nat) (gone : Int) (rows : List (List Int)) (w : World) : Prop :=
  ∃ F R abs, Rel w R b arity gone rows ∧ Bk w F bk b abs ∧ (∀ k, F k → ¬ R k) ∧ Fine abs gone rows ∧ Below w0.heap.size w0 w ∧ (∀ k, R k → w0.heap.size ≤ k) ∧ (∀ k, F k → w0.heap.size ≤ k) ∧ M = fun k => F k ∨ R k
def Both (w0 : World) (M : Nat → Prop) (b bk bk2 arity : Nat) (gone : Int) (rows : List (List Int)) (abs abs2 : Abs) (w : World) : Prop :=
  ∃ F F2 R, Rel w R b arity gone rows ∧ Bk w F bk b abs ∧ Bk w F2 bk2 b abs2 ∧ (∀ k, F k → ¬ R k) ∧ (∀ k, F2 k → ¬ R k) ∧ (∀ k, F k → ¬ F2 k) ∧ Fine abs gone rows ∧ Fine abs2 gone rows ∧ Below w0.heap.size w0 w ∧ (∀ k, R k → w0.heap.size ≤ k) ∧ (∀ k, F k → w0.heap.size ≤ k) ∧ (∀ k, F2 k → w0.heap.size ≤ k) ∧ M = fun k => F k ∨ F2 k ∨ R k
theorem Anew.lt {w0 w : World} {M : Nat → Prop} {b bk arity : Nat} {gone : Int} {rows : List (List Int)} (h : Anew w0 M b bk arity gone rows w) {k : Nat} (hk : M k) : k < w.heap.size := by
  obtain ⟨F, R, abs, h1, h2, _, _, _, _, _, rfl⟩ := h
  exact hk.elim h2.lt h1.lt
theorem Anew.below {w0 w w' : World} {M : Nat → Prop} {b bk arity : Nat} {gone : Int} {rows : List (List Int)} (h : Anew w0 M b bk arity gone rows w) (hb : Below w.heap.size w w') : Anew w0 M b bk arity gone rows w' := by
  obtain ⟨F, R, abs, h1, h2, h3, h4, h5, h6, h7, h8⟩ := h
  exact ⟨F, R, abs, h1.below hb, h2.below hb, h3, h4, h5.trans (hb.mono h5.size), h6, h7, h8⟩
theorem Anew.from {w0 w : World} {M : Nat → Prop} {b bk arity : Nat} {gone : Int} {rows : List (List Int)} (h : Anew w0 M b bk arity gone rows w) : Below w0.heap.size w0 w := by
  obtain ⟨F, R, abs, _, _, _, _, h5, _⟩ := h
  exact h5
theorem Anew.ok {w0 w : World} {M : Nat → Prop} {b bk arity : Nat} {gone : Int} {rows : List (List Int)} (h : Anew w0 M b bk arity gone rows w) : (∀ x ∈ rows, RowOk x) ∧ rows.Nodup := by
  obtain ⟨_, _, _, ⟨pb, mb, lv, h1, _⟩, _⟩ := h
  exact ⟨h1.ok, h1.nodup⟩
theorem Both.lt {w0 w : World} {M : Nat → Prop} {b bk bk2 arity : Nat} {gone : Int} {rows : List (List Int)} {abs abs2 : Abs} (h : Both w0 M b bk bk2 arity gone rows abs abs2 w) {k : Nat} (hk : M k) : k < w.heap.size := by
  obtain ⟨F, F2, R, h1, h2, h3, _, _, _, _, _, _, _, _, _, rfl⟩ := h
  exact hk.elim h2.lt fun h => h.elim h3.lt h1.lt
theorem Both.below {w0 w w' : World} {M : Nat → Prop} {b bk bk2 arity : Nat} {gone : Int} {rows : List (List Int)} {abs abs2 : Abs} (h : Both w0 M b bk bk2 arity gone rows abs abs2 w) (hb : Below w.heap.size w w') : Both w0 M b bk bk2 arity gone rows abs abs2 w' := by
  obtain ⟨F, F2, R, h1, h2, h3, h4, h5, h6, h7, h8, h9, h10, h11, h12, h13⟩ := h
  exact ⟨F, F2, R, h1.below hb, h2.below hb, h3.below hb, h4, h5, h6, h7, h8, h9.trans (hb.mono h9.size), h10, h11, h12, h13⟩
section
variable {w0 w : World} {M : Nat → Prop} {b bk bk2 arity : Nat} {gone : Int} {rows : List (List Int)} {abs abs2 : Abs}
theorem an_len (h : Anew w0 M b bk arity gone rows w) : Calls Try.prog 15 #[.pointer (some ⟨b, 0, none⟩)] w fun e w' => e = .returned (.int .i64 (rows.length : Nat)) ∧ w' = w := by
  obtain ⟨F, R, abs, h1, _⟩ := h
  exact b_len h1
theorem bo_len (h : Both w0 M b bk bk2 arity gone rows abs abs2 w) : Calls Try.prog 15 #[.pointer (some ⟨b, 0, none⟩)] w fun e w' => e = .returned (.int .i64 (rows.length : Nat)) ∧ w' = w := by
  obtain ⟨F, F2, R, h1, _⟩ := h
  exact b_len h1
theorem an_at (h : Anew w0 M b bk arity gone rows w) {i : Nat} (hi : i < rows.length) : Calls Try.prog 16 #[.pointer (some ⟨b, 0, none⟩), .int .i64 (i : Int)] w fun e w' => e = .returned (.tuple #[rowV (rows.getD i []), .int .i64 0]) ∧ Below w.heap.size w w' := by
  obtain ⟨F, R, abs, h1, _⟩ := h
  rw [List.getD_eq_getElem?_getD, List.getElem?_eq_getElem hi, Option.getD_some]
  exact b_at h1 hi
theorem an_turn {w' : World} {F R R' : Nat → Prop} {abs : Abs} {gone' : Int} {rows' : List (List Int)} (h1 : Rel w' R' b arity gone' rows') (h2 : Bk w F bk b abs) (h3 : ∀ k, F k → ¬ R k) (h4 : Fine abs gone' rows') (h5 : Below w0.heap.size w0 w) (h6 : ∀ k, R k → w0.heap.size ≤ k) (h7 : ∀ k, F k → w0.heap.size ≤ k) (hs : Step w R w' R') :
    Anew w0 (fun k => F k ∨ R' k) b bk arity gone' rows' w' ∧ Step w (fun k => F k ∨ R k) w' (fun k => F k ∨ R' k) := by
  have hb := hs.bk h2 h3
  have ho := own_step h5 h6 hs
  exact ⟨⟨F, R', abs, h1, hb.1, hb.2, h4, ho.1, ho.2, h7, rfl⟩, hs.1.mono fun k hk => .inr hk, fun k hk => hk.elim (fun h => .inl (.inl h)) fun h => (hs.2 k h).imp_left .inr⟩
theorem fine_gone {abs : Abs} {gone gone' : Int} {rows rows' : List (List Int)} (h : Fine abs gone rows) (hg : gone < gone') : Fine abs gone' rows' := fun a ha => ⟨by have := (h a ha).1; omega, fun e => by have := (h a ha).1; omega⟩
theorem an_remove (h : Anew w0 M b bk arity gone rows w) {x : List Int} (hin : x ∈ rows) (hn : rows.length ≤ 1048576) (hg : 0 ≤ gone ∧ gone < 4611686018427387904) :
    Calls Try.prog 23 #[.pointer (some ⟨b, 0, none⟩), rowV x] w fun e w' => e = .returned (.bool true) ∧ ∃ M', Anew w0 M' b bk arity (gone + 1) (rows.erase x) w' ∧ Step w M w' M' := by
  have hx := h.ok.1 x hin
  obtain ⟨F, R, abs, h1, h2, h3, h4, h5, h6, h7, rfl⟩ := h
  refine (b_remove h1 hx hin hn hg).mono ?_
  rintro e w' ⟨rfl, R', hR', hs⟩
  exact ⟨rfl, _, an_turn hR' h2 h3 (fine_gone h4 (by omega)) h5 h6 h7 hs⟩
theorem an_add (h : Anew w0 M b bk arity gone rows w) {x : List Int} (hx : RowOk x) (hr : rightRow arity x = true) (hn : rows.length ≤ 1048576) :
    Calls Try.prog 24 #[.pointer (some ⟨b, 0, none⟩), rowV x] w fun e w' => ∃ t M', e = .returned (.tuple #[.bool t, .int .i64 0]) ∧ Anew w0 M' b bk arity gone (addRow rows x) w' ∧ Step w M w' M' := by
  obtain ⟨F, R, abs, h1, h2, h3, h4, h5, h6, h7, rfl⟩ := h
  refine (b_add h1 hx hr hn).mono ?_
  rintro e w' ⟨t, R', rfl, hR', hs⟩
  refine ⟨t, _, rfl, an_turn hR' h2 h3 ?_ h5 h6 h7 hs⟩
  unfold addRow
  split
  · exact h4
  · exact h4.add x
theorem an_new (h : Anew w0 M b bk arity gone rows w) : Calls Try.prog 21 #[.pointer (some ⟨b, 0, none⟩)] w fun e w' => ∃ bk2 M' abs, e = .returned (.tuple #[.pointer (some ⟨bk2, 0, none⟩), .int .i64 0]) ∧ Both w0 M' b bk bk2 arity gone rows abs [] w' ∧ Below w.heap.size w w' ∧ (∀ k, M' k → M k ∨ w.heap.size ≤ k) := by
  have hf := h.from
  obtain ⟨F, R, abs, h1, h2, h3, h4, h5, h6, h7, rfl⟩ := h
  refine (b_open h1).mono ?_
  rintro e w' ⟨bk2, F2, rfl, hB2, hb, hF2⟩
  refine ⟨bk2, _, abs, rfl, ⟨F, F2, R, h1.below hb, h2.below hb, hB2, h3, fun k hk hr => ?_, fun k hk hr => ?_, h4, Fine.nil _ _, h5.trans (hb.mono h5.size), h6, h7, fun k hk => Nat.le_trans h5.size (hF2 k hk), rfl⟩, hb, ?_⟩
  · have := hF2 k hk; have := h1.lt hr; omega
  · have := hF2 k hr; have := h2.lt hk; omega
  · rintro k (hk | hk | hk)
    · exact .inl (.inl hk)
    · exact .inr (hF2 k hk)
    · exact .inl (.inr hk)
theorem bo_turn {F F2 R F' : Nat → Prop} {w' : World} {m : Nat} (h1 : Rel w R b arity gone rows) (h3 : Bk w F2 bk2 b abs2) (h4 : ∀ k, F k → ¬ R k) (h5 : ∀ k, F2 k → ¬ R k) (h6 : ∀ k, F k → ¬ F2 k) (h7 : Fine abs gone rows) (h8 : Fine abs2 gone rows)
    (h9 : Below w0.heap.size w0 w) (h10 : ∀ k, R k → w0.heap.size ≤ k) (h11 : ∀ k, F k → w0.heap.size ≤ k) (h12 : ∀ k, F2 k → w0.heap.size ≤ k) (hB : Bk w' F' bk b (askAbs abs m rows gone)) (hs : Step w F w' F') :
    Both w0 (fun k => F' k ∨ F2 k ∨ R k) b bk bk2 arity gone rows (askAbs abs m rows gone) abs2 w' ∧ Step w (fun k => F k ∨ F2 k ∨ R k) w' (fun k => F' k ∨ F2 k ∨ R k) := by
  have hr := hs.rel h1 h4
  have hb2 := hs.bk h3 (fun k h h' => h6 k h' h)
  have ho := own_step h9 h11 hs
  exact ⟨⟨F', F2, R, hr.1, hB, hb2.1, hr.2, h5, fun k h h' => hb2.2 k h' h, h7.ask m, h8, ho.1, h10, ho.2, h12, rfl⟩, hs.1.mono fun k hk => .inl hk, fun k hk => hk.elim (fun h => (hs.2 k h).imp_left .inl) fun h => .inl (.inr h)⟩
theorem Both.swap (h : Both w0 M b bk bk2 arity gone rows abs abs2 w) : Both w0 M b bk2 bk arity gone rows abs2 abs w := by
  obtain ⟨F, F2, R, h1, h2, h3, h4, h5, h6, h7, h8, h9, h10, h11, h12, rfl⟩ := h
  refine ⟨F2, F, R, h1, h3, h2, h5, h4, fun k h h' => h6 k h' h, h8, h7, h9, h10, h12, h11, ?_⟩
  funext k
  exact propext ⟨fun h => h.elim (fun h => .inr (.inl h)) fun h => h.elim .inl fun h => .inr (.inr h), fun h => h.elim (fun h => .inr (.inl h)) fun h => h.elim .inl fun h => .inr (.inr h)⟩
theorem bo_look (h : Both w0 M b bk bk2 arity gone rows abs abs2 w) {m : Nat} (hm : MskOk m) (hma : m < 2 ^ arity) (hn : rows.length ≤ 1048576) {y : List Int} (hy : RowOk y) :
    Calls Try.prog 17 #[.pointer (some ⟨bk, 0, none⟩), .int .u32 (m : Int), rowV y] w fun e w' => ∃ v M', e = .returned (.tuple #[v, .int .i64 0]) ∧ Both w0 M' b bk bk2 arity gone rows (askAbs abs m rows gone) abs2 w' ∧ Step w M w' M' ∧ IntsAt w' v (idsOf m (nums 0 rows) (keyRow m y)) ∧ (∀ k, v.ownBlock = some k → ¬ M' k) := by
  have hlt := fun k => h.lt (k := k)
  obtain ⟨F, F2, R, h1, h2, h3, h4, h5, h6, h7, h8, h9, h10, h11, h12, rfl⟩ := h
  refine (b_look h2 h1 h4 h7 hm hma hn hy).mono ?_
  rintro e w' ⟨v, F', rfl, hB, hst, hown, hv⟩
  have hT := bo_turn h1 h3 h4 h5 h6 h7 h8 h9 h10 h11 h12 hB hst
  refine ⟨v, _, rfl, hT.1, hT.2, IntsAt.of hown, fun k hk hM => ?_⟩
  rcases hM with hM | hM
  · exact hv k hk hM
  · have h13 := hlt k (.inr hM)
    have h14 := own_ge0 hown hk
    omega
theorem bo_distinct (h : Both w0 M b bk bk2 arity gone rows abs abs2 w) {m : Nat} (hm : MskOk m) (hma : m < 2 ^ arity) (hn : rows.length ≤ 1048576) :
    Calls Try.prog 20 #[.pointer (some ⟨bk, 0, none⟩), .int .u32 (m : Int)] w fun e w' => ∃ M', e = .returned (.tuple #[.int .i64 ((keysOf m (nums 0 rows)).length : Nat), .int .i64 0]) ∧ Both w0 M' b bk bk2 arity gone rows (askAbs abs m rows gone) abs2 w' ∧ Step w M w' M' := by
  obtain ⟨F, F2, R, h1, h2, h3, h4, h5, h6, h7, h8, h9, h10, h11, h12, rfl⟩ := h
  refine (b_distinct h2 h1 h4 h7 hm hma hn).mono ?_
  rintro e w' ⟨F', rfl, hB, hst⟩
  exact ⟨_, rfl, bo_turn h1 h3 h4 h5 h6 h7 h8 h9 h10 h11 h12 hB hst⟩
theorem bo_seen (h : Both w0 M b bk bk2 arity gone rows abs abs2 w) {m : Nat} (hm : MskOk m) : Calls Try.prog 26 #[.pointer (some ⟨bk, 0, none⟩), .int .u32 (m : Int)] w fun e w' => e = .returned (.int .i64 (seenN abs m : Nat)) ∧ w' = w := by
  obtain ⟨F, F2, R, h1, h2, _⟩ := h
  exact b_seen h2 hm
theorem bo_masks (h : Both w0 M b bk bk2 arity gone rows abs abs2 w) (ha : abs.length ≤ 1) : Calls Try.prog 25 #[.pointer (some ⟨bk, 0, none⟩)] w fun e w' => ∃ v, e = .returned v ∧ w'.ownsRow w.heap.size 33 1 v abs.length ((abs.map (·.1)).map encU) ∧ Below w.heap.size w w' := by
  obtain ⟨F, F2, R, h1, h2, _⟩ := h
  exact masks_small h2 ha
theorem Both.drop (h : Both w0 M b bk bk2 arity gone rows abs abs2 w) : ∃ M', Anew w0 M' b bk arity gone rows w ∧ ∀ k, M' k → M k := by
  obtain ⟨F, F2, R, h1, h2, h3, h4, h5, h6, h7, h8, h9, h10, h11, h12, rfl⟩ := h
  exact ⟨_, ⟨F, R, abs, h1, h2, h4, h7, h9, h10, h11, rfl⟩, fun k hk => hk.imp_right .inr⟩
end
theorem seen_ask (abs : Abs) (m : Nat) (rows : List (List Int)) (gone : Int) : seenN (askAbs abs m rows gone) m = rows.length := by
  unfold seenN askAbs
  split
  · rename_i h
    obtain ⟨a, ha, e⟩ := List.mem_map.1 h
    have key : ∀ l : Abs, a ∈ l → ((l.map fun a => if a.1 = m then (m, nums 0 rows, gone) else a).find? fun a => decide (a.1 = m)) = some (m, nums 0 rows, gone) := fun l hl => by
      induction l with
      | nil => cases hl
      | cons c l ih =>
        by_cases hc : c.1 = m
        · rw [List.map_cons, if_pos hc, List.find?_cons_of_pos (by simp)]
        · rw [List.map_cons, if_neg hc, List.find?_cons_of_neg (by simpa using hc)]
          refine ih ((List.mem_cons.1 hl).resolve_left fun e' => hc ?_)
          rw [← e']; exact e
    rw [key abs ha]
    simp [nums_len]
  · rename_i h
    rw [List.find?_append, List.find?_eq_none.2 (fun a ha => by simp only [decide_eq_true_eq]; exact fun e => h (List.mem_map.2 ⟨a, ha, e⟩)), Option.none_or, List.find?_cons_of_pos (by simp)]
    simp [nums_len]
end Go.Proofs.Ytiomojlcnemnhaa

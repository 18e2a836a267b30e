import Derived.Test.YtckhkfchgcdajaaGreatDoorYJxG2
import Derived.Test.YtckhkfchgcdajaaGreatDoorYJxS3
import Derived.Test.YtckhkfchgcdajaaGreatDoorYJxG1
import Derived.Test.YtckhkfchgcdajaaGreatDoorYJxD3
namespace Go.Proofs.YtckhkfchgcdajaaGreatDoor
open Go.Fx Go.RowKit
theorem b_remove {w : World} {R : Nat → Prop} {b arity : Nat} {gone : Int} {rows : List (List Int)} (hR : Rel w R b arity gone rows) {x : List Int} (hx : RowOk x) (hin : x ∈ rows) (hn : rows.length ≤ 1048576) (hg : 0 ≤ gone ∧ gone < 4611686018427387904) :
    Calls Tryz.prog 16 #[.pointer (some ⟨b, 0, none⟩), rowV x] w fun e w' => e = .returned (.bool true) ∧ ∃ R', Rel w' R' b arity (gone + 1) (rows.erase x) ∧ Step w R w' R' := by
  obtain ⟨pb, mb, lv, hR, rfl⟩ := hR
  refine (remove_in hR hx hin hn hg).mono ?_
  rintro e w' ⟨rfl, lv', h1, h2, h3⟩
  exact ⟨rfl, _, ⟨pb, mb, lv', h1, rfl⟩, h2, h3⟩
def seenN (abs : Abs) (m : Nat) : Nat := ((abs.find? fun a => decide (a.1 = m)).map fun a => a.2.1.length).getD 0
set_option maxRecDepth 100000 in
theorem b_seen {w : World} {F : Nat → Prop} {bk b : Nat} {abs : Abs} (hB : Bk w F bk b abs) {m : Nat} (hm : MskOk m) :
    Calls Tryz.prog 69 #[.pointer (some ⟨bk, 0, none⟩), .int .u32 (m : Int)] w fun e w' => e = .returned (.int .i64 (seenN abs m : Nat)) ∧ w' = w := by
  obtain ⟨bm, ixs, hB, rfl, rfl⟩ := hB
  have c1 : w.cell? ⟨bk, 1, none⟩ = some (.map (some bm)) := by simp [World.cell?, hB.hb]
  have hlk := msk_look false (t := 108) Tryz.underlying108 (Tryz.zeroValue302 w) hB.hm hm
  rcases hB.look m with ⟨l1, x, l2, hix, hxm, hlo⟩ | ⟨hno, hlo⟩
  · rw [hlo] at hlk
    simp only [Option.getD_some, Bool.false_eq_true, if_false] at hlk
    have hxI := hB.ix x (by rw [hix]; simp)
    have c2 : w.cell? ⟨x.rb, 1, none⟩ = some (.int .i64 (x.took.length : Int)) := by simp [World.cell?, hxI.hr]
    have hs : seenN (ixs.map Ix.abs) m = x.took.length := by
      unfold seenN
      have hnd := hB.nodup
      have : (ixs.map Ix.abs).find? (fun a => decide (a.1 = m)) = some x.abs := by
        rw [hix, List.map_append, List.find?_append, List.find?_eq_none.2, Option.none_or, List.map_cons, List.find?_cons_of_pos]
        · show decide (x.m = m) = true
          exact decide_eq_true hxm
        · intro a ha
          obtain ⟨y, hy, rfl⟩ := List.mem_map.1 ha
          rw [hix, List.map_append, List.nodup_append] at hnd
          simp only [decide_eq_true_eq]
          intro e
          exact hnd.2.2 y.m (List.mem_map_of_mem hy) x.m (by simp) (e.trans hxm.symm)
      rw [this]
      rfl
    rw [hs]
    go_enter Tryz.func69, Tryz.ntmps69
    go_wp2_with fail
    exact bodyPost_ret (v := .int .i64 (x.took.length : Int)) (by simp [results, Tryz.results69, go_sem]) rfl ⟨rfl, rfl⟩
  · rw [hlo] at hlk
    simp only [Option.getD_none, Bool.false_eq_true, if_false] at hlk
    have hs : seenN (ixs.map Ix.abs) m = 0 := by
      unfold seenN
      rw [List.find?_eq_none.2]
      · rfl
      · intro a ha
        obtain ⟨y, hy, rfl⟩ := List.mem_map.1 ha
        simp only [decide_eq_true_eq]
        exact fun e => hno (e ▸ List.mem_map_of_mem hy)
    rw [hs]
    go_enter Tryz.func69, Tryz.ntmps69
    go_wp2_with fail
    exact bodyPost_ret (v := .int .i64 0) (by simp [results, Tryz.results69, go_sem]) rfl ⟨rfl, rfl⟩
def Anew (w0 : World) (M : Nat → Prop) (b bk arity : Nat) (gone : Int) (rows : List (List Int)) (w : World) : Prop :=
  ∃ F R abs, Rel w R b arity gone rows ∧ Bk w F bk b abs ∧ (∀ k, F k → ¬ R k) ∧ Fine abs gone rows ∧ Below w0.heap.size w0 w ∧ (∀ k, R k → w0.heap.size ≤ k) ∧ (∀ k, F k → w0.heap.size ≤ k) ∧ M = fun k => F k ∨ R k
def Both (w0 : World) (M : Nat → Prop) (b bk bk2 arity : Nat) (gone : Int) (rows : List (List Int)) (abs abs2 : Abs) (w : World) : Prop :=
  ∃ F F2 R, Rel w R b arity gone rows ∧ Bk w F bk b abs ∧ Bk w F2 bk2 b abs2 ∧ (∀ k, F k → ¬ R k) ∧ (∀ k, F2 k → ¬ R k) ∧ (∀ k, F k → ¬ F2 k) ∧ Fine abs gone rows ∧ Fine abs2 gone rows ∧ Below w0.heap.size w0 w ∧ (∀ k, R k → w0.heap.size ≤ k) ∧ (∀ k, F k → w0.heap.size ≤ k) ∧ (∀ k, F2 k → w0.heap.size ≤ k) ∧ M = fun k => F k ∨ F2 k ∨ R k
theorem Anew.lt {w0 w : World} {M : Nat → Prop} {b bk arity : Nat} {gone : Int} {rows : List (List Int)} (h : Anew w0 M b bk arity gone rows w) {k : Nat} (hk : M k) : k < w.heap.size := by
  obtain ⟨F, R, abs, h1, h2, _, _, _, _, _, rfl⟩ := h
  exact hk.elim h2.lt h1.lt
theorem Anew.below {w0 w w' : World} {M : Nat → Prop} {b bk arity : Nat} {gone : Int} {rows : List (List Int)} (h : Anew w0 M b bk arity gone rows w) (hb : Below w.heap.size w w') : Anew w0 M b bk arity gone rows w' := by
  obtain ⟨F, R, abs, h1, h2, h3, h4, h5, h6, h7, h8⟩ := h
  exact ⟨F, R, abs, h1.below hb, h2.below hb, h3, h4, h5.trans (hb.mono h5.size), h6, h7, h8⟩
theorem Anew.from {w0 w : World} {M : Nat → Prop} {b bk arity : Nat} {gone : Int} {rows : List (List Int)} (h : Anew w0 M b bk arity gone rows w) : Below w0.heap.size w0 w := by
  obtain ⟨F, R, abs, _, _, _, _, h5, _⟩ := h
  exact h5
theorem Anew.ok {w0 w : World} {M : Nat → Prop} {b bk arity : Nat} {gone : Int} {rows : List (List Int)} (h : Anew w0 M b bk arity gone rows w) : (∀ x ∈ rows, RowOk x) ∧ rows.Nodup := by
  obtain ⟨_, _, _, ⟨pb, mb, lv, h1, _⟩, _⟩ := h
  exact ⟨h1.ok, h1.nodup⟩
theorem Both.lt {w0 w : World} {M : Nat → Prop} {b bk bk2 arity : Nat} {gone : Int} {rows : List (List Int)} {abs abs2 : Abs} (h : Both w0 M b bk bk2 arity gone rows abs abs2 w) {k : Nat} (hk : M k) : k < w.heap.size := by
  obtain ⟨F, F2, R, h1, h2, h3, _, _, _, _, _, _, _, _, _, rfl⟩ := h
  exact hk.elim h2.lt fun h => h.elim h3.lt h1.lt
theorem Both.below {w0 w w' : World} {M : Nat → Prop} {b bk bk2 arity : Nat} {gone : Int} {rows : List (List Int)} {abs abs2 : Abs} (h : Both w0 M b bk bk2 arity gone rows abs abs2 w) (hb : Below w.heap.size w w') : Both w0 M b bk bk2 arity gone rows abs abs2 w' := by
  obtain ⟨F, F2, R, h1, h2, h3, h4, h5, h6, h7, h8, h9, h10, h11, h12, h13⟩ := h
  exact ⟨F, F2, R, h1.below hb, h2.below hb, h3.below hb, h4, h5, h6, h7, h8, h9.trans (hb.mono h9.size), h10, h11, h12, h13⟩
section
variable {w0 w : World} {M : Nat → Prop} {b bk bk2 arity : Nat} {gone : Int} {rows : List (List Int)} {abs abs2 : Abs}
theorem fine_gone {abs : Abs} {gone gone' : Int} {rows rows' : List (List Int)} (h : Fine abs gone rows) (hg : gone < gone') : Fine abs gone' rows' := fun a ha => ⟨by have := (h a ha).1; omega, fun e => by have := (h a ha).1; omega⟩
theorem Both.swap (h : Both w0 M b bk bk2 arity gone rows abs abs2 w) : Both w0 M b bk2 bk arity gone rows abs2 abs w := by
  obtain ⟨F, F2, R, h1, h2, h3, h4, h5, h6, h7, h8, h9, h10, h11, h12, rfl⟩ := h
  refine ⟨F2, F, R, h1, h3, h2, h5, h4, fun k h h' => h6 k h' h, h8, h7, h9, h10, h12, h11, ?_⟩
  funext k
  exact propext ⟨fun h => h.elim (fun h => .inr (.inl h)) fun h => h.elim .inl fun h => .inr (.inr h), fun h => h.elim (fun h => .inr (.inl h)) fun h => h.elim .inl fun h => .inr (.inr h)⟩
theorem Both.drop (h : Both w0 M b bk bk2 arity gone rows abs abs2 w) : ∃ M', Anew w0 M' b bk arity gone rows w ∧ ∀ k, M' k → M k := by
  obtain ⟨F, F2, R, h1, h2, h3, h4, h5, h6, h7, h8, h9, h10, h11, h12, rfl⟩ := h
  exact ⟨_, ⟨F, R, abs, h1, h2, h4, h7, h9, h10, h11, rfl⟩, fun k hk => hk.imp_right .inr⟩
end
end Go.Proofs.YtckhkfchgcdajaaGreatDoor

namespace Go.Proofs.YtckhkfchgcdajaaGreatDoor
open Go.Fx Go.RowKit Go.Maps Go.Sort
def Tells (l : List (Nat × Nat)) (abs : Abs) : Prop :=
  (l.Pairwise fun p q => p.1 < q.1) ∧ (abs.map (·.1)).Nodup ∧ ∀ m n, (m, n) ∈ l ↔ ∃ a ∈ abs, a.1 = m ∧ a.2.1.length = n
theorem mem_askPut (m n : Nat) : ∀ (l : List (Nat × Nat)), (l.Pairwise fun p q => p.1 < q.1) → ∀ p, p ∈ askPut m n l ↔ p = (m, n) ∨ (p ∈ l ∧ p.1 ≠ m)
  | [], _, p => by simp [askPut]
  | q :: l, hp, p => by
    have hp2 := List.pairwise_cons.1 hp
    unfold askPut
    by_cases h1 : q.1 < m
    · rw [if_pos h1, List.mem_cons, mem_askPut m n l hp2.2 p, List.mem_cons]
      constructor
      · rintro (rfl | rfl | ⟨h, h3⟩)
        · exact .inr ⟨.inl rfl, by omega⟩
        · exact .inl rfl
        · exact .inr ⟨.inr h, h3⟩
      · rintro (rfl | ⟨rfl | h, h3⟩)
        · exact .inr (.inl rfl)
        · exact .inl rfl
        · exact .inr (.inr ⟨h, h3⟩)
    · rw [if_neg h1]
      by_cases h2 : q.1 = m
      · rw [if_pos h2, List.mem_cons, List.mem_cons]
        constructor
        · rintro (rfl | h)
          · exact .inl rfl
          · have := hp2.1 p h
            exact .inr ⟨.inr h, by omega⟩
        · rintro (rfl | ⟨rfl | h, h3⟩)
          · exact .inl rfl
          · exact absurd h2 h3
          · exact .inr h
      · rw [if_neg h2, List.mem_cons, List.mem_cons]
        constructor
        · rintro (rfl | rfl | h)
          · exact .inl rfl
          · exact .inr ⟨.inl rfl, h2⟩
          · have := hp2.1 p h
            exact .inr ⟨.inr h, by omega⟩
        · rintro (rfl | ⟨rfl | h, h3⟩)
          · exact .inl rfl
          · exact .inr (.inl rfl)
          · exact .inr (.inr h)
theorem askPut_up (m n : Nat) : ∀ (l : List (Nat × Nat)), (l.Pairwise fun p q => p.1 < q.1) → (askPut m n l).Pairwise fun p q => p.1 < q.1
  | [], _ => by simp [askPut]
  | q :: l, hp => by
    have hp2 := List.pairwise_cons.1 hp
    unfold askPut
    by_cases h1 : q.1 < m
    · rw [if_pos h1]
      refine List.pairwise_cons.2 ⟨fun p h => ?_, askPut_up m n l hp2.2⟩
      rcases (mem_askPut m n l hp2.2 p).1 h with rfl | ⟨h, _⟩
      · exact h1
      · exact hp2.1 p h
    · rw [if_neg h1]
      by_cases h2 : q.1 = m
      · rw [if_pos h2]
        exact List.pairwise_cons.2 ⟨fun p h => by have := hp2.1 p h; show m < p.1; omega, hp2.2⟩
      · rw [if_neg h2]
        refine List.pairwise_cons.2 ⟨fun p h => ?_, hp⟩
        show m < p.1
        rcases List.mem_cons.1 h with rfl | h
        · omega
        · have := hp2.1 p h
          omega
theorem Tells.masks {l : List (Nat × Nat)} {abs : Abs} (h : Tells l abs) : rising (abs.map (·.1)) = l.map (·.1) := by
  refine (rising_of ?_ ?_).symm
  · refine (List.perm_ext_iff_of_nodup ?_ h.2.1).2 fun m => ?_
    · rw [List.nodup_iff_pairwise_ne, List.pairwise_map]
      exact h.1.imp fun hlt => Nat.ne_of_lt hlt
    · constructor
      · intro hm
        obtain ⟨p, hp, rfl⟩ := List.mem_map.1 hm
        obtain ⟨a, ha, h1, _⟩ := (h.2.2 p.1 p.2).1 hp
        exact List.mem_map.2 ⟨a, ha, h1⟩
      · intro hm
        obtain ⟨a, ha, rfl⟩ := List.mem_map.1 hm
        exact List.mem_map.2 ⟨_, (h.2.2 a.1 a.2.1.length).2 ⟨a, ha, rfl, rfl⟩, rfl⟩
  · intro i j hij hj
    rw [List.length_map] at hj
    have := List.pairwise_iff_getElem.1 h.1 i j (by omega) hj hij
    rw [List.getD_eq_getElem?_getD, List.getD_eq_getElem?_getD, List.getElem?_map, List.getElem?_map, List.getElem?_eq_getElem (by omega : i < l.length), List.getElem?_eq_getElem hj]
    exact Nat.le_of_lt this
theorem Tells.ask {l : List (Nat × Nat)} {abs : Abs} (h : Tells l abs) (m : Nat) (rows : List (List Int)) (gone : Int) : Tells (askPut m rows.length l) (askAbs abs m rows gone) := by
  have hmap : m ∈ abs.map (·.1) → (askAbs abs m rows gone).map (·.1) = abs.map (·.1) := fun hm => by
    obtain ⟨a, ha, e⟩ := List.mem_map.1 hm
    unfold askAbs
    rw [if_pos (by first | exact ⟨a, ha, e⟩ | exact List.mem_map.2 ⟨a, ha, e⟩), List.map_map]
    refine List.map_congr_left fun a _ => ?_
    by_cases h : a.1 = m <;> simp [h]
  refine ⟨askPut_up m rows.length l h.1, ?_, fun m' n => ?_⟩
  · by_cases hm : m ∈ abs.map (·.1)
    · rw [hmap hm]; exact h.2.1
    · unfold askAbs
      rw [if_neg hm, List.map_append, List.nodup_append]
      refine ⟨h.2.1, by simp, fun x hx y hy => ?_⟩
      simp only [List.map_cons, List.map_nil, List.mem_singleton] at hy
      subst hy
      exact fun e => hm (e ▸ hx)
  · rw [mem_askPut m rows.length l h.1]
    unfold askAbs
    by_cases hm : m ∈ abs.map (·.1)
    · rw [if_pos hm]
      constructor
      · rintro (e | ⟨hp, hne⟩)
        · injection e with e1 e2
          subst e1; subst e2
          obtain ⟨a, ha, e⟩ := List.mem_map.1 hm
          exact ⟨(m', nums 0 rows, gone), List.mem_map.2 ⟨a, ha, by rw [if_pos e]⟩, rfl, nums_len 0 rows⟩
        · obtain ⟨a, ha, h1, h2⟩ := (h.2.2 m' n).1 hp
          have hne : m' ≠ m := hne
          exact ⟨a, List.mem_map.2 ⟨a, ha, by rw [if_neg (by rw [h1]; exact hne)]⟩, h1, h2⟩
      · rintro ⟨a, ha, h1, h2⟩
        obtain ⟨a', ha', rfl⟩ := List.mem_map.1 ha
        by_cases e : a'.1 = m
        · rw [if_pos e] at h1 h2
          have h1 : m = m' := h1
          have h2 : (nums 0 rows).length = n := h2
          rw [nums_len] at h2
          exact .inl (by rw [h1, h2])
        · rw [if_neg e] at h1 h2
          exact .inr ⟨(h.2.2 m' n).2 ⟨a', ha', h1, h2⟩, by show m' ≠ m; rw [← h1]; exact e⟩
    · rw [if_neg hm]
      constructor
      · rintro (e | ⟨hp, _⟩)
        · injection e with e1 e2
          subst e1; subst e2
          exact ⟨(m', nums 0 rows, gone), List.mem_append_right _ (List.mem_singleton.2 rfl), rfl, nums_len 0 rows⟩
        · obtain ⟨a, ha, h1, h2⟩ := (h.2.2 m' n).1 hp
          exact ⟨a, List.mem_append_left _ ha, h1, h2⟩
      · rintro ⟨a, ha, h1, h2⟩
        rcases List.mem_append.1 ha with hb | hb
        · refine .inr ⟨(h.2.2 m' n).2 ⟨a, hb, h1, h2⟩, fun e => ?_⟩
          have e : m' = m := e
          exact hm (List.mem_map.2 ⟨a, hb, h1.trans e⟩)
        · rw [List.mem_singleton] at hb
          subst hb
          have h1 : m = m' := h1
          have h2 : (nums 0 rows).length = n := h2
          rw [nums_len] at h2
          exact .inl (by rw [h1, h2])
theorem Tells.seen {l : List (Nat × Nat)} {abs : Abs} (h : Tells l abs) (m : Nat) : seenOf m l = seenN abs m := by
  have hl : ∀ p q, p ∈ l → q ∈ l → p.1 = q.1 → p = q := fun p q hp hq e => by
    obtain ⟨a, ha, h1, h2⟩ := (h.2.2 p.1 p.2).1 hp
    obtain ⟨a', ha', h3, h4⟩ := (h.2.2 q.1 q.2).1 hq
    obtain ⟨i, hi, rfl⟩ := List.getElem_of_mem hp
    obtain ⟨j, hj, rfl⟩ := List.getElem_of_mem hq
    rcases Nat.lt_trichotomy i j with hij | rfl | hij
    · have := List.pairwise_iff_getElem.1 h.1 i j hi hj hij; omega
    · rfl
    · have := List.pairwise_iff_getElem.1 h.1 j i hj hi hij; omega
  unfold seenOf seenN
  cases hf : l.find? fun p => p.1 == m with
  | none =>
    have hn : abs.find? (fun a => decide (a.1 = m)) = none := List.find?_eq_none.2 fun a ha e => by
      have := List.find?_eq_none.1 hf _ ((h.2.2 a.1 a.2.1.length).2 ⟨a, ha, rfl, rfl⟩)
      exact this (by simpa using e)
    rw [hn]
    rfl
  | some p =>
    have hp := List.mem_of_find?_eq_some hf
    have hpm : p.1 = m := by simpa using List.find?_some hf
    cases hg : abs.find? fun a => decide (a.1 = m) with
    | none =>
      obtain ⟨a, ha, h1, _⟩ := (h.2.2 p.1 p.2).1 hp
      exact absurd (decide_eq_true (h1.trans hpm)) (List.find?_eq_none.1 hg a ha)
    | some a =>
      have ha := List.mem_of_find?_eq_some hg
      have ham : a.1 = m := by simpa using List.find?_some hg
      have := hl p (a.1, a.2.1.length) hp ((h.2.2 a.1 a.2.1.length).2 ⟨a, ha, rfl, rfl⟩) (hpm.trans ham.symm)
      rw [this]
      rfl
end Go.Proofs.YtckhkfchgcdajaaGreatDoor

namespace Go.Proofs.YtckhkfchgcdajaaGreatDoor
open Go.Fx Go.RowKit Go.Maps Go.Sort
theorem holds_bits {m arity : Nat} (h : m < 2 ^ arity) : ∀ i, arity ≤ i → i < 32 → m.testBit i = false := fun i hi _ =>
  Nat.testBit_lt_two_pow (Nat.lt_of_lt_of_le h (Nat.pow_le_pow_right (by decide) hi))
theorem lacks_bits {m arity : Nat} (hm : m < 4294967296) (h : ¬ m < 2 ^ arity) : ∃ i, arity ≤ i ∧ i < 32 ∧ m.testBit i = true := by
  obtain ⟨i, hi, hb⟩ := Nat.exists_ge_and_testBit_of_ge_two_pow (Nat.le_of_not_lt h)
  refine ⟨i, hi, ?_, hb⟩
  rcases Nat.lt_or_ge i 32 with h | h
  · exact h
  · have : m.testBit i = false := Nat.testBit_lt_two_pow (Nat.lt_of_lt_of_le hm (Nat.pow_le_pow_right (n := 2) (by decide) h))
    rw [this] at hb
    cases hb
end Go.Proofs.YtckhkfchgcdajaaGreatDoor

namespace Go.Proofs.YtckhkfchgcdajaaGreatDoor
open Go.Fx Go.RowKit
abbrev mskV (i : Int) : Value := .int .u32 i
theorem own_len109 {w w' : World} {base size n : Nat} {e : TypeId} {v : Value} {xs : List Value} (h : w.ownsRow base e size v n xs) : (Builtin.len_ #[119] 3 #[v]).run Tryz.prog w' = .ok (.int .i64 n) w' := by
  obtain ⟨hl, ⟨rfl, h0⟩ | ⟨g, cap, cur, rfl, _⟩⟩ := h
  · subst h0
    simp [Builtin.len_, go_sem, Tryz.underlying119]
  · simp [Builtin.len_, go_sem, Tryz.underlying119]
def U32At (w : World) (v : Value) (l : List Int) : Prop := w.ownsRow 0 61 1 v l.length (l.map mskV)
theorem U32At.cells {w : World} {v : Value} {l : List Int} (h : U32At w v l) {i : Nat} (hi : i < l.length) :
    ∃ g cap, v = .slice (some ⟨g, 0, none⟩) l.length cap ∧ g < w.heap.size ∧ ∀ (j : Nat) (hj : j < l.length), w.cell? ⟨g, j, none⟩ = some (mskV l[j]) := by
  obtain ⟨hl, ⟨_, h0⟩ | ⟨g, cap, cur, rfl, _, hg, hc, hm, hsz, htk⟩⟩ := h
  · omega
  · refine ⟨g, cap, rfl, (Array.getElem?_eq_some_iff.1 hg).1, fun j hj => ?_⟩
    have h1 : (l.map mskV)[j]? = some (mskV l[j]) := by rw [List.getElem?_map, List.getElem?_eq_getElem hj]; rfl
    rw [← htk, List.getElem?_take] at h1
    split at h1
    · simp only [World.cell?, hg]
      simpa using h1
    · cases h1
theorem U32At.frame {w w' : World} {v : Value} {l : List Int} (h : U32At w v l) (hk : ∀ k, v.ownBlock = some k → w'.heap[k]? = w.heap[k]?) : U32At w' v l := ownsRow_of_block h hk
theorem U32At.of {base : Nat} {w : World} {v : Value} {l : List Int} (h : w.ownsRow base 61 1 v l.length (l.map mskV)) : U32At w v l := by
  refine ⟨h.1, ?_⟩
  rcases h.2 with h | ⟨g, cap, cur, h1, h2, h3⟩
  · exact .inl h
  · exact .inr ⟨g, cap, cur, h1, Nat.zero_le _, h3⟩
theorem U32At.cell {w : World} {v : Value} {l : List Int} {n : Nat} (h : U32At w v l) (hn : l.length = n) {i : Nat} (hi : i < n) :
    ∃ g cap, v = .slice (some ⟨g, 0, none⟩) n cap ∧ g < w.heap.size ∧ n ≤ 9223372036854775807 ∧ w.cell? ⟨g, i, none⟩ = some (.int .u32 (l.getD i 0)) := by
  subst hn
  obtain ⟨g, cap, e, h1, h2⟩ := h.cells hi
  refine ⟨g, cap, e, h1, ?_, ?_⟩
  · obtain ⟨hl, ⟨_, h0⟩ | ⟨g', cap', cur, _, _, _, hc, hm, _⟩⟩ := h
    · omega
    · unfold maxLen at hm; omega
  · rw [h2 i hi, List.getD_eq_getElem?_getD, List.getElem?_eq_getElem hi, Option.getD_some]
set_option maxHeartbeats 4000000 in
set_option maxRecDepth 100000 in
theorem same_masks {w : World} {v1 v2 : Value} {l1 l2 : List Int} (h1 : U32At w v1 l1) (h2 : U32At w v2 l2) :
    Calls Tryz.prog 67 #[v1, v2] w fun e w' => e = .returned (.bool (decide (l1 = l2))) ∧ Below w.heap.size w w' := by
  obtain ⟨n, hn⟩ : ∃ n, l1.length = n := ⟨_, rfl⟩
  have e1 := fun w' : World => own_len109 (w' := w') h1
  have e2 := fun w' : World => own_len109 (w' := w') h2
  rw [hn] at e1
  have H1 := Lib.hid (And.intro h1 hn)
  by_cases hl : l2.length = n
  · rw [hl] at e2
    have H2 := Lib.hid (And.intro h2 hl)
    clear hl hn h1 h2
    go_enter Tryz.func67, Tryz.ntmps67
    go_wp2_with fail
    go_loopw [5] (fun i wr => ∃ k : Nat, i = .int .i64 (k : Int) ∧ k ≤ n ∧ Hid (l1.take k = l2.take k) ∧ Below w.heap.size w wr) (fun i _ => match i with | .int _ m => n - m.toNat | _ => 0)
    case atStart => exact ⟨0, rfl, Nat.zero_le _, Lib.hid rfl, Below.refl _ _⟩
    case round =>
      obtain ⟨k, rfl, hk, htk, hbl⟩ := hrel
      by_cases hlt : k < n
      · obtain ⟨g1, cap1, rfl, hg1, hmx, hc1⟩ := H1.out.1.cell H1.out.2 hlt
        obtain ⟨g2, cap2, rfl, hg2, _, hc2⟩ := H2.out.1.cell H2.out.2 hlt
        have d1 := (hbl.cell (p := ⟨g1, k, none⟩) hg1).trans hc1
        have d2 := (hbl.cell (p := ⟨g2, k, none⟩) hg2).trans hc2
        have hlt' : decide ((k : Int) < (n : Int)) = true := decide_eq_true (by omega)
        have hi0 : (0 : Int) ≤ (k : Int) := by omega
        have hi1 : (k : Int) < (n : Int) := by omega
        have hiff := Lib.hid (take_succ_eq H1.out.2 H2.out.2 hlt htk.out)
        have hbl1 : Below w.heap.size w wr.drew := below_drew' hbl
        have c1 : wr.drew.cell? ⟨g1, k, none⟩ = some (.int .u32 (l1.getD k 0)) := d1
        have c2 : wr.drew.cell? ⟨g2, k, none⟩ = some (.int .u32 (l2.getD k 0)) := d2
        clear hc1 hc2 d1 d2
        generalize l1.getD k 0 = a at *
        generalize l2.getD k 0 = b at *
        by_cases hab : a = b
        · subst hab
          go_wp2_with fail
          refine wp_region_still_lit (by kernel_rfl) (by kernel_rfl) ?_
          change wpStill _ _ wr.drew _ _ _
          repeat still_step
          refine wpStill_nil ?_
          change Exit.then _ _ _ _ wr.drew
          generalize wr.drew = w1 at *
          go_wp2_with fail
          refine ⟨⟨k + 1, congrArg (Value.int .i64) (by omega), by omega, Lib.hid (hiff.out.2 (by trivial)), hbl1⟩, ?_⟩
          show n - ((k : Int) + 1).toNat < n - (k : Int).toNat
          omega
        · have hab' : (a == b) = false := by rw [beq_eq_false_iff_ne]; exact hab
          have hne := Lib.hid (decide_eq_false (fun e : l1 = l2 => hab (hiff.out.1 (by rw [e]))))
          go_wp2_with fail
          refine wp_region_still_lit (by kernel_rfl) (by kernel_rfl) ?_
          change wpStill _ _ wr.drew _ _ _
          repeat still_step
          refine wpStill_nil ?_
          change Exit.then _ _ _ _ wr.drew
          generalize wr.drew = w1 at *
          go_wp2_with fail
          rw [hne.out]
          simp [bodyPost, results, Tryz.results67, go_sem]
          exact hbl1
      · have hlt' : decide ((k : Int) < (n : Int)) = false := decide_eq_false (by omega)
        have he := Lib.hid (decide_eq_true (show l1 = l2 by have := htk.out; have := H1.out.2; have := H2.out.2; rw [List.take_of_length_le (by omega), List.take_of_length_le (by omega)] at htk; exact htk.out))
        go_wp2_with fail
        rw [he.out]
        simp [bodyPost, results, Tryz.results67, go_sem]
        exact hbl
  · have hl' : ((n : Int) == (l2.length : Int)) = false := by rw [beq_eq_false_iff_ne]; omega
    go_enter Tryz.func67, Tryz.ntmps67
    go_wp2_with fail
    have : decide (l1 = l2) = false := decide_eq_false fun e => hl (by rw [← e]; exact hn)
    rw [this]
    simp [bodyPost, results, Tryz.results67, go_sem]
    exact Below.refl _ _
theorem U32At.ofMasks {base : Nat} {w : World} {v : Value} {l : List Nat} (h : w.ownsRow base 61 1 v l.length (l.map encU)) : U32At w v (l.map fun m : Nat => (m : Int)) := by
  refine U32At.of (base := base) ?_
  rw [List.length_map, List.map_map]
  exact h
end Go.Proofs.YtckhkfchgcdajaaGreatDoor

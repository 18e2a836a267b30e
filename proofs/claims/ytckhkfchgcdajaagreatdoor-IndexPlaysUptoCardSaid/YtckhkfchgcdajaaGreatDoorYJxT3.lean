import Derived.Test.YtckhkfchgcdajaaGreatDoorYJxSb
namespace Go.Proofs.YtckhkfchgcdajaaGreatDoor
open Go.Fx Go.RowKit Go.Maps Go.Sort
def rising (l : List Nat) : List Nat := l.mergeSort fun x y => !ltU y x
theorem rising_length (l : List Nat) : (rising l).length = l.length := by unfold rising; rw [List.length_mergeSort]
theorem rising_of {l r : List Nat} (hp : r.Perm l) (hs : ∀ i j, i < j → j < r.length → r.getD i 0 ≤ r.getD j 0) : r = rising l := by
  have h := sorted_unique_holds (lt := ltU) swo_ltU (fun x y h1 h2 => by simp only [ltU, decide_eq_false_iff_not] at h1 h2; omega) l.toArray r.toArray
    ⟨by simpa using hp.length_eq, fun i hi => by
      have hl := hp.length_eq
      have : l.length ≤ i := by rcases hi with h | h; · omega
                                · simpa using h
      rw [getElem!_neg _ i (by simp; omega), getElem!_neg _ i (by simp; omega)], by
      have hl := hp.length_eq
      have e : r.take l.length = r := List.take_of_length_le (by omega)
      simpa [e] using hp⟩
    (fun i j _ hij hj => by
      have hl := hp.length_eq
      have hj' : j < r.length := by rw [hl]; simpa using hj
      have := hs i j hij hj'
      rw [List.getD_eq_getElem?_getD, List.getD_eq_getElem?_getD, List.getElem?_eq_getElem (by omega : i < r.length), List.getElem?_eq_getElem hj'] at this
      simp only [Option.getD_some] at this
      rw [getElem!_pos _ j (by simpa using hj'), getElem!_pos _ i (by simp; omega)]
      simp only [ltU, List.getElem_toArray, decide_eq_false_iff_not]
      omega)
  simpa [rising] using h
theorem sort_own {w : World} {B : Nat} {a : Option Addr} {c : Nat} {ss : List Nat} (h : w.ownsRow B 61 1 (.slice a ss.length c) ss.length (ss.map encU)) (hl : ss.length < 4611686018427387904) :
    Calls Tryz.prog 216 #[.slice a ss.length c] w fun e w' => e = .returned (.tuple #[]) ∧ w'.ownsRow B 61 1 (.slice a ss.length c) ss.length ((rising ss).map encU) ∧ Below B w w' := by
  obtain ⟨h0, ⟨hv, hn⟩ | ⟨g, cap, cur, hv, hg, hb, hcap, hmax, hcur, hx⟩⟩ := h
  · have : ss = [] := List.eq_nil_of_length_eq_zero hn
    subst this
    refine (sort_small (n := 0) (by omega)).mono ?_
    rintro e w' ⟨rfl, rfl⟩
    exact ⟨rfl, ⟨by simp [rising], .inl ⟨hv, rfl⟩⟩, Below.refl _ _⟩
  · injection hv with ha _ hc
    subst ha; subst hc
    rw [Nat.mul_one] at hcur hx
    have hS : Srt w g 0 c ss.toArray w := ⟨KeptBut.refl _ _, (Array.getElem?_eq_some_iff.1 hb).1, ⟨cur, hb, hcur, fun i hi => by
      have hi' : i < ss.length := by simpa using hi
      have : cur.toList[i]? = (ss.map encU)[i]? := by rw [← hx, List.getElem?_take, if_pos hi']
      rw [Nat.zero_add, ← Array.getElem?_toList, this, List.getElem?_map, List.getElem?_eq_getElem hi', getElem!_pos _ i hi]
      rfl⟩⟩
    have hk : bitsLen ss.length ≤ 62 := (bitsLen_le_iff ss.length 62).2 (by omega)
    have hLen : ∀ w, Calls Tryz.prog 224 #[.int .u64 (ss.length : Int)] w fun e w' => e = .returned (.int .i64 (bitsLen ss.length : Nat)) ∧ w' = w := fun w => by
      have h := Tryz.bits_Len (ss.length : Int) w (by omega) (by omega)
      rwa [Int.toNat_natCast, bitLen_eq _ (by omega)] at h
    have hc := pdq_u (cap := c) (n := ss.length) hl (ss.length + 1) 0 ss.length (bitsLen ss.length) ss.toArray w (by omega) (by omega) (by omega) (by simp) (by omega) (.inl rfl) hS
    generalize bitsLen ss.length = bl at *
    have hw : IntKind.u64.wrap (ss.length : Int) = (ss.length : Int) := by rw [IntKind.wrap_u64]; omega
    clear hS hk hx h0
    go_enter Tryz.func216, Tryz.ntmps216
    go_wp2_with fail
    refine (hLen _).mono ?_
    rintro e w2 ⟨rfl, hw2⟩
    rw [hw2]
    clear hw2 w2
    go_wp2_with fail
    refine hc.mono ?_
    rintro e w3 ⟨rfl, R, hP, hR, HR⟩
    obtain ⟨cur3, hc3, hs3, hr3⟩ := HR.row
    have hsz : R.size = ss.length := by simpa using hP.1
    have hT : R.toList = rising ss := by
      have := sorted_unique_holds (lt := ltU) swo_ltU (fun x y h1 h2 => by simp only [ltU, decide_eq_false_iff_not] at h1 h2; omega) ss.toArray R (by simpa using hP) (by simpa using hR)
      simpa [rising] using this
    have hO : w3.ownsRow B 61 1 (.slice (some ⟨g, 0, none⟩) ss.length c) ss.length ((rising ss).map encU) := by
      refine ⟨by rw [List.length_map, rising_length]; omega, .inr ⟨g, c, cur3, rfl, hg, hc3, hcap, hmax, by omega, ?_⟩⟩
      rw [Nat.mul_one, ← hT]
      apply List.ext_getElem?
      intro i
      rw [List.getElem?_take]
      by_cases hi : i < ss.length
      · have := hr3 i (by omega)
        rw [Nat.zero_add] at this
        rw [if_pos hi, Array.getElem?_toList, this, List.getElem?_map, Array.getElem?_toList, Array.getElem?_eq_getElem (by omega), getElem!_pos _ i (by omega)]
        rfl
      · rw [if_neg hi, List.getElem?_eq_none (by rw [List.length_map, Array.length_toList]; omega)]
    have hBl : Below B w w3 := ⟨HR.kept.os, HR.kept.tape, HR.kept.output, HR.kept.size, fun k hk => by
      rcases Nat.lt_or_ge k w.heap.size with h | h
      · exact HR.kept.block k h (by omega)
      · have := (Array.getElem?_eq_some_iff.1 hb).1; omega⟩
    clear HR hr3 hc hP hR hT
    go_wp2_with fail
    go_end0
    exact ⟨rfl, hO, hBl⟩
end Go.Proofs.YtckhkfchgcdajaaGreatDoor

namespace Go.Proofs.YtckhkfchgcdajaaGreatDoor
open Go.Fx Go.RowKit Go.Maps Go.Sort
theorem rising_perm (l : List Nat) : (rising l).Perm l := List.mergeSort_perm _ _
theorem rising_congr {l r : List Nat} (h : l.Perm r) : rising l = rising r := by
  refine rising_of ((rising_perm l).trans h) ?_
  intro i j hij hj
  have hs : (rising l).Pairwise fun x y => x ≤ y := by
    have := List.pairwise_mergeSort (le := fun x y => !ltU y x) (fun a b c h1 h2 => by simp only [ltU, Bool.not_eq_true', decide_eq_false_iff_not] at *; omega) (fun a b => by simp only [ltU, Bool.or_eq_true, Bool.not_eq_true', decide_eq_false_iff_not]; omega) l
    refine this.imp ?_
    intro a b h
    simp only [ltU, Bool.not_eq_true', decide_eq_false_iff_not] at h
    omega
  have := List.pairwise_iff_getElem.1 hs i j (by omega) hj hij
  rw [List.getD_eq_getElem?_getD, List.getD_eq_getElem?_getD, List.getElem?_eq_getElem (by omega : i < (rising l).length), List.getElem?_eq_getElem hj]
  exact this
set_option maxRecDepth 100000 in
theorem sorted_all {w : World} {B : Nat} {S : List Nat → Prop} {N : Nat} (hN : N ≤ 16777216) (hseq : ∀ n, SeqStopsK (FW none) n Tryz.prog 217 #[.pointer (some ⟨B, 0, none⟩)] (fun x : Nat => #[encU x]) KeepsWalks S (fun _ => True) N w)
    (hS : ∀ ss, S ss → ss.length ≤ N) :
    Calls Tryz.prog 173 #[.func (.func 217) #[] #[.pointer (some ⟨B, 0, none⟩)]] w fun e w' => ∃ v ss, e = .returned v ∧ S ss ∧ w'.ownsRow w.heap.size 61 1 v ss.length ((rising ss).map encU) ∧ Below w.heap.size w w' := by
  go_enter Tryz.func173, Tryz.ntmps173
  go_wp2_with fail
  refine Calls.mono (?_ : Calls Tryz.prog 215 _ w (fun e w' => ∃ v ss, e = .returned v ∧ S ss ∧ w'.ownsRow w.heap.size 61 1 v ss.length (ss.map encU) ∧ (v = .slice none 0 0 ↔ ss = []) ∧ Below w.heap.size w w')) ?_
  · go_enter Tryz.func215, Tryz.ntmps215
    go_wp2_with fail
    refine (append_masks hN hseq).mono ?_
    rintro e w2 ⟨v, ss, rfl, h1, h2, h3, h4⟩
    go_wp2_with fail
    exact bodyPost_ret (v := v) (by simp [results, Tryz.results215, go_sem]) rfl ⟨v, ss, rfl, h1, h2, h3, h4⟩
  · rintro e w2 ⟨v, ss, rfl, h1, h2, h3, h4⟩
    obtain ⟨a, c, rfl⟩ := own_slice h2
    have hl := hS ss h1
    go_wp2_with fail
    refine (sort_own h2 (by omega)).mono ?_
    rintro e w3 ⟨rfl, h5, h6⟩
    go_wp2_with fail
    exact bodyPost_ret (v := .slice a ss.length c) (by simp [results, Tryz.results173, go_sem]) rfl ⟨_, ss, rfl, h1, h5, h4.trans h6⟩
set_option maxRecDepth 100000 in
theorem masks_all {w : World} {F : Nat → Prop} {bk b : Nat} {abs : Abs} (hB : Bk w F bk b abs) (h1 : abs.length ≤ 16777216) :
    Calls Tryz.prog 65 #[.pointer (some ⟨bk, 0, none⟩)] w fun e w' => ∃ v, e = .returned v ∧ w'.ownsRow w.heap.size 61 1 v abs.length ((rising (abs.map (·.1))).map encU) ∧ Below w.heap.size w w' := by
  obtain ⟨bm, ixs, hB, rfl, rfl⟩ := hB
  have c1 : w.cell? ⟨bk, 1, none⟩ = some (.map (some bm)) := by simp [World.cell?, hB.hb]
  have hm := hB.hm
  have hkl : (ixs.map fun x => (x.m, Value.pointer (some ⟨x.rb, 0, none⟩))).map (·.1) = (ixs.map Ix.abs).map (·.1) := by rw [List.map_map, List.map_map]; rfl
  rw [List.length_map] at h1
  go_enter Tryz.func65, Tryz.ntmps65
  go_wp2_with fail
  refine (keys_calls _ _).mono ?_
  rintro e w2 ⟨rfl, rfl⟩
  have hbm : Below w.heap.size w (w.alloc (.cells #[.map (some bm)] 108)) := (Below.refl _ w).alloc (Nat.le_refl _) _
  have hN := heap_alloc_new w (.cells #[.map (some bm)] 108)
  have hm2 := hm.frame (w' := w.alloc (.cells #[.map (some bm)] 108)) (hbm.block bm hm.lt)
  generalize w.alloc (.cells #[.map (some bm)] 108) = w2 at *
  have c2 : w2.cell? ⟨w.heap.size, 0, none⟩ = some (.map (some bm)) := by simp [World.cell?, hN]
  go_wp2_with fail
  refine (sorted_all (N := (ixs.map fun x => (x.m, Value.pointer (some ⟨x.rb, 0, none⟩))).length) (by rw [List.length_map]; omega) (fun n => masks_stops n c2 hm2 (by rw [List.length_map]; unfold maxLen; omega)) (fun ss h => by rw [h.length_eq, List.length_map, List.length_map]; exact Nat.le_refl _)).mono ?_
  rintro e w3 ⟨v, ss, rfl, hS, hown, hb3⟩
  go_wp2_with fail
  refine bodyPost_ret (v := v) (by simp [results, Tryz.results65, go_sem]) rfl ⟨v, rfl, ?_, hbm.trans (hb3.mono hbm.size)⟩
  rw [hkl] at hS
  have hl := hS.length_eq
  rw [List.length_map] at hl
  rw [rising_congr hS, hl] at hown
  refine ⟨hown.1, ?_⟩
  rcases hown.2 with h | ⟨g, cap, cur, h1, h2, h3⟩
  · exact .inl h
  · exact .inr ⟨g, cap, cur, h1, Nat.le_trans hbm.size h2, h3⟩
end Go.Proofs.YtckhkfchgcdajaaGreatDoor

namespace Go.Proofs.YtckhkfchgcdajaaGreatDoor
open Go.Fx Go.RowKit Go.Maps Go.Sort
def askedV : List (Nat × Nat) → List Value
  | [] => []
  | p :: l => encU p.1 :: .int .i64 (p.2 : Int) :: askedV l
theorem askedV_len : ∀ l, (askedV l).length = l.length * 2
  | [] => rfl
  | p :: l => by simp only [askedV, List.length_cons, askedV_len l]; omega
theorem askedV_get : ∀ (l : List (Nat × Nat)) (i : Nat), i < l.length → (askedV l)[i * 2]? = some (encU (l.getD i (0, 0)).1) ∧ (askedV l)[i * 2 + 1]? = some (.int .i64 ((l.getD i (0, 0)).2 : Int))
  | p :: l, 0, _ => ⟨rfl, rfl⟩
  | p :: l, i + 1, h => by
    have := askedV_get l i (by simpa using h)
    simpa [askedV, show (i + 1) * 2 = i * 2 + 1 + 1 by omega] using this
def DocAt (w : World) (D : Nat → Prop) (k arity : Nat) (l : List (Nat × Nat)) : Prop :=
  ∃ v, w.heap[k]? = some (.cells #[.bool true, .int .i64 (arity : Int), v] 113 (0, 0)) ∧ w.ownsRow 0 323 2 v l.length (askedV l) ∧ v.ownBlock ≠ some k ∧ D = (fun j => j = k ∨ v.ownBlock = some j)
theorem DocAt.lt {w : World} {D : Nat → Prop} {k arity : Nat} {l : List (Nat × Nat)} (h : DocAt w D k arity l) {j : Nat} (hj : D j) : j < w.heap.size := by
  obtain ⟨v, h1, h2, _, rfl⟩ := h
  rcases hj with rfl | hj
  · exact (Array.getElem?_eq_some_iff.1 h1).1
  · exact own_lt h2 hj
theorem DocAt.frame {w w' : World} {D : Nat → Prop} {k arity : Nat} {l : List (Nat × Nat)} (h : DocAt w D k arity l) (hk : ∀ j, D j → w'.heap[j]? = w.heap[j]?) : DocAt w' D k arity l := by
  obtain ⟨v, h1, h2, h3, rfl⟩ := h
  exact ⟨v, (hk k (.inl rfl)).trans h1, ownsRow_of_block h2 fun j hj => hk j (.inr hj), h3, rfl⟩
theorem asked_cells {w : World} {a : Option Addr} {c : Nat} {l : List (Nat × Nat)} (h : w.ownsRow 0 323 2 (.slice a l.length c) l.length (askedV l)) {i : Nat} (hi : i < l.length) :
    ∃ g, a = some ⟨g, 0, none⟩ ∧ w.cell? ⟨g, i * 2, none⟩ = some (.int .u32 ((l.getD i (0, 0)).1 : Int)) ∧ w.cell? ⟨g, i * 2 + 1, none⟩ = some (.int .i64 ((l.getD i (0, 0)).2 : Int)) := by
  obtain ⟨_, ⟨_, hn⟩ | ⟨g, cap, cur, hv, _, hb, _, _, _, hx⟩⟩ := h
  · omega
  · injection hv with ha
    have h2 := askedV_get l i hi
    rw [← hx, List.getElem?_take, List.getElem?_take, if_pos (by omega), if_pos (by omega), Array.getElem?_toList, Array.getElem?_toList] at h2
    exact ⟨g, ha, by simp only [World.cell?, hb]; exact h2.1, by simp only [World.cell?, hb]; exact h2.2⟩
def seenOf (m : Nat) (l : List (Nat × Nat)) : Nat := ((l.find? fun p => p.1 == m).map (·.2)).getD 0
set_option maxRecDepth 100000 in
theorem docm_seen {w : World} {D : Nat → Prop} {k arity : Nat} {l : List (Nat × Nat)} (h : DocAt w D k arity l) (m : Nat) :
    Calls Tryz.prog 70 #[.pointer (some ⟨k, 0, none⟩), .int .u32 (m : Int)] w fun e w' => e = .returned (.int .i64 (seenOf m l : Int)) ∧ w' = w := by
  obtain ⟨v, h1, h2, _, rfl⟩ := h
  obtain ⟨a, c, rfl⟩ := own_slice h2
  have c2 : w.cell? ⟨k, 2, none⟩ = some (.slice a l.length c) := by simp [World.cell?, h1]
  have H := Lib.hid h2
  have hmax : l.length ≤ 9223372036854775807 := by
    obtain ⟨_, ⟨_, hn⟩ | ⟨g, cap, cur, hv, _, hb, h3, h4, _⟩⟩ := h2
    · omega
    · unfold maxLen at h4; omega
  clear h1 h2
  go_enter Tryz.func70, Tryz.ntmps70
  go_wp2_with fail
  go_loopg [5] l.length (fun n s5 wr => ∃ i : Nat, s5 = .int .i64 (i : Int) ∧ i ≤ l.length ∧ l.length - i ≤ n ∧ wr = w ∧ Hid (seenOf m l = seenOf m (l.drop i)))
  case atStart => exact ⟨0, rfl, Nat.zero_le _, by omega, rfl, rfl⟩
  obtain ⟨i, rfl, hi, hn, rfl, HS⟩ := hrel
  by_cases hil : i < l.length
  case neg =>
    have hz : ¬ (i : Int) < (l.length : Int) := by omega
    have he := HS.out
    rw [List.drop_eq_nil_of_le (by omega)] at he
    replace he := Lib.hid he
    go_wp2_with fail
    go_ret
    exact ⟨by rw [he.out]; rfl, rfl⟩
  have hz : (i : Int) < (l.length : Int) := by omega
  obtain ⟨g, rfl, d0, d1⟩ := asked_cells H.out hil
  have hdr : l.drop i = l.getD i (0, 0) :: l.drop (i + 1) := by
    rw [List.drop_eq_getElem_cons hil, List.getD_eq_getElem?_getD, List.getElem?_eq_getElem hil, Option.getD_some]
  have he := HS.out
  rw [hdr] at he
  obtain ⟨x, n1, hx⟩ : ∃ x n1, l.getD i (0, 0) = (x, n1) := ⟨_, _, rfl⟩
  rw [hx] at he d0 d1
  replace he := Lib.hid he
  clear hdr hx HS
  by_cases hm : x = m
  · subst hm
    go_wp2_with fail
    try simp only [Exit.inBlock, Exit.then]
    refine bodyPost_ret (v := .int .i64 (n1 : Int)) (by simp [results, Tryz.results70, go_sem]) rfl ⟨?_, rfl⟩
    rw [he.out]
    simp [seenOf]
  · have hmz : ¬ (x : Int) = (m : Int) := by omega
    go_wp2_with fail
    go_roundg (l.length - (i + 1))
    case measure => omega
    case rel =>
      refine ⟨i + 1, by go_num, by omega, Nat.le_refl _, rfl, ?_⟩
      show seenOf m l = _
      rw [he.out]
      simp [seenOf, hm]
end Go.Proofs.YtckhkfchgcdajaaGreatDoor

namespace Go.Proofs.YtckhkfchgcdajaaGreatDoor
open Go.Fx Go.RowKit Go.Maps Go.Sort
set_option maxRecDepth 100000 in
theorem docm_masks {w : World} {D : Nat → Prop} {k arity : Nat} {l : List (Nat × Nat)} (h : DocAt w D k arity l) (hL : l.length ≤ 4194304) :
    Calls Tryz.prog 66 #[.pointer (some ⟨k, 0, none⟩)] w fun e w' => ∃ v, e = .returned v ∧ w'.ownsRow w.heap.size 61 1 v l.length ((l.map (·.1)).map encU) ∧ Below w.heap.size w w' := by
  have hD := Lib.hid h
  obtain ⟨v, h1, h2, _, rfl⟩ := h
  obtain ⟨a, c, rfl⟩ := own_slice h2
  have c2 : w.cell? ⟨k, 2, none⟩ = some (.slice a l.length c) := by simp [World.cell?, h1]
  have hkw : k < w.heap.size := (Array.getElem?_eq_some_iff.1 h1).1
  have H := Lib.hid h2
  have HG : Hid (∀ g, a = some ⟨g, 0, none⟩ → g < w.heap.size) := fun g hg => own_lt h2 (by rw [hg]; rfl)
  clear h1 h2
  obtain ⟨i0, hi0, hz0, hz1, hz2⟩ := info_parts info33
  go_enter Tryz.func66, Tryz.ntmps66
  go_wp2_with fail
  go_loopg [3, 4] l.length (fun n s3 s4 wr => ∃ i : Nat, s4 = .int .i64 (i : Int) ∧ i ≤ l.length ∧ l.length - i ≤ n ∧ Hid (wr.ownsRow w.heap.size 61 1 s3 i (((l.take i).map (·.1)).map encU)) ∧ Hid (Below w.heap.size w wr))
  case atStart => exact ⟨0, rfl, Nat.zero_le _, by omega, World.ownsRow_nil _ _ _ _, Below.refl _ _⟩
  obtain ⟨i, rfl, hi, hn, HO, HB⟩ := hrel
  have c2' : wr.cell? ⟨k, 2, none⟩ = some (.slice a l.length c) := (HB.out.cell (p := ⟨k, 2, none⟩) hkw).trans c2
  by_cases hil : i < l.length
  case neg =>
    have hz : ¬ (i : Int) < (l.length : Int) := by omega
    obtain rfl : i = l.length := by omega
    go_wp2_with fail
    refine bodyPost_ret (v := u3) (by simp [results, Tryz.results66, go_sem]) rfl ⟨u3, rfl, ?_, HB.out⟩
    have := HO.out
    rw [List.take_length, List.map_map] at this
    exact this
  have hz : (i : Int) < (l.length : Int) := by omega
  obtain ⟨g, rfl, d0, _⟩ := asked_cells H.out hil
  have d0' : wr.cell? ⟨g, i * 2, none⟩ = some (.int .u32 ((l.getD i (0, 0)).1 : Int)) := (HB.out.cell (p := ⟨g, i * 2, none⟩) (HG.out g rfl)).trans d0
  have htk : ((l.take (i + 1)).map (·.1)).map encU = ((l.take i).map (·.1)).map encU ++ [encU (l.getD i (0, 0)).1] := by
    rw [List.take_succ_eq_append_getElem hil, List.getD_eq_getElem?_getD, List.getElem?_eq_getElem hil, List.map_append, List.map_append]
    rfl
  have HT := Lib.hid htk
  clear htk d0 c2
  generalize (l.getD i (0, 0)).1 = x at *
  go_wp2_with (at_builtin; refine wpList_append_own_at _ rfl _ _ 119 rfl w.heap.size 61 i0 (.int .u32 0) 1 4 Tryz.underlying119 hi0 hz0 hz1 hz2 rfl (by decide) _ _ _ rfl (HO.out.alloc _) ⟨wr.heap.size, 0, none⟩ 1 1 [encU x] rfl rfl (World.news_of_block (cs := #[encU x]) (t := 61) (fr := (0, 0)) (heap_alloc_new wr _)) (by simp [Value.oneCell']) (by unfold maxLen; omega) (by omega) (by have := HB.out.size; rw [alloc_size]; omega) ?_; intro v' w2 hown2 hgrow2 hnil2 hat2)
  go_roundg (l.length - (i + 1))
  case measure => omega
  case rel =>
    refine ⟨i + 1, by go_num, by omega, Nat.le_refl _, ?_, ?_⟩
    · show w2.ownsRow _ _ _ _ _ _
      rw [HT.out]
      exact hown2
    · show Below _ _ _
      exact (HB.out.alloc HB.out.size _).grown hgrow2 (by have := HB.out.size; rw [alloc_size]; omega) fun k hk => (HO.out.lt k hk).1
end Go.Proofs.YtckhkfchgcdajaaGreatDoor

namespace Go.Proofs.YtckhkfchgcdajaaGreatDoor
open Go.Fx Go.RowKit Go.Maps Go.Sort
set_option maxRecDepth 100000 in
theorem is_calls' {w : World} {m i : Nat} (hm : m < 4294967296) (hi : i < 32) :
    Calls Tryz.prog 213 #[.int .u32 (m : Int), .int .i64 (i : Int)] w fun e w' => e = .returned (.bool (m.testBit i)) ∧ w' = w := by
  have hb := is_bit (i := i) hm
  go_enter Tryz.func213, Tryz.ntmps213
  go_wp2_with fail
  simp [bodyPost, results, Tryz.results213, go_sem]
def askPut (m n : Nat) : List (Nat × Nat) → List (Nat × Nat)
  | [] => [(m, n)]
  | p :: l => if p.1 < m then p :: askPut m n l else if p.1 = m then (m, n) :: l else (m, n) :: p :: l
def atOf (m : Nat) (l : List (Nat × Nat)) : Nat := (l.takeWhile fun p => decide (p.1 < m)).length
theorem atOf_le (m : Nat) (l : List (Nat × Nat)) : atOf m l ≤ l.length := (List.takeWhile_sublist _).length_le
theorem askPut_at (m n : Nat) : ∀ l : List (Nat × Nat), askPut m n l = l.take (atOf m l) ++ (m, n) :: (if (l.getD (atOf m l) (0, 0)).1 = m ∧ atOf m l < l.length then l.drop (atOf m l + 1) else l.drop (atOf m l))
  | [] => by simp [askPut, atOf]
  | p :: l => by
    have ih := askPut_at m n l
    by_cases h : p.1 < m
    · have e : atOf m (p :: l) = atOf m l + 1 := by simp [atOf, List.takeWhile_cons, h]
      simp only [askPut, if_pos h, e, List.take_succ_cons, List.getD_cons_succ, List.length_cons, List.drop_succ_cons, List.cons_append, ih]
      congr 3
      simp
    · have e : atOf m (p :: l) = 0 := by simp [atOf, List.takeWhile_cons, h]
      by_cases h2 : p.1 = m <;> simp [askPut, h, h2, e]
theorem atOf_lt (m : Nat) : ∀ (l : List (Nat × Nat)) (i : Nat), i ≤ atOf m l → i < l.length → (l.getD i (0, 0)).1 < m → i < atOf m l
  | p :: l, 0, _, _, h => by
    have h : p.1 < m := h
    simp [atOf, List.takeWhile_cons, h]
  | p :: l, i + 1, h0, h1, h => by
    by_cases hp : p.1 < m
    · have e : atOf m (p :: l) = atOf m l + 1 := by simp [atOf, List.takeWhile_cons, hp]
      have := atOf_lt m l i (by omega) (by simpa using h1) (by simpa using h)
      omega
    · have e : atOf m (p :: l) = 0 := by simp [atOf, List.takeWhile_cons, hp]
      omega
theorem atOf_ge (m : Nat) : ∀ (l : List (Nat × Nat)) (i : Nat), i < atOf m l → (l.getD i (0, 0)).1 < m
  | [], i, h => by simp [atOf] at h
  | p :: l, i, h => by
    by_cases hp : p.1 < m
    · have e : atOf m (p :: l) = atOf m l + 1 := by simp [atOf, List.takeWhile_cons, hp]
      cases i with
      | zero => exact hp
      | succ i => exact atOf_ge m l i (by omega)
    · have e : atOf m (p :: l) = 0 := by simp [atOf, List.takeWhile_cons, hp]
      omega
set_option maxRecDepth 100000 in
theorem docm_ask_bad {w : World} {D : Nat → Prop} {k arity : Nat} {l : List (Nat × Nat)} (h : DocAt w D k arity l) (ha : arity ≤ 24) {m : Nat} (hm : m < 4294967296) (hbad : ∃ i, arity ≤ i ∧ i < 32 ∧ m.testBit i = true) (rows : Value) :
    Calls Tryz.prog 169 #[.pointer (some ⟨k, 0, none⟩), rows, .int .u32 (m : Int)] w fun e w' => e = .returned (.int .i64 110) ∧ w' = w := by
  obtain ⟨v, h1, h2, _, rfl⟩ := h
  have c0 : w.cell? ⟨k, 0, none⟩ = some (.bool true) := by simp [World.cell?, h1]
  have c1 : w.cell? ⟨k, 1, none⟩ = some (.int .i64 (arity : Int)) := by simp [World.cell?, h1]
  have HB := Lib.hid hbad
  clear h1 h2 hbad
  go_enter Tryz.func169, Tryz.ntmps169
  go_wp2_with fail
  go_loopg [7] 32 (fun n s7 wr => ∃ i : Nat, s7 = .int .i64 (i : Int) ∧ arity ≤ i ∧ i ≤ 32 ∧ 32 - i ≤ n ∧ wr = w ∧ Hid (∀ j, arity ≤ j → j < i → m.testBit j = false))
  case atStart => exact ⟨arity, rfl, Nat.le_refl _, by omega, by omega, rfl, fun j h1 h2 => by omega⟩
  obtain ⟨i, rfl, hi1, hi2, hn, rfl, HI⟩ := hrel
  by_cases hi : i < 32
  case neg =>
    exfalso
    obtain ⟨j, h1, h2, h3⟩ := HB.out
    rw [HI.out j h1 (by omega)] at h3
    cases h3
  have hz : (i : Int) < 32 := by omega
  go_wp2_with fail
  refine (is_calls' hm hi).mono ?_
  rintro e w2 ⟨rfl, hw⟩
  rw [hw]
  clear hw w2
  cases hb : m.testBit i
  · go_wp2_with fail
    go_roundg (32 - (i + 1))
    case measure => omega
    case rel =>
      refine ⟨i + 1, by go_num, by omega, by omega, Nat.le_refl _, rfl, fun j h1 h2 => ?_⟩
      by_cases h : j = i
      · rw [h]; exact hb
      · exact HI.out j h1 (by omega)
  · go_wp2_with fail
    try simp only [Exit.inBlock, Exit.then]
    exact bodyPost_ret (v := .int .i64 110) (by simp [results, Tryz.results169, go_sem]) rfl ⟨rfl, rfl⟩
end Go.Proofs.YtckhkfchgcdajaaGreatDoor

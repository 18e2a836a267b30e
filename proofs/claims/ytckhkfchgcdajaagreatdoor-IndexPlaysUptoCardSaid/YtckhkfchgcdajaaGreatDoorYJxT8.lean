import Derived.Test.YtckhkfchgcdajaaGreatDoorYJxA8
import Derived.Test.YtckhkfchgcdajaaGreatDoorYJxT4
namespace Go.Proofs.YtckhkfchgcdajaaGreatDoor
open Go.Fx Go.RowKit
theorem getD_eq {α : Type} {l : List α} {k : Nat} {d : α} (h : k < l.length) : l.getD k d = l[k] := by rw [List.getD_eq_getElem?_getD, List.getElem?_eq_getElem h, Option.getD_some]
theorem nums_snoc (o : Nat) (l : List (List Int)) (x : List Int) : nums o (l ++ [x]) = nums o l ++ [(((o + l.length : Nat) : Int), x)] := by
  induction l generalizing o with
  | nil => rfl
  | cons y l ih =>
    rw [List.cons_append, nums, ih, nums, List.cons_append, List.length_cons]
    congr 4
    omega
theorem keysN_succ {m : Nat} {rows : List (List Int)} {i : Nat} (hi : i < rows.length) : keysOf m (nums 0 (rows.take (i + 1))) = addKey (keysOf m (nums 0 (rows.take i))) (keyRow m (rows.getD i [])) := by
  rw [List.take_succ_eq_append_getElem hi, nums_snoc, keysOf_snoc, getD_eq hi]
end Go.Proofs.YtckhkfchgcdajaaGreatDoor

namespace Go.Proofs.YtckhkfchgcdajaaGreatDoor
open Go.Fx Go.RowKit Go.Maps Go.Sort
theorem range_below {B : Nat} {w w' : World} {g o : Nat} {xs : List Value} (h : w.rangeAt g o xs) (hb : Below B w w') (hg : g < B) : w'.rangeAt g o xs := fun q v hq => (hb.cell (p := ⟨g, o + q, none⟩) hg).trans (h q v hq)
set_option maxHeartbeats 1000000 in
set_option maxRecDepth 100000 in
theorem find_calls {w : World} {lv : Value} {L : List (List Int)} (hl : SlRows w lv L) (hn : L.length ≤ 1048576) {m : Nat} (hm : m < 4294967296) {y : List Int} (hy : RowOk y) :
    Calls Tryz.prog 170 #[lv, .int .u32 (m : Int), rowV y] w fun e w' => ∃ v, e = .returned v ∧ w'.ownsRow w.heap.size 3 1 v (idsOf m (nums 0 L) (keyRow m y)).length ((idsOf m (nums 0 L) (keyRow m y)).map intV) ∧ Below w.heap.size w w' := by
  obtain ⟨ad, cap, rfl, hr, hok⟩ := hl
  have HR := Lib.hid hr
  have HO := Lib.hid hok
  clear hr hok
  have hyl := hy.1
  have hsz1 : (Tryz.prog.info? 64).map (·.size) = some (y.map symV).length := by rw [infoRow]; simp [hyl]
  obtain ⟨i0, hi0, hz0, hz1, hz2⟩ := info_parts info3
  go_enter Tryz.func170, Tryz.ntmps170
  go_wp2_with fail
  have hb0 := (Below.refl w.heap.size w).alloc (Nat.le_refl _) (.cells (y.map symV).toArray 64)
  have hX := heap_alloc_new w (.cells (y.map symV).toArray 64)
  have hsx := alloc_size w (.cells (y.map symV).toArray 64)
  generalize w.alloc (.cells (y.map symV).toArray 64) = w1 at *
  have hry : w1.rangeAt w.heap.size 0 (y.map symV) := fun q v hq => by
    simp only [World.cell?, hX, Nat.zero_add]
    simpa using hq
  go_loopg [7, 8] L.length (fun n s7 s8 wr => ∃ i : Nat, s8 = .int .i64 (i : Int) ∧ i ≤ L.length ∧ L.length - i ≤ n ∧
    Hid (wr.ownsRow (w.heap.size + 1) 3 1 s7 (idsOf m (nums 0 (L.take i)) (keyRow m y)).length ((idsOf m (nums 0 (L.take i)) (keyRow m y)).map intV)) ∧ Hid (Below (w.heap.size + 1) w1 wr))
  case atStart => exact ⟨0, rfl, Nat.zero_le _, by omega, World.ownsRow_nil _ _ _ _, Below.refl _ _⟩
  obtain ⟨i, rfl, hi, hn2, HW, HB⟩ := hrel
  by_cases hil : i < L.length
  case neg =>
    have hz : ¬ (i : Int) < (L.length : Int) := by omega
    obtain rfl : i = L.length := by omega
    go_wp2_with fail
    refine bodyPost_ret (v := u7) (by simp [results, Tryz.results170, go_sem]) rfl ⟨u7, rfl, ?_, ?_⟩
    · have := HW.out
      rw [List.take_length] at this
      refine ⟨this.1, ?_⟩
      rcases this.2 with h | ⟨g, cap, cur, h1, h2, h3⟩
      · exact .inl h
      · exact .inr ⟨g, cap, cur, h1, by omega, h3⟩
    · exact hb0.trans (HB.out.mono (by omega))
  have hz : (i : Int) < (L.length : Int) := by omega
  obtain ⟨g, o, rfl, hg, hrx⟩ := HR.out i hil
  obtain ⟨x, hx⟩ : ∃ x, L.getD i [] = x := ⟨_, rfl⟩
  rw [hx] at hrx
  have hxo : RowOk x := HO.out x (by
    rw [← hx, List.getD_eq_getElem?_getD, List.getElem?_eq_getElem hil, Option.getD_some]
    exact List.getElem_mem _)
  have hids : idsOf m (nums 0 (L.take (i + 1))) (keyRow m y) = if keyRow m x = keyRow m y then idsOf m (nums 0 (L.take i)) (keyRow m y) ++ [(i : Int)] else idsOf m (nums 0 (L.take i)) (keyRow m y) := by
    rw [List.take_succ_eq_append_getElem hil, nums_snoc, idsOf_snoc, List.length_take, Nat.min_eq_left hi]
    rw [List.getD_eq_getElem?_getD, List.getElem?_eq_getElem hil, Option.getD_some] at hx
    rw [hx, Nat.zero_add]
  have hxl := hxo.1
  have hsx1 : (Tryz.prog.info? 64).map (·.size) = some (x.map symV).length := by rw [infoRow]; simp [hxl]
  have hlike := fun w => like_calls (w := w) hm hxo hy
  have hws : w.heap.size + 1 ≤ wr.heap.size := by have := HB.out.size; omega
  have hS : (fun w' : World => w'.rangeAt g (o + i * 24) (x.map symV) ∧ w'.rangeAt w.heap.size 0 (y.map symV) ∧ Below wr.heap.size wr w') wr.drew :=
    ⟨range_below (range_below hrx hb0 (by omega)) (below_drew' HB.out) (by omega), range_below hry (below_drew' HB.out) (by omega), below_drew' (Below.refl _ _)⟩
  replace hids := Lib.hid hids
  clear hrx hx
  go_upto_region 5 with fail
  go_cut [21] from 9 to 25 (fun s wx => s = .bool (decide (keyRow m x = keyRow m y)) ∧ Hid (Below wr.heap.size wr wx))
  case first =>
    refine wp_region_held_drew (S := (fun w' : World => w'.rangeAt g (o + i * 24) (x.map symV) ∧ w'.rangeAt w.heap.size 0 (y.map symV) ∧ Below wr.heap.size wr w')) (by kernel_rfl) hS (fun hS => ?_)
    generalize wr.drew = W5 at *
    refine wpAnyH_take (i := 0) (v := ?_) rfl (by kernel_rfl) (by kernel_rfl) (by kernel_rfl) (fun _ _ _ h => h) (Or.inl ⟨by rfl, ?_⟩) (by assumption) ?_
    rotate_left
    · intro w hSw; (try dsimp only at hSw); go_simp; try with_reducible rfl
    try simp only [Act.put, List.getElem_toArray, List.getElem_cons_succ, List.getElem_cons_zero, List.setIfInBounds_toArray, List.set_cons_zero, List.set_cons_succ]
    refine wpAnyH_take (i := 1) (v := ?_) rfl (by kernel_rfl) (by kernel_rfl) (by kernel_rfl) (fun _ _ _ h => h) (Or.inl ⟨by rfl, ?_⟩) (by assumption) ?_
    rotate_left
    · intro w hSw; (try dsimp only at hSw); go_simp; try with_reducible rfl
    try simp only [Act.put, List.getElem_toArray, List.getElem_cons_succ, List.getElem_cons_zero, List.setIfInBounds_toArray, List.set_cons_zero, List.set_cons_succ]
    refine wpAnyH_take (i := 2) (v := ?_) rfl (by kernel_rfl) (by kernel_rfl) (by kernel_rfl) (fun _ _ _ h => h) (Or.inl ⟨by rfl, ?_⟩) (by assumption) ?_
    rotate_left
    · intro w hSw; (try dsimp only at hSw); go_simp; try with_reducible rfl
    try simp only [Act.put, List.getElem_toArray, List.getElem_cons_succ, List.getElem_cons_zero, List.setIfInBounds_toArray, List.set_cons_zero, List.set_cons_succ]
    refine wpAnyH_take (i := 3) (v := ?_) rfl (by kernel_rfl) (by kernel_rfl) (by kernel_rfl) (fun _ _ _ h => h) (Or.inl ⟨by rfl, ?_⟩) (by assumption) ?_
    rotate_left
    · intro w hSw; (try dsimp only at hSw); go_simp; try with_reducible rfl
    try simp only [Act.put, List.getElem_toArray, List.getElem_cons_succ, List.getElem_cons_zero, List.setIfInBounds_toArray, List.set_cons_zero, List.set_cons_succ]
    refine wpAnyH_take (i := 4) (v := _) rfl (by kernel_rfl) (by kernel_rfl) (by kernel_rfl) (fun _ _ _ h => h) (yieldsIf_load_mid (by rfl) 64 _ rfl g (o + i * 24) rfl (x.map symV) _ (fun w' hw' => hw'.1) Tryz.underlying64 rfl hsx1) (by assumption) ?_
    try simp only [Act.put, List.getElem_toArray, List.getElem_cons_succ, List.getElem_cons_zero, List.setIfInBounds_toArray, List.set_cons_zero, List.set_cons_succ]
    refine wpAnyH_take (i := 5) (v := _) rfl (by kernel_rfl) (by kernel_rfl) (by kernel_rfl) (fun _ _ _ h => h) (yieldsIf_load_mid (by rfl) 64 _ rfl w.heap.size 0 rfl (y.map symV) _ (fun w' hw' => hw'.2.1) Tryz.underlying64 rfl hsz1) (by assumption) ?_
    try simp only [Act.put, List.getElem_toArray, List.getElem_cons_succ, List.getElem_cons_zero, List.setIfInBounds_toArray, List.set_cons_zero, List.set_cons_succ]
    refine wpAnyH_ready (rs := [6]) (by kernel_rfl) (by simp) (AllReadyH.cons rfl (fun K hK => ?_) AllReadyH.nil)
    rw [if_pos (by rfl)]
    go_simp
    refine (hlike W5).mono ?_
    rintro e W6 ⟨rfl, hb6⟩
    have hsz5 := hS.2.2.size
    have hS6 : (fun w' : World => w'.rangeAt g (o + i * 24) (x.map symV) ∧ w'.rangeAt w.heap.size 0 (y.map symV) ∧ Below wr.heap.size wr w') W6 := ⟨range_below hS.1 hb6 (by omega), range_below hS.2.1 hb6 (by omega), hS.2.2.trans (hb6.mono hsz5)⟩
    refine hK.out _ _ hS6 (fun _ => ?_)
    clear hK K
    try simp only [Act.put, List.getElem_toArray, List.getElem_cons_succ, List.getElem_cons_zero, List.setIfInBounds_toArray, List.set_cons_zero, List.set_cons_succ]
    refine wpAnyH_done (by kernel_rfl) ?_ _
    go_wp2_with fail
    go_meet
    exact ⟨rfl, hS6.2.2⟩
  obtain ⟨rfl, HC⟩ := hcut
  clear hS hlike hsx1
  by_cases hk : keyRow m x = keyRow m y
  · rw [decide_eq_true hk]
    have hi2 := hids.out
    rw [if_pos hk] at hi2
    replace hi2 := Lib.hid hi2
    have hlen : (idsOf m (nums 0 (L.take i)) (keyRow m y)).length ≤ i := by
      unfold idsOf
      rw [List.length_map]
      refine Nat.le_trans (List.length_filter_le _ _) ?_
      rw [nums_len, List.length_take]
      omega
    have HW2 : wc.ownsRow (w.heap.size + 1) 3 1 u7 (idsOf m (nums 0 (L.take i)) (keyRow m y)).length ((idsOf m (nums 0 (L.take i)) (keyRow m y)).map intV) :=
      ownsRow_of_block HW.out fun j hj => HC.out.block j (HW.out.lt j hj).2
    replace HW2 := Lib.hid HW2
    have HB2 := Lib.hid (HB.out.trans (HC.out.mono hws))
    have hsw := HC.out.size
    generalize idsOf m (nums 0 (L.take i)) (keyRow m y) = ids at *
    clear hids HW HB HC
    go_wp2_with (at_builtin; refine wpList_append_own_at _ rfl _ _ 102 rfl (w.heap.size + 1) 3 i0 (.int .i64 0) 1 8 Tryz.underlying102 hi0 hz0 hz1 hz2 rfl (by decide) u7 ids.length (ids.map intV) rfl (HW2.out.alloc _) ⟨wc.heap.size, 0, none⟩ 1 1 [.int .i64 (i : Int)] rfl rfl (World.news_of_block (cs := #[.int .i64 (i : Int)]) (t := 3) (fr := (0, 0)) (heap_alloc_new wc _)) (by simp [Value.oneCell']) (by unfold maxLen; omega) (by omega) (by rw [alloc_size]; omega) ?_; intro v' w2 hown2 hgrow2 hnil2 hat2)
    go_roundg (L.length - (i + 1))
    case measure => omega
    case rel =>
      refine ⟨i + 1, by go_num, by omega, Nat.le_refl _, ?_, ?_⟩
      · show w2.ownsRow _ _ _ _ _ _
        rw [hi2.out, List.length_append, List.map_append]
        exact hown2
      · show Below _ _ _
        exact (HB2.out.alloc (by omega) _).grown hgrow2 (by rw [alloc_size]; omega) fun k hk => (HW2.out.lt k hk).1
  · rw [decide_eq_false hk]
    have hi2 := hids.out
    rw [if_neg hk] at hi2
    have HW2 : wc.ownsRow (w.heap.size + 1) 3 1 u7 (idsOf m (nums 0 (L.take (i + 1))) (keyRow m y)).length ((idsOf m (nums 0 (L.take (i + 1))) (keyRow m y)).map intV) := by
      rw [hi2]
      exact ownsRow_of_block HW.out fun j hj => HC.out.block j (HW.out.lt j hj).2
    replace HW2 := Lib.hid HW2
    have HB2 := Lib.hid (HB.out.trans (HC.out.mono hws))
    clear hi2 hids HW HB HC
    go_wp2_with fail
    go_roundg (L.length - (i + 1))
    case measure => omega
    case rel => exact ⟨i + 1, by go_num, by omega, Nat.le_refl _, HW2, HB2⟩
end Go.Proofs.YtckhkfchgcdajaaGreatDoor

namespace Go.Proofs.YtckhkfchgcdajaaGreatDoor
open Go.Fx Go.RowKit Go.Maps Go.Sort
def firstOf (m : Nat) (L : List (List Int)) (i : Nat) : Bool := decide ((idsOf m (nums 0 L) (keyRow m (L.getD i []))).head? = some (i : Int))
def keyCnt (m : Nat) (L : List (List Int)) : Nat → Nat
  | 0 => 0
  | i + 1 => keyCnt m L i + (if firstOf m L i then 1 else 0)
theorem keyCnt_le (m : Nat) (L : List (List Int)) : ∀ i, keyCnt m L i ≤ i
  | 0 => Nat.le_refl _
  | i + 1 => by
    have := keyCnt_le m L i
    simp only [keyCnt]
    split <;> omega
theorem ids_ne {m : Nat} {L : List (List Int)} {i : Nat} (hi : i < L.length) : idsOf m (nums 0 L) (keyRow m (L.getD i [])) ≠ [] := by
  intro h
  have h1 := nums_get 0 L i hi
  rw [Nat.zero_add] at h1
  have h2 : ((i : Int), L[i]) ∈ nums 0 L := List.mem_of_getElem? h1
  have h3 : (i : Int) ∈ idsOf m (nums 0 L) (keyRow m (L.getD i [])) := by
    unfold idsOf
    refine List.mem_map.2 ⟨_, List.mem_filter.2 ⟨h2, ?_⟩, rfl⟩
    rw [List.getD_eq_getElem?_getD, List.getElem?_eq_getElem hi, Option.getD_some]
    exact decide_eq_true rfl
  rw [h] at h3
  cases h3
set_option maxHeartbeats 1000000 in
set_option maxRecDepth 100000 in
theorem keysn_calls {w : World} {lv : Value} {L : List (List Int)} (hl : SlRows w lv L) (hn : L.length ≤ 1048576) {m : Nat} (hm : m < 4294967296) :
    Calls Tryz.prog 172 #[lv, .int .u32 (m : Int)] w fun e w' => e = .returned (.int .i64 (keyCnt m L L.length : Int)) ∧ Below w.heap.size w w' := by
  have HL := Lib.hid hl
  obtain ⟨ad, cap, rfl, hr, hok⟩ := hl
  have HR := Lib.hid hr
  have HO := Lib.hid hok
  clear hr hok
  go_enter Tryz.func172, Tryz.ntmps172
  go_wp2_with fail
  go_loopg [5, 6] L.length (fun n s5 s6 wr => ∃ i : Nat, s5 = .int .i64 (keyCnt m L i : Int) ∧ s6 = .int .i64 (i : Int) ∧ i ≤ L.length ∧ L.length - i ≤ n ∧ Hid (Below w.heap.size w wr))
  case atStart => exact ⟨0, rfl, rfl, Nat.zero_le _, by omega, Below.refl _ _⟩
  obtain ⟨i, rfl, rfl, hi, hn2, HB⟩ := hrel
  by_cases hil : i < L.length
  case neg =>
    have hz : ¬ (i : Int) < (L.length : Int) := by omega
    obtain rfl : i = L.length := by omega
    go_wp2_with fail
    go_ret
    exact ⟨rfl, HB.out⟩
  have hz : (i : Int) < (L.length : Int) := by omega
  obtain ⟨g, o, rfl, hg, hrx⟩ := HR.out i hil
  have hne := ids_ne (m := m) hil
  have hcs : Hid (keyCnt m L (i + 1) = keyCnt m L i + (if firstOf m L i then 1 else 0)) := rfl
  have hfo : Hid (firstOf m L i = decide ((idsOf m (nums 0 L) (keyRow m (L.getD i []))).head? = some (i : Int))) := rfl
  obtain ⟨x, hx⟩ : ∃ x, L.getD i [] = x := ⟨_, rfl⟩
  rw [hx] at hrx hne hfo
  have hxo : RowOk x := HO.out x (by
    rw [← hx, List.getD_eq_getElem?_getD, List.getElem?_eq_getElem hil, Option.getD_some]
    exact List.getElem_mem _)
  have hxl := hxo.1
  have hsx1 : (Tryz.prog.info? 64).map (·.size) = some (x.map symV).length := by rw [infoRow]; simp [hxl]
  have hrw : wr.rangeAt g (o + i * 24) (x.map symV) := range_below hrx HB.out hg
  have hlw : SlRows wr (.slice (some ⟨g, o, none⟩) L.length cap) L := by
    obtain ⟨ad, cap', e, h1, h2⟩ := HL.out
    injection e with e1 _ e2
    subst e1; subst e2
    refine ⟨_, _, rfl, fun j hj => ?_, h2⟩
    obtain ⟨g', o', e, h3, h4⟩ := h1 j hj
    exact ⟨g', o', e, Nat.lt_of_lt_of_le h3 HB.out.size, range_below h4 HB.out h3⟩
  have hfind := Lib.hid (find_calls hlw hn hm hxo)
  have hcl := keyCnt_le m L i
  clear hrx hx hlw HL HR HO
  generalize keyCnt m L i = cn at *
  go_wp2_with (refine wpList_load_mid rfl 64 _ rfl g (o + i * 24) rfl _ _ hrw Tryz.underlying64 rfl hsx1 ?_)
  refine hfind.out.mono ?_
  rintro e w2 ⟨v, rfl, hown, hb2⟩
  clear hfind hrw
  generalize idsOf m (nums 0 L) (keyRow m x) = ids at *
  match ids, hne with
  | q :: ids, _ =>
    obtain ⟨g2, cap2, cur, rfl, _, hg2, _, _, _, hx2⟩ : ∃ g2 cap2 cur, v = .slice (some ⟨g2, 0, none⟩) (q :: ids).length cap2 ∧ wr.heap.size ≤ g2 ∧ w2.heap[g2]? = some (.cells cur 3 (0, 0)) ∧ (q :: ids).length ≤ cap2 ∧ cap2 ≤ maxLen ∧ cur.size = cap2 * 1 ∧ cur.toList.take ((q :: ids).length * 1) = (q :: ids).map intV := by
      rcases hown.2 with ⟨_, h0⟩ | h'
      · cases h0
      · exact h'
    have hc : w2.cell? ⟨g2, 0, none⟩ = some (.int .i64 q) := by
      have h1 : (cur.toList.take ((q :: ids).length * 1))[0]? = some (intV q) := by rw [hx2]; rfl
      rw [List.getElem?_take, if_pos (by simp), Array.getElem?_toList] at h1
      simp only [World.cell?, hg2]
      exact h1
    have hln : 0 < (q :: ids).length := by simp
    generalize (q :: ids).length = ln at *
    have HB2 := Lib.hid (HB.out.trans (hb2.mono HB.out.size))
    have hfo2 : Hid (firstOf m L i = decide (q = (i : Int))) := by
      have := hfo.out
      rw [show (q :: ids).head? = some q from rfl] at this
      show firstOf m L i = _
      rw [this]
      simp
    clear hown hx2 hg2 hb2 HB hfo
    by_cases hq : q = (i : Int)
    · have h1 : Hid (keyCnt m L (i + 1) = cn + 1) := by
        have := hcs.out
        rw [hfo2.out, decide_eq_true hq] at this
        exact this
      go_wp2_with fail
      go_roundg (L.length - (i + 1))
      case measure => omega
      case rel => exact ⟨i + 1, by rw [h1.out]; go_num, by go_num, by omega, Nat.le_refl _, HB2⟩
    · have h1 : Hid (keyCnt m L (i + 1) = cn) := by
        have := hcs.out
        rw [hfo2.out, decide_eq_false hq] at this
        exact this
      go_wp2_with fail
      go_roundg (L.length - (i + 1))
      case measure => omega
      case rel => exact ⟨i + 1, by rw [h1.out], by go_num, by omega, Nat.le_refl _, HB2⟩
end Go.Proofs.YtckhkfchgcdajaaGreatDoor

namespace Go.Proofs.YtckhkfchgcdajaaGreatDoor
open Go.Fx Go.RowKit Go.Maps Go.Sort
set_option maxHeartbeats 1000000 in
set_option maxRecDepth 100000 in
theorem docm_distinct {w : World} {D : Nat → Prop} {k arity : Nat} {l : List (Nat × Nat)} (h : DocAt w D k arity l) (ha : arity ≤ 24) {m : Nat} (hm : m < 4294967296) (hgood : ∀ i, arity ≤ i → i < 32 → m.testBit i = false)
    (hL : l.length ≤ 4194304) {lv : Value} {L : List (List Int)} (hn : L.length ≤ 1048576) (hl : ∀ w', KeptBut D w w' → SlRows w' lv L) :
    Calls Tryz.prog 64 #[.pointer (some ⟨k, 0, none⟩), lv, .int .u32 (m : Int)] w fun e w' => e = .returned (.tuple #[.int .i64 (keyCnt m L L.length : Int), .int .i64 0]) ∧ ∃ D', DocAt w' D' k arity (askPut m L.length l) ∧ Step w D w' D' := by
  obtain ⟨ad, cap, rfl, _⟩ := hl w (KeptBut.refl _ _)
  have hask := Lib.hid (docm_ask h ha hm hgood hL (r := ad) (n := L.length) (rc := cap))
  have HL := Lib.hid hl
  clear hl hgood h
  go_enter Tryz.func64, Tryz.ntmps64
  go_wp2_with fail
  refine hask.out.mono ?_
  rintro e w2 ⟨rfl, D', hD, hS⟩
  have hk := Lib.hid (keysn_calls (HL.out w2 hS.1) hn hm)
  have HD := Lib.hid hD
  have HS := Lib.hid hS
  clear hask HL hD hS
  go_wp2_with fail
  refine hk.out.mono ?_
  rintro e w3 ⟨rfl, hb3⟩
  clear hk
  have hfin : Hid (∃ D', DocAt w3 D' k arity (askPut m L.length l) ∧ Step w D w3 D') := ⟨D', HD.out.frame fun j hj => hb3.block j (HD.out.lt hj),
    HS.out.1.trans (KeptBut.of_below (M := D) hb3) (fun b hb => .inr hb), HS.out.2⟩
  go_wp2_with fail
  exact bodyPost_ret (v := .tuple #[.int .i64 (keyCnt m L L.length : Int), .int .i64 0]) (by simp [results, Tryz.results64, go_sem]) rfl ⟨rfl, hfin.out⟩
end Go.Proofs.YtckhkfchgcdajaaGreatDoor

namespace Go.Proofs.YtckhkfchgcdajaaGreatDoor
open Go.Fx Go.RowKit Go.Maps Go.Sort
set_option maxHeartbeats 1000000 in
set_option maxRecDepth 100000 in
theorem docm_look {w : World} {D : Nat → Prop} {k arity : Nat} {l : List (Nat × Nat)} (h : DocAt w D k arity l) (ha : arity ≤ 24) {m : Nat} (hm : m < 4294967296) (hgood : ∀ i, arity ≤ i → i < 32 → m.testBit i = false)
    (hL : l.length ≤ 4194304) {lv : Value} {L : List (List Int)} (hn : L.length ≤ 1048576) (hl : ∀ w', KeptBut D w w' → SlRows w' lv L) {y : List Int} (hy : RowOk y) :
    Calls Tryz.prog 60 #[.pointer (some ⟨k, 0, none⟩), lv, .int .u32 (m : Int), rowV y] w fun e w' => ∃ v D', e = .returned (.tuple #[v, .int .i64 0]) ∧ DocAt w' D' k arity (askPut m L.length l) ∧ Step w D w' D' ∧
      w'.ownsRow w.heap.size 3 1 v (idsOf m (nums 0 L) (keyRow m y)).length ((idsOf m (nums 0 L) (keyRow m y)).map intV) ∧ (∀ j, v.ownBlock = some j → ¬ D' j) := by
  obtain ⟨ad, cap, rfl, _⟩ := hl w (KeptBut.refl _ _)
  have hyl := hy.1
  have hsz : (Tryz.prog.info? 64).map (·.size) = some (List.map symV y).toArray.size := by rw [infoRow]; simp [hyl]
  have hlt := Lib.hid (fun j (hj : D j) => h.lt hj)
  have hb1 := (Below.refl w.heap.size w).alloc (Nat.le_refl _) (.cells (y.map symV).toArray 64)
  have hX := heap_alloc_new w (.cells (y.map symV).toArray 64)
  have hD1 := h.frame (w' := w.alloc (.cells (y.map symV).toArray 64)) (fun j hj => hb1.block j (h.lt hj))
  have hask := Lib.hid (docm_ask hD1 ha hm hgood hL (r := ad) (n := L.length) (rc := cap))
  have HL := Lib.hid hl
  have hX1 := (Array.getElem?_eq_some_iff.1 hX).1
  replace hX := Lib.hid hX
  replace hb1 := Lib.hid hb1
  clear hl hgood h hD1
  go_enter Tryz.func60, Tryz.ntmps60
  go_wp2_with fail
  generalize w.alloc (.cells (y.map symV).toArray 64) = w1 at *
  refine hask.out.mono ?_
  rintro e w2 ⟨rfl, D', hD, hS⟩
  have hS2 : Step w D w2 D' := ⟨(KeptBut.of_below (M := D) hb1.out).trans hS.1 (fun b hb => .inr hb), fun j hj => (hS.2 j hj).imp id fun h => Nat.le_trans hb1.out.size h⟩
  have hz9 : w2.heap[w.heap.size]? = some (.cells (y.map symV).toArray 64 (0, 0)) := (hS.1.block w.heap.size hX1 (fun hd => Nat.lt_irrefl _ (hlt.out _ hd))).trans hX.out
  have hk := Lib.hid (find_calls (HL.out w2 hS2.1) hn hm hy)
  have HD := Lib.hid hD
  have HS := Lib.hid hS2
  have hsz2 := hS2.1.size
  clear hask HL hD hS hS2 hX hb1 hX1 hlt
  go_wp2_with (refine wpList_load_row rfl 64 _ rfl w.heap.size rfl 64 _ (0, 0) _ hz9 Tryz.underlying64 rfl hsz ?_)
  refine hk.out.mono ?_
  rintro e w3 ⟨v, rfl, hown, hb3⟩
  clear hk
  have hfin : Hid (∃ D', DocAt w3 D' k arity (askPut m L.length l) ∧ Step w D w3 D' ∧ w3.ownsRow w.heap.size 3 1 v (idsOf m (nums 0 L) (keyRow m y)).length ((idsOf m (nums 0 L) (keyRow m y)).map intV) ∧ (∀ j, v.ownBlock = some j → ¬ D' j)) :=
    ⟨D', HD.out.frame fun j hj => hb3.block j (HD.out.lt hj), ⟨HS.out.1.trans (KeptBut.of_below (M := D) hb3) (fun b hb => .inr hb), HS.out.2⟩, by
      refine ⟨hown.1, ?_⟩
      rcases hown.2 with h | ⟨g, cap, cur, h1, h2, h3⟩
      · exact .inl h
      · exact .inr ⟨g, cap, cur, h1, by omega, h3⟩, fun j hj hd => by
      have h1 := (hown.lt j hj).1
      have h2 := HD.out.lt hd
      omega⟩
  clear hown hb3 hz9 HD HS
  go_wp2_with fail
  exact bodyPost_ret (v := .tuple #[v, .int .i64 0]) (by simp [results, Tryz.results60, go_sem]) rfl ⟨v, hfin.out.imp fun D' h => ⟨rfl, h⟩⟩
set_option maxHeartbeats 1000000 in
set_option maxRecDepth 100000 in
theorem docm_count {w : World} {D : Nat → Prop} {k arity : Nat} {l : List (Nat × Nat)} (h : DocAt w D k arity l) (ha : arity ≤ 24) {m : Nat} (hm : m < 4294967296) (hgood : ∀ i, arity ≤ i → i < 32 → m.testBit i = false)
    (hL : l.length ≤ 4194304) {lv : Value} {L : List (List Int)} (hn : L.length ≤ 1048576) (hl : ∀ w', KeptBut D w w' → SlRows w' lv L) {y : List Int} (hy : RowOk y) :
    Calls Tryz.prog 62 #[.pointer (some ⟨k, 0, none⟩), lv, .int .u32 (m : Int), rowV y] w fun e w' => e = .returned (.tuple #[.int .i64 ((idsOf m (nums 0 L) (keyRow m y)).length : Int), .int .i64 0]) ∧
      ∃ D', DocAt w' D' k arity (askPut m L.length l) ∧ Step w D w' D' := by
  obtain ⟨ad, cap, rfl, _⟩ := hl w (KeptBut.refl _ _)
  have hyl := hy.1
  have hsz : (Tryz.prog.info? 64).map (·.size) = some (List.map symV y).toArray.size := by rw [infoRow]; simp [hyl]
  have hlt := Lib.hid (fun j (hj : D j) => h.lt hj)
  have hb1 := (Below.refl w.heap.size w).alloc (Nat.le_refl _) (.cells (y.map symV).toArray 64)
  have hX := heap_alloc_new w (.cells (y.map symV).toArray 64)
  have hD1 := h.frame (w' := w.alloc (.cells (y.map symV).toArray 64)) (fun j hj => hb1.block j (h.lt hj))
  have hask := Lib.hid (docm_ask hD1 ha hm hgood hL (r := ad) (n := L.length) (rc := cap))
  have HL := Lib.hid hl
  have hX1 := (Array.getElem?_eq_some_iff.1 hX).1
  replace hX := Lib.hid hX
  replace hb1 := Lib.hid hb1
  clear hl hgood h hD1
  go_enter Tryz.func62, Tryz.ntmps62
  go_wp2_with fail
  generalize w.alloc (.cells (y.map symV).toArray 64) = w1 at *
  refine hask.out.mono ?_
  rintro e w2 ⟨rfl, D', hD, hS⟩
  have hS2 : Step w D w2 D' := ⟨(KeptBut.of_below (M := D) hb1.out).trans hS.1 (fun b hb => .inr hb), fun j hj => (hS.2 j hj).imp id fun h => Nat.le_trans hb1.out.size h⟩
  have hz9 : w2.heap[w.heap.size]? = some (.cells (y.map symV).toArray 64 (0, 0)) := (hS.1.block w.heap.size hX1 (fun hd => Nat.lt_irrefl _ (hlt.out _ hd))).trans hX.out
  have hk := Lib.hid (find_calls (HL.out w2 hS2.1) hn hm hy)
  have HD := Lib.hid hD
  have HS := Lib.hid hS2
  clear hask HL hD hS hS2 hX hb1 hX1 hlt
  go_wp2_with (refine wpList_load_row rfl 64 _ rfl w.heap.size rfl 64 _ (0, 0) _ hz9 Tryz.underlying64 rfl hsz ?_)
  refine hk.out.mono ?_
  rintro e w3 ⟨v, rfl, hown, hb3⟩
  clear hk
  have hfin : Hid (∃ D', DocAt w3 D' k arity (askPut m L.length l) ∧ Step w D w3 D') :=
    ⟨D', HD.out.frame fun j hj => hb3.block j (HD.out.lt hj), ⟨HS.out.1.trans (KeptBut.of_below (M := D) hb3) (fun b hb => .inr hb), HS.out.2⟩⟩
  obtain ⟨a', c', rfl⟩ := own_slice hown
  clear hown hb3 hz9 HD HS
  go_wp2_with fail
  exact bodyPost_ret (v := .tuple #[.int .i64 ((idsOf m (nums 0 L) (keyRow m y)).length : Int), .int .i64 0]) (by simp [results, Tryz.results62, go_sem]) rfl ⟨rfl, hfin.out⟩
end Go.Proofs.YtckhkfchgcdajaaGreatDoor

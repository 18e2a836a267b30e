import Derived.Test.YtckhkfchgcdajaaGreatDoorYJxT3
namespace Go.Proofs.YtckhkfchgcdajaaGreatDoor
open Go.Fx Go.RowKit Go.Maps Go.Sort
theorem askedV_set : ∀ (C : List (Nat × Nat)) (i x y : Nat), askedV (C.set i (x, y)) = ((askedV C).set (i * 2) (encU x)).set (i * 2 + 1) (.int .i64 (y : Int))
  | [], i, x, y => by simp [askedV]
  | p :: C, 0, x, y => rfl
  | p :: C, i + 1, x, y => by
    rw [show (i + 1) * 2 = i * 2 + 1 + 1 by omega]
    simp [askedV, askedV_set C i x y]
def RowAt (w : World) (g cap : Nat) (C : List (Nat × Nat)) : Prop := ∃ cur, w.heap[g]? = some (.cells cur 323 (0, 0)) ∧ cur.size = cap * 2 ∧ cur.toList.take (C.length * 2) = askedV C
theorem RowAt.frozen {w : World} {g cap : Nat} {C : List (Nat × Nat)} (h : RowAt w g cap C) (i : Nat) : w.frozen? ⟨g, i, none⟩ = false := by
  obtain ⟨cur, h1, _⟩ := h
  simp [World.frozen?, h1]
theorem RowAt.cells {w : World} {g cap : Nat} {C : List (Nat × Nat)} (h : RowAt w g cap C) {i : Nat} (hi : i < C.length) :
    w.cell? ⟨g, i * 2, none⟩ = some (.int .u32 ((C.getD i (0, 0)).1 : Int)) ∧ w.cell? ⟨g, i * 2 + 1, none⟩ = some (.int .i64 ((C.getD i (0, 0)).2 : Int)) := by
  obtain ⟨cur, hb, _, hx⟩ := h
  have h2 := askedV_get C i hi
  rw [← hx, List.getElem?_take, List.getElem?_take, if_pos (by omega), if_pos (by omega), Array.getElem?_toList, Array.getElem?_toList] at h2
  exact ⟨by simp only [World.cell?, hb]; exact h2.1, by simp only [World.cell?, hb]; exact h2.2⟩
theorem RowAt.set {w : World} {g cap : Nat} {C : List (Nat × Nat)} (h : RowAt w g cap C) (i x y : Nat) :
    RowAt ((w.setCell ⟨g, i * 2, none⟩ (.int .u32 (x : Int))).setCell ⟨g, i * 2 + 1, none⟩ (.int .i64 (y : Int))) g cap (C.set i (x, y)) := by
  obtain ⟨cur, hb, hs, hx⟩ := h
  refine ⟨(cur.setIfInBounds (i * 2) (encU x)).setIfInBounds (i * 2 + 1) (.int .i64 (y : Int)), ?_, by simpa using hs, ?_⟩
  · simp [World.setCell, Array.getElem?_modify, hb]
  · rw [List.length_set, askedV_set, ← hx]
    simp [List.take_set]
theorem RowAt.own {w : World} {g cap : Nat} {C : List (Nat × Nat)} (h : RowAt w g cap C) (hc : C.length ≤ cap) (hm : cap ≤ maxLen) : w.ownsRow 0 323 2 (.slice (some ⟨g, 0, none⟩) C.length cap) C.length (askedV C) := by
  obtain ⟨cur, hb, hs, hx⟩ := h
  exact ⟨askedV_len C, .inr ⟨g, cap, cur, rfl, Nat.zero_le _, hb, hc, hm, hs, hx⟩⟩
theorem RowAt.of {w : World} {g cap B : Nat} {C : List (Nat × Nat)} (h : w.ownsRow B 323 2 (.slice (some ⟨g, 0, none⟩) C.length cap) C.length (askedV C)) : RowAt w g cap C ∧ C.length ≤ cap ∧ cap ≤ maxLen := by
  obtain ⟨_, ⟨hv, _⟩ | ⟨g', cap', cur, hv, _, hb, h1, h2, h3, h4⟩⟩ := h
  · cases hv
  · injection hv with ha _ hc
    injection ha with ha
    injection ha with ha
    subst ha; subst hc
    exact ⟨⟨cur, hb, h3, h4⟩, h1, h2⟩
def shiftC (l : List (Nat × Nat)) (k : Nat) : List (Nat × Nat) := (l ++ [(0, 0)]).take (k + 1) ++ l.drop k
theorem shiftC_length {l : List (Nat × Nat)} {k : Nat} (hk : k ≤ l.length) : (shiftC l k).length = l.length + 1 := by
  unfold shiftC
  rw [List.length_append, List.length_take, List.length_append, List.length_singleton, List.length_drop]
  omega
theorem shiftC_get {l : List (Nat × Nat)} {k : Nat} (hk : k ≤ l.length) (i : Nat) : (shiftC l k)[i]? = if i ≤ k then (l ++ [(0, 0)])[i]? else l[i - 1]? := by
  unfold shiftC
  rw [List.getElem?_append, List.length_take, List.length_append, List.length_singleton, Nat.min_eq_left (by omega)]
  by_cases h : i < k + 1
  · rw [if_pos h, if_pos (by omega), List.getElem?_take, if_pos h]
  · rw [if_neg h, if_neg (by omega), List.getElem?_drop]
    congr 1
    omega
theorem shiftC_all (l : List (Nat × Nat)) : shiftC l l.length = l ++ [(0, 0)] := by
  unfold shiftC
  rw [List.drop_length, List.append_nil, List.take_of_length_le (by simp)]
theorem shiftC_step {l : List (Nat × Nat)} {k : Nat} (h0 : 1 ≤ k) (hk : k ≤ l.length) : (shiftC l k).set k ((shiftC l k).getD (k - 1) (0, 0)) = shiftC l (k - 1) := by
  have hg : (shiftC l k).getD (k - 1) (0, 0) = l.getD (k - 1) (0, 0) := by
    rw [List.getD_eq_getElem?_getD, List.getD_eq_getElem?_getD, shiftC_get hk, if_pos (by omega), List.getElem?_append, if_pos (by omega)]
  rw [hg]
  apply List.ext_getElem?
  intro i
  rw [List.getElem?_set, shiftC_get hk, shiftC_get (by omega), shiftC_length hk]
  by_cases hi : k = i
  · subst hi
    rw [if_pos rfl, if_pos (by omega), if_neg (by omega), List.getD_eq_getElem?_getD, List.getElem?_eq_getElem (by omega : k - 1 < l.length), Option.getD_some]
  · rw [if_neg hi]
    by_cases h : i ≤ k - 1
    · rw [if_pos (by omega), if_pos h]
    · rw [if_neg (by omega), if_neg h]
theorem shiftC_end {l : List (Nat × Nat)} {k m n : Nat} (hk : k ≤ l.length) : (shiftC l k).set k (m, n) = l.take k ++ (m, n) :: l.drop k := by
  apply List.ext_getElem?
  intro i
  rw [List.getElem?_set, shiftC_get hk, shiftC_length hk, List.getElem?_append (l₁ := l.take k), List.length_take, Nat.min_eq_left hk]
  by_cases hi : k = i
  · subst hi
    rw [if_pos rfl, if_pos (by omega), if_neg (by omega), Nat.sub_self]
    rfl
  · rw [if_neg hi]
    by_cases h : i < k
    · rw [if_pos (by omega), if_pos h, List.getElem?_append, if_pos (by omega), List.getElem?_take, if_pos h]
    · rw [if_neg (by omega), if_neg h, show i - k = (i - 1 - k) + 1 by omega, List.getElem?_cons_succ, List.getElem?_drop]
      congr 1
      omega
theorem askedV_snoc (p : Nat × Nat) : ∀ l, askedV (l ++ [p]) = askedV l ++ [encU p.1, .int .i64 (p.2 : Int)]
  | [] => rfl
  | q :: l => by simp only [List.cons_append, askedV, askedV_snoc p l]
theorem info234 : (Tryz.prog.info? 323).map (fun i => (i.zero, i.size, i.bytes)) = some (some (.agg #[.int .u32 0, .int .i64 0]), 2, 16) := by kernel_rfl
def MidAsk (w : World) (D : Nat → Prop) (k arity at_ m n : Nat) (l : List (Nat × Nat)) (wx : World) : Prop :=
  ∃ C g cap, wx.heap[k]? = some (.cells #[.bool true, .int .i64 (arity : Int), .slice (some ⟨g, 0, none⟩) (C.length : Nat) cap] 113 (0, 0)) ∧ RowAt wx g cap C ∧ C.length ≤ cap ∧ cap ≤ maxLen ∧ g ≠ k ∧ at_ < C.length ∧
    C.set at_ (m, n) = askPut m n l ∧ KeptBut D w wx ∧ (D g ∨ w.heap.size ≤ g) ∧ D k
set_option maxRecDepth 100000 in
theorem docm_ask {w : World} {D : Nat → Prop} {k arity : Nat} {l : List (Nat × Nat)} (h : DocAt w D k arity l) (ha : arity ≤ 24) {m : Nat} (hm : m < 4294967296) (hgood : ∀ i, arity ≤ i → i < 32 → m.testBit i = false)
    (hL : l.length ≤ 4194304) {r : Option Addr} {n rc : Nat} :
    Calls Tryz.prog 169 #[.pointer (some ⟨k, 0, none⟩), .slice r n rc, .int .u32 (m : Int)] w fun e w' => e = .returned (.int .i64 0) ∧ ∃ D', DocAt w' D' k arity (askPut m n l) ∧ Step w D w' D' := by
  have hD := Lib.hid h
  obtain ⟨v, h1, h2, h3, rfl⟩ := h
  obtain ⟨a, c, rfl⟩ := own_slice h2
  have c0 : w.cell? ⟨k, 0, none⟩ = some (.bool true) := by simp [World.cell?, h1]
  have c1 : w.cell? ⟨k, 1, none⟩ = some (.int .i64 (arity : Int)) := by simp [World.cell?, h1]
  have c2 : w.cell? ⟨k, 2, none⟩ = some (.slice a l.length c) := by simp [World.cell?, h1]
  have H1 := Lib.hid h1
  have H2 := Lib.hid h2
  have H3 := Lib.hid h3
  have HB := Lib.hid hgood
  clear h1 h2 h3 hgood
  go_enter Tryz.func169, Tryz.ntmps169
  go_wp2_with fail
  go_loopg [7] 32 (fun n s7 wr => ∃ i : Nat, s7 = .int .i64 (i : Int) ∧ arity ≤ i ∧ i ≤ 32 ∧ 32 - i ≤ n ∧ wr = w)
  case atStart => exact ⟨arity, rfl, Nat.le_refl _, by omega, by omega, rfl⟩
  obtain ⟨i, rfl, hi1, hi2, hn, rfl⟩ := hrel
  by_cases hi : i < 32
  case pos =>
    have hz : (i : Int) < 32 := by omega
    have hb := HB.out i hi1 hi
    go_wp2_with fail
    refine (is_calls' hm hi).mono ?_
    rintro e w2 ⟨rfl, hw⟩
    rw [hw]
    clear hw w2
    go_wp2_with fail
    go_roundg (32 - (i + 1))
    case measure => omega
    case rel => exact ⟨i + 1, by go_num, by omega, by omega, Nat.le_refl _, rfl⟩
  obtain rfl : i = 32 := by omega
  have hz : ¬ ((32 : Nat) : Int) < 32 := by omega
  clear hi1 hi2 hn hi
  go_wp2_with fail
  go_loopg [8] l.length (fun n s8 w' => ∃ i : Nat, s8 = .int .i64 (i : Int) ∧ i ≤ atOf m l ∧ l.length - i ≤ n ∧ w' = wr)
  case atStart => exact ⟨0, rfl, Nat.zero_le _, by omega, rfl⟩
  obtain ⟨i, rfl, hi, hn, rfl⟩ := hrel
  have hal := atOf_le m l
  go_upto_region 9 with fail
  go_cut [44] from 26 to 46 (fun s wx => s = .bool (decide (i < atOf m l)) ∧ wx = wr)
  case first =>
    by_cases hil : i < l.length
    · have hz : (i : Int) < (l.length : Int) := by omega
      obtain ⟨g, rfl, d0, d1⟩ := asked_cells H2.out hil
      clear d1
      by_cases hlt : (l.getD i (0, 0)).1 < m
      · have := atOf_lt m l i hi hil hlt
        generalize (l.getD i (0, 0)).1 = x at *
        have hlz : (x : Int) < (m : Int) := by omega
        go_wp2_with fail
        go_meet
        exact ⟨by simp [this], rfl⟩
      · have : ¬ i < atOf m l := fun h => hlt (atOf_ge m l i h)
        generalize (l.getD i (0, 0)).1 = x at *
        have hlz : ¬ (x : Int) < (m : Int) := by omega
        go_wp2_with fail
        go_meet
        exact ⟨by simp [this], rfl⟩
    · have hz : ¬ (i : Int) < (l.length : Int) := by omega
      have : ¬ i < atOf m l := by omega
      go_wp2_with fail
      go_meet
      exact ⟨by simp [this], rfl⟩
  obtain ⟨rfl, rfl⟩ := hcut
  by_cases hia : i < atOf m l
  · rw [decide_eq_true hia]
    go_wp2_with fail
    go_roundg (l.length - (i + 1))
    case measure => omega
    case rel => exact ⟨i + 1, by go_num, by omega, Nat.le_refl _, rfl⟩
  obtain rfl : i = atOf m l := by omega
  rw [decide_eq_false hia]
  clear hia hi hn
  generalize hat : atOf m l = at_ at *
  go_upto_region 11 with fail
  go_cut [65] from 26 to 110 (fun s wx => s = .bool (!decide (at_ < l.length ∧ (l.getD at_ (0, 0)).1 = m)) ∧ wx = wc)
  case first =>
    by_cases hil : at_ < l.length
    · have hz : ¬ (at_ : Int) = (l.length : Int) := by omega
      obtain ⟨g, rfl, d0, d1⟩ := asked_cells H2.out hil
      clear d1
      generalize (l.getD at_ (0, 0)).1 = x at *
      by_cases hlt : x = m
      · have hlz : (x : Int) = (m : Int) := by omega
        go_wp2_with fail
        go_meet
        exact ⟨by simp [hil, hlt], rfl⟩
      · have hlz : ¬ (x : Int) = (m : Int) := by omega
        go_wp2_with fail
        go_meet
        exact ⟨by simp [hil, hlt], rfl⟩
    · have hz : (at_ : Int) = (l.length : Int) := by omega
      go_wp2_with fail
      go_meet
      exact ⟨by simp [hil], rfl⟩
  obtain ⟨rfl, rfl⟩ := hcut
  generalize hDD : (fun j => j = k ∨ (Value.slice a l.length c).ownBlock = some j) = D at *
  generalize hB : (!decide (at_ < l.length ∧ (l.getD at_ (0, 0)).1 = m)) = B
  go_upto_if 65 with fail
  go_cut [9] from 66 to 110 (fun _ wx => MidAsk wc D k arity at_ m n l wx)
  case first =>
    cases B
    · have hfound : at_ < l.length ∧ (l.getD at_ (0, 0)).1 = m := by simpa using hB
      clear hB
      obtain ⟨g, rfl, d0, d1⟩ := asked_cells H2.out hfound.1
      clear d0 d1
      have ho := RowAt.of H2.out
      have hput : l.set at_ (m, n) = askPut m n l := by
        rw [askPut_at, hat, if_pos ⟨hfound.2, hfound.1⟩, List.set_eq_take_append_cons_drop, if_pos hfound.1]
      have hgk : g ≠ k := fun e => H3.out (by rw [e]; rfl)
      have HM : Hid (MidAsk wc D k arity at_ m n l wc) := ⟨l, g, c, H1.out, ho.1, ho.2.1, ho.2.2, hgk, hfound.1, hput, KeptBut.refl _ _, .inl (by rw [← hDD]; exact .inr rfl), by rw [← hDD]; exact .inl rfl⟩
      clear ho hput hgk hfound
      go_wp2_with fail
      go_meet
      exact HM.out
    · have hfound : ¬ (at_ < l.length ∧ (l.getD at_ (0, 0)).1 = m) := fun h => by rw [decide_eq_true h] at hB; cases hB
      clear hB
      have hput : (shiftC l at_).set at_ (m, n) = askPut m n l := by
        rw [shiftC_end hal, askPut_at, hat, if_neg (fun h => hfound ⟨h.2, h.1⟩)]
      clear hfound
      have hkw := (Array.getElem?_eq_some_iff.1 H1.out).1
      obtain ⟨i0, hi0, hz0, hz1, hz2⟩ := info_parts info234
      go_wp2_with (at_builtin; refine stop_at ?_)
      unfold Stop
      refine wpList_append_own_at _ rfl _ _ 111 rfl 0 323 i0 (.agg #[.int .u32 0, .int .i64 0]) 2 16 Tryz.underlying111 hi0 hz0 hz1 hz2 rfl (by decide) (.slice a l.length c) l.length (askedV l) rfl (H2.out.alloc _) ⟨wc.heap.size, 0, none⟩ 1 1 [.int .u32 0, .int .i64 0] rfl rfl (World.news_of_block (cs := #[.int .u32 0, .int .i64 0]) (t := 323) (fr := (0, 0)) (heap_alloc_new wc _)) (by simp [Value.oneCell']) (by unfold maxLen; omega) (by omega) (Nat.zero_le _) ?_
      intro v' w2 hown2 hgrow2 hnil2 hat2
      obtain ⟨g, cap, cur, rfl, _, hgb, hr1, hr2, hr3, hr4⟩ : ∃ g cap cur, v' = .slice (some ⟨g, 0, none⟩) (l.length + 1) cap ∧ 0 ≤ g ∧ w2.heap[g]? = some (.cells cur 323 (0, 0)) ∧ l.length + 1 ≤ cap ∧ cap ≤ maxLen ∧ cur.size = cap * 2 ∧
          cur.toList.take ((l.length + 1) * 2) = askedV l ++ [.int .u32 0, .int .i64 0] := by
        rcases hown2.2 with ⟨_, h0⟩ | h'
        · omega
        · exact h'
      have hk2 : w2.heap[k]? = some (.cells #[.bool true, .int .i64 (arity : Int), .slice a l.length c] 113 (0, 0)) :=
        (hgrow2.block k (by rw [alloc_size]; omega) (fun e => H3.out e.symm)).trans ((((Below.refl _ wc).alloc (Nat.le_refl _) _).block k hkw).trans H1.out)
      have hgk : g ≠ k := by
        rintro rfl
        rcases hat2 with h | h
        · exact H3.out h.symm
        · have h2 : g = _ := Option.some.inj h
          rw [alloc_size] at h2
          omega
      have hgD : D g ∨ wc.heap.size ≤ g := by
        rcases hat2 with h | h
        · exact .inl (by rw [← hDD]; exact .inr h.symm)
        · have h2 : g = _ := Option.some.inj h
          rw [alloc_size] at h2
          exact .inr (by omega)
      have hDk : D k := by rw [← hDD]; exact .inl rfl
      have ck : w2.cell? ⟨k, 2, none⟩ = some (.slice a l.length c) := by simp [World.cell?, hk2]
      have fk : w2.frozen? ⟨k, 2, none⟩ = false := by simp [World.frozen?, hk2]
      obtain ⟨w3, hw3⟩ : ∃ w3, w3 = w2.setCell ⟨k, 2, none⟩ (.slice (some ⟨g, 0, none⟩) (l.length + 1) cap) := ⟨_, rfl⟩
      have hk3 : w3.heap[k]? = some (.cells #[.bool true, .int .i64 (arity : Int), .slice (some ⟨g, 0, none⟩) (l.length + 1) cap] 113 (0, 0)) := by
        rw [hw3]
        simp [World.setCell, Array.getElem?_modify, hk2]
      have hg3 : w3.heap[g]? = some (.cells cur 323 (0, 0)) := by rw [hw3, Below.heap_setCell _ _ _ _ hgk]; exact hgb
      have hkept : KeptBut D wc w3 := ⟨by rw [hw3]; exact hgrow2.os, by rw [hw3]; exact hgrow2.tape, by rw [hw3]; exact hgrow2.output, by
        have := hgrow2.size
        rw [alloc_size] at this
        rw [hw3]
        simp only [World.setCell, Array.size_modify]
        omega, fun i hi hn => by
        rw [hw3, Below.heap_setCell _ _ _ _ (fun e => hn (by rw [e]; exact hDk)), hgrow2.block i (by rw [alloc_size]; omega) (fun e => hn (by rw [← hDD]; exact .inr e.symm))]
        exact ((Below.refl _ wc).alloc (Nat.le_refl _) _).block i hi⟩
      have hR3 : RowAt w3 g cap (shiftC l l.length) := ⟨cur, hg3, hr3, by rw [shiftC_all, askedV_snoc, List.length_append]; exact hr4⟩
      have hkw3 := (Array.getElem?_eq_some_iff.1 hk3).1
      replace hR3 := Lib.hid hR3
      replace hkept := Lib.hid hkept
      replace hw3 := Lib.hid hw3
      replace hk3 := Lib.hid hk3
      replace hput := Lib.hid hput
      clear hown2 hgrow2 hnil2 hat2 hgb hr3 hr4 hk2 hg3 c0 c1 c2 hD H1 H2 hkw hi0 hz0 hz1 hz2
      go_wp2_with fail
      go_loopg [9] l.length (fun n s9 wr => ∃ j : Nat, s9 = .int .i64 (j : Int) ∧ at_ ≤ j ∧ j ≤ l.length ∧ j ≤ n ∧ Hid (RowAt wr g cap (shiftC l j)) ∧ Hid (KeptBut (fun i => i = g) w3 wr))
      case atStart => exact ⟨l.length, by go_num, hal, Nat.le_refl _, Nat.le_refl _, by rw [← hw3.out]; exact hR3, by rw [← hw3.out]; exact KeptBut.refl _ _⟩
      clear ck fk
      obtain ⟨j, rfl, hj1, hj2, hjn, HR, HKb⟩ := hrel
      have hkr : wr.heap[k]? = some (.cells #[.bool true, .int .i64 (arity : Int), .slice (some ⟨g, 0, none⟩) (l.length + 1) cap] 113 (0, 0)) := (HKb.out.block k hkw3 (fun e => hgk e.symm)).trans hk3.out
      have ck : wr.cell? ⟨k, 2, none⟩ = some (.slice (some ⟨g, 0, none⟩) (l.length + 1) cap) := by simp [World.cell?, hkr]
      replace hkr := Lib.hid hkr
      by_cases hja : at_ < j
      · have hz : (at_ : Int) < (j : Int) := by omega
        obtain ⟨d0, d1⟩ := HR.out.cells (i := j - 1) (by rw [shiftC_length hj2]; omega)
        obtain ⟨e0, e1⟩ := HR.out.cells (i := j) (by rw [shiftC_length hj2]; omega)
        have f0 := HR.out.frozen (j * 2)
        have f1 := HR.out.frozen (j * 2 + 1)
        have hst := Lib.hid (shiftC_step (l := l) (k := j) (by omega) hj2)
        obtain ⟨x, y, hxy⟩ : ∃ x y, (shiftC l j).getD (j - 1) (0, 0) = (x, y) := ⟨_, _, rfl⟩
        rw [hxy] at d0 d1
        have hst2 : Hid ((shiftC l j).set j (x, y) = shiftC l (j - 1)) := by rw [← hxy]; exact hst.out
        clear hxy hst
        generalize (shiftC l j).getD j (0, 0) = z at *
        have hw : Hid (RowAt ((wr.setCell ⟨g, j * 2, none⟩ (.int .u32 (x : Int))).setCell ⟨g, j * 2 + 1, none⟩ (.int .i64 (y : Int))).drew g cap (shiftC l (j - 1))) := by
          have := HR.out.set j x y
          rw [hst2.out] at this
          exact this
        have hkb : Hid (KeptBut (fun i => i = g) w3 ((wr.setCell ⟨g, j * 2, none⟩ (.int .u32 (x : Int))).setCell ⟨g, j * 2 + 1, none⟩ (.int .i64 (y : Int))).drew) := ⟨HKb.out.os, HKb.out.tape, HKb.out.output, by
            have := HKb.out.size
            simpa [World.setCell, World.drew] using this, fun i hi hne => by
            show ((wr.setCell ⟨g, j * 2, none⟩ (.int .u32 (x : Int))).setCell ⟨g, j * 2 + 1, none⟩ (.int .i64 (y : Int))).heap[i]? = _
            rw [Below.heap_setCell _ _ _ _ hne, Below.heap_setCell _ _ _ _ hne]
            exact HKb.out.block i hi hne⟩
        clear hst2 HR HKb hkr
        go_upto_region 16 with fail
        go_region
        all_goals go_wp2
        go_roundg (j - 1)
        case measure => omega
        case rel => exact ⟨j - 1, by congr 1; omega, by omega, by omega, Nat.le_refl _, hw, hkb⟩
      · obtain rfl : j = at_ := by omega
        have hz : ¬ (j : Int) < (j : Int) := by omega
        have hM : Hid (MidAsk wc D k arity j m n l wr) := ⟨shiftC l j, g, cap, by rw [shiftC_length hj2]; exact hkr.out, HR.out, by rw [shiftC_length hj2]; exact hr1, hr2, hgk, by rw [shiftC_length hj2]; omega, hput.out,
          hkept.out.trans HKb.out (fun b hb => by
            have hb : b = g := hb
            rw [hb]
            exact hgD.symm), hgD, hDk⟩
        go_wp2_with fail
        go_meet
        exact hM.out
  clear hB c0 c1 c2 hD H1 H2 H3 HB
  obtain ⟨C, g, cap, hk, hR, hc1, hc2, hgk, hat2, hput, hkept, hg, hDk⟩ := hcut
  have c2 : wc.cell? ⟨k, 2, none⟩ = some (.slice (some ⟨g, 0, none⟩) C.length cap) := by simp [World.cell?, hk]
  obtain ⟨d0, d1⟩ := hR.cells hat2
  have f0 := hR.frozen (at_ * 2)
  have f1 := hR.frozen (at_ * 2 + 1)
  obtain ⟨wz, hwz⟩ : ∃ wz, wz = (wc.setCell ⟨g, at_ * 2, none⟩ (.int .u32 (m : Int))).setCell ⟨g, at_ * 2 + 1, none⟩ (.int .i64 (n : Int)) := ⟨_, rfl⟩
  have hz := hR.set at_ m n
  have hb : ∀ j, j ≠ g → wz.heap[j]? = wc.heap[j]? := fun j hj => by
    rw [hwz, Below.heap_setCell _ _ _ _ hj, Below.heap_setCell _ _ _ _ hj]
  have hkb : KeptBut (fun j => j = g) wc wz := ⟨by rw [hwz]; rfl, by rw [hwz]; rfl, by rw [hwz]; rfl, by rw [hwz]; simp [World.setCell], fun j _ hne => hb j hne⟩
  rw [← hwz, hput] at hz
  have hkz := (hb k (fun e => hgk e.symm)).trans hk
  have hlen : (askPut m n l).length = C.length := by rw [← hput, List.length_set]
  have hfin : Hid (∃ D', DocAt wz D' k arity (askPut m n l) ∧ Step _ D wz D') := ⟨_, ⟨.slice (some ⟨g, 0, none⟩) C.length cap, hkz, by
      have := hz.own (by rw [hlen]; exact hc1) hc2
      rw [hlen] at this ⊢
      exact this, fun e => hgk (by simpa [Value.ownBlock] using e), rfl⟩,
    hkept.trans hkb (fun j hj => by
      have hj : j = g := hj
      rw [hj]
      exact hg.symm), fun j hj => by
    rcases hj with rfl | hj
    · exact .inl hDk
    · have : g = j := by simpa [Value.ownBlock] using hj
      rw [← this]
      exact hg⟩
  replace hwz := Lib.hid hwz
  clear hz hb hkb hkz hlen hput hkept hg hDk hk hR
  go_wp2_with fail
  refine bodyPost_ret (v := .int .i64 0) (by simp [results, Tryz.results169, go_sem]) rfl ⟨rfl, ?_⟩
  rw [← hwz.out, hDD]
  exact hfin.out
end Go.Proofs.YtckhkfchgcdajaaGreatDoor

import Derived.Test.YtckhkfchgcdajaaGreatDoorYJxG1
import Derived.Test.YtckhkfchgcdajaaGreatDoorYJxB4
import Derived.Test.YtckhkfchgcdajaaGreatDoorYJxS3
namespace Go.Proofs.YtckhkfchgcdajaaGreatDoor
open Go.Fx Go.RowKit
theorem idxOf_ne {x y : List Int} {l : List (List Int)} (h : ¬ y = x) : (y :: l).idxOf x = l.idxOf x + 1 := by
  rw [List.idxOf_cons, beq_false_of_ne h]
  rfl
theorem kvAt_idx {x : List Int} : ∀ {l : List (List Int)} (o : Nat), x ∈ l → lookKV (kvAt o l) x = some (.int .i64 ((o + l.idxOf x : Nat) : Int))
  | [], _, h => by cases h
  | y :: l, o, h => by
    by_cases e : y = x
    · subst e
      unfold lookKV
      rw [kvAt, List.find?_cons]
      simp
    · have h2 : x ∈ l := (List.mem_cons.1 h).resolve_left fun h => e h.symm
      have h3 := kvAt_idx (o + 1) h2
      unfold lookKV at h3 ⊢
      rw [kvAt, List.find?_cons]
      have : decide ((y, Value.int .i64 (o : Int)).1 = x) = false := decide_eq_false e
      rw [this]
      simp only
      rw [h3, idxOf_ne e]
      simp only [Option.some.injEq, Value.int.injEq, true_and]
      omega
theorem erase_split {x : List Int} {l : List (List Int)} (h : x ∈ l) : l.take (l.idxOf x) ++ l.drop (l.idxOf x + 1) = l.erase x := by
  induction l with
  | nil => cases h
  | cons y l ih =>
    by_cases e : y = x
    · subst e
      simp
    · have h2 : x ∈ l := (List.mem_cons.1 h).resolve_left fun h => e h.symm
      rw [idxOf_ne e, List.erase_cons_tail (by simpa using e)]
      simp [ih h2]
set_option maxRecDepth 100000 in
set_option maxHeartbeats 4000000 in
theorem take_not {w : World} {b pb mb : Nat} {lv : Value} {arity : Nat} {gone : Int} {rows : List (List Int)} (h : RelAt w b pb mb lv arity gone rows) {x : List Int} (hx : RowOk x) (hin : x ∉ rows) :
    Calls Tryz.prog 59 #[.pointer (some ⟨pb, 0, none⟩), rowV x] w fun e w' => e = .returned (.bool false) ∧ Below w.heap.size w w' := by
  have hv := kvAt_none (o := 0) hin
  go_enter Tryz.func59, Tryz.ntmps59
  go_wp2_with fail
  have hal := (MapKept.heap_alloc w (Obj.cells (List.map symV x).toArray 64)).1
  have hba : Below w.heap.size w (w.alloc (Obj.cells (List.map symV x).toArray 64)) := (Below.refl _ w).alloc (Nat.le_refl _) _
  generalize w.alloc (Obj.cells (List.map symV x).toArray 64) = wa at *
  have hbd : Below w.heap.size w wa.drew := below_drew' hba
  have p1 := (h.cells.frame hbd).p1
  have hm := h.map.frame (w' := wa.drew) (hbd.block mb h.map.lt)
  have hlook := row_look true (t := 94) Tryz.underlying94 (Tryz.zeroValue3 wa.drew) hm hx
  rw [hv] at hlook
  simp only [if_true, Option.getD_none, Option.isSome_none] at hlook
  have hald : wa.drew.heap[w.heap.size]? = some (Obj.cells (List.map symV x).toArray 64) := hal
  have hsz : (Tryz.prog.info? 64).map (·.size) = some (List.map symV x).toArray.size := by rw [infoRow]; simp [hx.1]
  refine wp_region_still_lit (by kernel_rfl) (by kernel_rfl) ?_
  change wpStill _ _ wa.drew _ _ _
  repeat (first
    | (refine wpStill_step (fun K hK => ?_); rw [if_pos (by rfl)]; refine still_load_row 64 _ rfl w.heap.size rfl 64 _ (0, 0) _ hald Tryz.underlying64 rfl hsz (hK _ ?_); clear hK K)
    | still_step)
  refine wpStill_nil ?_
  change Exit.then _ _ _ _ wa.drew
  go_wp2_with fail
  exact bodyPost_ret (v := .bool false) (by simp [results, Tryz.results59, go_sem]) rfl ⟨rfl, hbd⟩
theorem own_row_range {w : World} {base g cap n : Nat} {l : List (List Int)} (h : w.ownsRow base 64 24 (.slice (some ⟨g, 0, none⟩) n cap) n (rowsV l)) (hok : ∀ y ∈ l, y.length = 24) {k : Nat} (hk : k < l.length) : w.rangeAt g (k * 24) ((l[k]).map symV) := by
  obtain ⟨_, ⟨e, _⟩ | ⟨g', cap', cur, e, _, hg, _, _, _, htk⟩⟩ := h
  · cases e
  · injection e with e1 _ e2
    injection e1 with e1
    injection e1 with e1
    subst e1
    intro j v hj
    have hj2 : j < 24 := by
      have := (List.getElem?_eq_some_iff.1 hj).1
      rwa [List.length_map, hok _ (List.getElem_mem hk)] at this
    have hfl := flatten_at l k j hok hj2
    rw [List.getElem?_eq_getElem hk, Option.bind_some] at hfl
    rw [List.getElem?_map] at hj
    obtain ⟨m, hm1, rfl⟩ := Option.map_eq_some_iff.1 hj
    rw [hm1] at hfl
    have h1 : (rowsV l)[k * 24 + j]? = some (symV m) := by rw [List.getElem?_map, hfl]; rfl
    rw [← htk, List.getElem?_take] at h1
    split at h1
    · simp only [World.cell?, hg]
      simpa using h1
    · cases h1
def TakeMid (w : World) (pb mb : Nat) (l : List (List Int)) (wx : World) : Prop := ∃ lv', wx.heap[pb]? = some (.cells #[lv', .map (some mb)] 96 (0, 0)) ∧ wx.ownsRow w.heap.size 64 24 lv' l.length (rowsV l) ∧ KeptBut (fun k => k = pb) w wx
theorem own_ge0 {w : World} {base size n : Nat} {e : TypeId} {v : Value} {xs : List Value} (h : w.ownsRow base e size v n xs) {k : Nat} (hk : v.ownBlock = some k) : base ≤ k := by
  rcases h.2 with ⟨rfl, _⟩ | ⟨g, cap, cur, rfl, hg, _⟩
  · cases hk
  · simp only [Value.ownBlock, Option.some.injEq] at hk
    exact hk ▸ hg
set_option maxRecDepth 100000 in
set_option maxHeartbeats 8000000 in
theorem take_in {w : World} {b pb mb : Nat} {lv : Value} {arity : Nat} {gone : Int} {rows : List (List Int)} (h : RelAt w b pb mb lv arity gone rows) {x : List Int} (hx : RowOk x) (hin : x ∈ rows) (hn : rows.length ≤ 1048576) {re : List (List Int)} (hre : rows.erase x = re) :
    Calls Tryz.prog 59 #[.pointer (some ⟨pb, 0, none⟩), rowV x] w fun e w' => e = .returned (.bool true) ∧ ∃ lv', RelAt w' b pb mb lv' arity gone re ∧ KeptBut (relF b pb mb lv) w w' ∧ (∀ k, relF b pb mb lv' k → relF b pb mb lv k ∨ w.heap.size ≤ k) := by
  have hv := kvAt_idx 0 hin
  have hix : rows.idxOf x < rows.length := List.idxOf_lt_length_of_mem hin
  have hes := erase_split hin
  have hel : (rows.erase x).length = rows.length - 1 := by rw [List.length_erase]; simp [hin]
  rw [hre] at hes hel
  replace hre := Lib.hid hre
  replace hes := Lib.hid hes
  generalize rows.idxOf x = i at *
  go_enter Tryz.func59, Tryz.ntmps59
  go_wp2_with fail
  have hal := (MapKept.heap_alloc w (Obj.cells (List.map symV x).toArray 64)).1
  have hba : Below w.heap.size w (w.alloc (Obj.cells (List.map symV x).toArray 64)) := (Below.refl _ w).alloc (Nat.le_refl _) _
  generalize w.alloc (Obj.cells (List.map symV x).toArray 64) = wa at *
  have hbd : Below w.heap.size w wa.drew := below_drew' hba
  have p1 := (h.cells.frame hbd).p1
  have hm := h.map.frame (w' := wa.drew) (hbd.block mb h.map.lt)
  have hlook := row_look true (t := 94) Tryz.underlying94 (Tryz.zeroValue3 wa.drew) hm hx
  rw [hv] at hlook
  simp only [if_true, Option.getD_some, Option.isSome_some, Nat.zero_add] at hlook
  have hald : wa.drew.heap[w.heap.size]? = some (Obj.cells (List.map symV x).toArray 64) := hal
  have hsz : (Tryz.prog.info? 64).map (·.size) = some (List.map symV x).toArray.size := by rw [infoRow]; simp [hx.1]
  refine wp_region_still_lit (by kernel_rfl) (by kernel_rfl) ?_
  change wpStill _ _ wa.drew _ _ _
  repeat (first
    | (refine wpStill_step (fun K hK => ?_); rw [if_pos (by rfl)]; refine still_load_row 64 _ rfl w.heap.size rfl 64 _ (0, 0) _ hald Tryz.underlying64 rfl hsz (hK _ ?_); clear hK K)
    | still_step)
  refine wpStill_nil ?_
  change Exit.then _ _ _ _ wa.drew
  generalize wa.drew = w2 at *
  go_wp2_with fail
  obtain ⟨g, cap, rfl⟩ : ∃ g cap, lv = .slice (some ⟨g, 0, none⟩) rows.length cap := by
    obtain ⟨_, ⟨rfl, h0⟩ | ⟨g, cap, cur, rfl, _⟩⟩ := h.own
    · omega
    · exact ⟨_, _, rfl⟩
  have hcap : rows.length ≤ cap ∧ cap ≤ maxLen := by
    obtain ⟨_, ⟨e, h0⟩ | ⟨g, cap, cur, e, _, _, h1, h2, _⟩⟩ := h.own
    · omega
    · injection e with _ _ e; subst e; exact ⟨h1, h2⟩
  unfold maxLen at hcap
  obtain ⟨w3, hw3⟩ : ∃ w3, w3 = w2.drew := ⟨_, rfl⟩
  have hb3 : Below w.heap.size w w3 := by rw [hw3]; exact below_drew' hbd
  have q0 := (h.cells.frame hb3).p0
  have i1 : (0 : Int) ≤ (i : Int) := by omega
  have i2 : (i : Int) ≤ (cap : Int) := by omega
  have i3 : IntKind.i64.wrap ((i : Int) + 1) = (i : Int) + 1 := by rw [IntKind.wrap_i64]; omega
  have i4 : (0 : Int) ≤ (i : Int) + 1 := by omega
  have i5 : (i : Int) + 1 ≤ (rows.length : Int) := by omega
  have hlp : pb < w.heap.size := (Array.getElem?_eq_some_iff.1 h.hp).1
  have hok : ∀ y ∈ rows, y.length = 24 := fun y hy => (h.ok y hy).1
  have hfl := flatten_drop rows (i + 1) hok
  have hrc : ∀ (j : Nat) (u : Value), (rowsV rows)[j]? = some u → w3.cell? ⟨g, j, none⟩ = some u := fun j u hj => by
    obtain ⟨_, ⟨_, h0⟩ | ⟨g', cap', cur, e, _, hg, _, _, _, htk⟩⟩ := (h.below hb3).own
    · omega
    · injection e with e1 _ _
      injection e1 with e1
      injection e1 with e1
      subst e1
      rw [← htk, List.getElem?_take] at hj
      split at hj
      · simp only [World.cell?, hg]
        simpa using hj
      · cases hj
  have hrl : (rowsV rows).length = rows.length * 24 := by
    unfold rowsV
    rw [List.length_map, length_flatten rows hok]
  have hsplit : rowsV rows = rowsV (rows.take (i + 1)) ++ rowsV (rows.drop (i + 1)) := by
    unfold rowsV
    rw [← List.map_append, ← List.flatten_append, List.take_append_drop]
  have htl : ∀ n, n ≤ rows.length → (rowsV (rows.take n)).length = n * 24 := fun n hn => by
    unfold rowsV
    rw [List.length_map, length_flatten _ fun y hy => hok y (List.mem_of_mem_take hy), List.length_take]
    congr 1
    omega
  have hdl : (rowsV (rows.drop (i + 1))).length = (rows.length - (i + 1)) * 24 := by
    unfold rowsV
    rw [List.length_map, length_flatten _ fun y hy => hok y (List.mem_of_mem_drop hy), List.length_drop]
  have hone : ∀ (l : List (List Int)), ∀ u ∈ rowsV l, u.oneCell' = true := fun l u hu => by obtain ⟨m, _, rfl⟩ := List.mem_map.1 hu; rfl
  have HC : Hid (Calls Tryz.prog 168 #[.slice (some ⟨w3.heap.size, 0, none⟩) 2 2] (w3.alloc (.cells #[.slice (some ⟨g, 0, none⟩) i cap, .slice (if cap = i + 1 then some ⟨g, 0, none⟩ else some ⟨g, (i + 1) * 24, none⟩) (rows.length - (i + 1)) (cap - (i + 1))] 69)) fun e w' =>
      ∃ v, e = .returned v ∧ w'.ownsRow w.heap.size 64 24 v (re).length (rowsV (re)) ∧ Below w.heap.size w w') := by
    obtain ⟨o, ho, hov⟩ : ∃ o, (if cap = i + 1 then some (⟨g, 0, none⟩ : Addr) else some ⟨g, (i + 1) * 24, none⟩) = some ⟨g, o, none⟩ ∧ (i + 1 < rows.length → o = (i + 1) * 24) := by
      by_cases hc : cap = i + 1
      · exact ⟨0, by rw [if_pos hc], fun h => by omega⟩
      · exact ⟨_, by rw [if_neg hc], fun _ => rfl⟩
    rw [ho]
    have hb4 := hb3.alloc hb3.size (.cells #[.slice (some ⟨g, 0, none⟩) i cap, .slice (some ⟨g, o, none⟩) (rows.length - (i + 1)) (cap - (i + 1))] 69)
    have hb4' := (Below.refl w3.heap.size w3).alloc (Nat.le_refl _) (.cells #[.slice (some ⟨g, 0, none⟩) i cap, .slice (some ⟨g, o, none⟩) (rows.length - (i + 1)) (cap - (i + 1))] 69)
    have hc := concat_rows (xs := rowsV (rows.take i)) (ys := rowsV (rows.drop (i + 1))) (heap_alloc_new w3 (.cells #[.slice (some ⟨g, 0, none⟩) i cap, .slice (some ⟨g, o, none⟩) (rows.length - (i + 1)) (cap - (i + 1))] 69)) (by omega) (htl i (by omega)) hdl
      (fun j u hj => ?_) (fun j u hj => ?_) (hone _) (hone _)
    · refine Lib.hid (hc.mono ?_)
      rintro e w' ⟨v, rfl, h1, h2⟩
      have he : rowsV (rows.take i) ++ rowsV (rows.drop (i + 1)) = rowsV (re) := by
        unfold rowsV
        rw [← List.map_append, ← List.flatten_append, hes.out]
      rw [he, show i + (rows.length - (i + 1)) = (re).length by omega] at h1
      refine ⟨v, rfl, ⟨h1.1, h1.2.imp_right fun ⟨g', cap', cur, e1, e2, e3⟩ => ⟨g', cap', cur, e1, Nat.le_trans hb4.size e2, e3⟩⟩, hb4.trans (h2.mono hb4.size)⟩
    · have h1 : (rowsV rows)[j]? = some u := by
        have hj2 := (List.getElem?_eq_some_iff.1 hj).1
        have : rowsV rows = rowsV (rows.take i) ++ rowsV (rows.drop i) := by
          unfold rowsV
          rw [← List.map_append, ← List.flatten_append, List.take_append_drop]
        rw [this, List.getElem?_append_left hj2]
        exact hj
      have h2 := hrc j u h1
      rw [Nat.zero_add]
      exact (hb4'.cell (p := ⟨g, j, none⟩) (World.block_lt_of_cell? _ _ h2)).trans h2
    · have h1 : (rowsV rows)[(i + 1) * 24 + j]? = some u := by
        rw [hsplit, List.getElem?_append_right (by rw [htl _ (by omega)]; omega), htl _ (by omega), Nat.add_sub_cancel_left]
        exact hj
      have h2 := hrc _ u h1
      have hjl := (List.getElem?_eq_some_iff.1 hj).1
      rw [hdl] at hjl
      obtain rfl := hov (by omega)
      exact (hb4'.cell (p := ⟨g, (i + 1) * 24 + j, none⟩) (World.block_lt_of_cell? _ _ h2)).trans h2
  have HP := Lib.hid h.hp
  have HE := Lib.hid (And.intro h (And.intro hes hel))
  clear hrc hrl hsplit htl hdl hone hfl hok hlook hm hald hal hba p1 hbd h hes hel
  replace hw3 := Lib.hid hw3
  go_cut [5] from 20 (fun s5 wx => s5 = .int .i64 (i : Int) ∧ TakeMid w pb mb (re) wx)
  case first =>
    refine wp_region_any (by kernel_rfl) ?_
    change wpAny _ _ _ _ _ _ _ (World.drew _)
    rw [← hw3.out]
    refine wpAny_take (i := 0) (v := ?_) rfl (by kernel_rfl) (by kernel_rfl) (by kernel_rfl) (fun _ _ _ h => h) (Or.inl ⟨by rfl, ?_⟩) ?_
    rotate_left
    · intro w; go_simp; try with_reducible rfl
    refine wpAny_take (i := 1) (v := ?_) rfl (by kernel_rfl) (by kernel_rfl) (by kernel_rfl) (fun _ _ _ h => h) (Or.inl ⟨by rfl, ?_⟩) ?_
    rotate_left
    · intro w; go_simp; try with_reducible rfl
    refine wpAny_take (i := 2) (v := ?_) rfl (by kernel_rfl) (by kernel_rfl) (by kernel_rfl) (fun _ _ _ h => h) (Or.inl ⟨by rfl, ?_⟩) ?_
    rotate_left
    · intro w; go_simp; try with_reducible rfl
    refine wpAny_take (i := 3) (v := ?_) rfl (by kernel_rfl) (by kernel_rfl) (by kernel_rfl) (fun _ _ _ h => h) (Or.inl ⟨by rfl, ?_⟩) ?_
    rotate_left
    · intro w; go_simp; try with_reducible rfl
    refine wpAny_take (i := 5) (v := ?_) rfl (by kernel_rfl) (by kernel_rfl) (by kernel_rfl) (fun _ _ _ h => h) (Or.inl ⟨by rfl, ?_⟩) ?_
    rotate_left
    · intro w; go_simp; try with_reducible rfl
    refine wpAny_take (i := 7) (v := ?_) rfl (by kernel_rfl) (by kernel_rfl) (by kernel_rfl) (fun _ _ _ h => h) (Or.inl ⟨by rfl, ?_⟩) ?_
    rotate_left
    · intro w; go_simp; try with_reducible rfl
    refine wpAny_take (i := 8) (v := ?_) rfl (by kernel_rfl) (by kernel_rfl) (by kernel_rfl) (fun _ _ _ h => h) (Or.inl ⟨by rfl, ?_⟩) ?_
    rotate_left
    · intro w; go_simp; try with_reducible rfl
    refine wpAny_take (i := 9) (v := ?_) rfl (by kernel_rfl) (by kernel_rfl) (by kernel_rfl) (fun _ _ _ h => h) (Or.inl ⟨by rfl, ?_⟩) ?_
    rotate_left
    · intro w; go_simp; try with_reducible rfl
    refine wpAny_take (i := 11) (v := ?_) rfl (by kernel_rfl) (by kernel_rfl) (by kernel_rfl) (fun _ _ _ h => h) (Or.inl ⟨by rfl, ?_⟩) ?_
    rotate_left
    · intro w; go_simp; try with_reducible rfl
    refine wpAny_take (i := 12) (v := ?_) rfl (by kernel_rfl) (by kernel_rfl) (by kernel_rfl) (fun _ _ _ h => h) (Or.inl ⟨by rfl, ?_⟩) ?_
    rotate_left
    · intro w; go_simp; try with_reducible rfl
    refine wpAny_ready (rs := [4, 10]) (by kernel_rfl) (by simp) ?_
    refine AllReady.cons rfl (fun K hK => ?_) (AllReady.cons rfl (fun K hK => ?_) AllReady.nil)
    · rw [if_pos (by rfl)]
      go_simp
      refine hK _ _ ?_
      clear hK K
      refine wpAny_take (i := 6) (v := ?_) rfl (by kernel_rfl) (by kernel_rfl) (by kernel_rfl) (fun _ _ _ h => h) (Or.inl ⟨by rfl, ?_⟩) ?_
      rotate_left
      · intro w; go_simp; try with_reducible rfl
      refine wpAny_ready (rs := [10]) (by kernel_rfl) (by simp) ?_
      refine AllReady.cons rfl (fun K hK => ?_) AllReady.nil
      rw [if_pos (by rfl)]
      go_simp
      refine hK _ _ ?_
      clear hK K
      refine wpAny_take (i := 13) (v := ?_) rfl (by kernel_rfl) (by kernel_rfl) (by kernel_rfl) (fun _ _ _ h => h) (Or.inl ⟨by rfl, ?_⟩) ?_
      rotate_left
      · intro w; go_simp; try with_reducible rfl
      refine wpAny_ready (rs := [14]) (by kernel_rfl) (by simp) ?_
      refine AllReady.cons rfl (fun K hK => ?_) AllReady.nil
      rw [if_pos (by rfl)]
      go_simp
      refine hK _ _ ?_
      clear hK K
      refine wpAny_ready (rs := [15]) (by kernel_rfl) (by simp) ?_
      refine AllReady.cons rfl (fun K hK => ?_) AllReady.nil
      rw [if_pos (by rfl)]
      go_simp
      refine HC.out.mono ?_
      rintro e w5 ⟨lv', rfl, hown5, hb5⟩
      dsimp only
      refine hK _ _ ?_
      clear hK K
      obtain ⟨ag, ac, rfl⟩ := own_slice hown5
      have hp5 : w5.heap[pb]? = some (.cells (([] : List Value) ++ Value.slice (some ⟨g, 0, none⟩) rows.length cap :: [Value.map (some mb)]).toArray 96 (0, 0)) := (hb5.block _ hlp).trans HP.out
      obtain ⟨s5, c5, f5, s6⟩ := cells_set (n := 0) (v := .slice ag (re).length ac) rfl hp5
      replace c5 : w5.cell? ⟨pb, 0, none⟩ = some (.slice (some ⟨g, 0, none⟩) rows.length cap) := c5
      replace f5 : w5.frozen? ⟨pb, 0, none⟩ = false := f5
      refine wpAny_ready (rs := [16]) (by kernel_rfl) (by simp) ?_
      refine AllReady.cons rfl (fun K hK => ?_) AllReady.nil
      rw [if_pos (by rfl)]
      go_simp
      refine hK _ _ ?_
      clear hK K
      refine wpAny_ready (rs := [17]) (by kernel_rfl) (by simp) ?_
      refine AllReady.cons rfl (fun K hK => ?_) AllReady.nil
      rw [if_pos (by rfl)]
      go_simp
      refine hK _ _ ?_
      clear hK K
      refine wpAny_ready (rs := [18]) (by kernel_rfl) (by simp) ?_
      refine AllReady.cons rfl (fun K hK => ?_) AllReady.nil
      rw [if_pos (by rfl)]
      go_simp
      refine hK _ _ ?_
      clear hK K
      refine wpAny_done (by kernel_rfl) ?_ _
      go_wp2_with fail
      all_goals (go_meet; exact ⟨rfl, _, s5, ownsRow_of_block hown5 fun k hk => s6.block k (own_lt hown5 hk) (by have := own_ge0 hown5 hk; omega), (KeptBut.of_below hb5).trans s6 fun k hk => .inr hk⟩)
    · rw [if_pos (by rfl)]
      go_simp
      refine hK _ _ ?_
      clear hK K
      refine wpAny_take (i := 13) (v := ?_) rfl (by kernel_rfl) (by kernel_rfl) (by kernel_rfl) (fun _ _ _ h => h) (Or.inl ⟨by rfl, ?_⟩) ?_
      rotate_left
      · intro w; go_simp; try with_reducible rfl
      refine wpAny_ready (rs := [4]) (by kernel_rfl) (by simp) ?_
      refine AllReady.cons rfl (fun K hK => ?_) AllReady.nil
      rw [if_pos (by rfl)]
      go_simp
      refine hK _ _ ?_
      clear hK K
      refine wpAny_take (i := 6) (v := ?_) rfl (by kernel_rfl) (by kernel_rfl) (by kernel_rfl) (fun _ _ _ h => h) (Or.inl ⟨by rfl, ?_⟩) ?_
      rotate_left
      · intro w; go_simp; try with_reducible rfl
      refine wpAny_ready (rs := [14]) (by kernel_rfl) (by simp) ?_
      refine AllReady.cons rfl (fun K hK => ?_) AllReady.nil
      rw [if_pos (by rfl)]
      go_simp
      refine hK _ _ ?_
      clear hK K
      refine wpAny_ready (rs := [15]) (by kernel_rfl) (by simp) ?_
      refine AllReady.cons rfl (fun K hK => ?_) AllReady.nil
      rw [if_pos (by rfl)]
      go_simp
      refine HC.out.mono ?_
      rintro e w5 ⟨lv', rfl, hown5, hb5⟩
      dsimp only
      refine hK _ _ ?_
      clear hK K
      obtain ⟨ag, ac, rfl⟩ := own_slice hown5
      have hp5 : w5.heap[pb]? = some (.cells (([] : List Value) ++ Value.slice (some ⟨g, 0, none⟩) rows.length cap :: [Value.map (some mb)]).toArray 96 (0, 0)) := (hb5.block _ hlp).trans HP.out
      obtain ⟨s5, c5, f5, s6⟩ := cells_set (n := 0) (v := .slice ag (re).length ac) rfl hp5
      replace c5 : w5.cell? ⟨pb, 0, none⟩ = some (.slice (some ⟨g, 0, none⟩) rows.length cap) := c5
      replace f5 : w5.frozen? ⟨pb, 0, none⟩ = false := f5
      refine wpAny_ready (rs := [16]) (by kernel_rfl) (by simp) ?_
      refine AllReady.cons rfl (fun K hK => ?_) AllReady.nil
      rw [if_pos (by rfl)]
      go_simp
      refine hK _ _ ?_
      clear hK K
      refine wpAny_ready (rs := [17]) (by kernel_rfl) (by simp) ?_
      refine AllReady.cons rfl (fun K hK => ?_) AllReady.nil
      rw [if_pos (by rfl)]
      go_simp
      refine hK _ _ ?_
      clear hK K
      refine wpAny_ready (rs := [18]) (by kernel_rfl) (by simp) ?_
      refine AllReady.cons rfl (fun K hK => ?_) AllReady.nil
      rw [if_pos (by rfl)]
      go_simp
      refine hK _ _ ?_
      clear hK K
      refine wpAny_done (by kernel_rfl) ?_ _
      go_wp2_with fail
      all_goals (go_meet; exact ⟨rfl, _, s5, ownsRow_of_block hown5 fun k hk => s6.block k (own_lt hown5 hk) (by have := own_ge0 hown5 hk; omega), (KeptBut.of_below hb5).trans s6 fun k hk => .inr hk⟩)
  case rest =>
    obtain ⟨rfl, lv', hp5, hown5, hk5⟩ := hcut
    clear HC hw3 q0 hb3
    have c1 : wc.cell? ⟨pb, 1, none⟩ = some (.map (some mb)) := by simp [World.cell?, hp5]
    have hm5 : MapAt wc mb (kvAt 0 rows) := HE.out.1.map.frame (hk5.block mb HE.out.1.map.lt HE.out.1.ne3.symm)
    obtain ⟨w6, hclr, hm6, hk6⟩ := map_clear hm5 (t := 94) Tryz.underlying94
    clear hm5
    have hne3 : pb ≠ mb := HE.out.1.ne3
    have hp6 : w6.heap[pb]? = _ := (hk6.block pb (Array.getElem?_eq_some_iff.1 hp5).1 hne3).trans hp5
    have hmo : ∀ k, lv'.ownBlock = some k → k ≠ mb := fun k hk => by have h1 := own_ge0 hown5 hk; have h2 := HE.out.1.map.lt; omega
    have hown6 : w6.ownsRow w.heap.size 64 24 lv' (re).length (rowsV (re)) := ownsRow_of_block hown5 fun k hk => hk6.block k (own_lt hown5 hk) (hmo k hk)
    have c0 : w6.cell? ⟨pb, 0, none⟩ = some lv' := by simp [World.cell?, hp6]
    obtain ⟨ag, ac, rfl⟩ := own_slice hown6
    go_wp2_with fail
    have hsub : ∀ y ∈ re, y ∈ rows := fun y hy => List.mem_of_mem_erase (hre.out.symm ▸ hy)
    have hreok : ∀ y ∈ re, RowOk y := fun y hy => HE.out.1.ok y (hsub y hy)
    have hrend : re.Nodup := hre.out ▸ HE.out.1.nodup.erase x
    have HQ := Lib.hid (And.intro hreok (And.intro hrend (And.intro hk5 (And.intro hp5 hk6))))
    have hmlt : mb < w6.heap.size := hm6.lt
    clear hsub hreok hrend hk5 hp5 hk6 hown5 c1
    go_loopw [47] (fun s47 wr => ∃ k : Nat, s47 = .int .i64 (k : Int) ∧ k ≤ re.length ∧ MapAt wr mb (kvAt 0 (re.take k)) ∧ KeptBut (fun j => j = mb) w6 wr) (fun i _ => match i with | .int _ m => re.length - m.toNat | _ => 0)
    case atStart => exact ⟨0, rfl, Nat.zero_le _, hm6, ⟨rfl, rfl, rfl, Nat.le_refl _, fun _ _ _ => rfl⟩⟩
    case round =>
      obtain ⟨k, rfl, hk, hmk, hkw⟩ := hrel
      have hk0 : (0 : Int) ≤ (k : Int) := by omega
      have hrel' : re.length ≤ 1048576 := by have := HE.out.2.2; omega
      by_cases hlt : k < re.length
      · have hj2 : (k : Int) < (re.length : Int) := by omega
        have hj3 : decide ((k : Int) < (re.length : Int)) = true := decide_eq_true hj2
        obtain ⟨g', hg'⟩ : ∃ g', ag = some ⟨g', 0, none⟩ := by
          rcases hown6.2 with ⟨_, h0⟩ | ⟨g', _, _, e, _⟩
          · omega
          · injection e with e1; exact ⟨g', e1⟩
        subst hg'
        have hownr : wr.ownsRow w.heap.size 64 24 (.slice (some ⟨g', 0, none⟩) re.length ac) re.length (rowsV re) := ownsRow_of_block hown6 fun j hj => hkw.block j (own_lt hown6 hj) (hmo j hj)
        have hrg := own_row_range hownr (fun y hy => (HQ.out.1 y hy).1) hlt
        have hyo : RowOk re[k] := HQ.out.1 _ (List.getElem_mem hlt)
        have hts : kvAt 0 (re.take (k + 1)) = putKV (kvAt 0 (re.take k)) re[k] (.int .i64 (k : Int)) := by
          rw [List.take_succ_eq_append_getElem hlt, kvAt_app]
          unfold putKV
          rw [if_neg (by
            rw [kvAt_fst]
            intro hm
            obtain ⟨i', hi', he⟩ := List.getElem_of_mem hm
            rw [List.length_take] at hi'
            rw [List.getElem_take] at he
            exact (List.pairwise_iff_getElem.1 HQ.out.2.1 i' k (by omega) hlt (by omega)) he), Nat.zero_add, List.length_take, Nat.min_eq_left (by omega)]
        have hwpb : wr.heap[pb]? = _ := (hkw.block pb (Array.getElem?_eq_some_iff.1 hp6).1 hne3).trans hp6
        obtain ⟨y, hy⟩ : ∃ y, re[k] = y := ⟨_, rfl⟩
        rw [hy] at hrg hyo hts
        replace hy := Lib.hid hy
        replace hts := Lib.hid hts
        have hyl := hyo.1
        have hsz0 : (Tryz.prog.info? 64).map (·.size) = some (y.map symV).length := by rw [infoRow]; simp only [List.length_map, hyl]
        have hsz1 : (Tryz.prog.info? 64).map (·.size) = some (y.map symV).toArray.size := by rw [infoRow]; simp only [List.size_toArray, List.length_map, hyl]
        have hone := row_one y
        have hbx := below_setRow ((Below.refl _ wr).alloc (Nat.le_refl _) (Obj.cells (List.replicate 24 (Value.int .i32 0)).toArray 64)) (Nat.le_refl _) (y.map symV).toArray
        have hz := heap_alloc_new wr (Obj.cells (List.replicate 24 (Value.int .i32 0)).toArray 64)
        have hzx := setRow_heap _ _ _ (y.map symV).toArray _ _ hz
        obtain ⟨W1, hW1⟩ : ∃ W1, (wr.alloc (Obj.cells (List.replicate 24 (Value.int .i32 0)).toArray 64)).setRow wr.heap.size (y.map symV).toArray = W1 := ⟨_, rfl⟩
        rw [hW1] at hbx hzx
        simp only [List.replicate] at hW1 hz
        have hp1 : W1.drew.heap[pb]? = _ := (hbx.block pb (Array.getElem?_eq_some_iff.1 hwpb).1).trans hwpb
        have c1 : W1.drew.cell? ⟨pb, 1, none⟩ = some (.map (some mb)) := by simp [World.cell?, hp1]
        have hm1 : MapAt W1.drew mb (kvAt 0 (re.take k)) := hmk.frame (hbx.block mb hmk.lt)
        obtain ⟨W2, hput, hm2, hk2⟩ := row_put (t := 94) Tryz.underlying94 hm1 hyo (.int .i64 (k : Int))
        have hz1 : W1.drew.heap[wr.heap.size]? = some (.cells (y.map symV).toArray 64 (0, 0)) := hzx
        have HL := Lib.hid (And.intro hm2 (And.intro hk2 (And.intro hbx hkw)))
        clear hbx hzx hm1 hmk hkw hwpb hp1 hm2 hk2 hownr hown6 hp6 hm6
        go_wp2_with (first
          | (refine wpList_load_mid rfl 64 _ rfl g' (k * 24) rfl _ _ hrg Tryz.underlying64 rfl hsz0 ?_)
          | (refine wpList_store_row rfl 64 _ _ rfl wr.heap.size _ rfl rfl 64 _ hz hsz1 (by simp [hyl]) hone ?_; rw [hW1]))
        refine wp_region_still_tail 6 (by kernel_rfl) (by kernel_rfl) ?_
        change wpStill _ _ W1.drew _ _ _
        simp only [List.take_succ_cons, List.take_zero, List.drop_succ_cons, List.drop_zero]
        repeat (first
          | (refine wpStill_step (fun K hK => ?_); rw [if_pos (by rfl)]; refine still_load_row 64 _ rfl wr.heap.size rfl 64 _ (0, 0) _ hz1 Tryz.underlying64 rfl hsz1 (hK _ ?_); clear hK K)
          | still_step)
        refine wpStill_nil ?_
        change wpList _ _ _ _ _ W1.drew
        have hwr : IntKind.i64.wrap ((k : Int) + 1) = (k : Int) + 1 := by rw [IntKind.wrap_i64]; omega
        go_wp2_with fail
        refine ⟨⟨k + 1, congrArg (Value.int .i64) (by omega), by omega, ?_, ?_⟩, ?_⟩
        · rw [hts.out]; exact HL.out.1
        · exact (HL.out.2.2.2.trans (KeptBut.of_below (M := fun _ => False) (below_drew' HL.out.2.2.1)) fun _ h => h.elim).trans HL.out.2.1 fun j hj => .inr hj
        · show re.length - ((k : Int) + 1).toNat < re.length - (k : Int).toNat
          omega
      · obtain rfl : k = re.length := by omega
        have hj3 : decide ((re.length : Int) < (re.length : Int)) = false := decide_eq_false (by omega)
        rw [List.take_length] at hmk
        go_wp2_with fail
        have hbk : ∀ j, j < w.heap.size → j ≠ pb → j ≠ mb → wr.heap[j]? = w.heap[j]? := fun j h1 h2 h3 => by
          have s1 := HQ.out.2.2.1.size
          have s2 := HQ.out.2.2.2.2.size
          rw [hkw.block j (by omega) h3, HQ.out.2.2.2.2.block j (by omega) h3, HQ.out.2.2.1.block j h1 h2]
        have hR := HE.out.1
        have hlb := (Array.getElem?_eq_some_iff.1 hR.hb).1
        have hlm := hR.map.lt
        refine bodyPost_ret (v := .bool true) (by simp [results, Tryz.results59, go_sem]) rfl ⟨rfl, .slice ag re.length ac, ⟨?_, ?_, ?_, hmk, hR.ne1, hR.ne2, hR.ne3, ?_, HQ.out.1, HQ.out.2.1, hR.wide⟩, ?_, ?_⟩
        · rw [hbk b hlb hR.ne1 hR.ne2]; exact hR.hb
        · exact (hkw.block pb (Array.getElem?_eq_some_iff.1 hp6).1 hne3).trans hp6
        · have h7 : wr.ownsRow w.heap.size 64 24 (.slice ag re.length ac) re.length (rowsV re) := ownsRow_of_block hown6 fun j hj => hkw.block j (own_lt hown6 hj) (hmo j hj)
          exact ⟨h7.1, h7.2.imp_right fun ⟨g', cap', cur, e1, _, e3⟩ => ⟨g', cap', cur, e1, Nat.zero_le _, e3⟩⟩
        · intro j hj
          have := own_ge0 hown6 hj
          exact ⟨by omega, by omega, by omega⟩
        · exact ((HQ.out.2.2.1.mono fun j h => .inr (.inl h)).trans HQ.out.2.2.2.2 fun j h => .inr (.inr (.inr (.inl h)))).trans hkw fun j h => .inr (.inr (.inr (.inl h)))
        · rintro j (rfl | rfl | rfl | hj)
          · exact .inl (.inl rfl)
          · exact .inl (.inr (.inl rfl))
          · exact .inl (.inr (.inr (.inl rfl)))
          · exact .inr (own_ge0 hown6 hj)
set_option maxRecDepth 100000 in
set_option maxHeartbeats 8000000 in
theorem remove_in {w : World} {b pb mb : Nat} {lv : Value} {arity : Nat} {gone : Int} {rows : List (List Int)} (h : RelAt w b pb mb lv arity gone rows) {x : List Int} (hx : RowOk x) (hin : x ∈ rows) (hn : rows.length ≤ 1048576) (hg : 0 ≤ gone ∧ gone < 4611686018427387904) :
    Calls Tryz.prog 16 #[.pointer (some ⟨b, 0, none⟩), rowV x] w fun e w' => e = .returned (.bool true) ∧ ∃ lv', RelAt w' b pb mb lv' arity (gone + 1) (rows.erase x) ∧ KeptBut (relF b pb mb lv) w w' ∧ (∀ k, relF b pb mb lv' k → relF b pb mb lv k ∨ w.heap.size ≤ k) := by
  have hadd : IntKind.i64.wrap (gone + 1) = gone + 1 := by rw [IntKind.wrap_i64]; omega
  go_enter Tryz.func16, Tryz.ntmps16
  go_wp2_with fail
  have hal := (MapKept.heap_alloc w (Obj.cells (List.map symV x).toArray 64)).1
  have hba : Below w.heap.size w (w.alloc (Obj.cells (List.map symV x).toArray 64)) := (Below.refl _ w).alloc (Nat.le_refl _) _
  generalize w.alloc (Obj.cells (List.map symV x).toArray 64) = wa at *
  have hbd : Below w.heap.size w wa.drew := below_drew' hba
  have hsz : (Tryz.prog.info? 64).map (·.size) = some (List.map symV x).toArray.size := by rw [infoRow]; simp [hx.1]
  have hS : (fun w' : World => w'.cell? ⟨b, 2, none⟩ = some (.pointer (some ⟨pb, 0, none⟩)) ∧ w'.heap[w.heap.size]? = some (Obj.cells (List.map symV x).toArray 64 (0, 0))) wa.drew := ⟨(h.below hbd).cells.h2, hal⟩
  refine wp_region_held_drew (S := fun w' => w'.cell? ⟨b, 2, none⟩ = some (.pointer (some ⟨pb, 0, none⟩)) ∧ w'.heap[w.heap.size]? = some (Obj.cells (List.map symV x).toArray 64 (0, 0))) (by kernel_rfl) hS fun hS => ?_
  generalize wa.drew = w2 at *
  refine wpAnyH_take (i := 0) (v := ?_) rfl (by kernel_rfl) (by kernel_rfl) (by kernel_rfl) (fun _ _ _ h => h) (Or.inl ⟨by rfl, ?_⟩) hS ?_
  rotate_left
  · intro w' hw'; go_simp; try with_reducible rfl
  refine wpAnyH_ready (rs := [1]) (by kernel_rfl) (by simp) ?_
  refine AllReadyH.cons rfl (fun K hK => ?_) AllReadyH.nil
  rw [if_pos (by rfl)]
  go_simp
  refine (there_calls (h.below hbd).cells.h2).mono ?_
  rintro e w3 ⟨rfl, hb3⟩
  dsimp only
  have hb4 := hbd.trans (hb3.mono hbd.size)
  have hS3 : (fun w' : World => w'.cell? ⟨b, 2, none⟩ = some (.pointer (some ⟨pb, 0, none⟩)) ∧ w'.heap[w.heap.size]? = some (Obj.cells (List.map symV x).toArray 64 (0, 0))) w3 := ⟨(h.below hb4).cells.h2, (hb3.block _ (Array.getElem?_eq_some_iff.1 hS.2).1).trans hS.2⟩
  refine hK.out _ _ hS3 (fun _ => ?_)
  clear hK K
  refine wpAnyH_take (i := 2) (v := ?_) rfl (by kernel_rfl) (by kernel_rfl) (by kernel_rfl) (fun _ _ _ h => h) (Or.inl ⟨by rfl, ?_⟩) hS3 ?_
  rotate_left
  · intro w' hw'; (try dsimp only at hw'); go_simp; try with_reducible rfl
  try simp only [Act.put, List.getElem_toArray, List.getElem_cons_succ, List.getElem_cons_zero, List.setIfInBounds_toArray, List.set_cons_zero, List.set_cons_succ]
  refine wpAnyH_take (i := 3) (v := ?_) rfl (by kernel_rfl) (by kernel_rfl) (by kernel_rfl) (fun _ _ _ h => h) (Or.inl ⟨by rfl, ?_⟩) hS3 ?_
  rotate_left
  · intro w' hw'; (try dsimp only at hw'); go_simp; try with_reducible rfl
  try simp only [Act.put, List.getElem_toArray, List.getElem_cons_succ, List.getElem_cons_zero, List.setIfInBounds_toArray, List.set_cons_zero, List.set_cons_succ]
  refine wpAnyH_take (i := 4) (v := ?_) rfl (by kernel_rfl) (by kernel_rfl) (by kernel_rfl) (fun _ _ _ h => h) (Or.inl ⟨by rfl, ?_⟩) hS3 ?_
  rotate_left
  · intro w' hw'; (try dsimp only at hw'); go_simp; try with_reducible rfl
  try simp only [Act.put, List.getElem_toArray, List.getElem_cons_succ, List.getElem_cons_zero, List.setIfInBounds_toArray, List.set_cons_zero, List.set_cons_succ]
  refine wpAnyH_take (i := 5) (v := ?_) rfl (by kernel_rfl) (by kernel_rfl) (by kernel_rfl) (fun _ _ _ h => h) (Or.inl ⟨by rfl, ?_⟩) hS3 ?_
  rotate_left
  · intro w' hw'; (try dsimp only at hw'); go_simp; try with_reducible rfl
  try simp only [Act.put, List.getElem_toArray, List.getElem_cons_succ, List.getElem_cons_zero, List.setIfInBounds_toArray, List.set_cons_zero, List.set_cons_succ]
  refine wpAnyH_take (i := 6) (v := ?_) rfl (by kernel_rfl) (by kernel_rfl) (by kernel_rfl) (fun _ _ _ h => h) (Or.inl ⟨by rfl, ?_⟩) hS3 ?_
  rotate_left
  · intro w' hw'; (try dsimp only at hw'); go_simp; try with_reducible rfl
  try simp only [Act.put, List.getElem_toArray, List.getElem_cons_succ, List.getElem_cons_zero, List.setIfInBounds_toArray, List.set_cons_zero, List.set_cons_succ]
  refine wpAnyH_take (i := 7) (v := ?_) rfl (by kernel_rfl) (by kernel_rfl) (by kernel_rfl) (fun _ _ _ h => h) (Or.inl ⟨by rfl, ?_⟩) hS3 ?_
  rotate_left
  · intro w' hw'; (try dsimp only at hw'); go_simp; try with_reducible rfl
  try simp only [Act.put, List.getElem_toArray, List.getElem_cons_succ, List.getElem_cons_zero, List.setIfInBounds_toArray, List.set_cons_zero, List.set_cons_succ]
  refine wpAnyH_take (i := 8) (v := .agg (List.map symV x).toArray) rfl (by kernel_rfl) (by kernel_rfl) (by kernel_rfl) (fun _ _ _ h => h) (yieldsIf_load_row (by rfl) 64 _ rfl w.heap.size rfl 64 _ (0, 0) _ (fun w' hw' => hw'.2) Tryz.underlying64 rfl hsz) hS3 ?_
  refine wpAnyH_ready (rs := [9]) (by kernel_rfl) (by simp) ?_
  refine AllReadyH.cons rfl (fun K hK => ?_) AllReadyH.nil
  rw [if_pos (by rfl)]
  go_simp
  refine (take_in (h.below hb4) hx hin hn rfl).mono ?_
  rintro e w6 ⟨rfl, lv', hR6, hK6, hF6⟩
  dsimp only
  have hlt0 : w.heap.size < w3.heap.size := (Array.getElem?_eq_some_iff.1 hS3.2).1
  have hS6 : (fun w' : World => w'.cell? ⟨b, 2, none⟩ = some (.pointer (some ⟨pb, 0, none⟩)) ∧ w'.heap[w.heap.size]? = some (Obj.cells (List.map symV x).toArray 64 (0, 0))) w6 := ⟨hR6.cells.h2, (hK6.block _ hlt0 fun hc => by have := h.lt _ hc; omega).trans hS3.2⟩
  refine hK.out _ _ hS6 (fun _ => ?_)
  clear hK K
  refine wpAnyH_take (i := 10) (v := ?_) rfl (by kernel_rfl) (by kernel_rfl) (by kernel_rfl) (fun _ _ _ h => h) (Or.inl ⟨by rfl, ?_⟩) hS6 ?_
  rotate_left
  · intro w' hw'; (try dsimp only at hw'); go_simp; try with_reducible rfl
  try simp only [Act.put, List.getElem_toArray, List.getElem_cons_succ, List.getElem_cons_zero, List.setIfInBounds_toArray, List.set_cons_zero, List.set_cons_succ]
  refine wpAnyH_take (i := 11) (v := ?_) rfl (by kernel_rfl) (by kernel_rfl) (by kernel_rfl) (fun _ _ _ h => h) (Or.inl ⟨by rfl, ?_⟩) hS6 ?_
  rotate_left
  · intro w' hw'; (try dsimp only at hw'); go_simp; try with_reducible rfl
  try simp only [Act.put, List.getElem_toArray, List.getElem_cons_succ, List.getElem_cons_zero, List.setIfInBounds_toArray, List.set_cons_zero, List.set_cons_succ]
  refine wpAnyH_done (by kernel_rfl) ?_ _
  have hKw : KeptBut (relF b pb mb lv) w w6 := (KeptBut.of_below hb4).trans hK6 fun k hk => .inr hk
  have hs36 : w.heap.size ≤ w3.heap.size := hb4.size
  have hgl := Lib.hid (And.intro hKw (And.intro hF6 hs36))
  clear hS hS3 hS6 hb3 hb4 hbd hba hal hK6 hF6 hKw hs36 hlt0 h
  have c1 := hR6.cells.h1
  have hbb : w6.heap[b]? = some (.cells ([Value.int .i64 arity] ++ Value.int .i64 gone :: [.pointer (some ⟨pb, 0, none⟩)]).toArray 99 (0, 0)) := hR6.hb
  obtain ⟨s1, _, f1, s4⟩ := cells_set (n := 1) (v := .int .i64 (gone + 1)) rfl hbb
  replace f1 : w6.frozen? ⟨b, 1, none⟩ = false := f1
  go_wp2_with fail
  refine bodyPost_ret (v := .bool true) (by simp [results, Tryz.results16, go_sem]) rfl ⟨rfl, lv', ?_, ?_, ?_⟩
  · have hbk : ∀ k, k < w6.heap.size → k ≠ b → (w6.setCell ⟨b, 1, none⟩ (.int .i64 (gone + 1))).heap[k]? = w6.heap[k]? := fun k h1 h2 => s4.block k h1 h2
    exact { hR6 with
      hb := s1
      hp := (hbk pb (Array.getElem?_eq_some_iff.1 hR6.hp).1 hR6.ne1.symm).trans hR6.hp
      own := ownsRow_of_block hR6.own fun k hk => hbk k (own_lt hR6.own hk) (hR6.ne4 k hk).1
      map := hR6.map.frame (hbk mb hR6.map.lt hR6.ne2.symm) }
  · exact hgl.out.1.trans s4 fun k hk => .inr (.inl hk)
  · exact fun k hk => (hgl.out.2.1 k hk).imp_right fun h => Nat.le_trans hgl.out.2.2 h
end Go.Proofs.YtckhkfchgcdajaaGreatDoor

import Derived.Test.YtckhkfchgcdajaaGreatDoorYJxB9
namespace Go.Proofs.YtckhkfchgcdajaaGreatDoor
open Go.Fx Go.RowKit
def Asked (w : World) (bk b bm : Nat) (ixs : List Ix) (m : Nat) (rows : List (List Int)) (gone : Int) (ixs' : List Ix) (w' : World) : Prop :=
  BookAt w' bk b bm ixs' ∧ ixs'.map Ix.abs = askAbs (ixs.map Ix.abs) m rows gone ∧ KeptBut (BookF bk bm ixs) w w' ∧ (∀ k, BookF bk bm ixs' k → BookF bk bm ixs k ∨ w.heap.size ≤ k)
theorem Asked.after {w w1 w2 : World} {bk b bm : Nat} {ixs ixs' : List Ix} {m : Nat} {rows : List (List Int)} {gone : Int} (h : Asked w bk b bm ixs m rows gone ixs' w1) (hb : Below w1.heap.size w1 w2) : Asked w bk b bm ixs m rows gone ixs' w2 :=
  ⟨h.1.below hb, h.2.1, h.2.2.1.trans (KeptBut.of_below (M := fun _ => False) hb) fun _ h => h.elim, h.2.2.2⟩
theorem Asked.before {w0 w w1 : World} {bk b bm : Nat} {ixs ixs' : List Ix} {m : Nat} {rows : List (List Int)} {gone : Int} (h : Asked w bk b bm ixs m rows gone ixs' w1) (hb : Below w0.heap.size w0 w) : Asked w0 bk b bm ixs m rows gone ixs' w1 :=
  ⟨h.1, h.2.1, (KeptBut.of_below hb).trans h.2.2.1 fun _ h => .inr h, fun k hk => (h.2.2.2 k hk).imp_right fun h => Nat.le_trans hb.size h⟩
theorem clone_own {w : World} {v0 : Value} {ids : List Int} (h : w.ownsRow 0 3 1 v0 ids.length (ids.map intV)) (hn : ids.length ≤ 1048576) :
    Calls Tryz.prog 166 #[v0] w fun e w' => ∃ v, e = .returned v ∧ w'.ownsRow w.heap.size 3 1 v ids.length (ids.map intV) ∧ Below w.heap.size w w' := by
  obtain ⟨hl, ⟨rfl, h0⟩ | ⟨g, cap, cur, rfl, _, hg, hc, hm, hsz, htk⟩⟩ := h
  · refine (Tryz.slices_Clone_int_nil 0 0 w).mono ?_
    rintro e w' ⟨rfl, rfl⟩
    have : ids = [] := List.length_eq_zero_iff.1 h0
    subst this
    exact ⟨_, rfl, World.ownsRow_nil _ _ _ _, Below.refl _ _⟩
  · refine (Tryz.slices_Clone_int g 0 ids.length cap ids w (Nat.le_refl _) (by omega) fun j hj => ?_).mono ?_
    · have h1 : (ids.map intV)[j]? = some (intV ids[j]) := by rw [List.getElem?_map, List.getElem?_eq_getElem hj]; rfl
      rw [← htk, List.getElem?_take] at h1
      have h2 : ids.getD j 0 = ids[j] := by rw [List.getD_eq_getElem?_getD, List.getElem?_eq_getElem hj, Option.getD_some]
      rw [h2, Nat.zero_add]
      split at h1
      · simp only [World.cell?, hg]
        simpa using h1
      · cases h1
    · rintro e w' ⟨v', rfl, h1, _, h3⟩
      rw [List.take_length] at h1
      exact ⟨v', rfl, h1, h3⟩
theorem own_len {w w' : World} {base size n : Nat} {e : TypeId} {v : Value} {xs : List Value} (h : w.ownsRow base e size v n xs) : (Builtin.len_ #[102] 3 #[v]).run Tryz.prog w' = .ok (.int .i64 n) w' := by
  obtain ⟨hl, ⟨rfl, h0⟩ | ⟨g, cap, cur, rfl, _⟩⟩ := h
  · subst h0
    simp [Builtin.len_, go_sem, Tryz.underlying102]
  · simp [Builtin.len_, go_sem, Tryz.underlying102]
set_option maxRecDepth 100000 in
set_option maxHeartbeats 4000000 in
theorem look_calls {w : World} {bk b bm pb mb : Nat} {ixs : List Ix} {lv : Value} {arity : Nat} {gone : Int} {rows : List (List Int)} (hB : BookAt w bk b bm ixs) (hR : RelAt w b pb mb lv arity gone rows) (hd : ∀ k, BookF bk bm ixs k → ¬ relF b pb mb lv k)
    {m : Nat} (hm : MskOk m) (hma : m < 2 ^ arity) (hn : rows.length ≤ 1048576) (hpre : ∀ x ∈ ixs, x.m = m → x.gone = gone → x.took = nums 0 (rows.take x.took.length)) {y : List Int} (hy : RowOk y) :
    Calls Tryz.prog 55 #[.pointer (some ⟨bk, 0, none⟩), .int .u32 (m : Int), rowV y] w fun e w' => ∃ v ixs', e = .returned (.tuple #[v, .int .i64 0]) ∧ Asked w bk b bm ixs m rows gone ixs' w' ∧
      w'.ownsRow w.heap.size 3 1 v (idsOf m (nums 0 rows) (keyRow m y)).length ((idsOf m (nums 0 rows) (keyRow m y)).map intV) ∧ (∀ k, v.ownBlock = some k → ¬ BookF bk bm ixs' k) := by
  go_enter Tryz.func55, Tryz.ntmps55
  go_wp2_with fail
  have hbw : Below w.heap.size w (w.alloc (.cells (y.map symV).toArray 64)) := (Below.refl _ w).alloc (Nat.le_refl _) _
  have hN := heap_alloc_new w (.cells (y.map symV).toArray 64)
  generalize w.alloc (.cells (y.map symV).toArray 64) = w1 at *
  refine (ask_calls (hB.below hbw) (hR.below hbw) hd hm hma hn hpre).mono ?_
  rintro e w2 ⟨rb, ixs', rfl, hB2, ⟨x, hx, rfl, habs⟩, hA2, hK2, hF2⟩
  have hAs : Asked w bk b bm ixs m rows gone ixs' w2 := Asked.before ⟨hB2, hA2, hK2, hF2⟩ hbw
  have hI := hB2.ix x hx
  have hN2 : w2.heap[w.heap.size]? = some (.cells (y.map symV).toArray 64 (0, 0)) := (hK2.block _ (Array.getElem?_eq_some_iff.1 hN).1 fun h => by have := hB.lt _ h; omega).trans hN
  have hkr := keyRow_ok m hy
  have hxm : x.m = m := congrArg Prod.fst habs
  have hxt : x.took = nums 0 rows := congrArg (fun p => p.2.1) habs
  have hown := hI.at (keyRow m y)
  rw [hxm, hxt] at hown
  have hidl : (idsOf m (nums 0 rows) (keyRow m y)).length ≤ 1048576 := by
    have := ids_len m (nums 0 rows) (keyRow m y)
    rw [nums_len] at this
    omega
  have hlook : ∀ w', w'.heap[x.kb]? = w2.heap[x.kb]? → (Instr.lookup 305 (.map (some x.kb)) (rowV (keyRow m y)) false).run Tryz.prog w' = .ok (x.at (keyRow m y)) w' := fun w' h => by
    have := row_look false (t := 305) Tryz.underlying305 (Tryz.zeroValue102 w') (hI.hk.frame h) hkr
    exact this
  have crb : w2.drew.cell? ⟨x.rb, 0, none⟩ = some (.map (some x.kb)) := by show w2.cell? _ = _; simp [World.cell?, hI.hr]
  obtain ⟨ob, hob⟩ : ∃ ob, w2.heap[x.kb]? = ob := ⟨_, rfl⟩
  rw [hob] at hlook
  have hltk : x.kb < w2.heap.size := hI.lt _ (.inr (.inl rfl))
  have hltr : x.rb < w2.heap.size := hI.lt _ (.inl rfl)
  obtain ⟨v0, hv0⟩ : ∃ v0, v0 = x.at (keyRow m y) := ⟨_, rfl⟩
  rw [← hv0] at hown hlook
  have Hs : Hid (∀ w' w3 : World, (w'.cell? ⟨x.rb, 0, none⟩ = some (.map (some x.kb)) ∧ w'.heap[x.kb]? = ob ∧ w'.heap[w.heap.size]? = some (.cells (y.map symV).toArray 64 (0, 0)) ∧ Below w2.heap.size w2 w') → Below w'.heap.size w' w3 →
      (w3.cell? ⟨x.rb, 0, none⟩ = some (.map (some x.kb)) ∧ w3.heap[x.kb]? = ob ∧ w3.heap[w.heap.size]? = some (.cells (y.map symV).toArray 64 (0, 0)) ∧ Below w2.heap.size w2 w3)) := Lib.hid fun w' w3 ⟨a1, a2, a3, a4⟩ hb =>
    ⟨(hb.cell (p := ⟨x.rb, 0, none⟩) (World.block_lt_of_cell? w' _ a1)).trans a1, (hb.block _ (Nat.lt_of_lt_of_le hltk a4.size)).trans a2, (hb.block _ (Array.getElem?_eq_some_iff.1 a3).1).trans a3, a4.trans (hb.mono a4.size)⟩
  have HA := Lib.hid (And.intro hAs (And.intro hI hx))
  have HO := Lib.hid hown
  have hbd2 : Below w2.heap.size w2 w2.drew := below_drew' (Below.refl _ _)
  have Hc : Hid (∀ w', Below w2.heap.size w2 w' → w'.ownsRow 0 3 1 v0 (idsOf m (nums 0 rows) (keyRow m y)).length ((idsOf m (nums 0 rows) (keyRow m y)).map intV)) := Lib.hid fun w' hb => ownsRow_of_block hown fun k hk => hb.block k (own_lt hown hk)
  have hblt : ∀ k, BookF bk bm ixs' k → k < w2.heap.size := hB2.lt
  have HB := Lib.hid hblt
  clear hB2 hA2 hK2 hF2 hAs hI hxm hxt hown habs hN hB hR hd hpre hblt hv0 hx
  go_wp2_with fail
  go_region_held3 (fun w' => w'.cell? ⟨x.rb, 0, none⟩ = some (.map (some x.kb)) ∧ w'.heap[x.kb]? = ob ∧ w'.heap[w.heap.size]? = some (.cells (y.map symV).toArray 64 (0, 0)) ∧ Below w2.heap.size w2 w')
    (first
      | exact ⟨crb, hob, hN2, hbd2⟩
      | (go_split_ands; exact Hs.out _ _ ⟨by assumption, by assumption, by assumption, by assumption⟩ (by assumption))
      | (go_split_ands; exact ⟨by assumption, by assumption, by assumption, by assumption⟩))
    (first
      | (go_at_call 165; refine (key_calls (xb := w.heap.size) hm hy (by go_split_ands; assumption)).mono ?_; rintro e w3 ⟨rfl, hb3⟩)
      | (go_at_call 166; refine (clone_own (ids := idsOf m (nums 0 rows) (keyRow m y)) (Hc.out _ (by go_split_ands; assumption)) hidl).mono ?_; rintro e w4 ⟨v, rfl, hv, hb4⟩))
  all_goals go_wp2_with fail
  all_goals refine bodyPost_ret (v := .tuple #[v, .int .i64 0]) (by simp [results, Tryz.results55, go_sem]) rfl ⟨v, ixs', rfl, ?_, ?_, ?_⟩
  · exact HA.out.1.after (Below.trans hbd2 ((hb3.trans (hb4.mono hb3.size)).mono (Nat.le_refl _)))
  · refine ⟨hv.1, ?_⟩
    rcases hv.2 with h | ⟨g, cap, cur, h1, h2, h3⟩
    · exact .inl h
    · exact .inr ⟨g, cap, cur, h1, by have e1 := (Array.getElem?_eq_some_iff.1 hN2).1; have e2 : w2.heap.size ≤ w3.heap.size := hb3.size; omega, h3⟩
  · intro k hk hB
    have h1 := HB.out k hB
    rcases hv.2 with h | ⟨g, cap, cur, h1, h2, h3⟩
    · rw [h.1] at hk; cases hk
    · have e2 : w2.heap.size ≤ w3.heap.size := hb3.size
      rw [h1] at hk
      simp only [Value.ownBlock, Option.some.injEq] at hk
      omega
set_option maxRecDepth 100000 in
set_option maxHeartbeats 4000000 in
theorem count_calls {w : World} {bk b bm pb mb : Nat} {ixs : List Ix} {lv : Value} {arity : Nat} {gone : Int} {rows : List (List Int)} (hB : BookAt w bk b bm ixs) (hR : RelAt w b pb mb lv arity gone rows) (hd : ∀ k, BookF bk bm ixs k → ¬ relF b pb mb lv k)
    {m : Nat} (hm : MskOk m) (hma : m < 2 ^ arity) (hn : rows.length ≤ 1048576) (hpre : ∀ x ∈ ixs, x.m = m → x.gone = gone → x.took = nums 0 (rows.take x.took.length)) {y : List Int} (hy : RowOk y) :
    Calls Tryz.prog 54 #[.pointer (some ⟨bk, 0, none⟩), .int .u32 (m : Int), rowV y] w fun e w' => ∃ ixs', e = .returned (.tuple #[intV ((idsOf m (nums 0 rows) (keyRow m y)).length : Nat), .int .i64 0]) ∧ Asked w bk b bm ixs m rows gone ixs' w' := by
  go_enter Tryz.func54, Tryz.ntmps54
  go_wp2_with fail
  have hbw : Below w.heap.size w (w.alloc (.cells (y.map symV).toArray 64)) := (Below.refl _ w).alloc (Nat.le_refl _) _
  have hN := heap_alloc_new w (.cells (y.map symV).toArray 64)
  generalize w.alloc (.cells (y.map symV).toArray 64) = w1 at *
  refine (ask_calls (hB.below hbw) (hR.below hbw) hd hm hma hn hpre).mono ?_
  rintro e w2 ⟨rb, ixs', rfl, hB2, ⟨x, hx, rfl, habs⟩, hA2, hK2, hF2⟩
  have hAs : Asked w bk b bm ixs m rows gone ixs' w2 := Asked.before ⟨hB2, hA2, hK2, hF2⟩ hbw
  have hI := hB2.ix x hx
  have hN2 : w2.heap[w.heap.size]? = some (.cells (y.map symV).toArray 64 (0, 0)) := (hK2.block _ (Array.getElem?_eq_some_iff.1 hN).1 fun h => by have := hB.lt _ h; omega).trans hN
  have hkr := keyRow_ok m hy
  have hxm : x.m = m := congrArg Prod.fst habs
  have hxt : x.took = nums 0 rows := congrArg (fun p => p.2.1) habs
  have hown := hI.at (keyRow m y)
  rw [hxm, hxt] at hown
  have hidl : (idsOf m (nums 0 rows) (keyRow m y)).length ≤ 1048576 := by
    have := ids_len m (nums 0 rows) (keyRow m y)
    rw [nums_len] at this
    omega
  have hlook : ∀ w', w'.heap[x.kb]? = w2.heap[x.kb]? → (Instr.lookup 305 (.map (some x.kb)) (rowV (keyRow m y)) false).run Tryz.prog w' = .ok (x.at (keyRow m y)) w' := fun w' h => by
    have := row_look false (t := 305) Tryz.underlying305 (Tryz.zeroValue102 w') (hI.hk.frame h) hkr
    exact this
  have crb : w2.drew.cell? ⟨x.rb, 0, none⟩ = some (.map (some x.kb)) := by show w2.cell? _ = _; simp [World.cell?, hI.hr]
  obtain ⟨ob, hob⟩ : ∃ ob, w2.heap[x.kb]? = ob := ⟨_, rfl⟩
  rw [hob] at hlook
  have hltk : x.kb < w2.heap.size := hI.lt _ (.inr (.inl rfl))
  have hltr : x.rb < w2.heap.size := hI.lt _ (.inl rfl)
  obtain ⟨v0, hv0⟩ : ∃ v0, v0 = x.at (keyRow m y) := ⟨_, rfl⟩
  rw [← hv0] at hown hlook
  have Hs : Hid (∀ w' w3 : World, (w'.cell? ⟨x.rb, 0, none⟩ = some (.map (some x.kb)) ∧ w'.heap[x.kb]? = ob ∧ w'.heap[w.heap.size]? = some (.cells (y.map symV).toArray 64 (0, 0)) ∧ Below w2.heap.size w2 w') → Below w'.heap.size w' w3 →
      (w3.cell? ⟨x.rb, 0, none⟩ = some (.map (some x.kb)) ∧ w3.heap[x.kb]? = ob ∧ w3.heap[w.heap.size]? = some (.cells (y.map symV).toArray 64 (0, 0)) ∧ Below w2.heap.size w2 w3)) := Lib.hid fun w' w3 ⟨a1, a2, a3, a4⟩ hb =>
    ⟨(hb.cell (p := ⟨x.rb, 0, none⟩) (World.block_lt_of_cell? w' _ a1)).trans a1, (hb.block _ (Nat.lt_of_lt_of_le hltk a4.size)).trans a2, (hb.block _ (Array.getElem?_eq_some_iff.1 a3).1).trans a3, a4.trans (hb.mono a4.size)⟩
  have hlen : ∀ w', (Builtin.len_ #[102] 3 #[v0]).run Tryz.prog w' = .ok (.int .i64 ((idsOf m (nums 0 rows) (keyRow m y)).length : Nat)) w' := fun w' => own_len hown
  have HA := Lib.hid (And.intro hAs (And.intro hI hx))
  have HO := Lib.hid hown
  have hbd2 : Below w2.heap.size w2 w2.drew := below_drew' (Below.refl _ _)
  have Hc : Hid (∀ w', Below w2.heap.size w2 w' → w'.ownsRow 0 3 1 v0 (idsOf m (nums 0 rows) (keyRow m y)).length ((idsOf m (nums 0 rows) (keyRow m y)).map intV)) := Lib.hid fun w' hb => ownsRow_of_block hown fun k hk => hb.block k (own_lt hown hk)
  have hblt : ∀ k, BookF bk bm ixs' k → k < w2.heap.size := hB2.lt
  have HB := Lib.hid hblt
  clear hB2 hA2 hK2 hF2 hAs hI hxm hxt hown habs hN hB hR hd hpre hblt hv0 hx
  go_wp2_with fail
  go_region_held3 (fun w' => w'.cell? ⟨x.rb, 0, none⟩ = some (.map (some x.kb)) ∧ w'.heap[x.kb]? = ob ∧ w'.heap[w.heap.size]? = some (.cells (y.map symV).toArray 64 (0, 0)) ∧ Below w2.heap.size w2 w')
    (first
      | exact ⟨crb, hob, hN2, hbd2⟩
      | (go_split_ands; exact Hs.out _ _ ⟨by assumption, by assumption, by assumption, by assumption⟩ (by assumption))
      | (go_split_ands; exact ⟨by assumption, by assumption, by assumption, by assumption⟩))
    (first
      | (go_at_call 165; refine (key_calls (xb := w.heap.size) hm hy (by go_split_ands; assumption)).mono ?_; rintro e w3 ⟨rfl, hb3⟩))
  all_goals go_wp2_with fail
  all_goals refine bodyPost_ret (v := .tuple #[.int .i64 ((idsOf m (nums 0 rows) (keyRow m y)).length : Nat), .int .i64 0]) (by simp [results, Tryz.results54, go_sem]) rfl ⟨ixs', rfl, ?_⟩
  all_goals exact HA.out.1.after (Below.trans hbd2 (hb3.mono (Nat.le_refl _)))
set_option maxRecDepth 100000 in
set_option maxHeartbeats 4000000 in
theorem distinct_calls {w : World} {bk b bm pb mb : Nat} {ixs : List Ix} {lv : Value} {arity : Nat} {gone : Int} {rows : List (List Int)} (hB : BookAt w bk b bm ixs) (hR : RelAt w b pb mb lv arity gone rows) (hd : ∀ k, BookF bk bm ixs k → ¬ relF b pb mb lv k)
    {m : Nat} (hm : MskOk m) (hma : m < 2 ^ arity) (hn : rows.length ≤ 1048576) (hpre : ∀ x ∈ ixs, x.m = m → x.gone = gone → x.took = nums 0 (rows.take x.took.length)) :
    Calls Tryz.prog 63 #[.pointer (some ⟨bk, 0, none⟩), .int .u32 (m : Int)] w fun e w' => ∃ ixs', e = .returned (.tuple #[intV ((keysOf m (nums 0 rows)).length : Nat), .int .i64 0]) ∧ Asked w bk b bm ixs m rows gone ixs' w' := by
  go_enter Tryz.func63, Tryz.ntmps63
  go_wp2_with fail
  refine (ask_calls hB hR hd hm hma hn hpre).mono ?_
  rintro e w2 ⟨rb, ixs', rfl, hB2, ⟨x, hx, rfl, habs⟩, hA2, hK2, hF2⟩
  have hAs : Asked w bk b bm ixs m rows gone ixs' w2 := ⟨hB2, hA2, hK2, hF2⟩
  have hI := hB2.ix x hx
  have hxm : x.m = m := congrArg Prod.fst habs
  have hxt : x.took = nums 0 rows := congrArg (fun p => p.2.1) habs
  have crb : w2.cell? ⟨x.rb, 0, none⟩ = some (.map (some x.kb)) := by simp [World.cell?, hI.hr]
  have HA := Lib.hid (And.intro hAs (And.intro hI hx))
  have hll : x.kv.length = (keysOf m (nums 0 rows)).length := by rw [Ix.kv, List.length_map, Ix.keys, hxm, hxt]
  have hlen := map_len (ty := 3) hI.hk Tryz.underlying305
  rw [hll] at hlen
  go_wp2_with fail
  all_goals refine bodyPost_ret (v := .tuple #[.int .i64 ((keysOf m (nums 0 rows)).length : Nat), .int .i64 0]) (by simp [results, Tryz.results63, go_sem]) rfl ⟨ixs', rfl, ?_⟩
  all_goals exact HA.out.1
end Go.Proofs.YtckhkfchgcdajaaGreatDoor

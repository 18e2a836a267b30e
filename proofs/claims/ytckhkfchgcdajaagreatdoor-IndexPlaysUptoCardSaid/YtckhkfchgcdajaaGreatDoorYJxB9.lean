import Derived.Test.YtckhkfchgcdajaaGreatDoorYJxBa
namespace Go.Proofs.YtckhkfchgcdajaaGreatDoor
open Go.Fx Go.RowKit
attribute [local go_sem] Oper.semAt_some
set_option maxRecDepth 100000 in
set_option maxHeartbeats 4000000 in
theorem ask_calls {w : World} {bk b bm pb mb : Nat} {ixs : List Ix} {lv : Value} {arity : Nat} {gone : Int} {rows : List (List Int)} (hB : BookAt w bk b bm ixs) (hR : RelAt w b pb mb lv arity gone rows) (hd : ∀ k, BookF bk bm ixs k → ¬ relF b pb mb lv k)
    {m : Nat} (hm : MskOk m) (hma : m < 2 ^ arity) (hn : rows.length ≤ 1048576) (hpre : ∀ x ∈ ixs, x.m = m → x.gone = gone → x.took = nums 0 (rows.take x.took.length)) :
    Calls Tryz.prog 164 #[.pointer (some ⟨bk, 0, none⟩), .int .u32 (m : Int)] w fun e w' => ∃ rb ixs', e = .returned (.tuple #[.pointer (some ⟨rb, 0, none⟩), .int .i64 0]) ∧ BookAt w' bk b bm ixs' ∧ (∃ x ∈ ixs', x.rb = rb ∧ x.abs = (m, nums 0 rows, gone)) ∧
      ixs'.map Ix.abs = askAbs (ixs.map Ix.abs) m rows gone ∧ KeptBut (BookF bk bm ixs) w w' ∧ (∀ k, BookF bk bm ixs' k → BookF bk bm ixs k ∨ w.heap.size ≤ k) := by
  refine callsIn_wide.1 (callsIn_of_wp_marks (n := 5) Tryz.func164 rfl trivial ?_)
  simp only [Tryz.ntmps164, List.size_toArray, List.length_cons, List.length_nil, Nat.reduceAdd, Nat.reduceSub, Array.replicate_succ, Array.replicate_zero, List.push_toArray, List.append_toArray, List.nil_append, List.cons_append]
  refine wpIn_wide.2 ?_
  have hbl := hB.lt bk (.inl rfl)
  have c0 : w.cell? ⟨bk, 0, none⟩ = some (.pointer (some ⟨b, 0, none⟩)) := by simp [World.cell?, hB.hb]
  go_wp2_with fail
  have hbm : Below w.heap.size w (w.alloc (.cells #[.int .u32 (m : Int)] 61)) := (Below.refl _ w).alloc (Nat.le_refl _) _
  have hN := heap_alloc_new w (.cells #[.int .u32 (m : Int)] 61)
  generalize w.alloc (.cells #[.int .u32 (m : Int)] 61) = w1 at *
  refine (under_there _).mono ?_
  rintro e w2 ⟨rfl, hb2⟩
  have hlt1 : w.heap.size < w1.heap.size := (Array.getElem?_eq_some_iff.1 hN).1
  have hN2 := (hb2.block _ hlt1).trans hN
  have hbm2 := hbm.trans (hb2.mono hbm.size)
  clear hN hbm hb2 hlt1
  go_wp2_with fail
  have c1 : w2.drew.cell? ⟨bk, 0, none⟩ = some (.pointer (some ⟨b, 0, none⟩)) := (hbm2.cell (p := ⟨bk, 0, none⟩) hbl).trans c0
  have d1 : w2.drew.cell? ⟨w.heap.size, 0, none⟩ = some (.int .u32 (m : Int)) := by
    show w2.cell? _ = _
    simp [World.cell?, hN2]
  refine wp_region_still_tail 5 (by kernel_rfl) (by kernel_rfl) ?_
  change wpStill _ _ w2.drew _ _ _
  simp only [List.take_succ_cons, List.take_zero, List.drop_succ_cons, List.drop_zero]
  repeat still_step
  refine wpStill_nil ?_
  change wpList _ _ _ _ _ w2.drew
  have hbm3 : Below w.heap.size w w2.drew := below_drew' hbm2
  have hN3 : w2.drew.heap[w.heap.size]? = some (.cells #[.int .u32 (m : Int)] 61 (0, 0)) := hN2
  generalize w2.drew = w3 at *
  clear hN2 hbm2 w2
  go_wp2_with fail
  have hho := holds_calls (hR.below hbm3).cells hR.wide hm
  rw [decide_eq_true hma] at hho
  refine hho.mono ?_
  rintro e w4 ⟨rfl, hb4⟩
  have hlt3 : w.heap.size < w3.heap.size := (Array.getElem?_eq_some_iff.1 hN3).1
  have hN4 := (hb4.block _ hlt3).trans hN3
  have hbm4 := hbm3.trans (hb4.mono hbm3.size)
  clear hN3 hbm3 hb4 hlt3 hho c1 d1 w1 w3
  go_wp2_with fail
  have c4 : w4.drew.cell? ⟨bk, 1, none⟩ = some (.map (some bm)) := by
    show w4.cell? _ = _
    rw [hbm4.cell (p := ⟨bk, 1, none⟩) hbl]
    simp [World.cell?, hB.hb]
  have d4 : w4.drew.cell? ⟨w.heap.size, 0, none⟩ = some (.int .u32 (m : Int)) := by
    show w4.cell? _ = _
    simp [World.cell?, hN4]
  have hblt := hB.lt bm (.inr (.inl rfl))
  obtain ⟨ob, hob⟩ : ∃ ob, w4.heap[bm]? = ob := ⟨_, rfl⟩
  have hlk : ∀ w', w'.heap[bm]? = ob → (Instr.lookup 108 (.map (some bm)) (.int .u32 (m : Int)) true).run Tryz.prog w' = .ok (.tuple #[(lookKV (ixs.map fun x => (x.m, Value.pointer (some ⟨x.rb, 0, none⟩))) m).getD (.pointer none), .bool (lookKV (ixs.map fun x => (x.m, Value.pointer (some ⟨x.rb, 0, none⟩))) m).isSome]) w' := fun w' h =>
    msk_look true (t := 108) Tryz.underlying108 (Tryz.zeroValue302 w') (hB.hm.frame (h.trans (hob.symm.trans (hbm4.block bm hblt)))) hm
  have A1 : ∀ o, (w4.alloc o).cell? ⟨bk, 1, none⟩ = some (.map (some bm)) := fun o => (((Below.refl _ w4).alloc (Nat.le_refl _) o).cell (p := ⟨bk, 1, none⟩) (Nat.lt_of_lt_of_le hbl hbm4.size)).trans c4
  have A2 : ∀ o, (w4.alloc o).cell? ⟨w.heap.size, 0, none⟩ = some (.int .u32 (m : Int)) := fun o => (((Below.refl _ w4).alloc (Nat.le_refl _) o).cell (p := ⟨w.heap.size, 0, none⟩) (World.block_lt_of_cell? w4 _ d4)).trans d4
  have A3 : ∀ o, (w4.alloc o).heap[bm]? = ob := fun o => (((Below.refl _ w4).alloc (Nat.le_refl _) o).block bm (Nat.lt_of_lt_of_le hblt hbm4.size)).trans hob
  go_upto_region 5 with fail
  go_cut [6, 7] from 28 (fun s6 s7 wx => s6 = .pointer (some ⟨w4.heap.size, 0, none⟩) ∧ ∃ ok, s7 = .bool ok ∧ AskA ixs m w4 ok wx)
  case first =>
    rcases hB.look m with ⟨l1, x, l2, hix, rfl, hlo⟩ | ⟨hno, hlo⟩
    · rw [hlo] at hlk
      simp only [Option.getD_some, Option.isSome_some] at hlk
      go_region_held3 (fun w' => w'.cell? ⟨bk, 1, none⟩ = some (.map (some bm)) ∧ w'.cell? ⟨w.heap.size, 0, none⟩ = some (.int .u32 (x.m : Int)) ∧ w'.heap[bm]? = ob)
        (first | (refine ⟨c4, d4, hob⟩) | (refine ⟨?_, ?_, ?_⟩ <;> first | exact A1 _ | exact A2 _ | exact A3 _)) (fail)
      all_goals (go_wp2_with fail; go_meet; exact ⟨rfl, true, rfl, .inl ⟨l1, x, l2, hix, rfl, rfl, rfl⟩⟩)
    · rw [hlo] at hlk
      simp only [Option.getD_none, Option.isSome_none] at hlk
      go_region_held3 (fun w' => w'.cell? ⟨bk, 1, none⟩ = some (.map (some bm)) ∧ w'.cell? ⟨w.heap.size, 0, none⟩ = some (.int .u32 (m : Int)) ∧ w'.heap[bm]? = ob)
        (first | (refine ⟨c4, d4, hob⟩) | (refine ⟨?_, ?_, ?_⟩ <;> first | exact A1 _ | exact A2 _ | exact A3 _)) (fail)
      all_goals (go_wp2_with fail; go_meet; exact ⟨rfl, false, rfl, .inr ⟨hno, rfl, rfl⟩⟩)
  case rest =>
    obtain ⟨rfl, ok, rfl, hA⟩ := hcut
    clear hlk A1 A2 A3 c4 d4 hob c0
    have HA := Lib.hid hA
    clear hA
    go_upto_if 38 with fail
    go_cut [6] from 28 (fun s6 wx => ∃ N6, s6 = .pointer (some ⟨N6, 0, none⟩) ∧ AskMid w bk b bm ixs m rows gone N6 wx)
    case first =>
      rcases HA.out with ⟨l1, x, l2, hix, hxm, rfl, rfl⟩ | ⟨hno, rfl, rfl⟩
      · clear HA
        go_wp2_with fail
        go_meet
        have hbx := below_drew' (hbm4.alloc hbm4.size (Obj.cells #[Value.pointer (some ⟨x.rb, 0, none⟩)] 302))
        refine ⟨_, rfl, l1, x, l2, by rw [← hix]; exact hB.below hbx, hxm, ?_, heap_alloc_new w4 _, KeptBut.of_below hbx, fun k hk => .inl (by rw [hix]; exact hk), ?_, fun h => hpre x (by rw [hix]; simp) hxm h, ?_⟩
        · exact (((Below.refl _ w4).alloc (Nat.le_refl _) _).block _ (Array.getElem?_eq_some_iff.1 hN4).1).trans hN4
        · rw [hix, ← hxm]; exact askAbs_mid (by rw [← hix]; exact hB.nodup)
        · exact (Array.getElem?_eq_some_iff.1 hN4).1
      · clear HA
        have hbx : Below w.heap.size w (w4.alloc (Obj.cells #[Value.pointer none] 302)).drew := below_drew' (hbm4.alloc hbm4.size _)
        have hN5 : (w4.alloc (Obj.cells #[Value.pointer none] 302)).drew.heap[w.heap.size]? = some (Obj.cells #[.int .u32 (m : Int)] 61 (0, 0)) := (((Below.refl _ w4).alloc (Nat.le_refl _) _).block _ (Array.getElem?_eq_some_iff.1 hN4).1).trans hN4
        have hN6 : (w4.alloc (Obj.cells #[Value.pointer none] 302)).drew.heap[w4.heap.size]? = some (Obj.cells #[.pointer none] 302 (0, 0)) := heap_alloc_new w4 _
        have hlt6 : w.heap.size < w4.heap.size := (Array.getElem?_eq_some_iff.1 hN4).1
        generalize (w4.alloc (Obj.cells #[Value.pointer none] 302)).drew = w5 at *
        have hlt5 : w4.heap.size < w5.heap.size := (Array.getElem?_eq_some_iff.1 hN6).1
        clear hN4 hbm4
        generalize w4.heap.size = N6 at *
        clear w4
        have hb6 : Below w5.heap.size w5 (w5.alloc (.map #[] 0)) := (Below.refl _ _).alloc (Nat.le_refl _) _
        have hM6 := heap_alloc_new w5 (.map #[] 0)
        have hs6 := alloc_size w5 (.map #[] 0)
        have hmm5 := @run_makeMap Tryz.prog 305 w5
        generalize w5.alloc (.map #[] 0) = w6 at *
        have hbx6 : Below w.heap.size w w6 := hbx.trans (hb6.mono hbx.size)
        have hN56 := (hb6.block w.heap.size (by omega)).trans hN5
        have hN66 := (hb6.block N6 (by omega)).trans hN6
        have c0 : w6.cell? ⟨bk, 0, none⟩ = some (.pointer (some ⟨b, 0, none⟩)) := by
          rw [hbx6.cell (p := ⟨bk, 0, none⟩) hbl]; simp [World.cell?, hB.hb]
        have c6 : ∀ o, (w6.alloc o).cell? ⟨N6, 0, none⟩ = some (.pointer none) := fun o => by
          rw [((Below.refl _ w6).alloc (Nat.le_refl _) o).cell (p := ⟨N6, 0, none⟩) (by show N6 < _; omega)]; simp [World.cell?, hN66]
        have f6 : ∀ o, (w6.alloc o).frozen? ⟨N6, 0, none⟩ = false := fun o => by
          rw [((Below.refl _ w6).alloc (Nat.le_refl _) o).frozen (p := ⟨N6, 0, none⟩) (by show N6 < _; omega)]; simp [World.frozen?, hN66]
        have hgo := gone_same (hR.below hbx6).cells
        go_wp2_with (go_at_call 210; refine hgo.mono ?_; rintro e w' ⟨rfl, rfl⟩)
        clear hgo c0 c6 f6 hmm5
        obtain ⟨s1, _, _, s4⟩ := cells_set (n := 0) (pre := []) (post := []) (v := .pointer (some ⟨w5.heap.size + 1, 0, none⟩)) rfl hN66
        simp only [List.nil_append] at s1
        have hb7 : Below w.heap.size w ((w'.setCell ⟨N6, 0, none⟩ (.pointer (some ⟨w5.heap.size + 1, 0, none⟩))).alloc (.cells #[.map (some w5.heap.size), .int .i64 0, .int .i64 gone] 307)).drew :=
          below_drew' ((hbx6.setCell (p := ⟨N6, 0, none⟩) (by show _ ≤ N6; omega) _).alloc (by have := s4.size; omega) _)
        have hz8 := s4.size
        have hsz8 : (w'.setCell ⟨N6, 0, none⟩ (.pointer (some ⟨w5.heap.size + 1, 0, none⟩))).heap.size = w5.heap.size + 1 := by
          rw [← hs6]; simp [World.setCell, Array.size_modify]
        have hM7 : ∀ k, k < w5.heap.size + 1 → k ≠ N6 → ((w'.setCell ⟨N6, 0, none⟩ (.pointer (some ⟨w5.heap.size + 1, 0, none⟩))).alloc (.cells #[.map (some w5.heap.size), .int .i64 0, .int .i64 gone] 307)).drew.heap[k]? = w'.heap[k]? := fun k h1 h2 => by
          show (World.alloc _ _).heap[k]? = _
          rw [alloc_heap, if_neg (by omega), s4.block k (by omega) h2]
        have hR7 : ((w'.setCell ⟨N6, 0, none⟩ (.pointer (some ⟨w5.heap.size + 1, 0, none⟩))).alloc (.cells #[.map (some w5.heap.size), .int .i64 0, .int .i64 gone] 307)).drew.heap[w5.heap.size + 1]? = some (.cells #[.map (some w5.heap.size), .int .i64 0, .int .i64 gone] 307 (0, 0)) := by
          show (World.alloc _ _).heap[_]? = _
          rw [alloc_heap, if_pos hsz8.symm]
        have hN7 : ((w'.setCell ⟨N6, 0, none⟩ (.pointer (some ⟨w5.heap.size + 1, 0, none⟩))).alloc (.cells #[.map (some w5.heap.size), .int .i64 0, .int .i64 gone] 307)).drew.heap[N6]? = some (.cells #[.pointer (some ⟨w5.heap.size + 1, 0, none⟩)] 302 (0, 0)) := by
          show (World.alloc _ _).heap[_]? = _
          rw [alloc_heap, if_neg (by omega), s1]
        refine wp_region_still_tail 6 (by kernel_rfl) (by kernel_rfl) ?_
        change wpStill _ _ (World.drew _) _ _ _
        simp only [List.take_succ_cons, List.take_zero, List.drop_succ_cons, List.drop_zero]
        change wpStill _ _ _ (fun a' => wpList _ _ _ _ _ (World.drew _)) _ _
        generalize ((w'.setCell ⟨N6, 0, none⟩ (.pointer (some ⟨w5.heap.size + 1, 0, none⟩))).alloc (.cells #[.map (some w5.heap.size), .int .i64 0, .int .i64 gone] 307)).drew = w7 at *
        have hM77 := (hM7 _ (by omega) (by omega)).trans hM6
        have hN37 := (hM7 _ (by omega) (by omega)).trans hN56
        clear s1 s4 hM7 hz8 hsz8 hN66 hN56 hM6
        have c1 : w7.cell? ⟨bk, 1, none⟩ = some (.map (some bm)) := by
          rw [hb7.cell (p := ⟨bk, 1, none⟩) hbl]; simp [World.cell?, hB.hb]
        have c3 : w7.cell? ⟨w.heap.size, 0, none⟩ = some (.int .u32 (m : Int)) := by simp [World.cell?, hN37]
        have c6 : w7.cell? ⟨N6, 0, none⟩ = some (.pointer (some ⟨w5.heap.size + 1, 0, none⟩)) := by simp [World.cell?, hN7]
        obtain ⟨w8, hput, hm8, hk8⟩ := msk_put (t := 108) Tryz.underlying108 (hB.hm.frame (w' := w7) (hb7.block _ hblt)) hm (.pointer (some ⟨w5.heap.size + 1, 0, none⟩))
        repeat still_step
        refine wpStill_nil ?_
        go_wp2_with fail
        go_meet
        have hkb : ∀ k, k ≠ bm → k < w7.heap.size → w8.heap[k]? = w7.heap[k]? := fun k h1 h2 => hk8.block k h2 h1
        have hlt7 : w5.heap.size + 1 < w7.heap.size := (Array.getElem?_eq_some_iff.1 hR7).1
        have hM8 : w8.heap[w5.heap.size]? = some (.map #[] 0) := (hkb _ (by omega) (by omega)).trans hM77
        have hxI : IxAt w8 ⟨m, [], gone, w5.heap.size + 1, w5.heap.size, fun _ => .slice none 0 0⟩ 0 :=
          { hr := (hkb _ (by omega) hlt7).trans hR7
            hk := MapG.nil hM8
            hs := fun q hq => (by cases hq)
            ok := fun p hp => (by cases hp)
            ne := by show w5.heap.size + 1 ≠ w5.heap.size; omega
            nr := fun q hq => (by cases hq)
            nn := fun q hq => (by cases hq) }
        have hxF : ∀ k, IxF ⟨m, [], gone, w5.heap.size + 1, w5.heap.size, fun _ => .slice none 0 0⟩ k → k = w5.heap.size + 1 ∨ k = w5.heap.size := by
          rintro k (hk | hk | ⟨q, hq, hk⟩)
          · exact .inl hk
          · exact .inr hk
          · cases hq
        obtain ⟨g1, g2, g3⟩ := BookAt.more (w := w) (w' := w8) hB hno hm8 hxI ((KeptBut.of_below hb7).trans hk8 fun k hk => .inr hk) fun k hk => by rcases hxF k hk with rfl | rfl <;> omega
        refine ⟨N6, rfl, ixs, _, [], g1, rfl, (hkb _ (by omega) (by omega)).trans hN37, (hkb _ (by omega) (by omega)).trans hN7, g2, ?_, ?_, fun _ => ?_, hlt6⟩
        · rintro k (hk | hk | ⟨y, hy, hk⟩)
          · exact .inl (.inl hk)
          · exact .inl (.inr (.inl hk))
          · rcases List.mem_append.1 hy with hy | hy
            · exact .inl (.inr (.inr ⟨y, hy, hk⟩))
            · rw [List.mem_singleton.1 hy] at hk
              right
              rcases hxF k hk with rfl | rfl <;> omega
        · exact askAbs_new hno
        · rfl
    case rest =>
      obtain ⟨N6, rfl, hM⟩ := hcut
      have HM := Lib.hid hM
      clear hM HA hN4 hbm4
      obtain ⟨l1, x, l2, hB2, hxm, hN3, hN6, hK2, hF2, hA2, hP2, hlt6⟩ := HM.out
      have hI2 := hB2.ix x (by simp)
      have hbk2 : wc.heap[bk]? = some (.cells #[.pointer (some ⟨b, 0, none⟩), .map (some bm)] 110 (0, 0)) := hB2.hb
      have hR2 : RelAt wc b pb mb lv arity gone rows := hR.frame fun k hk => hK2.block k (hR.lt k hk) fun hc => hd k hc hk
      have c6 : wc.drew.cell? ⟨N6, 0, none⟩ = some (.pointer (some ⟨x.rb, 0, none⟩)) := by show wc.cell? _ = _; simp [World.cell?, hN6]
      have c2 : wc.drew.cell? ⟨x.rb, 2, none⟩ = some (.int .i64 x.gone) := by show wc.cell? _ = _; simp [World.cell?, hI2.hr]
      have c0 : wc.drew.cell? ⟨bk, 0, none⟩ = some (.pointer (some ⟨b, 0, none⟩)) := by show wc.cell? _ = _; simp [World.cell?, hbk2]
      have hRd : RelCells wc.drew b pb mb lv arity gone := (hR2.frame (w' := wc.drew) fun k _ => rfl).cells
      go_wp2_with fail
      refine wp_region_still_lit (by kernel_rfl) (by kernel_rfl) ?_
      change wpStill _ _ wc.drew _ _ _
      repeat (first | still_call (gone_same hRd) | still_step)
      refine wpStill_nil ?_
      change Exit.then _ _ _ _ wc.drew
      go_upto_if 64 with fail
      clear c2 c0 hRd
      go_cut [6] from 54 (fun s6 wx => s6 = .pointer (some ⟨N6, 0, none⟩) ∧ AskMid2 w bk b bm ixs m rows gone N6 wx)
      case first =>
        generalize hbq : (x.gone == gone) = q
        cases q
        rotate_left
        · have HG := Lib.hid (eq_of_beq hbq)
          clear hbq
          go_wp2_with fail
          go_meet
          have hg := HG.out
          exact ⟨rfl, l1, x, l2, hB2.frame fun k _ => rfl, hxm, hN3, hN6, ⟨hK2.os, hK2.tape, hK2.output, hK2.size, hK2.block⟩, hF2, hA2, hg, hP2 hg, hlt6⟩
        · clear hbq
          have c20 : wc.drew.cell? ⟨x.rb, 0, none⟩ = some (.map (some x.kb)) := by show wc.cell? _ = _; simp [World.cell?, hI2.hr]
          obtain ⟨w9, hclr, hm9, hk9⟩ := map_clear (w := wc.drew) (hI2.hk.frame rfl) (t := 305) Tryz.underlying305
          go_wp2_with fail
          have hxb : IxF x x.rb := .inl rfl
          have hmx : x ∈ l1 ++ x :: l2 := by simp
          have hltc : ∀ k, IxF x k → k < wc.heap.size := hI2.lt
          have n1 : bk ≠ x.rb := fun e => (hB2.nb x hmx).1 (e ▸ hxb)
          have hxbf := hF2 x.rb (.inr (.inr ⟨x, hmx, hxb⟩))
          have n2 : N6 ≠ x.rb := fun e => by
            rcases hxbf with h | ⟨_, h⟩
            · have := hB.lt _ h; omega
            · exact h e.symm
          have n3 : ∀ k, relF b pb mb lv k → k ≠ x.rb ∧ k ≠ x.kb := fun k hk => by
            have aux : ∀ k', IxF x k' → k ≠ k' := fun k' hk' e => by
              subst e
              rcases hF2 k (.inr (.inr ⟨x, hmx, hk'⟩)) with h | h
              · exact hd k h hk
              · have := hR.lt k hk; omega
            exact ⟨aux _ (.inl rfl), aux _ (.inr (.inl rfl))⟩
          have hk9b : ∀ k, k ≠ x.kb → k < wc.heap.size → w9.drew.heap[k]? = wc.heap[k]? := fun k h1 h2 => hk9.block k h2 h1
          have hN69 : w9.drew.heap[N6]? = some (.cells #[.pointer (some ⟨x.rb, 0, none⟩)] 302 (0, 0)) := by
            rw [hk9b N6 (fun e => ?_) (Array.getElem?_eq_some_iff.1 hN6).1]
            · exact hN6
            · rcases hF2 x.kb (.inr (.inr ⟨x, hmx, .inr (.inl rfl)⟩)) with h | ⟨_, h⟩
              · have := hB.lt _ h; omega
              · exact h e.symm
          have hrb9 : w9.drew.heap[x.rb]? = some (.cells #[.map (some x.kb), .int .i64 (x.took.length : Int), .int .i64 x.gone] 307 (0, 0)) := (hk9b _ hI2.ne (hltc _ hxb)).trans hI2.hr
          have c69 : w9.drew.cell? ⟨N6, 0, none⟩ = some (.pointer (some ⟨x.rb, 0, none⟩)) := by simp [World.cell?, hN69]
          have c09 : w9.drew.cell? ⟨bk, 0, none⟩ = some (.pointer (some ⟨b, 0, none⟩)) := by
            have : w9.drew.heap[bk]? = _ := (hk9b bk (fun e => (hB2.nb x hmx).1 (e ▸ .inr (.inl rfl))) (Array.getElem?_eq_some_iff.1 hbk2).1).trans hbk2
            simp [World.cell?, this]
          have hR9 : RelCells w9.drew b pb mb lv arity gone := (hR2.frame (w' := w9.drew) fun k hk => hk9b k (n3 k hk).2 (hR2.lt k hk)).cells
          have hrb99 : w9.heap[x.rb]? = some (.cells #[.map (some x.kb), .int .i64 (x.took.length : Int), .int .i64 x.gone] 307 (0, 0)) := hrb9
          have hs1 := fun v : Value => cells_set (n := 1) (pre := [.map (some x.kb)]) (post := [.int .i64 x.gone]) (v := v) rfl hrb99
          have hs2 := fun v : Value => cells_set (n := 2) (pre := [.map (some x.kb), .int .i64 (x.took.length : Int)]) (post := []) (v := v) rfl hrb99
          have d1 : w9.cell? ⟨x.rb, 1, none⟩ = some (.int .i64 (x.took.length : Int)) := by simp [World.cell?, hrb99]
          have d2 : w9.cell? ⟨x.rb, 2, none⟩ = some (.int .i64 x.gone) := by simp [World.cell?, hrb99]
          have e1 : w9.frozen? ⟨x.rb, 1, none⟩ = false := by simp [World.frozen?, hrb99]
          have e2 : w9.frozen? ⟨x.rb, 2, none⟩ = false := by simp [World.frozen?, hrb99]
          have d1' : ∀ v, (w9.setCell ⟨x.rb, 2, none⟩ v).cell? ⟨x.rb, 1, none⟩ = some (.int .i64 (x.took.length : Int)) := fun v => by simp [World.cell?, (hs2 v).1]
          have d2' : ∀ v, (w9.setCell ⟨x.rb, 1, none⟩ v).cell? ⟨x.rb, 2, none⟩ = some (.int .i64 x.gone) := fun v => by simp [World.cell?, (hs1 v).1]
          have e1' : ∀ v, (w9.setCell ⟨x.rb, 2, none⟩ v).frozen? ⟨x.rb, 1, none⟩ = false := fun v => by simp [World.frozen?, (hs2 v).1]
          have e2' : ∀ v, (w9.setCell ⟨x.rb, 1, none⟩ v).frozen? ⟨x.rb, 2, none⟩ = false := fun v => by simp [World.frozen?, (hs1 v).1]
          have m1 := (n3 b (.inl rfl)).1
          have m2 := (n3 pb (.inr (.inl rfl))).1
          have k1 : ∀ i v, (w9.setCell ⟨x.rb, i, none⟩ v).drew.cell? ⟨N6, 0, none⟩ = some (.pointer (some ⟨x.rb, 0, none⟩)) ∧ (w9.setCell ⟨x.rb, i, none⟩ v).drew.cell? ⟨bk, 0, none⟩ = some (.pointer (some ⟨b, 0, none⟩)) ∧ RelCells (w9.setCell ⟨x.rb, i, none⟩ v).drew b pb mb lv arity gone := fun i v =>
            ⟨(cell_ne (w := w9.drew) (p := ⟨N6, 0, none⟩) n2).trans c69, (cell_ne (w := w9.drew) (p := ⟨bk, 0, none⟩) n1).trans c09, hR9.set (g := x.rb) (i := i) (v := v) m1 m2⟩
          have k2 : ∀ i v j u, ((w9.setCell ⟨x.rb, i, none⟩ v).setCell ⟨x.rb, j, none⟩ u).drew.cell? ⟨N6, 0, none⟩ = some (.pointer (some ⟨x.rb, 0, none⟩)) ∧ ((w9.setCell ⟨x.rb, i, none⟩ v).setCell ⟨x.rb, j, none⟩ u).drew.cell? ⟨bk, 0, none⟩ = some (.pointer (some ⟨b, 0, none⟩)) ∧ RelCells ((w9.setCell ⟨x.rb, i, none⟩ v).setCell ⟨x.rb, j, none⟩ u).drew b pb mb lv arity gone := fun i v j u =>
            ⟨(cell_ne (w := (w9.setCell ⟨x.rb, i, none⟩ v).drew) (p := ⟨N6, 0, none⟩) n2).trans (k1 i v).1, (cell_ne (w := (w9.setCell ⟨x.rb, i, none⟩ v).drew) (p := ⟨bk, 0, none⟩) n1).trans (k1 i v).2.1, (k1 i v).2.2.set (g := x.rb) (i := j) (v := u) m1 m2⟩
          have HI := Lib.hid (And.intro hI2 (And.intro hmx (And.intro hltc (And.intro hk9 (And.intro hm9 (And.intro hk9b (And.intro n3 (And.intro hrb99 hN69))))))))
          have HK := Lib.hid (And.intro k1 k2)
          clear hI2 hltc hxb hk9b hclr hm9 hk9 n3 hrb9 hrb99 hN69 hmx c20 hs1 hs2 k1 k2
          go_region_held3 (fun w' => w'.cell? ⟨N6, 0, none⟩ = some (.pointer (some ⟨x.rb, 0, none⟩)) ∧ w'.cell? ⟨bk, 0, none⟩ = some (.pointer (some ⟨b, 0, none⟩)) ∧ RelCells w' b pb mb lv arity gone)
            (first
              | exact ⟨c69, c09, hR9⟩
              | exact HK.out.1 _ _
              | exact HK.out.2 _ _ _ _)
            ((go_at_call 210; refine (gone_same (by go_split_ands; assumption)).mono ?_; rintro e w' ⟨rfl, rfl⟩))
          all_goals (go_wp2_with fail; go_meet; exact ⟨rfl, ask_cleared hB2 hxm hN3 hN6 hK2 hF2 hA2 hlt6 HI.out.2.2.2.2.1 ⟨HI.out.2.2.2.1.os, HI.out.2.2.2.1.tape, HI.out.2.2.2.1.output, HI.out.2.2.2.1.size, HI.out.2.2.2.1.block⟩ n2 hB.lt⟩)
      case rest =>
        obtain ⟨rfl, hM2⟩ := hcut
        have HM2 := Lib.hid hM2
        clear hM2 HM hB2 hxm hN3 hN6 hK2 hF2 hA2 hP2 hlt6 hbk2 hR2 c6 hI2 x
        obtain ⟨l1, x, l2, hB3, hxm, hN3, hN6, hK3, hF3, hA3, hg3, hP3, hlt6⟩ := HM2.out
        have hI3 := hB3.ix x (by simp)
        have hmx : x ∈ l1 ++ x :: l2 := by simp
        have hR3 : RelAt wc b pb mb lv arity gone rows := hR.frame fun k hk => hK3.block k (hR.lt k hk) fun hc => hd k hc hk
        have c6 : wc.drew.cell? ⟨N6, 0, none⟩ = some (.pointer (some ⟨x.rb, 0, none⟩)) := by show wc.cell? _ = _; simp [World.cell?, hN6]
        have c1 : wc.drew.cell? ⟨x.rb, 1, none⟩ = some (.int .i64 (x.took.length : Int)) := by show wc.cell? _ = _; simp [World.cell?, hI3.hr]
        have c0 : wc.drew.cell? ⟨bk, 0, none⟩ = some (.pointer (some ⟨b, 0, none⟩)) := by show wc.cell? _ = _; simp [World.cell?, hB3.hb]
        obtain ⟨ad, cap, rfl⟩ : ∃ ad cap, lv = .slice ad rows.length cap := by
          obtain ⟨_, ⟨rfl, h0⟩ | ⟨g, cap, cur, rfl, _⟩⟩ := hR.own
          · exact ⟨none, 0, by rw [h0]⟩
          · exact ⟨_, _, rfl⟩
        have hRd : RelCells wc.drew b pb mb (.slice ad rows.length cap) arity gone := (hR3.frame (w' := wc.drew) fun k _ => rfl).cells
        have HP := Lib.hid (And.intro hP3 (And.intro hg3 (And.intro hA3 hxm)))
        clear hP3 hg3 hA3 hxm
        go_wp2_with fail
        refine wp_region_still_tail 15 (by kernel_rfl) (by kernel_rfl) ?_
        change wpStill _ _ wc.drew _ _ _
        simp only [List.take_succ_cons, List.take_zero, List.drop_succ_cons, List.drop_zero]
        repeat (first | still_call (len_same hRd) | still_step)
        refine wpStill_nil ?_
        change wpList _ _ _ _ _ wc.drew
        go_wp2_with fail
        refine (range_calls _ _ _).mono ?_
        rintro e wr ⟨rfl, hb3, hb4, hb5, hbw⟩
        go_wp2_with fail
        have hbw' : Below wc.heap.size wc wr := ⟨hbw.os, hbw.tape, hbw.output, hbw.size, hbw.block⟩
        have hIr := hI3.frame (w' := wr) fun k hk => hbw'.block k (hI3.lt k hk)
        have hltx : ∀ k, IxF x k → k < wr.heap.size := fun k hk => Nat.lt_of_lt_of_le (hI3.lt k hk) hbw'.size
        have hno : ∀ k, IxF x k → k ≠ w.heap.size ∧ k ≠ N6 := fun k hk => by
          rcases hF3 k (.inr (.inr ⟨x, hmx, hk⟩)) with h | h
          · have := hB.lt k h; omega
          · exact ⟨by omega, h.2⟩
        have hlen : x.took.length ≤ rows.length := by
          have := congrArg List.length HP.out.1
          rw [nums_len, List.length_take] at this
          omega
        have hR4 : RelAt wr b pb mb (.slice ad rows.length cap) arity gone rows := hR3.below hbw'
        have hN3r := (hbw'.block _ (Array.getElem?_eq_some_iff.1 hN3).1).trans hN3
        have hN6r := (hbw'.block _ (Array.getElem?_eq_some_iff.1 hN6).1).trans hN6
        refine (wpIn_wide (n := 5)).1 ?_
        refine wpIn_rangeFunc_ownH (F := FW none) (α := NR) rfl (by decide) (gf := 220) (lb := #[.pointer (some ⟨wc.heap.size, 0, none⟩), .pointer (some ⟨wc.heap.size + 1, 0, none⟩), .pointer (some ⟨wc.heap.size + 2, 0, none⟩)]) rfl trivial (enters_of Tryz.func220 (by kernel_rfl) rfl)
          (range_stops 4 hR4 hn hlen hb3 hb4 hb5) (fun h h' => h.trans h') (fun W l o o' _ ho hc _ => kpRow_put W l o o' ho hc) (Below.refl _ _) (fun _ => rfl)
          (AskI x x.took.length wr) (fun _ _ _ => False) (AskI.own hltx) (fun _ _ _ _ _ h _ _ => h) (AskI.start hIr)
          (fun p a' W => ∃ N9, wr.heap.size ≤ N9 ∧ W.heap[N9]? = some (.cells (p.1.2.map symV).toArray 64 (0, 0)) ∧ a' = { tmps := #[.pointer (some ⟨bk, 0, none⟩), .int .u32 (m : Int), undef, .pointer (some ⟨w.heap.size, 0, none⟩), .pointer none, .int .i64 0, .pointer (some ⟨N6, 0, none⟩), .bool ok, .int .i64 p.1.1, .pointer (some ⟨N9, 0, none⟩), undef, .pointer (some ⟨bk, 0, none⟩), .bool false, .bool false, .pointer (some ⟨bk, 0, none⟩), .pointer (some ⟨bk, 0, none⟩), .pointer (some ⟨bk, 0, none⟩), .agg #[.pointer (some ⟨b, 0, none⟩)], .bool true, .bool false, .bool false, .pointer (some ⟨bk, 0, none⟩), .pointer (some ⟨bk, 0, none⟩), .pointer (some ⟨bk, 0, none⟩), .agg #[.pointer (some ⟨b, 0, none⟩)], .int .u32 (m : Int), .bool true, .bool false, u28, u29, u30, u31, u32, u33, u34, u35, u36, u37, u38, u39, u40, u41, u42, u43, u44, u45, u46, u47, u48, u49, u50, u51, u52, u53, u54, u55, u56, u57, u58, u59, u60, u61, u62, u63, u64, u65, u66, u67, u68, u69, u70, u71, u72, u73, u74, u75, u76, u77, u78, u79, u80, .pointer (some ⟨bk, 0, none⟩), .pointer (some ⟨bk, 0, none⟩), .pointer (some ⟨bk, 0, none⟩), .pointer (some ⟨bk, 0, none⟩), .pointer (some ⟨b, 0, none⟩), .pointer (some ⟨x.rb, 0, none⟩), .pointer (some ⟨x.rb, 0, none⟩), .pointer (some ⟨x.rb, 1, none⟩), .int .i64 (x.took.length : Int), .pointer (some ⟨bk, 0, none⟩), .pointer (some ⟨bk, 0, none⟩), .pointer (some ⟨bk, 0, none⟩), .pointer (some ⟨bk, 0, none⟩), .pointer (some ⟨b, 0, none⟩), .int .i64 (rows.length : Int), .func (.func 220) #[] #[.pointer (some ⟨wc.heap.size, 0, none⟩), .pointer (some ⟨wc.heap.size + 1, 0, none⟩), .pointer (some ⟨wc.heap.size + 2, 0, none⟩)], .int .i64 p.1.1, rowV p.1.2, u99, u100, u101, u102, u103, u104, u105, u106, u107, u108, u109, u110, u111, u112, u113, u114, u115, u116, u117, u118, u119, u120, u121], defers := [] }) ?hAx ?assign ?body ?done ?stop
        case hAx =>
          rintro p a' _ W W' row ⟨N9, h1, h2, h3⟩ hg hr
          refine ⟨N9, h1, (hg.block N9 (Array.getElem?_eq_some_iff.1 h2).1 fun e => ?_).trans h2, h3⟩
          obtain ⟨_, o, ho, hc⟩ := hr N9 e.symm
          rw [h2] at ho
          cases ho
          cases hc
        case stop =>
          rintro D c pre W _ _ h _
          exact h.elim
        case assign =>
          intro l pre p W K hI hK
          obtain ⟨⟨yi, yx⟩, hyo⟩ := p
          have hl24 : yx.length = 24 := hyo.1
          have hsz1 : (Tryz.prog.info? 64).map (·.size) = some (yx.map symV).toArray.size := by rw [infoRow]; simp [hl24]
          have hone := row_one yx
          have hz := heap_alloc_new W (Obj.cells (List.replicate 24 (Value.int .i32 0)).toArray 64)
          have hbx := below_setRow ((Below.refl _ W).alloc (Nat.le_refl _) (Obj.cells (List.replicate 24 (Value.int .i32 0)).toArray 64)) (Nat.le_refl _) (yx.map symV).toArray
          have hzx := setRow_heap _ _ _ (yx.map symV).toArray _ _ hz
          obtain ⟨W1, hW1⟩ : ∃ W1, (W.alloc (Obj.cells (List.replicate 24 (Value.int .i32 0)).toArray 64)).setRow W.heap.size (yx.map symV).toArray = W1 := ⟨_, rfl⟩
          rw [hW1] at hbx hzx
          simp only [List.replicate] at hW1 hz
          have HK := Lib.hid hK
          have HI := Lib.hid hI
          clear hK hI
          gi_wp2_with (refine wpListIn_op (rd := some l) rfl (fun _ h => by cases h) (wp_store_row 64 _ _ rfl W.heap.size _ rfl rfl 64 _ hz hsz1 (by simp [hl24]) hone ?_); rw [hW1])
          refine HK.out _ _ (KeepsFrom.of_grownBy (grown_of_below hbx) (fun j e => by cases e)) (fun k cs fr hk => (hbx.block k (Array.getElem?_eq_some_iff.1 hk).1).trans hk) (AskI.own hltx _ W W1 none HI.out (grown_of_below hbx) (fun _ e => by cases e)) ⟨W.heap.size, ?_, hzx, rfl⟩
          obtain ⟨_, _, h2, _⟩ := HI.out
          exact h2.size
        case body =>
          rintro l pre ⟨⟨yi, yx⟩, hyo⟩ a' W hl hrec hI ⟨N9, hN90, hN9, rfl⟩ hpl
          dsimp only
          obtain ⟨sl, h1, h2, h3⟩ := hI
          have hyo' : RowOk yx := hyo
          have hN3W : W.heap[w.heap.size]? = some (.cells #[.int .u32 (m : Int)] 61 (0, 0)) := (h2.block _ (Array.getElem?_eq_some_iff.1 hN3r).1 fun h => (hno _ h).1 rfl).trans hN3r
          have hN6W : W.heap[N6]? = some (.cells #[.pointer (some ⟨x.rb, 0, none⟩)] 302 (0, 0)) := (h2.block _ (Array.getElem?_eq_some_iff.1 hN6r).1 fun h => (hno _ h).2 rfl).trans hN6r
          have c3 : W.cell? ⟨w.heap.size, 0, none⟩ = some (.int .u32 (m : Int)) := by simp [World.cell?, hN3W]
          have hkey := key_calls (w := W) (m := m) hm hyo' hN9
          refine wpIn_block ?_
          refine wpIn_seq_k fun K hK => ?_
          have HK := Lib.hid hK
          have H1 := Lib.hid (And.intro h1 (And.intro h2 h3))
          clear hK h1 h2 h3
          refine wpIn_region_of_list (rd := some l) (fun ⟨_, _, h⟩ => h) (fun o ho c hc => by simp only [List.mem_cons, List.not_mem_nil, or_false] at ho; rcases ho with rfl | rfl | rfl | rfl <;> cases hc) ?_
          have hkr := keyRow_ok m hyo'
          have hkl := keyTo_len m yx 24
          have hsz1 : (Tryz.prog.info? 64).map (·.size) = some ((keyRow m yx).map symV).toArray.size := by rw [infoRow]; simp [hkl]
          have hone := row_one (keyRow m yx)
          go_wp2_with fail
          refine hkey.mono ?_
          rintro e W2 ⟨rfl, hb2⟩
          have hz := heap_alloc_new W2 (Obj.cells (List.replicate 24 (Value.int .i32 0)).toArray 64)
          have hbx := below_setRow ((Below.refl _ W2).alloc (Nat.le_refl _) (Obj.cells (List.replicate 24 (Value.int .i32 0)).toArray 64)) (Nat.le_refl _) ((keyRow m yx).map symV).toArray
          have hzx := setRow_heap _ _ _ ((keyRow m yx).map symV).toArray _ _ hz
          obtain ⟨W3, hW3⟩ : ∃ W3, (W2.alloc (Obj.cells (List.replicate 24 (Value.int .i32 0)).toArray 64)).setRow W2.heap.size ((keyRow m yx).map symV).toArray = W3 := ⟨_, rfl⟩
          rw [hW3] at hbx hzx
          simp only [List.replicate] at hW3 hz
          go_wp2_with (refine wpList_store_row rfl 64 _ _ rfl W2.heap.size _ rfl rfl 64 _ hz hsz1 (by simp [hkl]) hone ?_; rw [hW3])
          refine HK.out _ _ ?_
          have hb4 : Below W.heap.size W W3.drew := below_drew' (hb2.trans (hbx.mono hb2.size))
          have hN10 : W3.drew.heap[W2.heap.size]? = some (.cells ((keyRow m yx).map symV).toArray 64 (0, 0)) := hzx
          clear hkey HK hz hW3 hb2 hbx hzx c3
          refine wpIn_region_of_any (rd := some l) (by kernel_rfl) (fun ⟨_, _, h⟩ => h) (by kernel_rfl) ?_
          change wpAny _ _ _ _ _ _ _ (World.drew _)
          generalize W3.drew = W4 at *
          have hI4 := H1.out.1.frame (w' := W4) fun k hk => hb4.block k (H1.out.1.lt k hk)
          have hS4 : (fun w' : World => w'.heap[N6]? = some (.cells #[.pointer (some ⟨x.rb, 0, none⟩)] 302 (0, 0)) ∧ w'.heap[x.rb]? = some (.cells #[.map (some x.kb), .int .i64 (x.took.length : Int), .int .i64 x.gone] 307 (0, 0)) ∧
              w'.heap[W2.heap.size]? = some (.cells ((keyRow m yx).map symV).toArray 64 (0, 0))) W4 :=
            ⟨(hb4.block _ (Array.getElem?_eq_some_iff.1 hN6W).1).trans hN6W, hI4.hr, hN10⟩
          refine wpAny_of_held _ _ _ _ (?_ : wpAnyH _ _ _ _ (fun w' : World => w'.heap[N6]? = some (.cells #[.pointer (some ⟨x.rb, 0, none⟩)] 302 (0, 0)) ∧ w'.heap[x.rb]? = some (.cells #[.map (some x.kb), .int .i64 (x.took.length : Int), .int .i64 x.gone] 307 (0, 0)) ∧
              w'.heap[W2.heap.size]? = some (.cells ((keyRow m yx).map symV).toArray 64 (0, 0))) _ _ _ _)
          have HI4 := Lib.hid hI4
          clear hI4
          refine wpAnyH_take (i := 0) (v := ?_) rfl (by kernel_rfl) (by kernel_rfl) (by kernel_rfl) (fun _ _ _ h => h) (Or.inl ⟨by rfl, ?_⟩) hS4 ?_
          rotate_left
          · intro w' hw'; have c := cell_of_row w' N6 0 _ _ _ hw'.1; simp only [List.getElem?_toArray, List.getElem?_cons_zero] at c; go_simp; try with_reducible rfl
          refine wpAnyH_take (i := 1) (v := ?_) rfl (by kernel_rfl) (by kernel_rfl) (by kernel_rfl) (fun _ _ _ h => h) (Or.inl ⟨by rfl, ?_⟩) hS4 ?_
          rotate_left
          · intro w' hw'; go_simp; try with_reducible rfl
          refine wpAnyH_take (i := 2) (v := ?_) rfl (by kernel_rfl) (by kernel_rfl) (by kernel_rfl) (fun _ _ _ h => h) (Or.inl ⟨by rfl, ?_⟩) hS4 ?_
          rotate_left
          · intro w' hw'; go_simp; try with_reducible rfl
          refine wpAnyH_take (i := 3) (v := ?_) rfl (by kernel_rfl) (by kernel_rfl) (by kernel_rfl) (fun _ _ _ h => h) (Or.inl ⟨by rfl, ?_⟩) hS4 ?_
          rotate_left
          · intro w' hw'; have c := cell_of_row w' x.rb 0 _ _ _ hw'.2.1; simp only [List.getElem?_toArray, List.getElem?_cons_zero] at c; go_simp; try with_reducible rfl
          refine wpAnyH_take (i := 4) (v := .agg ((keyRow m yx).map symV).toArray) rfl (by kernel_rfl) (by kernel_rfl) (by kernel_rfl) (fun _ _ _ h => h) (yieldsIf_load_row (by rfl) 64 _ rfl W2.heap.size rfl 64 _ (0, 0) _ (fun w' hw' => hw'.2.2) Tryz.underlying64 rfl hsz1) hS4 ?_
          refine wpAnyH_take (i := 5) (v := ?_) rfl (by kernel_rfl) (by kernel_rfl) (by kernel_rfl) (fun _ _ _ h => h) (Or.inl ⟨by rfl, ?_⟩) hS4 ?_
          rotate_left
          · intro w' hw'; go_simp; try with_reducible rfl
          have hxm := HP.out.2.2.2
          subst hxm
          obtain ⟨i0, hi0, hz0, hz1, hz2⟩ := info_parts info3
          have hidl : (idsOf x.m (x.with pre sl).took (keyRow x.m yx)).length ≤ 2097152 := by
            have h := ids_len x.m (x.with pre sl).took (keyRow x.m yx)
            have h' : (x.with pre sl).took.length = x.took.length + pre.length := by simp [Ix.with]
            omega
          have hat4 := HI4.out.at (keyRow x.m yx)
          have hv0e : (lookKV (x.with pre sl).kv (keyRow x.m yx)).getD (.slice none 0 0) = (x.with pre sl).at (keyRow x.m yx) := rfl
          obtain ⟨v0, hv0⟩ : ∃ v0, v0 = (x.with pre sl).at (keyRow x.m yx) := ⟨_, rfl⟩
          have hv0b : ∀ k, v0.ownBlock = some k → k < W4.heap.size ∧ k ≠ x.kb ∧ k ≠ x.rb ∧ k ≠ N6 ∧ k ≠ W2.heap.size := fun k hk => by
            rw [hv0] at hk
            obtain ⟨hq, hq2⟩ := Ix.at_block hk
            have h5 := own_lt (HI4.out.hs _ hq) hq2
            refine ⟨h5, fun e => (HI4.out.nr _ hq).2 (by rw [hq2, e]; rfl), fun e => (HI4.out.nr _ hq).1 (by rw [hq2, e]; rfl), fun e => ?_, fun e => ?_⟩
            · rcases H1.out.2.2 k (.inr (.inr ⟨_, hq, hq2⟩)) with h | h
              · exact (hno k h).2 e
              · have := (Array.getElem?_eq_some_iff.1 hN6r).1; omega
            · rcases HI4.out.obj k (.inr (.inr ⟨_, hq, hq2⟩)) with h | ⟨cs, t, fr, h, h'⟩
              · exact (HI4.out.nr _ hq).2 (by rw [hq2, h])
              · subst e; rw [hN10] at h; cases h; exact h' rfl
          have hne6 : N6 ≠ x.kb := fun e => (hno x.kb (.inr (.inl rfl))).2 e.symm
          have hneR : x.rb ≠ x.kb := hI3.ne
          have hne10 : W2.heap.size ≠ x.kb := fun e => by
            obtain ⟨es, clock, h5, _⟩ := HI4.out.hk
            have h6 : W4.heap[x.kb]? = some (.map es clock) := h5
            rw [← e, hN10] at h6
            cases h6
          have hlt4 : x.kb < W4.heap.size := HI4.out.lt _ (.inr (.inl rfl))
          refine wpAnyH_ready (rs := [6]) (by kernel_rfl) (by simp) ?_
          refine AllReadyH.cons rfl (fun K hK => ?_) AllReadyH.nil
          · have hS5 : (fun w' : World => w'.heap[N6]? = some (.cells #[.pointer (some ⟨x.rb, 0, none⟩)] 302 (0, 0)) ∧ w'.heap[x.rb]? = some (.cells #[.map (some x.kb), .int .i64 (x.took.length : Int), .int .i64 x.gone] 307 (0, 0)) ∧
              w'.heap[W2.heap.size]? = some (.cells ((keyRow x.m yx).map symV).toArray 64 (0, 0))) (W4.alloc (.cells #[.int .i64 yi] 3)) :=
              ⟨(((Below.refl _ W4).alloc (Nat.le_refl _) _).block _ (Array.getElem?_eq_some_iff.1 hS4.1).1).trans hS4.1, (((Below.refl _ W4).alloc (Nat.le_refl _) _).block _ (Array.getElem?_eq_some_iff.1 hS4.2.1).1).trans hS4.2.1, (((Below.refl _ W4).alloc (Nat.le_refl _) _).block _ (Array.getElem?_eq_some_iff.1 hS4.2.2).1).trans hS4.2.2⟩
            have hb5 : Below W4.heap.size W4 (W4.alloc (.cells #[.int .i64 yi] 3)) := (Below.refl _ W4).alloc (Nat.le_refl _) _
            have hnew := heap_alloc_new W4 (.cells #[.int .i64 yi] 3)
            rw [if_pos (by rfl)]
            go_simp
            refine hK.out _ _ hS5 (fun _ => ?_)
            clear hK K
            generalize W4.alloc (.cells #[.int .i64 yi] 3) = W5 at *
            obtain ⟨st, W6, hent, hE6, hk6⟩ := row_entry (t := 305) Tryz.underlying305 (Tryz.zeroValue102 W5) ((HI4.out.hk.frame (w' := W5) (hb5.block _ hlt4))) hkr
            rw [hv0e, ← hv0] at hent
            have hent' : (Instr.mapEntry 305 (.map (some x.kb)) (rowV (keyRow x.m yx))).run Tryz.prog W5 = .ok (.tuple #[v0, .int .i64 (st : Int)]) W6 := hent
            clear hent
            have hk6 : KeptBut (fun k => k = x.kb) W5 W6 := hk6
            have hne4 : W4.heap.size ≠ x.kb := by omega
            have Hv0 := Lib.hid hv0
            clear hv0
            have hS6 : (fun w' : World => w'.heap[N6]? = some (.cells #[.pointer (some ⟨x.rb, 0, none⟩)] 302 (0, 0)) ∧ w'.heap[x.rb]? = some (.cells #[.map (some x.kb), .int .i64 (x.took.length : Int), .int .i64 x.gone] 307 (0, 0)) ∧
              w'.heap[W2.heap.size]? = some (.cells ((keyRow x.m yx).map symV).toArray 64 (0, 0))) W6 :=
              ⟨(hk6.block _ (Array.getElem?_eq_some_iff.1 hS5.1).1 hne6).trans hS5.1, (hk6.block _ (Array.getElem?_eq_some_iff.1 hS5.2.1).1 hneR).trans hS5.2.1, (hk6.block _ (Array.getElem?_eq_some_iff.1 hS5.2.2).1 hne10).trans hS5.2.2⟩
            refine wpAnyH_ready (rs := [7]) (by kernel_rfl) (by simp) ?_
            refine AllReadyH.cons rfl (fun K hK => ?_) AllReadyH.nil
            rw [if_pos (by rfl)]
            go_simp
            refine hK.out _ _ hS6 (fun _ => ?_)
            clear hK K
            refine wpAnyH_take (i := 8) (v := ?_) rfl (by kernel_rfl) (by kernel_rfl) (by kernel_rfl) (fun _ _ _ h => h) (Or.inl ⟨by rfl, ?_⟩) hS6 ?_
            rotate_left
            · intro w' hw'; go_simp; try with_reducible rfl
            refine wpAnyH_take (i := 10) (v := ?_) rfl (by kernel_rfl) (by kernel_rfl) (by kernel_rfl) (fun _ _ _ h => h) (Or.inl ⟨by rfl, ?_⟩) hS6 ?_
            rotate_left
            · intro w' hw'; go_simp; try with_reducible rfl
            have hnew6 : W6.heap[W4.heap.size]? = some (.cells #[.int .i64 yi] 3 (0, 0)) := (hk6.block _ (Array.getElem?_eq_some_iff.1 hnew).1 hne4).trans hnew
            have hown6 : W6.ownsRow 0 3 1 v0 (idsOf x.m (x.with pre sl).took (keyRow x.m yx)).length ((idsOf x.m (x.with pre sl).took (keyRow x.m yx)).map intV) := by
              rw [Hv0.out]
              refine ownsRow_of_block hat4 fun k hk => ?_
              rw [← Hv0.out] at hk
              have h5 := hv0b k hk
              rw [hk6.block k (Nat.lt_of_lt_of_le h5.1 hb5.size) h5.2.1, hb5.block k h5.1]
            refine wpAnyH_ready (rs := [9]) (by kernel_rfl) (by simp) ?_
            refine AllReadyH.cons rfl (fun K hK => ?_) AllReadyH.nil
            refine step_append_lies _ (by rfl) _ _ _ (by rfl) 0 3 i0 _ 1 8 Tryz.underlying102 hi0 hz0 hz1 hz2 rfl (by omega) v0 (idsOf x.m (x.with pre sl).took (keyRow x.m yx)).length ((idsOf x.m (x.with pre sl).took (keyRow x.m yx)).map intV) (by rfl) hown6 ⟨W4.heap.size, 0, none⟩ 1 1 [intV yi] (by rfl) (by rfl) (World.news_of_block hnew6) (by simp [Value.oneCell']) (by omega) (by unfold maxLen; omega) (by omega) (Nat.zero_le _) W6.heap.size rfl ?_
            intro g cap' W7 hown7 hgrow hat hlt7
            have hv0b7 : ∀ k, k < W6.heap.size → v0.ownBlock ≠ some k → W7.heap[k]? = W6.heap[k]? := fun k h1 h2 => hgrow.block k h1 fun e => h2 e.symm
            have hS7 : (fun w' : World => w'.heap[N6]? = some (.cells #[.pointer (some ⟨x.rb, 0, none⟩)] 302 (0, 0)) ∧ w'.heap[x.rb]? = some (.cells #[.map (some x.kb), .int .i64 (x.took.length : Int), .int .i64 x.gone] 307 (0, 0)) ∧
              w'.heap[W2.heap.size]? = some (.cells ((keyRow x.m yx).map symV).toArray 64 (0, 0))) W7 :=
              ⟨(hv0b7 _ (Array.getElem?_eq_some_iff.1 hS6.1).1 fun e => (hv0b _ e).2.2.2.1 rfl).trans hS6.1, (hv0b7 _ (Array.getElem?_eq_some_iff.1 hS6.2.1).1 fun e => (hv0b _ e).2.2.1 rfl).trans hS6.2.1, (hv0b7 _ (Array.getElem?_eq_some_iff.1 hS6.2.2).1 fun e => (hv0b _ e).2.2.2.2 rfl).trans hS6.2.2⟩
            refine hK.out _ _ hS7 (fun _ => ?_)
            clear hK K
            have hkb6 : x.kb < W6.heap.size := Nat.lt_of_lt_of_le (Nat.lt_of_lt_of_le hlt4 hb5.size) hk6.size
            obtain ⟨W8, hst, hm8, hk8⟩ := entry_store (hE6.frame (w' := W7) (hv0b7 _ hkb6 fun e => (hv0b _ e).2.1 rfl)) 305 (.slice (some ⟨g, 0, none⟩) ((idsOf x.m (x.with pre sl).took (keyRow x.m yx)).length + 1) cap')
            have hst' : (Instr.entryStore 305 (.map (some x.kb)) (.int .i64 (st : Int)) (.slice (some ⟨g, 0, none⟩) ((idsOf x.m (x.with pre sl).took (keyRow x.m yx)).length + 1) cap')).run Tryz.prog W7 = .ok () W8 := hst
            have hS8 : (fun w' : World => w'.heap[N6]? = some (.cells #[.pointer (some ⟨x.rb, 0, none⟩)] 302 (0, 0)) ∧ w'.heap[x.rb]? = some (.cells #[.map (some x.kb), .int .i64 (x.took.length : Int), .int .i64 x.gone] 307 (0, 0)) ∧
              w'.heap[W2.heap.size]? = some (.cells ((keyRow x.m yx).map symV).toArray 64 (0, 0))) W8 :=
              ⟨(hk8.block _ (Array.getElem?_eq_some_iff.1 hS7.1).1 hne6).trans hS7.1, (hk8.block _ (Array.getElem?_eq_some_iff.1 hS7.2.1).1 hneR).trans hS7.2.1, (hk8.block _ (Array.getElem?_eq_some_iff.1 hS7.2.2).1 hne10).trans hS7.2.2⟩
            refine wpAnyH_ready (rs := [11]) (by kernel_rfl) (by simp) ?_
            refine AllReadyH.cons rfl (fun K hK => ?_) AllReadyH.nil
            rw [if_pos (by rfl)]
            go_simp
            refine hK.out _ _ hS8 (fun _ => ?_)
            clear hK K
            refine wpAnyH_done (by kernel_rfl) ?_ _
            exact AskI.finish H1.out.1 H1.out.2.1 H1.out.2.2 (hltx _ (.inr (.inl rfl))) ⟨(yi, yx), hyo⟩ (hb4.trans (hb5.mono hb4.size)) hk6 hown7 (by rw [← Hv0.out]; exact hgrow) (by rw [← Hv0.out]; exact hat) hk8 hm8
        case done =>
          intro D ys W hD hS hI hWD
          have hI' := hI
          obtain ⟨sl, h1, h2, h3⟩ := hI'
          have hRW : RelAt W.drew b pb mb (.slice ad rows.length cap) arity gone rows := hR4.frame fun k hk => h2.block k (hR4.lt k hk) fun hc => by
            rcases hF3 k (.inr (.inr ⟨x, hmx, hc⟩)) with h | h
            · exact hd k h hk
            · have := hR.lt k hk; omega
          have c6W : W.drew.cell? ⟨N6, 0, none⟩ = some (.pointer (some ⟨x.rb, 0, none⟩)) := by
            have : W.heap[N6]? = _ := (h2.block _ (Array.getElem?_eq_some_iff.1 hN6r).1 fun h => (hno _ h).2 rfl).trans hN6r
            show W.cell? _ = _
            simp [World.cell?, this]
          have hbkx : ¬ IxF x bk := (hB3.nb x hmx).1
          have c0W : W.drew.cell? ⟨bk, 0, none⟩ = some (.pointer (some ⟨b, 0, none⟩)) := by
            have h5 : wr.heap[bk]? = _ := (hbw'.block _ (Array.getElem?_eq_some_iff.1 hB3.hb).1).trans hB3.hb
            have : W.heap[bk]? = _ := (h2.block _ (Array.getElem?_eq_some_iff.1 h5).1 hbkx).trans h5
            show W.cell? _ = _
            simp [World.cell?, this]
          have hrW : W.heap[x.rb]? = some (.cells #[.map (some x.kb), .int .i64 (x.took.length : Int), .int .i64 x.gone] 307 (0, 0)) := h1.hr
          have c1W : W.drew.cell? ⟨x.rb, 1, none⟩ = some (.int .i64 (x.took.length : Int)) := by show W.cell? _ = _; simp [World.cell?, hrW]
          have f1W : W.drew.frozen? ⟨x.rb, 1, none⟩ = false := by show W.frozen? _ = _; simp [World.frozen?, hrW]
          have hRWc := hRW.cells
          have c6S : ∀ v, (W.setCell ⟨x.rb, 1, none⟩ v).cell? ⟨N6, 0, none⟩ = some (.pointer (some ⟨x.rb, 0, none⟩)) := fun v => (cell_ne (w := W) (p := ⟨N6, 0, none⟩) (fun e => (hno _ (.inl rfl)).2 e.symm)).trans c6W
          have H9 := Lib.hid (And.intro h1 (And.intro h2 (And.intro h3 (And.intro hI (And.intro hWD (And.intro hS hrW))))))
          clear h1 h2 h3 hI hWD hS hrW
          go_wp2_with fail
          refine wp_region_still_tail 7 (by kernel_rfl) (by kernel_rfl) ?_
          change wpStill _ _ W.drew _ _ _
          simp only [List.take_succ_cons, List.take_zero, List.drop_succ_cons, List.drop_zero]
          repeat (first | still_call (len_same hRWc) | still_step)
          refine wpStill_nil ?_
          change wpList _ _ _ _ _ W.drew
          go_wp2_with fail
          have hrbD : x.rb ≠ D := fun e => by
            have h5 := H9.out.2.2.2.2.2.2
            rw [e, H9.out.2.2.2.2.1] at h5
            cases h5
          obtain ⟨s1, _, _, s4⟩ := cells_set (n := 1) (pre := [.map (some x.kb)]) (post := [.int .i64 x.gone]) (v := .int .i64 (rows.length : Int)) rfl H9.out.2.2.2.2.2.2
          have hWD5 : (W.setCell ⟨x.rb, 1, none⟩ (.int .i64 (rows.length : Int))).drew.heap[D]? = some (.deferred (some [])) := (s4.block D (Array.getElem?_eq_some_iff.1 H9.out.2.2.2.2.1).1 (Ne.symm hrbD)).trans H9.out.2.2.2.2.1
          have hs5 : (W.setCell ⟨x.rb, 1, none⟩ (.int .i64 (rows.length : Int))).drew.heap[x.rb]? = some (.cells #[.map (some x.kb), .int .i64 (rows.length : Int), .int .i64 x.gone] 307 (0, 0)) := s1
          have hk5 : KeptBut (fun k => k = x.rb ∨ k = D) W ((W.setCell ⟨x.rb, 1, none⟩ (.int .i64 (rows.length : Int))).drew.putObj D (.deferred none)) := by
            have h5 : KeptBut (fun k => k = x.rb ∨ k = D) W (W.setCell ⟨x.rb, 1, none⟩ (.int .i64 (rows.length : Int))).drew := ⟨s4.os, s4.tape, s4.output, s4.size, fun i h6 h7 => s4.block i h6 fun e => h7 (.inl e)⟩
            exact h5.trans (keptBut_put (F := fun k => k = D) rfl) fun k hk => .inr (.inr hk)
          obtain ⟨ixs', g1, g2, g3, g4, g5⟩ := ask_end hB3 HP.out.2.2.2 hK3 (fun k hk => (hF3 k hk).imp_right And.left) HP.out.2.2.1 HP.out.2.1 HP.out.1 hlen hbw' H9.out.2.2.2.1 H9.out.2.2.2.2.2.1 (by rw [World.putObj_heap_other hrbD]; exact hs5) hk5 hD H9.out.2.2.2.2.1
          refine ⟨by simp, .inl ⟨_, _, rfl, run_takeDeferred hWD5, ?_⟩⟩
          exact ⟨_, results_tmp2 rfl _ _ _, x.rb, ixs', rfl, g1, g2, g3, g4, g5⟩
end Go.Proofs.YtckhkfchgcdajaaGreatDoor

import Derived.Test.YtckhkfchgcdajaaGreatDoorYJxB3
import Derived.Test.YtckhkfchgcdajaaGreatDoorYJxShelfC
import Derived.Shelf.SlicesE.Clone
import Derived.OwnWalkIn
import Derived.TacticsInMore
import Derived.LoopNIn
import Derived.LoopIn
namespace Go.Proofs.YtckhkfchgcdajaaGreatDoor
open Go.Fx Go.RowKit Go.Shelf
attribute [local go_sem] Oper.semAt_some
def rowLays_ren : Go.Shelf.Ren := ⟨fun | 41 => 221 | n => n, fun | 22 => 69 | 23 => 64 | 4 => 4 | n => n, fun | n => n⟩
theorem rowLays : Go.Proofs.SlLaysE0.n41 Tryz.prog rowLays_ren := {
  mixed := by kernel_rfl
  f41 := ⟨Tryz.f221.name, by decide, Tryz.func221.trans (congrArg some (by kernel_rfl))⟩
  t4 := Tryz.underlying4
  a4 := Tryz.isAgg4
  z4 := Tryz.sizeOf4
  v4 := Tryz.zeroValue4
  t22 := Tryz.underlying69
  a22 := Tryz.isAgg69
  z22 := Tryz.sizeOf69
  v22 := Tryz.zeroValue69 }
theorem clone_rows (b off n c : Nat) (news : List Value) (w : World) (hl : news.length = n * 24) (hn : n ≤ 1048576) (hc : ∀ j u, news[j]? = some u → w.cell? ⟨b, off + j, none⟩ = some u) (h1 : ∀ u ∈ news, u.oneCell' = true) :
    Calls Tryz.prog 221 #[.slice (some ⟨b, off, none⟩) n c] w fun e w' => ∃ v', e = .returned v' ∧ w'.ownsRow w.heap.size 64 24 v' n news ∧ v' ≠ .slice none 0 0 ∧ Below w.heap.size w w' := by
  obtain ⟨i0, hi, hz0, hz1, hz2⟩ := info_parts infoR
  exact Go.Proofs.AnyE.slices_Clone rowLays i0 (rowV zRow) 24 96 hi hz0 hz1 hz2 rfl (by decide) Tryz.sizeOf64 b off n c news w hl (by unfold maxLen; omega) (by omega) hc h1
def nums (o : Nat) : List (List Int) → List (Int × List Int)
  | [] => []
  | x :: l => ((o : Int), x) :: nums (o + 1) l
theorem nums_len (o : Nat) : ∀ l, (nums o l).length = l.length := fun l => by
  induction l generalizing o with
  | nil => rfl
  | cons x l ih => rw [nums, List.length_cons, ih, List.length_cons]
theorem nums_get (o : Nat) : ∀ (l : List (List Int)) (k : Nat) (h : k < l.length), (nums o l)[k]? = some (((o + k : Nat) : Int), l[k]) := fun l => by
  induction l generalizing o with
  | nil => exact fun k h => absurd h (Nat.not_lt_zero _)
  | cons x l ih =>
    intro k h
    cases k with
    | zero => rfl
    | succ k =>
      rw [nums, List.getElem?_cons_succ, ih (o + 1) k (by simpa using h), List.getElem_cons_succ]
      simp only [Option.some.injEq, Prod.mk.injEq, and_true]
      omega
abbrev NR := { p : Int × List Int // RowOk p.2 }
theorem nums_nr (o : Nat) : ∀ l, (∀ x ∈ l, RowOk x) → ∃ L : List NR, L.map (·.1) = nums o l := fun l => by
  induction l generalizing o with
  | nil => exact fun _ => ⟨[], rfl⟩
  | cons x l ih =>
    intro h
    obtain ⟨L, hL⟩ := ih (o + 1) fun y hy => h y (List.mem_cons_of_mem _ hy)
    exact ⟨⟨((o : Int), x), h x (List.mem_cons_self ..)⟩ :: L, by rw [List.map_cons, hL]; rfl⟩
def KpRow (A B : World) : Prop := ∀ (k : Nat) (cs : Array Value) (fr : Nat × Nat), A.heap[k]? = some (Obj.cells cs 64 fr) → B.heap[k]? = some (Obj.cells cs 64 fr)
theorem KpRow.trans {A B C : World} (h : KpRow A B) (h' : KpRow B C) : KpRow A C := fun k cs fr hk => h' k cs fr (h k cs fr hk)
theorem grown_of_below {W W' : World} (h : Below W.heap.size W W') : W.grownBy W' none := ⟨h.os, h.tape, h.output, h.size, fun k hk _ => h.block k hk⟩
theorem wpListIn_op {P : Program} {rd : Option Nat} {n : Nat} {Q : Exit → Act → World → Prop} {ops : Array Oper} {o : Oper} {rest : List Oper} {a : Act} {w : World} (hg : o.guard = none) (hd : ∀ c, o.op ≠ .defer c) (h : o.wp P a w (wpListIn (FW rd) n P ops Q rest) Q) : wpListIn (FW rd) n P ops Q (o :: rest) a w :=
  wpListIn_plain hg fun _ hK => Oper.wpIn_mono hK (wpIn_of_wp hd h)
set_option maxRecDepth 100000 in
set_option maxHeartbeats 4000000 in
theorem range_stops (n : Nat) {w : World} {b pb mb : Nat} {lv : Value} {arity : Nat} {gone : Int} {rows : List (List Int)} (h : RelAt w b pb mb lv arity gone rows) (hn : rows.length ≤ 1048576) {s : Nat} (hs : s ≤ rows.length) {B3 B4 B5 : Nat}
    (hb3 : w.heap[B3]? = some (.cells #[.pointer (some ⟨b, 0, none⟩)] 68 (0, 0))) (hb4 : w.heap[B4]? = some (.cells #[.int .i64 (s : Int)] 3 (0, 0))) (hb5 : w.heap[B5]? = some (.cells #[.int .i64 (rows.length : Int)] 3 (0, 0))) :
    SeqStopsK (FW none) n Tryz.prog 220 #[.pointer (some ⟨B3, 0, none⟩), .pointer (some ⟨B4, 0, none⟩), .pointer (some ⟨B5, 0, none⟩)] (fun x : NR => #[.int .i64 x.1.1, rowV x.1.2]) KpRow (fun xs => xs.map (·.1) = nums s (rows.drop s)) (fun _ => True) rows.length w := by
  intro l J Jx W hW hJ hJx hY h0
  obtain ⟨L, hL⟩ := nums_nr s (rows.drop s) fun x hx => h.ok x (List.mem_of_mem_drop hx)
  have hlt : ∀ {k : Nat} {o : Obj}, w.heap[k]? = some o → W.heap[k]? = some o := fun {k o} hk => (hW.block k (Array.getElem?_eq_some_iff.1 hk).1).trans hk
  have hb3' := hlt hb3
  have hb4' := hlt hb4
  have hb5' := hlt hb5
  have h' := h.below hW
  have c3 : W.cell? ⟨B3, 0, none⟩ = some (.pointer (some ⟨b, 0, none⟩)) := by simp [World.cell?, hb3']
  clear hb3 hb4 hb5 h hlt hb3'
  refine callsIn_wide.2 ?_
  go_enter Tryz.func220, Tryz.ntmps220
  go_wp2_with fail
  obtain ⟨ad, cap, rfl⟩ : ∃ ad cap, lv = .slice ad rows.length cap := by
    obtain ⟨_, ⟨rfl, h0⟩ | ⟨g, cap, cur, rfl, _⟩⟩ := h'.own
    · exact ⟨none, 0, by rw [h0]⟩
    · exact ⟨_, _, rfl⟩
  refine (len_calls h'.cells).mono ?_
  rintro e w1 ⟨rfl, hb1⟩
  have c4 : w1.drew.cell? ⟨B4, 0, none⟩ = some (.int .i64 (s : Int)) := by
    show w1.cell? _ = _
    rw [hb1.cell (p := ⟨B4, 0, none⟩) (Array.getElem?_eq_some_iff.1 hb4').1]; simp [World.cell?, hb4']
  have c5 : w1.drew.cell? ⟨B5, 0, none⟩ = some (.int .i64 (rows.length : Int)) := by
    show w1.cell? _ = _
    rw [hb1.cell (p := ⟨B5, 0, none⟩) (Array.getElem?_eq_some_iff.1 hb5').1]; simp [World.cell?, hb5']
  have hbd := below_drew' hb1
  clear hb1
  go_wp2_with fail
  refine wp_region_still_lit (by kernel_rfl) (by kernel_rfl) ?_
  change wpStill _ _ w1.drew _ _ _
  repeat still_step
  refine wpStill_nil ?_
  change Exit.then _ _ _ _ w1.drew
  generalize w1.drew = w2 at *
  have h2 := h'.below hbd
  have c2 := h2.cells.h2
  have p0 := h2.cells.p0
  have c3' : w2.cell? ⟨B3, 0, none⟩ = some (.pointer (some ⟨b, 0, none⟩)) := (hbd.cell (p := ⟨B3, 0, none⟩) (World.block_lt_of_cell? W _ c3)).trans c3
  by_cases hlt : s < rows.length
  · have hle : decide ((rows.length : Int) ≤ (s : Int)) = false := decide_eq_false (by omega)
    have i1 : (0 : Int) ≤ (s : Int) := by omega
    have i2 : (s : Int) ≤ (rows.length : Int) := by omega
    obtain ⟨g, cap', hsl, hc, hm, _⟩ := own_range h2.own h2.ok hlt
    injection hsl with e1 e2 e3
    subst e1 e3
    have i3 : (rows.length : Int) ≤ (cap : Int) := by omega
    unfold maxLen at hm
    have hcells : ∀ (j : Nat) (u : Value), (rowsV (rows.drop s))[j]? = some u → w2.cell? ⟨g, s * 24 + j, none⟩ = some u := fun j u hj => by
      obtain ⟨_, ⟨_, h0⟩ | ⟨g', cap'', cur, e, _, hg, _, _, _, htk⟩⟩ := h2.own
      · omega
      · injection e with e1 _ _
        injection e1 with e1
        injection e1 with e1
        subst e1
        have : (rowsV (rows.drop s)) = (rowsV rows).drop (s * 24) := by
          unfold rowsV
          rw [flatten_drop rows s (fun e he => (h2.ok e he).1), List.map_drop]
        rw [this, List.getElem?_drop, ← htk, List.getElem?_take] at hj
        split at hj
        · simp only [World.cell?, hg]
          simpa using hj
        · cases hj
    have hlen : (rowsV (rows.drop s)).length = (rows.length - s) * 24 := by
      unfold rowsV
      rw [List.length_map, length_flatten (rows.drop s) fun e he => (h2.ok e (List.mem_of_mem_drop he)).1, List.length_drop]
    have hcl := clone_rows g (s * 24) (rows.length - s) (cap - s) (rowsV (rows.drop s)) w2 hlen (by omega) hcells (fun u hu => by obtain ⟨m, _, rfl⟩ := List.mem_map.1 hu; rfl)
    have Hcl := Lib.hid hcl
    have Hd : Hid (∀ e ∈ rows.drop s, e.length = 24) := Lib.hid fun e he => (h2.ok e (List.mem_of_mem_drop he)).1
    clear hcells hcl
    go_wp2_with fail
    refine Hcl.out.mono ?_
    rintro e w3 ⟨v', rfl, hown, hnn, hb3⟩
    obtain ⟨g2, cap2, cur2, rfl, hg20, hg2, hn2, hm2, hcs2, htk2⟩ : ∃ g2 cap2 cur, v' = .slice (some ⟨g2, 0, none⟩) (rows.length - s) cap2 ∧ w2.heap.size ≤ g2 ∧ w3.heap[g2]? = some (.cells cur 64 (0, 0)) ∧ rows.length - s ≤ cap2 ∧ cap2 ≤ maxLen ∧ cur.size = cap2 * 24 ∧ cur.toList.take ((rows.length - s) * 24) = rowsV (rows.drop s) := by
      rcases hown.2 with ⟨_, h0⟩ | h
      · omega
      · exact h
    have hJ3 : J [] w3 := hJ [] W w3 none h0 (grown_of_below (hbd.trans (hb3.mono hbd.size))) fun r e => by cases e
    have hLl : L.length = rows.length - s := by
      have := congrArg List.length hL
      rw [List.length_map, nums_len, List.length_drop] at this
      exact this
    clear Hcl hown hb3 c2 p0 c3' c4 c5 hbd h2 h' hb4' hb5' c3 hnn
    go_wp2_with fail
    refine (wpIn_wide (n := n)).1 ?_
    gi_loopw [32] (fun i wr => ∃ k : Nat, k ≤ rows.length - s ∧ i = .int .i64 (k : Int) ∧ J (L.take k) wr ∧ wr.heap[g2]? = some (.cells cur2 64 (0, 0))) (fun i _ => rows.length - s - (intOf i).toNat)
    case atStart => exact ⟨0, Nat.zero_le _, rfl, hJ3, hg2⟩
    case round =>
      obtain ⟨k, hk, rfl, hJs, hgr⟩ := hrel
      by_cases hltk : k < rows.length - s
      · have j1 : (0 : Int) ≤ (k : Int) := by omega
        have j2 : (k : Int) < (rows.length : Int) - (s : Int) := by omega
        have j3 : (k : Int) < ((rows.length - s : Nat) : Int) := by omega
        have hxk : k < (rows.drop s).length := by rw [List.length_drop]; exact hltk
        have hkL : k < L.length := by omega
        have hLk : (L[k]).1 = (((s + k : Nat) : Int), (rows.drop s)[k]) := by
          have h1 := nums_get s (rows.drop s) k hxk
          rw [← hL, List.getElem?_map, List.getElem?_eq_getElem hkL] at h1
          exact Option.some.inj h1
        have hxo : RowOk (rows.drop s)[k] := by have := (L[k]).2; rw [hLk] at this; exact this
        have hrg : wr.rangeAt g2 (k * 24) (((rows.drop s)[k]).map symV) := by
          have hjl := hxo.1
          intro j v hj
          have hj2 : j < 24 := by
            have := (List.getElem?_eq_some_iff.1 hj).1
            rw [List.length_map, hjl] at this
            exact this
          have hfl := flatten_at (rows.drop s) k j Hd.out hj2
          rw [List.getElem?_eq_getElem hxk, Option.bind_some] at hfl
          rw [List.getElem?_map] at hj
          obtain ⟨m, hm1, rfl⟩ := Option.map_eq_some_iff.1 hj
          rw [hm1] at hfl
          have h1 : (rowsV (rows.drop s))[k * 24 + j]? = some (symV m) := by rw [List.getElem?_map, hfl]; rfl
          rw [← htk2, List.getElem?_take] at h1
          split at h1
          · simp only [World.cell?, hgr]
            simpa using h1
          · cases h1
        have hsz0 : (Tryz.prog.info? 64).map (·.size) = some (((rows.drop s)[k]).map symV).length := by rw [infoRow]; simp only [List.length_map, hxo.1]
        have hsz1 : (Tryz.prog.info? 64).map (·.size) = some (((rows.drop s)[k]).map symV).toArray.size := by rw [infoRow]; simp only [List.size_toArray, List.length_map, hxo.1]
        have hone := row_one (rows.drop s)[k]
        have hl24 : ((rows.drop s)[k]).length = 24 := hxo.1
        have hts : L.take (k + 1) = L.take k ++ [L[k]] := by rw [List.take_succ_eq_append_getElem hkL]
        generalize hx : (rows.drop s)[k] = x at *
        generalize hy0 : L[k] = y at *
        obtain ⟨⟨yi, yx⟩, hyo⟩ := y
        injection hLk with e1 e2
        subst e1 e2
        have hbx := below_setRow ((Below.refl _ wr).alloc (Nat.le_refl _) (Obj.cells (List.replicate 24 (Value.int .i32 0)).toArray 64)) (Nat.le_refl _) (yx.map symV).toArray
        have hz := heap_alloc_new wr (Obj.cells (List.replicate 24 (Value.int .i32 0)).toArray 64)
        have hzx := setRow_heap _ _ _ (yx.map symV).toArray _ _ hz
        obtain ⟨W1, hW1⟩ : ∃ W1, (wr.alloc (Obj.cells (List.replicate 24 (Value.int .i32 0)).toArray 64)).setRow wr.heap.size (yx.map symV).toArray = W1 := ⟨_, rfl⟩
        rw [hW1] at hbx hzx
        have hJ1 : J (L.take k) W1 := hJ _ wr W1 none hJs (grown_of_below hbx) fun r e => by cases e
        have hg1 : W1.heap[g2]? = some (.cells cur2 64 (0, 0)) := (hbx.block g2 (Array.getElem?_eq_some_iff.1 hgr).1).trans hgr
        obtain ⟨fn, tmps, assign, body, hy, hR⟩ := hY _ ⟨(((s + k : Nat) : Int), yx), hyo⟩ W1 hJ1 (by rw [List.length_take]; omega)
        simp only [show (((s + k : Nat) : Int)) = (s : Int) + (k : Int) from by omega] at hy
        simp only [List.replicate] at hW1 hz
        have j4 : (s : Int) + (k : Int) ≤ 1048576 := by omega
        have HR := Lib.hid hR
        have HH := Lib.hid hts
        have hrg0 := hrg
        clear hR hts hrg hbx hJ1 hJs hY htk2 hL hx hy0 hLl hkL hxo
        gi_wp2_with (first
          | (refine wpListIn_op (rd := none) rfl (fun _ h => by cases h) (wp_load_mid 64 _ rfl g2 (k * 24) rfl _ _ hrg0 Tryz.underlying64 rfl hsz0 ?_))
          | (refine wpListIn_op (rd := none) rfl (fun _ h => by cases h) (wp_store_row 64 _ _ rfl wr.heap.size _ rfl rfl 64 _ hz hsz1 (by simp [hl24]) hone ?_); rw [hW1])
          | (refine wpListIn_op (rd := none) rfl (fun _ h => by cases h) (wp_load_row 64 _ rfl wr.heap.size rfl 64 _ (0, 0) _ hzx Tryz.underlying64 rfl hsz1 ?_)))
        refine ⟨fun e => (by cases e), HR.out.mono ?_⟩
        have ho : ((L.take k).length : Int) ≤ (L.length : Int) := by rw [List.length_take]; omega
        rintro e W3 (⟨rfl, hJ3', hk3⟩ | ⟨rfl, hJx3⟩)
        · have hg3 := hk3 g2 cur2 (0, 0) hg1
          clear hW1 hzx hz hy hone
          gi_wp2_with fail
          refine ⟨⟨k + 1, by omega, congrArg (Value.int .i64) (by omega), ?_, hg3⟩, ?_⟩
          · rw [HH.out]; exact hJ3'
          · show rows.length - s - ((k : Int) + 1).toNat < rows.length - s - (k : Int).toNat
            omega
        · clear hW1 hzx hz hy hone
          gi_wp2_with fail
          refine bodyPost_ret (results_none rfl _ _ _) rfl ?_
          exact ⟨⟨_, rfl⟩, .inr ⟨_, trivial, hJx3⟩⟩
      · obtain rfl : k = rows.length - s := by omega
        have hge : decide (((rows.length - s : Nat) : Int) < ((rows.length - s : Nat) : Int)) = false := decide_eq_false (by omega)
        gi_wp2_with fail
        go_end0
        exact ⟨⟨_, rfl⟩, .inl ⟨L, hL, by rw [← hLl, List.take_length] at hJs; exact hJs⟩⟩
  · have hle : decide ((rows.length : Int) ≤ (s : Int)) = true := decide_eq_true (by omega)
    go_wp2_with fail
    refine bodyPost_ret (results_none rfl _ _ _) rfl ?_
    exact ⟨⟨_, rfl⟩, .inl ⟨[], by rw [List.drop_of_length_le (by omega)]; rfl, hJ [] W w2 none h0 (grown_of_below hbd) fun r e => by cases e⟩⟩
end Go.Proofs.YtckhkfchgcdajaaGreatDoor

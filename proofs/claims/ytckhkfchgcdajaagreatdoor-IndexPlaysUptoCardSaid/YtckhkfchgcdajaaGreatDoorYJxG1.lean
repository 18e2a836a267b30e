import Derived.Test.YtckhkfchgcdajaaGreatDoorYJxT8
import Derived.Test.YtckhkfchgcdajaaGreatDoorYJxE4
import Derived.Shelf.Spec.SlicesGrow
namespace Go.Proofs.YtckhkfchgcdajaaGreatDoor
open Go.Fx Go.RowKit Go.Maps Go.Sort
set_option maxRecDepth 100000 in
theorem docm_distinct_bad {w : World} {D : Nat → Prop} {k arity : Nat} {l : List (Nat × Nat)} (h : DocAt w D k arity l) (ha : arity ≤ 24) {m : Nat} (hm : m < 4294967296) (hbad : ∃ i, arity ≤ i ∧ i < 32 ∧ m.testBit i = true) (rows : Value) :
    Calls Tryz.prog 64 #[.pointer (some ⟨k, 0, none⟩), rows, .int .u32 (m : Int)] w fun e w' => e = .returned (.tuple #[.int .i64 0, .int .i64 110]) ∧ Below w.heap.size w w' := by
  have ha := Lib.hid (docm_ask_bad h ha hm hbad rows)
  clear hbad h
  go_enter Tryz.func64, Tryz.ntmps64
  go_wp2_with fail
  refine ha.out.mono ?_
  rintro e w2 ⟨rfl, hw⟩
  rw [hw]
  clear hw w2 ha
  go_wp2_with fail
  exact bodyPost_ret (v := .tuple #[.int .i64 0, .int .i64 110]) (by simp [results, Tryz.results64, go_sem]) rfl ⟨rfl, Below.refl _ _⟩
set_option maxRecDepth 100000 in
theorem docm_look_bad {w : World} {D : Nat → Prop} {k arity : Nat} {l : List (Nat × Nat)} (h : DocAt w D k arity l) (ha : arity ≤ 24) {m : Nat} (hm : m < 4294967296) (hbad : ∃ i, arity ≤ i ∧ i < 32 ∧ m.testBit i = true) (rows : Value) {y : List Int} :
    Calls Tryz.prog 60 #[.pointer (some ⟨k, 0, none⟩), rows, .int .u32 (m : Int), rowV y] w fun e w' => e = .returned (.tuple #[.slice none 0 0, .int .i64 110]) ∧ Below w.heap.size w w' := by
  have hb := (Below.refl w.heap.size w).alloc (Nat.le_refl _) (.cells (y.map symV).toArray 64)
  have ha := Lib.hid (docm_ask_bad (h.frame (w' := w.alloc (.cells (y.map symV).toArray 64)) (fun j hj => hb.block j (h.lt hj))) ha hm hbad rows)
  replace hb := Lib.hid hb
  clear hbad h
  go_enter Tryz.func60, Tryz.ntmps60
  go_wp2_with fail
  generalize w.alloc (.cells (y.map symV).toArray 64) = w1 at *
  refine ha.out.mono ?_
  rintro e w2 ⟨rfl, hw⟩
  rw [hw]
  clear hw w2 ha
  go_wp2_with fail
  exact bodyPost_ret (v := .tuple #[.slice none 0 0, .int .i64 110]) (by simp [results, Tryz.results60, go_sem]) rfl ⟨rfl, hb.out⟩
set_option maxRecDepth 100000 in
theorem docm_count_bad {w : World} {D : Nat → Prop} {k arity : Nat} {l : List (Nat × Nat)} (h : DocAt w D k arity l) (ha : arity ≤ 24) {m : Nat} (hm : m < 4294967296) (hbad : ∃ i, arity ≤ i ∧ i < 32 ∧ m.testBit i = true) (rows : Value) {y : List Int} :
    Calls Tryz.prog 62 #[.pointer (some ⟨k, 0, none⟩), rows, .int .u32 (m : Int), rowV y] w fun e w' => e = .returned (.tuple #[.int .i64 0, .int .i64 110]) ∧ Below w.heap.size w w' := by
  have hb := (Below.refl w.heap.size w).alloc (Nat.le_refl _) (.cells (y.map symV).toArray 64)
  have ha := Lib.hid (docm_ask_bad (h.frame (w' := w.alloc (.cells (y.map symV).toArray 64)) (fun j hj => hb.block j (h.lt hj))) ha hm hbad rows)
  replace hb := Lib.hid hb
  clear hbad h
  go_enter Tryz.func62, Tryz.ntmps62
  go_wp2_with fail
  generalize w.alloc (.cells (y.map symV).toArray 64) = w1 at *
  refine ha.out.mono ?_
  rintro e w2 ⟨rfl, hw⟩
  rw [hw]
  clear hw w2 ha
  go_wp2_with fail
  exact bodyPost_ret (v := .tuple #[.int .i64 0, .int .i64 110]) (by simp [results, Tryz.results62, go_sem]) rfl ⟨rfl, hb.out⟩
end Go.Proofs.YtckhkfchgcdajaaGreatDoor

namespace Go.Proofs.YtckhkfchgcdajaaGreatDoor
open Go.Fx Go.RowKit Go.Maps Go.Sort
theorem idsOf_append (m : Nat) (A B : List (Int × List Int)) (q : List Int) : idsOf m (A ++ B) q = idsOf m A q ++ idsOf m B q := by
  unfold idsOf
  rw [List.filter_append, List.map_append]
theorem first_iff {m : Nat} {L : List (List Int)} {i : Nat} (hi : i < L.length) : firstOf m L i = decide (keyRow m (L.getD i []) ∉ keysOf m (nums 0 (L.take i))) := by
  unfold firstOf
  obtain ⟨q, hq⟩ : ∃ q, keyRow m (L.getD i []) = q := ⟨_, rfl⟩
  rw [hq]
  have hs := nums_split 0 L i (by omega)
  have hd : L.drop i = L.getD i [] :: L.drop (i + 1) := by
    rw [List.drop_eq_getElem_cons hi, List.getD_eq_getElem?_getD, List.getElem?_eq_getElem hi, Option.getD_some]
  rw [hd, nums, Nat.zero_add] at hs
  rw [← hs, idsOf_append]
  have hB : idsOf m (((i : Int), L.getD i []) :: nums (i + 1) (L.drop (i + 1))) q = (i : Int) :: idsOf m (nums (i + 1) (L.drop (i + 1))) q := by
    unfold idsOf
    rw [List.filter_cons, if_pos (decide_eq_true hq)]
    rfl
  by_cases hk : q ∈ keysOf m (nums 0 (L.take i))
  · have hne : idsOf m (nums 0 (L.take i)) q ≠ [] := by
      obtain ⟨p, hp, hpq⟩ := ((keysOf_all m _).2 q).1 hk
      intro h
      have : p.1 ∈ idsOf m (nums 0 (L.take i)) q := by
        unfold idsOf
        exact List.mem_map.2 ⟨p, List.mem_filter.2 ⟨hp, by simp [hpq]⟩, rfl⟩
      rw [h] at this
      cases this
    cases hA : idsOf m (nums 0 (L.take i)) q with
    | nil => exact absurd hA hne
    | cons x xs =>
      have hx : x ∈ idsOf m (nums 0 (L.take i)) q := by rw [hA]; exact List.mem_cons_self
      unfold idsOf at hx
      obtain ⟨p, hp, rfl⟩ := List.mem_map.1 hx
      obtain ⟨k, hk2, hpk⟩ := List.getElem_of_mem (List.mem_filter.1 hp).1
      rw [nums_len] at hk2
      have h1 := nums_get 0 (L.take i) k hk2
      rw [List.getElem?_eq_getElem (by rw [nums_len]; exact hk2), hpk] at h1
      have h2 : p.1 = ((0 + k : Nat) : Int) := congrArg Prod.fst (Option.some.inj h1)
      rw [List.length_take] at hk2
      simp only [List.cons_append, List.head?_cons, Option.some.injEq]
      rw [decide_eq_false (by omega), decide_eq_false (fun h => h hk)]
  · rw [ids_none hk, hB]
    simp [hk]
theorem keyCnt_eq (m : Nat) (L : List (List Int)) : ∀ i, i ≤ L.length → keyCnt m L i = (keysOf m (nums 0 (L.take i))).length
  | 0, _ => by simp [keyCnt, nums, keysOf]
  | i + 1, hi => by
    rw [keyCnt, keyCnt_eq m L i (by omega), keysN_succ (by omega), addKey, first_iff (by omega)]
    by_cases h : keyRow m (L.getD i []) ∈ keysOf m (nums 0 (L.take i))
    · rw [if_pos h, decide_eq_false (fun h2 => h2 h)]
      rfl
    · rw [if_neg h, decide_eq_true h, List.length_append]
      rfl
theorem keyCnt_all (m : Nat) (L : List (List Int)) : keyCnt m L L.length = (keysOf m (nums 0 L)).length := by rw [keyCnt_eq m L _ (Nat.le_refl _), List.take_length]
end Go.Proofs.YtckhkfchgcdajaaGreatDoor

namespace Go.Proofs.YtckhkfchgcdajaaGreatDoor
open Go.Fx Go.RowKit Go.Maps Go.Sort
attribute [local go_sem] Oper.semAt_some
set_option maxRecDepth 100000 in
set_option maxHeartbeats 4000000 in
theorem ask_badmask {w : World} {R F : Nat → Prop} {bk b arity : Nat} {gone : Int} {rows : List (List Int)} {abs : Abs} (hB : Bk w F bk b abs) (hR : Rel w R b arity gone rows) {m : Nat} (hm : MskOk m) (hma : ¬ m < 2 ^ arity) :
    Calls Tryz.prog 164 #[.pointer (some ⟨bk, 0, none⟩), .int .u32 (m : Int)] w fun e w' => e = .returned (.tuple #[.pointer none, .int .i64 110]) ∧ Below w.heap.size w w' := by
  obtain ⟨bm, ixs, hB, _, rfl⟩ := hB
  obtain ⟨pb, mb, lv, hR, rfl⟩ := hR
  have hbl := hB.lt bk (.inl rfl)
  have c0 : w.cell? ⟨bk, 0, none⟩ = some (.pointer (some ⟨b, 0, none⟩)) := by simp [World.cell?, hB.hb]
  go_enter Tryz.func164, Tryz.ntmps164
  go_wp2_with fail
  have hbm : Below w.heap.size w (w.alloc (.cells #[.int .u32 (m : Int)] 61)) := (Below.refl _ w).alloc (Nat.le_refl _) _
  have hN := heap_alloc_new w (.cells #[.int .u32 (m : Int)] 61)
  generalize w.alloc (.cells #[.int .u32 (m : Int)] 61) = w1 at *
  refine (under_there _).mono ?_
  rintro e w2 ⟨rfl, hb2⟩
  have hlt1 : w.heap.size < w1.heap.size := (Array.getElem?_eq_some_iff.1 hN).1
  have hN2 := (hb2.block _ hlt1).trans hN
  have hbm2 := hbm.trans (hb2.mono hbm.size)
  clear hN hbm hb2 hlt1
  go_wp2_with fail
  have c1 : w2.drew.cell? ⟨bk, 0, none⟩ = some (.pointer (some ⟨b, 0, none⟩)) := (hbm2.cell (p := ⟨bk, 0, none⟩) hbl).trans c0
  have d1 : w2.drew.cell? ⟨w.heap.size, 0, none⟩ = some (.int .u32 (m : Int)) := by
    show w2.cell? _ = _
    simp [World.cell?, hN2]
  refine wp_region_still_tail 5 (by kernel_rfl) (by kernel_rfl) ?_
  change wpStill _ _ w2.drew _ _ _
  simp only [List.take_succ_cons, List.take_zero, List.drop_succ_cons, List.drop_zero]
  repeat still_step
  refine wpStill_nil ?_
  change wpList _ _ _ _ _ w2.drew
  have hbm3 : Below w.heap.size w w2.drew := below_drew' hbm2
  generalize w2.drew = w3 at *
  clear hN2 hbm2 w2
  go_wp2_with fail
  have hho := holds_calls (hR.below hbm3).cells hR.wide hm
  rw [decide_eq_false hma] at hho
  refine hho.mono ?_
  rintro e w4 ⟨rfl, hb4⟩
  have hbm4 := hbm3.trans (hb4.mono hbm3.size)
  clear hbm3 hb4 hho c1 d1
  go_wp2_with fail
  exact bodyPost_ret (v := .tuple #[.pointer none, .int .i64 110]) (by simp [results, Tryz.results164, go_sem]) rfl ⟨rfl, hbm4⟩
end Go.Proofs.YtckhkfchgcdajaaGreatDoor

namespace Go.Proofs.YtckhkfchgcdajaaGreatDoor
open Go.Fx Go.RowKit Go.Maps Go.Sort
set_option maxRecDepth 100000 in
theorem look_badmask {w : World} {R F : Nat → Prop} {bk b arity : Nat} {gone : Int} {rows : List (List Int)} {abs : Abs} (hB : Bk w F bk b abs) (hR : Rel w R b arity gone rows) {m : Nat} (hm : MskOk m) (hma : ¬ m < 2 ^ arity) {y : List Int} :
    Calls Tryz.prog 55 #[.pointer (some ⟨bk, 0, none⟩), .int .u32 (m : Int), rowV y] w fun e w' => e = .returned (.tuple #[.slice none 0 0, .int .i64 110]) ∧ Below w.heap.size w w' := by
  have hb := (Below.refl w.heap.size w).alloc (Nat.le_refl _) (.cells (y.map symV).toArray 64)
  have ha := Lib.hid (ask_badmask (hB.frame (w' := w.alloc (.cells (y.map symV).toArray 64)) fun k hk => hb.block k (hB.lt hk)) (hR.below hb) hm hma)
  replace hb := Lib.hid hb
  clear hB hR
  go_enter Tryz.func55, Tryz.ntmps55
  go_wp2_with fail
  generalize w.alloc (.cells (y.map symV).toArray 64) = w1 at *
  refine ha.out.mono ?_
  rintro e w2 ⟨rfl, hb2⟩
  clear ha
  have hbb := Lib.hid (hb.out.trans (hb2.mono hb.out.size))
  clear hb hb2
  go_wp2_with fail
  exact bodyPost_ret (v := .tuple #[.slice none 0 0, .int .i64 110]) (by simp [results, Tryz.results55, go_sem]) rfl ⟨rfl, hbb.out⟩
set_option maxRecDepth 100000 in
theorem count_badmask {w : World} {R F : Nat → Prop} {bk b arity : Nat} {gone : Int} {rows : List (List Int)} {abs : Abs} (hB : Bk w F bk b abs) (hR : Rel w R b arity gone rows) {m : Nat} (hm : MskOk m) (hma : ¬ m < 2 ^ arity) {y : List Int} :
    Calls Tryz.prog 54 #[.pointer (some ⟨bk, 0, none⟩), .int .u32 (m : Int), rowV y] w fun e w' => e = .returned (.tuple #[.int .i64 0, .int .i64 110]) ∧ Below w.heap.size w w' := by
  have hb := (Below.refl w.heap.size w).alloc (Nat.le_refl _) (.cells (y.map symV).toArray 64)
  have ha := Lib.hid (ask_badmask (hB.frame (w' := w.alloc (.cells (y.map symV).toArray 64)) fun k hk => hb.block k (hB.lt hk)) (hR.below hb) hm hma)
  replace hb := Lib.hid hb
  clear hB hR
  go_enter Tryz.func54, Tryz.ntmps54
  go_wp2_with fail
  generalize w.alloc (.cells (y.map symV).toArray 64) = w1 at *
  refine ha.out.mono ?_
  rintro e w2 ⟨rfl, hb2⟩
  clear ha
  have hbb := Lib.hid (hb.out.trans (hb2.mono hb.out.size))
  clear hb hb2
  go_wp2_with fail
  exact bodyPost_ret (v := .tuple #[.int .i64 0, .int .i64 110]) (by simp [results, Tryz.results54, go_sem]) rfl ⟨rfl, hbb.out⟩
set_option maxRecDepth 100000 in
theorem distinct_badmask {w : World} {R F : Nat → Prop} {bk b arity : Nat} {gone : Int} {rows : List (List Int)} {abs : Abs} (hB : Bk w F bk b abs) (hR : Rel w R b arity gone rows) {m : Nat} (hm : MskOk m) (hma : ¬ m < 2 ^ arity) :
    Calls Tryz.prog 63 #[.pointer (some ⟨bk, 0, none⟩), .int .u32 (m : Int)] w fun e w' => e = .returned (.tuple #[.int .i64 0, .int .i64 110]) ∧ Below w.heap.size w w' := by
  have ha := Lib.hid (ask_badmask hB hR hm hma)
  clear hB hR
  go_enter Tryz.func63, Tryz.ntmps63
  go_wp2_with fail
  refine ha.out.mono ?_
  rintro e w2 ⟨rfl, hb2⟩
  clear ha
  have hbb := Lib.hid hb2
  clear hb2
  go_wp2_with fail
  exact bodyPost_ret (v := .tuple #[.int .i64 0, .int .i64 110]) (by simp [results, Tryz.results63, go_sem]) rfl ⟨rfl, hbb.out⟩
end Go.Proofs.YtckhkfchgcdajaaGreatDoor

namespace Go.Proofs.YtckhkfchgcdajaaGreatDoor
open Go.Fx Go.RowKit Go.Shelf
def growLays_ren : Go.Shelf.Ren := ⟨fun | 4 => 212 | n => n, fun | 22 => 69 | 25 => 64 | n => n, fun | n => n⟩
theorem growLays : Go.Proofs.Lays8.n4 Tryz.prog growLays_ren := {
  mixed := by kernel_rfl
  f4 := ⟨Tryz.f212.name, by decide, Tryz.func212.trans (congrArg some (by kernel_rfl))⟩
  t0 := Tryz.underlying0
  a0 := Tryz.isAgg0
  z0 := Tryz.sizeOf0
  v0 := Tryz.zeroValue0
  t3 := Tryz.underlying3
  a3 := Tryz.isAgg3
  z3 := Tryz.sizeOf3
  v3 := Tryz.zeroValue3
  t4 := Tryz.underlying4
  a4 := Tryz.isAgg4
  z4 := Tryz.sizeOf4
  v4 := Tryz.zeroValue4
  t9 := Tryz.underlying9
  a9 := Tryz.isAgg9
  z9 := Tryz.sizeOf9
  v9 := Tryz.zeroValue9
  t20 := Tryz.underlying20
  a20 := Tryz.isAgg20
  z20 := Tryz.sizeOf20
  v20 := Tryz.zeroValue20
  t22 := Tryz.underlying69
  a22 := Tryz.isAgg69
  z22 := Tryz.sizeOf69
  v22 := Tryz.zeroValue69 }
theorem Addr.add_eq' (g o j : Nat) : (⟨g, o, none⟩ : Addr).add j = ⟨g, o + j, none⟩ := by
  simp [Addr.add]
theorem zeroCells_size (z : Array Value) (n : Nat) : (Builtin.zeroCells z n).size = n * z.size := by
  unfold Builtin.zeroCells
  simp
theorem grow_rows {w : World} {n : Nat} (hn : n ≤ 1048576) : Calls Tryz.prog 212 #[.slice none 0 0, .int .i64 (n : Int)] w fun e w' => ∃ v, e = .returned v ∧ w'.ownsRow w.heap.size 64 24 v 0 [] ∧ Below w.heap.size w w' := by
  by_cases h0 : n = 0
  · subst h0
    refine (Any8.slices_Grow_room growLays none 0 0 0 w (by omega) (by omega) (by omega) (by omega)).mono ?_
    rintro e w' ⟨rfl, rfl⟩
    exact ⟨_, rfl, World.ownsRow_nil _ _ _ _, Below.refl _ _⟩
  · obtain ⟨i0, hi, hz0, hz1, hz2⟩ := info_parts infoR
    refine (Any8.slices_Grow_grow growLays i0 (rowV zRow) hi hz0 (by rw [hz1]; decide) none 0 0 n [] w (by omega) (by omega) (by rw [hz2]; omega) (by omega) (by simp) (fun _ => rfl) (fun a h => by cases h)).mono ?_
    rintro e w' ⟨rfl, rfl⟩
    have hg := grownCap_ge w (0 + n) 0 64
    have hm := grownCap_le_maxLen w (0 + n) 0 64 (by unfold maxLen; omega)
    refine ⟨_, rfl, ⟨rfl, .inr ⟨w.heap.size, _, _, rfl, Nat.le_refl _, heap_alloc_new w.drew _, Nat.zero_le _, hm, ?_, by simp⟩⟩, ?_⟩
    · have hzc : (rowV zRow).cells.size = 24 := by rfl
      rw [Array.size_append, Array.size_append, zeroCells_size, zeroCells_size, hzc]
      have : (List.toArray ([] : List Value)).size = 0 := rfl
      rw [this]
      show 0 + (0 + n - 0) * 24 + (grownCap w (0 + n) 0 64 - (0 + n)) * 24 = grownCap w (0 + n) 0 64 * 24
      omega
    · exact (below_drew' (Below.refl w.heap.size w)).alloc (Nat.le_refl _) _
set_option maxRecDepth 100000 in
set_option maxHeartbeats 2000000 in
theorem concat_rows {w : World} {N g i k o c1 c2 : Nat} {xs ys : List Value} (hN : w.heap[N]? = some (.cells #[.slice (some ⟨g, 0, none⟩) i c1, .slice (some ⟨g, o, none⟩) k c2] 69 (0, 0))) (hik : i + k ≤ 1048576)
    (hxl : xs.length = i * 24) (hyl : ys.length = k * 24) (hx : ∀ j u, xs[j]? = some u → w.cell? ⟨g, 0 + j, none⟩ = some u) (hy : ∀ j u, ys[j]? = some u → w.cell? ⟨g, o + j, none⟩ = some u) (hx1 : ∀ u ∈ xs, u.oneCell' = true) (hy1 : ∀ u ∈ ys, u.oneCell' = true) :
    Calls Tryz.prog 168 #[.slice (some ⟨N, 0, none⟩) 2 2] w fun e w' => ∃ v, e = .returned v ∧ w'.ownsRow w.heap.size 64 24 v (i + k) (xs ++ ys) ∧ Below w.heap.size w w' := by
  have a0 : w.cell? ⟨N, 0, none⟩ = some (.slice (some ⟨g, 0, none⟩) i c1) := by simp [World.cell?, hN]
  have a1 : w.cell? ⟨N, 1, none⟩ = some (.slice (some ⟨g, o, none⟩) k c2) := by simp [World.cell?, hN]
  have e1 : IntKind.i64.wrap (i : Int) = i := by rw [IntKind.wrap_i64]; omega
  have e2 : IntKind.i64.wrap ((i : Int) + (k : Int)) = (i : Int) + (k : Int) := by rw [IntKind.wrap_i64]; omega
  have d1 : decide ((i : Int) < 0) = false := decide_eq_false (by omega)
  have d2 : decide ((i : Int) + (k : Int) < 0) = false := decide_eq_false (by omega)
  obtain ⟨i0, hi, hz0, hz1, hz2⟩ := info_parts infoR
  go_enter Tryz.func168, Tryz.ntmps168
  go_wp2_with fail
  refine wp_loop_rounds 3 ?_
  rw [rounds_succ]
  go_wp2_with fail
  rw [rounds_succ]
  go_wp2_with fail
  rw [rounds_succ]
  go_wp2_with fail
  have hgr := grow_rows (w := w) hik
  rw [Int.natCast_add] at hgr
  refine hgr.mono ?_
  rintro e w2 ⟨v2, rfl, hown2, hb2⟩
  have a0' : w2.cell? ⟨N, 0, none⟩ = some (.slice (some ⟨g, 0, none⟩) i c1) := (hb2.cell (p := ⟨N, 0, none⟩) (World.block_lt_of_cell? w _ a0)).trans a0
  have a1' : w2.cell? ⟨N, 1, none⟩ = some (.slice (some ⟨g, o, none⟩) k c2) := (hb2.cell (p := ⟨N, 1, none⟩) (World.block_lt_of_cell? w _ a1)).trans a1
  have hx2 : ∀ j u, xs[j]? = some u → w2.cell? ⟨g, 0 + j, none⟩ = some u := fun j u hj => (hb2.cell (p := ⟨g, 0 + j, none⟩) (World.block_lt_of_cell? w _ (hx j u hj))).trans (hx j u hj)
  have hbase : w.heap.size ≤ w2.heap.size := hb2.size
  have HX := Lib.hid (And.intro hx (And.intro hy (And.intro hN hgr)))
  clear a0 a1 hx hy hN hgr e1 e2 d1 d2
  go_wp2_with fail
  refine wp_loop_rounds 3 ?_
  rw [rounds_succ]
  go_wp2_with (at_builtin; refine stop_at ?_)
  unfold Stop
  refine wpList_append_own_at _ rfl _ _ 69 rfl w.heap.size 64 i0 (rowV zRow) 24 96 Tryz.underlying69 hi hz0 hz1 hz2 rfl (by decide) v2 0 [] rfl hown2 ⟨g, 0, none⟩ i c1 xs rfl hxl (fun j u h => by rw [Addr.add_eq']; exact hx2 j u h) hx1 (by unfold maxLen; omega) (by omega) hbase ?_
  intro v3 w3 hown3 hg3 hnil3 hat3
  have hb3 : Below w.heap.size w w3 := hb2.grown hg3 hbase fun b hb => by
    rcases hown2.2 with ⟨rfl, _⟩ | ⟨g', _, _, rfl, h, _⟩
    · cases hb
    · simp only [Value.ownBlock, Option.some.injEq] at hb; omega
  have a1'' : w3.cell? ⟨N, 1, none⟩ = some (.slice (some ⟨g, o, none⟩) k c2) := by
    have h := HX.out.2.2.1
    rw [hb3.cell (p := ⟨N, 1, none⟩) (Array.getElem?_eq_some_iff.1 h).1]; simp [World.cell?, h]
  have hy3 : ∀ j u, ys[j]? = some u → w3.cell? ⟨g, o + j, none⟩ = some u := fun j u hj => (hb3.cell (p := ⟨g, o + j, none⟩) (World.block_lt_of_cell? w _ (HX.out.2.1 j u hj))).trans (HX.out.2.1 j u hj)
  rw [List.nil_append, Nat.zero_add] at hown3
  clear a0' a1' hx2 hg3 hnil3 hat3 hown2
  go_wp2_with fail
  rw [rounds_succ]
  go_wp2_with (at_builtin; refine stop_at ?_)
  unfold Stop
  refine wpList_append_own_at _ rfl _ _ 69 rfl w.heap.size 64 i0 (rowV zRow) 24 96 Tryz.underlying69 hi hz0 hz1 hz2 rfl (by decide) v3 i xs rfl hown3 ⟨g, o, none⟩ k c2 ys rfl hyl (fun j u h => by rw [Addr.add_eq']; exact hy3 j u h) hy1 (by unfold maxLen; omega) (by omega) hb3.size ?_
  intro v4 w4 hown4 hg4 hnil4 hat4
  have hb4 : Below w.heap.size w w4 := hb3.grown hg4 hb3.size fun b hb => by
    rcases hown3.2 with ⟨rfl, _⟩ | ⟨g', _, _, rfl, h, _⟩
    · cases hb
    · simp only [Value.ownBlock, Option.some.injEq] at hb; omega
  clear a1'' hy3 hg4 hnil4 hat4 hown3 hb3
  go_wp2_with fail
  rw [rounds_succ]
  go_wp2_with fail
  exact bodyPost_ret (v := v4) (by simp [results, Tryz.results168, go_sem]) rfl ⟨v4, rfl, hown4, hb4⟩
end Go.Proofs.YtckhkfchgcdajaaGreatDoor

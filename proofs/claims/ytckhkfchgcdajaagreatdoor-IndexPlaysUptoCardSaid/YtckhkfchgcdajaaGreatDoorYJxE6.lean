import Derived.Test.YtckhkfchgcdajaaGreatDoorYJxE4
import Derived.Sort.MapsRangeIn
import Derived.RangeFuncGives
import Derived.Maps.AppendAt
namespace Go.Proofs.YtckhkfchgcdajaaGreatDoor
open Go.Fx Go.RowKit Go.Maps Go.Sort
abbrev encU : Nat → Value := fun m => .int .u32 (m : Int)
def R0 : Value → Option (DataW Unit × List MemPlace) := fun _ => some (.nil, [])
theorem encU_inj {x y : Nat} (h : encU x = encU y) : x = y := by injection h with _ h; omega
theorem keyOf_u32 {key : Value} {kl : Lit} (h : keyOf Tryz.prog 61 key = some kl) : ∃ x : Nat, key = encU x ∧ kl = .int .u32 (x : Int) ∧ MskOk x := by
  have hk := Tryz.underlying61
  cases key <;> simp [keyOf, hk, mapKey] at h
  rename_i q a
  obtain ⟨⟨rfl, hw⟩, rfl⟩ := h
  have h2 : (decide (IntKind.u32.min ≤ a) && decide (a ≤ IntKind.u32.max)) = true := hw
  rw [Bool.and_eq_true, decide_eq_true_iff, decide_eq_true_iff, show IntKind.u32.min = 0 from rfl, show IntKind.u32.max = 4294967295 from by decide] at h2
  refine ⟨a.toNat, ?_, ?_, ?_⟩
  · show Value.int .u32 a = Value.int .u32 ((a.toNat : Nat) : Int)
    rw [Int.toNat_of_nonneg h2.1]
  · rw [Int.toNat_of_nonneg h2.1]
  · show a.toNat < 4294967296
    omega
theorem rd_msk {e : MapEntry} {m : Nat} (hx : e.key = encU m) (hm : MskOk m) : Go.WideElems.rd Tryz.prog 61 R0 e = some (.int .u32 (m : Int), .nil) := by
  unfold Go.WideElems.rd R0
  rw [hx, Go.Maps.keyOf_int_mk Tryz.underlying61 (msk_wf hm)]
  rfl
theorem msk_owns {w : World} {mb : Nat} {kv : List (Nat × Value)} (h : MMapAt w mb kv) (hl : kv.length ≤ maxLen) :
    ∃ D : DataW Unit, w.ownsMap Tryz.prog 61 R0 mb kv.length D ∧ size D = kv.length ∧ ∀ x : Nat, has D (.int .u32 (x : Int)) = true ↔ x ∈ kv.map (·.1) := by
  obtain ⟨es, clock, h1, h2, hk, hn, hst⟩ := h
  have hlen : es.size = kv.length := by
    have := congrArg List.length h2
    simpa using this
  have hrd : ∀ e ∈ es.toList, ∃ p ∈ kv, e.key = encU p.1 ∧ Go.WideElems.rd Tryz.prog 61 R0 e = some (.int .u32 (p.1 : Int), .nil) := fun e he => by
    have : (e.key, e.val) ∈ es.toList.map (fun e => (e.key, e.val)) := List.mem_map_of_mem he
    rw [h2] at this
    obtain ⟨p, hp, hpe⟩ := List.mem_map.1 this
    have hkey : e.key = encU p.1 := (congrArg Prod.fst hpe).symm
    exact ⟨p, hp, hkey, rd_msk hkey (hk p hp)⟩
  refine ⟨_, ⟨es, clock, h1, ⟨by omega, hst, fun e he => ?_⟩, Nat.le_of_eq hlen, rfl⟩, ?_, ?_⟩
  · obtain ⟨p, _, _, h⟩ := hrd e he
    exact ⟨_, h⟩
  · rw [size_eq, (Go.WideShapes.sorted_perm _).length_eq, List.length_map, Array.length_toList, hlen]
  · intro x
    rw [has_eq, List.any_eq_true]
    constructor
    · rintro ⟨q, hq, hs⟩
      obtain ⟨e, he, rfl⟩ := List.mem_map.1 ((Go.WideShapes.sorted_perm _).mem_iff.1 hq)
      obtain ⟨p, hp, _, hr⟩ := hrd e he
      rw [show Go.WideElems.rg Tryz.prog 61 R0 e = (.int .u32 (p.1 : Int), .nil) from by unfold Go.WideElems.rg; rw [hr]; rfl] at hs
      have : p.1 = x := by have h : (p.1 : Int) = (x : Int) := by simpa [Lit.sameKey] using hs
                           omega
      exact this ▸ List.mem_map_of_mem hp
    · intro hx
      obtain ⟨p, hp, rfl⟩ := List.mem_map.1 hx
      have : (encU p.1, p.2) ∈ kv.map (fun p => (encU p.1, p.2)) := List.mem_map_of_mem hp
      rw [show (kv.map fun p => (encU p.1, p.2)) = kv.map (fun p => (mskKx.enc p.1, p.2)) from rfl, ← h2] at this
      obtain ⟨e, he, hee⟩ := List.mem_map.1 this
      obtain ⟨p', hp', hk', hr⟩ := hrd e he
      have hpp : p'.1 = p.1 := encU_inj (hk'.symm.trans (congrArg Prod.fst hee))
      refine ⟨_, (Go.WideShapes.sorted_perm _).mem_iff.2 (List.mem_map_of_mem he), ?_⟩
      rw [show Go.WideElems.rg Tryz.prog 61 R0 e = (.int .u32 (p'.1 : Int), .nil) from by unfold Go.WideElems.rg; rw [hr]; rfl, hpp]
      simp [Lit.sameKey]
def CameU (D : DataW Unit) (left : Lit → Bool) (ss : List Nat) : Prop := ss.Nodup ∧ ∀ x : Nat, x ∈ ss ↔ (has D (.int .u32 (x : Int)) = true ∧ left (.int .u32 (x : Int)) = false)
theorem CameU.start (D : DataW Unit) : CameU D (has D) [] := ⟨List.nodup_nil, fun x => by cases has D (.int .u32 (x : Int)) <;> simp⟩
theorem CameU.step {D : DataW Unit} {left : Lit → Bool} {ss : List Nat} (h : CameU D left ss) {x : Nat} {y : DataW Unit} (hl : left (.int .u32 (x : Int)) = true) (hat : ∀ zd, D.atKey (.int .u32 (x : Int)) zd = y) : CameU D (fun z => left z && !z.sameKey (.int .u32 (x : Int))) (ss ++ [x]) := by
  have hhas : has D (.int .u32 (x : Int)) = true := has_true_of_atKey hat
  have hnew : x ∉ ss := fun hx => by have := ((h.2 x).1 hx).2; rw [hl] at this; cases this
  refine ⟨List.nodup_append.2 ⟨h.1, by simp, fun a ha b hb => by simp at hb; subst hb; exact fun e => hnew (e ▸ ha)⟩, fun y => ?_⟩
  by_cases hy : y = x
  · subst hy; simp [hhas, Lit.sameKey]
  · have hy2 : ¬ (y : Int) = (x : Int) := by omega
    simp [h.2 y, hy, hy2, Lit.sameKey]
theorem keys_calls (mb : Option Nat) (w : World) : Calls Tryz.prog 174 #[.map mb] w fun e w' => e = .returned (.func (.func 217) #[] #[.pointer (some ⟨w.heap.size, 0, none⟩)]) ∧ w' = w.alloc (.cells #[.map mb] 108) := by
  go_enter Tryz.func174, Tryz.ntmps174
  go_wp2_with fail
  exact bodyPost_ret (v := .func (.func 217) #[] #[.pointer (some ⟨w.heap.size, 0, none⟩)]) (by simp [results, Tryz.results174, go_sem]) rfl ⟨rfl, rfl⟩
set_option maxRecDepth 100000 in
set_option maxHeartbeats 2000000 in
theorem masks_stops (n : Nat) {w : World} {B mb : Nat} {kv : List (Nat × Value)} (hc : w.cell? ⟨B, 0, none⟩ = some (.map (some mb))) (hm : MMapAt w mb kv) (hl : kv.length ≤ maxLen) :
    SeqStopsK (FW none) n Tryz.prog 217 #[.pointer (some ⟨B, 0, none⟩)] (fun x => #[encU x]) KeepsWalks (fun ss => ss.Perm (kv.map (·.1))) (fun _ => True) kv.length w := by
  intro l J Jx W hW hJ hJx hY h0
  obtain ⟨D, hown, hsz, hmem⟩ := msk_owns (hm.frame (w' := W) (hW.block mb hm.lt)) hl
  have hnd : (kv.map (·.1)).Nodup := by obtain ⟨_, _, _, _, _, h, _⟩ := hm; exact h
  have hc' : W.cell? ⟨B, 0, none⟩ = some (.map (some mb)) := (hW.cell (p := ⟨B, 0, none⟩) (World.block_lt_of_cell? w _ hc)).trans hc
  clear hm hc hW
  refine callsIn_wide.2 ?_
  go_enter Tryz.func217, Tryz.ntmps217
  refine (wpIn_wide (n := n)).1 ?_
  gi_wp2_with (first
    | (gi_at_range; refine wpListIn_range_own _ rfl _ 108 rfl 61 302 (int_keyed Tryz.underlying61) Tryz.underlying108 _ mb kv.length _ rfl hown ?_; intro w0 hrg0 hg0 hs0)
    | gi_in)
  try go_frame
  gi_loopw [3] (fun _ wr => ∃ (left : Lit → Bool) (cnt : Nat) (ss : List Nat), wr.ranges Tryz.prog 61 R0 mb W.heap.size kv.length D left cnt ∧ ss.length + cnt ≤ kv.length ∧ CameU D left ss ∧ J ss wr)
    (fun _ wr => wr.rangeLeft mb W.heap.size)
  case atStart =>
    exact ⟨_, _, [], hrg0, by simp [hsz], CameU.start D, hJ [] W w0 none h0 hg0 (fun r e => by cases e)⟩
  case round =>
    obtain ⟨left, cnt, ss, hrg, hcs, hC, hJs⟩ := hrel
    gi_wp2_with (first
      | (gi_at_next; refine wpListIn_next_ranges _ rfl _ rfl 61 (int_keyed Tryz.underlying61) R0 encU id (fun key kl hk => by obtain ⟨x, hx, _⟩ := keyOf_u32 hk; exact ⟨x, hx⟩) (fun v _ _ => ⟨v, rfl⟩) mb W.heap.size kv.length _ _ _ rfl hrg ?_ ?_)
      | gi_in)
    · intro hc0 hl0
      gi_wp2
      go_end0
      refine ⟨⟨_, rfl⟩, .inl ⟨ss, (List.perm_ext_iff_of_nodup hC.1 hnd).2 fun x => ?_, hJs⟩⟩
      rw [hC.2 x, hl0, ← hmem x]
      simp
    · intro x c kl yd yp w2 cnt2 hkey hlk hv hat hrg2 hlt hg2 hs2 hen
      obtain ⟨x', ex, rfl, _⟩ := keyOf_u32 hkey
      obtain rfl : x = x' := encU_inj ex
      have hJ2 : J ss w2 := hJ ss wr w2 (some W.heap.size) hJs hg2 (fun r e => by cases e; exact ⟨Nat.le_refl _, hrg.iter_walk⟩)
      obtain ⟨fn, tmps, assign, body, hy, hR⟩ := hY ss x w2 hJ2 (by omega)
      clear hs2
      gi_wp2
      refine ⟨fun e => (by cases e), hR.mono ?_⟩
      rintro e W3 (⟨rfl, hJ3, hk3⟩ | ⟨rfl, hJx3⟩)
      · gi_wp2
        have hrg3 := hrg2.of_walks hk3
        go_roundw
        case rel => exact ⟨_, cnt2, ss ++ [x], hrg3, by simp; omega, hC.step hlk hat, hJ3⟩
        case measure => rw [hrg3.left_eq, hrg.left_eq]; exact hlt
      · gi_wp2
        refine bodyPost_ret (results_none rfl _ _ _) rfl ?_
        exact ⟨⟨_, rfl⟩, .inr ⟨_, trivial, hJx3⟩⟩
end Go.Proofs.YtckhkfchgcdajaaGreatDoor

namespace Go.Proofs.YtckhkfchgcdajaaGreatDoor
open Go.Fx Go.RowKit Go.Maps Go.Sort
attribute [local go_sem] Oper.semAt_some
theorem info33 : (Tryz.prog.info? 61).map (fun i => (i.zero, i.size, i.bytes)) = some (some (.int .u32 0), 1, 4) := by kernel_rfl
def AppI (w : World) (Bs : Nat) (ss : List Nat) (W : World) : Prop := ∃ v, W.heap[Bs]? = some (.cells #[v] 119 (0, 0)) ∧ W.ownsRow (Bs + 1) 61 1 v ss.length (ss.map encU) ∧ (v = .slice none 0 0 ↔ ss = []) ∧ Below Bs w W
theorem AppI.own {w : World} {Bs B : Nat} (hB : Bs + 1 ≤ B) : OwnFrom B (AppI w Bs) := by
  rintro ss W W' row ⟨v, h1, h2, h3, h4⟩ hg hr
  refine ⟨v, ?_, ?_, h3, h4.grown hg (Nat.le_of_lt (Array.getElem?_eq_some_iff.1 h1).1) fun k e => ?_⟩
  · exact (hg.block Bs (Array.getElem?_eq_some_iff.1 h1).1 fun e => by have := (hr Bs e.symm).1; omega).trans h1
  · refine ownsRow_of_block h2 fun k hk => hg.block k (own_lt h2 hk) fun e => ?_
    obtain ⟨_, o, ho, hc⟩ := hr k e.symm
    rcases h2.2 with ⟨rfl, _⟩ | ⟨g, cap, cur, rfl, _, hg2, _⟩
    · cases hk
    · simp only [Value.ownBlock, Option.some.injEq] at hk
      subst hk
      rw [hg2] at ho
      cases ho
      cases hc
  · have := (hr k e).1
    omega
set_option maxRecDepth 100000 in
set_option maxHeartbeats 2000000 in
theorem append_masks {w : World} {B : Nat} {S : List Nat → Prop} {N : Nat} (hN : N ≤ 16777216) (hseq : ∀ n, SeqStopsK (FW none) n Tryz.prog 217 #[.pointer (some ⟨B, 0, none⟩)] (fun x : Nat => #[encU x]) KeepsWalks S (fun _ => True) N w) :
    Calls Tryz.prog 222 #[.slice none 0 0, .func (.func 217) #[] #[.pointer (some ⟨B, 0, none⟩)]] w fun e w' => ∃ v ss, e = .returned v ∧ S ss ∧ w'.ownsRow w.heap.size 61 1 v ss.length (ss.map encU) ∧ (v = .slice none 0 0 ↔ ss = []) ∧ Below w.heap.size w w' := by
  refine callsIn_wide.1 (callsIn_of_wp_marks (n := 5) Tryz.func222 rfl trivial ?_)
  simp only [Tryz.ntmps222, List.size_toArray, List.length_cons, List.length_nil, Nat.reduceAdd, Nat.reduceSub, Array.replicate_succ, Array.replicate_zero, List.push_toArray, List.append_toArray, List.nil_append, List.cons_append]
  refine wpIn_wide.2 ?_
  go_wp2_with fail
  have hb0 : Below w.heap.size w (w.alloc (.cells #[.slice none 0 0] 119)) := (Below.refl _ w).alloc (Nat.le_refl _) _
  have hN0 := heap_alloc_new w (.cells #[.slice none 0 0] 119)
  have hs0 := alloc_size w (.cells #[.slice none 0 0] 119)
  generalize w.alloc (.cells #[.slice none 0 0] 119) = w0 at *
  obtain ⟨i0, hi0, hz0, hz1, hz2⟩ := info_parts info33
  refine (wpIn_wide (n := 5)).1 ?_
  refine wpIn_rangeFunc_ownG (F := FW none) (α := Nat) rfl (by decide) (gf := 217) (lb := #[.pointer (some ⟨B, 0, none⟩)]) rfl trivial (enters_of Tryz.func217 (by kernel_rfl) rfl) (hseq 4) (fun h h' => h.trans h') walksK_b hb0 (fun _ => rfl)
    (AppI w w.heap.size) (fun _ _ _ => False) (AppI.own (by omega)) (fun _ _ _ _ _ h _ _ => h) ⟨_, hN0, World.ownsRow_nil _ _ _ _, by simp, hb0⟩
    (fun x => { tmps := #[.slice none 0 0, .func (.func 217) #[] #[.pointer (some ⟨B, 0, none⟩)], .pointer (some ⟨w.heap.size, 0, none⟩), undef, .slice none 0 0, encU x, .func (.func 217) #[] #[.pointer (some ⟨B, 0, none⟩)], encU x, undef, undef, undef, undef, undef], defers := [] }) ?assign ?body ?done ?stop
  case stop =>
    rintro D c pre W _ _ h _
    exact h.elim
  case assign =>
    intro l x W K hK
    gi_wp2
    exact hK
  case body =>
    rintro l pre x W ⟨v, h1, h2, h3, h4⟩ hpl
    have c2 : W.cell? ⟨w.heap.size, 0, none⟩ = some v := by simp [World.cell?, h1]
    have hlt := (Array.getElem?_eq_some_iff.1 h1).1
    refine wpIn_block ?_
    refine wpIn_region_of_list (rd := some l) (fun ⟨_, _, h⟩ => h) (fun o ho c hc => by simp only [List.mem_cons, List.not_mem_nil, or_false] at ho; rcases ho with rfl | rfl | rfl | rfl | rfl <;> cases hc) ?_
    have hnb : v.ownBlock ≠ some w.heap.size := fun e => by
      rcases h2.2 with ⟨rfl, _⟩ | ⟨g, cap, cur, rfl, hg, _⟩
      · cases e
      · simp only [Value.ownBlock, Option.some.injEq] at e; omega
    go_wp2_with (at_builtin; refine stop_at ?_)
    unfold Stop
    refine wpList_append_own_at _ rfl _ _ 119 rfl (w.heap.size + 1) 61 i0 (.int .u32 0) 1 4 Tryz.underlying119 hi0 hz0 hz1 hz2 rfl (by decide) v pre.length (pre.map encU) rfl (h2.alloc _) ⟨W.heap.size, 0, none⟩ 1 1 [encU x] rfl rfl (World.news_of_block (cs := #[encU x]) (t := 61) (fr := (0, 0)) (heap_alloc_new W _)) (by simp [Value.oneCell']) (by unfold maxLen; omega) (by omega) (by rw [alloc_size]; omega) ?_
    intro v' w3 hown' hg3 hnil3 hat3
    have hv3 : w3.heap[w.heap.size]? = some (.cells #[v] 119 (0, 0)) := (hg3.block _ (by rw [alloc_size]; omega) (fun e => hnb e.symm)).trans ((((Below.refl _ W).alloc (Nat.le_refl _) _).block _ hlt).trans h1)
    have c3 : w3.cell? ⟨w.heap.size, 0, none⟩ = some v := by simp [World.cell?, hv3]
    have f3 : w3.frozen? ⟨w.heap.size, 0, none⟩ = false := by simp [World.frozen?, hv3]
    obtain ⟨g', cap', cur', rfl, hbase', hgb', hr1, hr2, hr3, hr4⟩ : ∃ g' cap' cur', v' = .slice (some ⟨g', 0, none⟩) (pre.length + 1) cap' ∧ w.heap.size + 1 ≤ g' ∧ w3.heap[g']? = some (.cells cur' 61 (0, 0)) ∧ pre.length + 1 ≤ cap' ∧ cap' ≤ maxLen ∧ cur'.size = cap' * 1 ∧ cur'.toList.take ((pre.length + 1) * 1) = pre.map encU ++ [encU x] := by
      rcases hown'.2 with ⟨_, h0⟩ | h'
      · omega
      · exact h'
    go_wp2_with fail
    obtain ⟨s1, _, _, s4⟩ := cells_set (n := 0) (pre := []) (post := []) (v := .slice (some ⟨g', 0, none⟩) (pre.length + 1) cap') rfl hv3
    have hvl : ∀ k, v.ownBlock = some k → w.heap.size + 1 ≤ k ∧ ∃ cs fr, W.heap[k]? = some (.cells cs 61 fr) := fun k hk => by
      rcases h2.2 with ⟨rfl, _⟩ | ⟨g, cap, cur, rfl, hge, hg, _⟩
      · cases hk
      · simp only [Value.ownBlock, Option.some.injEq] at hk
        subst hk
        exact ⟨hge, _, _, hg⟩
    generalize w3.setCell ⟨w.heap.size, 0, none⟩ (.slice (some ⟨g', 0, none⟩) (pre.length + 1) cap') = w4 at *
    have hsz3 : W.heap.size + 1 ≤ w3.heap.size := by have := hg3.size; rw [alloc_size] at this; exact this
    have hsz4 := s4.size
    have hall : ∀ (i : Nat) (o : Obj), W.heap[i]? = some o → (∀ cs ty fr, o ≠ .cells cs ty fr) → w4.heap[i]? = some o := fun i o ho hc => by
      have hi := (Array.getElem?_eq_some_iff.1 ho).1
      rw [s4.block i (by omega) (fun e => by subst e; rw [h1] at ho; cases ho; exact hc _ _ _ rfl)]
      refine (hg3.block i (by rw [alloc_size]; omega) fun e => ?_).trans ((((Below.refl _ W).alloc (Nat.le_refl _) _).block _ hi).trans ho)
      obtain ⟨_, cs, fr, h⟩ := hvl i e.symm
      rw [h] at ho
      cases ho
      exact hc _ _ _ rfl
    have hb4 : Below w.heap.size w w4 := by
      have hb3 : Below w.heap.size w w3 := (h4.alloc (Nat.le_of_lt hlt) _).grown hg3 (by rw [alloc_size]; omega) fun k e => by have := (hvl k e).1; omega
      exact ⟨s4.os.trans hb3.os, s4.tape.trans hb3.tape, s4.output.trans hb3.output, Nat.le_trans hb3.size s4.size, fun k hk => (s4.block k (by have := hb3.size; omega) (by omega)).trans (hb3.block k hk)⟩
    refine ⟨⟨by omega, fun i o _ ho hc => hall i o ho (by rintro cs ty fr rfl; cases hc)⟩, ⟨by omega, fun i o ho hw => hall i o ho (by rintro cs ty fr rfl; cases hw)⟩, _, s1, ?_, by simp, hb4⟩
    rw [List.length_append, List.length_singleton, List.map_append]
    refine ownsRow_of_block hown' fun k hk => s4.block k (own_lt hown' hk) ?_
    simp only [Value.ownBlock, Option.some.injEq] at hk
    omega
  case done =>
    intro D ys W hD hS hI hWD
    obtain ⟨v, h1, h2, h3, h4⟩ := hI
    have c2 : W.cell? ⟨w.heap.size, 0, none⟩ = some v := by simp [World.cell?, h1]
    go_wp2_with fail
    have hD1 : w.heap.size ≠ D := by omega
    have hvD : ∀ k, v.ownBlock = some k → k ≠ D := fun k hk e => by
      rcases h2.2 with ⟨rfl, _⟩ | ⟨g, cap, cur, rfl, hge, hg, _⟩
      · cases hk
      · simp only [Value.ownBlock, Option.some.injEq] at hk
        subst hk e
        rw [hWD] at hg
        cases hg
    refine ⟨by simp, .inl ⟨_, _, rfl, run_takeDeferred hWD, ?_⟩⟩
    refine ⟨_, results_tmp rfl _ _ _, v, ys, rfl, hS, ?_, h3, h4.grown (grownBy_putObj' W D _) (Nat.le_of_lt (Array.getElem?_eq_some_iff.1 h1).1) fun k e => by cases e; omega⟩
    have h5 : (W.putObj D (.deferred none)).ownsRow (w.heap.size + 1) 61 1 v ys.length (ys.map encU) := ownsRow_of_block h2 fun k hk => World.putObj_heap_other (hvD k hk)
    refine ⟨h5.1, ?_⟩
    rcases h5.2 with h | ⟨g, cap, cur, e1, e2, e3⟩
    · exact .inl h
    · exact .inr ⟨g, cap, cur, e1, by omega, e3⟩
end Go.Proofs.YtckhkfchgcdajaaGreatDoor

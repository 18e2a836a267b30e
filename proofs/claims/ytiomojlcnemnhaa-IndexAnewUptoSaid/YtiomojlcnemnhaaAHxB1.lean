import Derived.Test.YtiomojlcnemnhaaAHxA7
import Derived.Outline
namespace Go.Proofs.Ytiomojlcnemnhaa
open Go.Fx Go.RowKit
def keyTo (m : Nat) (x : List Int) (k : Nat) : List Int := (List.range k).map fun i => if m.testBit i then x.getD i 0 else 0
abbrev keyRow (m : Nat) (x : List Int) : List Int := keyTo m x 24
theorem keyTo_len (m : Nat) (x : List Int) (k : Nat) : (keyTo m x k).length = k := by simp [keyTo]
theorem keyTo_succ (m : Nat) (x : List Int) (k : Nat) : keyTo m x (k + 1) = keyTo m x k ++ [if m.testBit k then x.getD k 0 else 0] := by simp [keyTo, List.range_succ]
theorem keyRow_ok (m : Nat) {x : List Int} (hx : RowOk x) : RowOk (keyRow m x) := by
  refine ⟨keyTo_len _ _ _, fun n hn => ?_⟩
  obtain ⟨i, hi, rfl⟩ := List.mem_map.1 hn
  split
  · have : i < x.length := by rw [hx.1]; simpa using hi
    rw [List.getD_eq_getElem?_getD, List.getElem?_eq_getElem this, Option.getD_some]
    exact hx.2 _ (List.getElem_mem this)
  · rfl
theorem pow24 {i : Nat} (hi : i < 24) : IntKind.u32.wrap (2 ^ min i IntKind.u32.bits) = ((2 ^ i : Nat) : Int) ∧ (2 : Nat) ^ i ≤ 8388608 :=
  ⟨(by decide +kernel : ∀ m : Fin 24, IntKind.u32.wrap (2 ^ min m.val IntKind.u32.bits) = ((2 ^ m.val : Nat) : Int)) ⟨i, hi⟩, (by decide +kernel : ∀ m : Fin 24, (2 : Nat) ^ m.val ≤ 8388608) ⟨i, hi⟩⟩
theorem and_pow (m i : Nat) : m &&& 2 ^ i = if m.testBit i then 2 ^ i else 0 := by
  apply Nat.eq_of_testBit_eq
  intro j
  rw [Nat.testBit_and, Nat.testBit_two_pow]
  by_cases h : i = j
  · subst h
    cases hm : m.testBit i <;> simp
  · cases hm : m.testBit i <;> simp [h]
theorem wrap_u32' (n : Int) (h0 : 0 ≤ n) (h : n < 4294967296) : IntKind.u32.wrap n = n := by
  show n % 4294967296 = n
  omega
theorem and_bit (i m : Nat) (hi : i < 24) (hm : m < 4294967296) : bits .and .u32 (m : Int) (IntKind.u32.wrap (2 ^ min i IntKind.u32.bits)) = if m.testBit i then ((2 ^ i : Nat) : Int) else 0 := by
  obtain ⟨e1, e2⟩ := pow24 hi
  rw [e1]
  unfold bits
  simp only [BitVec.ofInt_natCast, BitVec.toNat_and, BitVec.toNat_ofNat]
  have hb : (2 : Nat) ^ IntKind.u32.bits = 4294967296 := by decide
  rw [hb, Nat.mod_eq_of_lt (by omega), Nat.mod_eq_of_lt (by omega), and_pow]
  split
  · rw [wrap_u32' _ (Int.natCast_nonneg _) (by omega)]
  · rfl
theorem info41 : (Try.prog.info? 41).map (fun i => (i.zero, i.size, i.bytes)) = some (some (.int .i32 0), 1, 4) := by kernel_rfl
set_option maxRecDepth 100000 in
set_option maxHeartbeats 4000000 in
theorem key_calls {w : World} {m xb : Nat} {x : List Int} {ty : TypeId} {fr : Nat × Nat} (hm : m < 4294967296) (hx : RowOk x) (hb : w.heap[xb]? = some (.cells (x.map symV).toArray ty fr)) :
    Calls Try.prog 51 #[.int .u32 (m : Int), .pointer (some ⟨xb, 0, none⟩)] w fun e w' => e = .returned (rowV (keyRow m x)) ∧ Below w.heap.size w w' := by
  obtain ⟨i0, hi0, hz0, hz1, hz2⟩ := info_parts info41
  have hxl : xb < w.heap.size := (Array.getElem?_eq_some_iff.1 hb).1
  go_enter Try.func51, Try.ntmps51
  go_wp2_with fail
  have hz := (MapKept.heap_alloc w (Obj.cells (List.replicate 24 (Value.int .i32 0)).toArray 43)).1
  have hba : Below w.heap.size w (w.alloc (Obj.cells (List.replicate 24 (Value.int .i32 0)).toArray 43)) := (Below.refl _ w).alloc (Nat.le_refl _) _
  have hsza := alloc_size w (Obj.cells (List.replicate 24 (Value.int .i32 0)).toArray 43)
  obtain ⟨wa, hwa⟩ : ∃ wa, w.alloc (Obj.cells (List.replicate 24 (Value.int .i32 0)).toArray 43) = wa := ⟨_, rfl⟩
  rw [hwa] at hz hba hsza
  simp only [List.replicate] at hwa hz
  rw [hwa]
  clear hwa
  go_loopw [5, 9] (fun l i wr => ∃ k : Nat, i = .int .i64 (k : Int) ∧ k ≤ 24 ∧ wr.ownsRow (w.heap.size + 1) 41 1 l k ((keyTo m x k).map symV) ∧ Below (w.heap.size + 1) wa wr) (fun _ i _ => match i with | .int _ n => 24 - n.toNat | _ => 0)
  case atStart => exact ⟨0, rfl, Nat.zero_le _, World.ownsRow_nil _ _ _ _, Below.refl _ _⟩
  case round =>
    obtain ⟨k, rfl, hk, hown, hbl⟩ := hrel
    by_cases hlt : k < 24
    · have hlt' : decide ((k : Int) < 24) = true := decide_eq_true (by omega)
      have hi1 : (0 : Int) ≤ (k : Int) := by omega
      have hi2 : (k : Int) < 24 := by omega
      have hkx : k < x.length := by rw [hx.1]; exact hlt
      have hxk : (if m.testBit k then x.getD k 0 else 0) = if m.testBit k then x[k] else 0 := by
        rw [List.getD_eq_getElem?_getD, List.getElem?_eq_getElem hkx, Option.getD_some]
      have hts := keyTo_succ m x k
      rw [hxk] at hts
      have hc0 : w.cell? ⟨xb, k, none⟩ = some (symV x[k]) := by
        simp only [World.cell?, hb]
        simp [List.getElem?_eq_getElem hkx]
      have hc : wr.drew.cell? ⟨xb, k, none⟩ = some (symV x[k]) := by
        show wr.cell? _ = _
        rw [hbl.cell (p := ⟨xb, k, none⟩) (by show xb < _; omega)]
        exact (hba.cell (p := ⟨xb, k, none⟩) hxl).trans hc0
      have hbit := and_bit k m hlt hm
      have hown1 : wr.drew.ownsRow (w.heap.size + 1) 41 1 u5 k ((keyTo m x k).map symV) := hown
      have hbl1 : Below (w.heap.size + 1) wa wr.drew := below_drew' hbl
      clear hxk hc0 hown hbl
      generalize x[k] = xk at *
      have hbm : ∀ k, u5.ownBlock = some k → w.heap.size + 1 ≤ k := fun k hk => (hown1.lt k hk).1
      have hbase' : w.heap.size + 1 ≤ wr.drew.heap.size := by have := hbl1.size; omega
      have hbase : w.heap.size + 1 ≤ wr.drew.heap.size + 1 := by omega
      have hbb : (bits .and .u32 (m : Int) (2 ^ k % 4294967296) == 0) = !m.testBit k := by
        have e : bits .and .u32 (m : Int) (2 ^ k % 4294967296) = if m.testBit k then ((2 ^ k : Nat) : Int) else 0 := by
          rw [← hbit]
          congr 1
          have := (pow24 hlt).1
          rw [this]
          have h2 := (pow24 hlt).2
          have h3 : ((2 ^ k : Nat) : Int) = (2 : Int) ^ k := by simp
          rw [← h3]
          exact (Int.emod_eq_of_lt (Int.natCast_nonneg _) (by omega))
        rw [e]
        cases m.testBit k
        · rfl
        · have h2 : (2 : Nat) ^ k ≠ 0 := Nat.ne_of_gt (Nat.two_pow_pos k)
          simp only [if_true, Bool.not_true, beq_eq_false_iff_ne, ne_eq]
          omega
      by_cases hbt : m.testBit k = true
      · simp only [hbt, if_true, if_false, Bool.not_true, Bool.not_false, Bool.false_eq_true] at hbb hts
        clear hbit hbt
        go_wp2_with fail
        refine wp_region_still_lit (by kernel_rfl) (by kernel_rfl) ?_
        change wpStill _ _ wr.drew _ _ _
        repeat still_step
        refine wpStill_nil ?_
        change Exit.then _ _ _ _ wr.drew
        generalize wr.drew = w1 at *
        go_wp2_with (at_builtin; refine wpList_append_own_at _ rfl _ _ 229 rfl (w.heap.size + 1) 41 i0 (.int .i32 0) 1 4 Try.underlying229 hi0 hz0 hz1 hz2 rfl (by decide) _ _ _ rfl (hown1.alloc _) ⟨w1.heap.size, 0, none⟩ 1 1 [symV xk] rfl rfl (World.news_of_block (cs := #[symV xk]) (t := 41) (fr := (0, 0)) (heap_alloc_new w1 _)) (by simp [Value.oneCell']) (by unfold maxLen; omega) (by omega) (by rw [alloc_size]; omega) ?_; intro v' w2 hown2 hgrow2 hnil2 hat2)
        refine ⟨⟨k + 1, congrArg (Value.int .i64) (by omega), by omega, ?_, ?_⟩, ?_⟩
        · rw [hts, List.map_append]; exact hown2
        · exact (hbl1.alloc hbase' _).grown hgrow2 (by rw [alloc_size]; omega) fun k hk => hbm k hk
        · show 24 - ((k : Int) + 1).toNat < 24 - (k : Int).toNat
          omega
      · simp only [hbt, if_true, if_false, Bool.not_true, Bool.not_false, Bool.false_eq_true] at hbb hts
        clear hbit hbt
        go_wp2_with fail
        refine wp_region_still_lit (by kernel_rfl) (by kernel_rfl) ?_
        change wpStill _ _ wr.drew _ _ _
        repeat still_step
        refine wpStill_nil ?_
        change Exit.then _ _ _ _ wr.drew
        generalize wr.drew = w1 at *
        go_wp2_with (at_builtin; refine wpList_append_own_at _ rfl _ _ 229 rfl (w.heap.size + 1) 41 i0 (.int .i32 0) 1 4 Try.underlying229 hi0 hz0 hz1 hz2 rfl (by decide) _ _ _ rfl (hown1.alloc _) ⟨w1.heap.size, 0, none⟩ 1 1 [symV 0] rfl rfl (World.news_of_block (cs := #[symV 0]) (t := 41) (fr := (0, 0)) (heap_alloc_new w1 _)) (by simp [Value.oneCell']) (by unfold maxLen; omega) (by omega) (by rw [alloc_size]; omega) ?_; intro v' w2 hown2 hgrow2 hnil2 hat2)
        refine ⟨⟨k + 1, congrArg (Value.int .i64) (by omega), by omega, ?_, ?_⟩, ?_⟩
        · rw [hts, List.map_append]; exact hown2
        · exact (hbl1.alloc hbase' _).grown hgrow2 (by rw [alloc_size]; omega) fun k hk => hbm k hk
        · show 24 - ((k : Int) + 1).toNat < 24 - (k : Int).toNat
          omega
    · obtain rfl : k = 24 := by omega
      have hsz1 : (Try.prog.info? 43).map (·.size) = some ((keyTo m x 24).map symV).length := by rw [infoRow]; simp [keyTo_len]
      have hsz : (Try.prog.info? 43).map (·.size) = some ((keyTo m x 24).map symV).toArray.size := by rw [infoRow]; simp [keyTo_len]
      have hl24 := keyTo_len m x 24
      have hone := row_one (keyTo m x 24)
      obtain ⟨g, cap, cur, rfl, hg0, hg, hn, hmx, hcs, htk⟩ : ∃ g cap cur, u5 = .slice (some ⟨g, 0, none⟩) 24 cap ∧ w.heap.size + 1 ≤ g ∧ wr.heap[g]? = some (.cells cur 41 (0, 0)) ∧ 24 ≤ cap ∧ cap ≤ maxLen ∧ cur.size = cap * 1 ∧ cur.toList.take (24 * 1) = (keyTo m x 24).map symV := by
        rcases hown.2 with ⟨_, h0⟩ | h
        · cases h0
        · exact h
      have hrg : wr.rangeAt g 0 ((keyTo m x 24).map symV) := fun j v hj => by
        rw [← htk, List.getElem?_take] at hj
        split at hj
        · simp only [World.cell?, hg, Nat.zero_add]
          simpa using hj
        · cases hj
      have hz1 := (hbl.block w.heap.size (by omega)).trans hz
      have hbw : Below w.heap.size w wr := hba.trans (hbl.mono (by omega))
      have harr : (Instr.arrayAt 43 (.slice (some ⟨g, 0, none⟩) 24 cap)).run Try.prog wr = .ok (.pointer (some ⟨g, 0, none⟩)) wr := by
        simp [Instr.arrayAt, run_underlying Try.underlying43]
      unfold maxLen at hmx
      clear hown hbl htk hcs hg hz hba
      go_wp2_with (first | (refine wpList_load_mid rfl 43 _ rfl g 0 rfl _ _ hrg Try.underlying43 rfl hsz1 ?_) | (refine wpList_store_row rfl 43 _ _ rfl w.heap.size _ rfl rfl 43 _ hz1 hsz (by simp [hl24]) hone ?_))
      have hg2 := setRow_heap wr w.heap.size _ (List.map symV (keyTo m x 24)).toArray _ _ hz1
      refine bodyPost_ret (v := rowV (keyRow m x)) (results_cell_row Try.results51 _ _ w.heap.size 43 _ (0, 0) _ rfl hg2 Try.underlying43 rfl hsz) rfl ⟨rfl, ?_⟩
      exact below_setRow hbw (Nat.le_refl _) _
end Go.Proofs.Ytiomojlcnemnhaa

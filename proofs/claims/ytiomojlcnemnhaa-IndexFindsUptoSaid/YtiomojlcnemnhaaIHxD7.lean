import Derived.Test.YtiomojlcnemnhaaIHxD6
import Derived.Deep.RegionHeld3
import Derived.Test.YtiomojlcnemnhaaIHxD9
namespace Go.Proofs.Ytiomojlcnemnhaa
open Go.Fx Go.RowKit
theorem SlRows.below {w w' : World} {lv : Value} {L : List (List Int)} (h : SlRows w lv L) (hb : Below w.heap.size w w') : SlRows w' lv L := by
  obtain ⟨ad, cap, e, h1, h2⟩ := h
  refine ⟨ad, cap, e, fun i hi => ?_, h2⟩
  obtain ⟨g, o, e1, hg, hr⟩ := h1 i hi
  exact ⟨g, o, e1, Nat.lt_of_lt_of_le hg hb.size, fun j v hj => (hb.cell (p := ⟨g, o + i * 24 + j, none⟩) hg).trans (hr j v hj)⟩
def Duo (w0 : World) (F : Nat → Prop) (b bk arity : Nat) (rows : List (List Int)) (w : World) : Prop :=
  ∃ R abs, Rel w R b arity 0 rows ∧ Bk w F bk b abs ∧ (∀ k, F k → ¬ R k) ∧ Fine abs 0 rows ∧ Below w0.heap.size w0 w ∧ (∀ k, R k → w0.heap.size ≤ k) ∧ (∀ k, F k → w0.heap.size ≤ k)
theorem Duo.below {w0 w w' : World} {F : Nat → Prop} {b bk arity : Nat} {rows : List (List Int)} (h : Duo w0 F b bk arity rows w) (hb : Below w.heap.size w w') : Duo w0 F b bk arity rows w' := by
  obtain ⟨R, abs, h1, h2, h3, h4, h5, h6, h7⟩ := h
  exact ⟨R, abs, h1.below hb, h2.below hb, h3, h4, h5.trans (hb.mono h5.size), h6, h7⟩
theorem Duo.lt {w0 w : World} {F : Nat → Prop} {b bk arity : Nat} {rows : List (List Int)} (h : Duo w0 F b bk arity rows w) {k : Nat} (hk : F k) : k < w.heap.size := by
  obtain ⟨R, abs, h1, h2, h3, h4, h5, h6, h7⟩ := h
  exact h2.lt hk
theorem Duo.ok {w0 w : World} {F : Nat → Prop} {b bk arity : Nat} {rows : List (List Int)} (h : Duo w0 F b bk arity rows w) : (∀ x ∈ rows, RowOk x) ∧ rows.Nodup := by
  obtain ⟨R, abs, ⟨pb, mb, lv, h1, _⟩, _⟩ := h
  exact ⟨h1.ok, h1.nodup⟩
section
variable {w0 w : World} {F : Nat → Prop} {b bk arity : Nat} {rows : List (List Int)}
theorem duo_turn {w w' : World} {F F' : Nat → Prop} {m : Nat} {R : Nat → Prop} {abs : Abs} (h1 : Rel w R b arity 0 rows) (h2 : Bk w F bk b abs) (h3 : ∀ k, F k → ¬ R k) (h4 : Fine abs 0 rows) (h5 : Below w0.heap.size w0 w) (h6 : ∀ k, R k → w0.heap.size ≤ k) (h7 : ∀ k, F k → w0.heap.size ≤ k)
    (hB : Bk w' F' bk b (askAbs abs m rows 0)) (hst : Step w F w' F') : Duo w0 F' b bk arity rows w' := by
  have hr := hst.rel h1 h3
  have ho := own_step h5 h7 hst
  exact ⟨R, _, hr.1, hB, hr.2, h4.ask m, ho.1, h6, ho.2⟩
theorem duo_look (h : Duo w0 F b bk arity rows w) {m : Nat} (hm : MskOk m) (hma : m < 2 ^ arity) (hn : rows.length ≤ 1048576) {y : List Int} (hy : RowOk y) :
    Calls Try.prog 17 #[.pointer (some ⟨bk, 0, none⟩), .int .u32 (m : Int), rowV y] w fun e w' => ∃ v F', e = .returned (.tuple #[v, .int .i64 0]) ∧ Duo w0 F' b bk arity rows w' ∧ Step w F w' F' ∧ IntsAt w' v (idsOf m (nums 0 rows) (keyRow m y)) ∧ (∀ k, v.ownBlock = some k → ¬ F' k) := by
  obtain ⟨R, abs, h1, h2, h3, h4, h5, h6, h7⟩ := h
  refine (b_look h2 h1 h3 h4 hm hma hn hy).mono ?_
  rintro e w' ⟨v, F', rfl, hB, hst, hown, hv⟩
  exact ⟨v, F', rfl, duo_turn h1 h2 h3 h4 h5 h6 h7 hB hst, hst, IntsAt.of hown, hv⟩
theorem duo_count (h : Duo w0 F b bk arity rows w) {m : Nat} (hm : MskOk m) (hma : m < 2 ^ arity) (hn : rows.length ≤ 1048576) {y : List Int} (hy : RowOk y) :
    Calls Try.prog 18 #[.pointer (some ⟨bk, 0, none⟩), .int .u32 (m : Int), rowV y] w fun e w' => ∃ F', e = .returned (.tuple #[.int .i64 ((idsOf m (nums 0 rows) (keyRow m y)).length : Nat), .int .i64 0]) ∧ Duo w0 F' b bk arity rows w' ∧ Step w F w' F' := by
  obtain ⟨R, abs, h1, h2, h3, h4, h5, h6, h7⟩ := h
  refine (b_count h2 h1 h3 h4 hm hma hn hy).mono ?_
  rintro e w' ⟨F', rfl, hB, hst⟩
  exact ⟨F', rfl, duo_turn h1 h2 h3 h4 h5 h6 h7 hB hst, hst⟩
theorem duo_distinct (h : Duo w0 F b bk arity rows w) {m : Nat} (hm : MskOk m) (hma : m < 2 ^ arity) (hn : rows.length ≤ 1048576) :
    Calls Try.prog 20 #[.pointer (some ⟨bk, 0, none⟩), .int .u32 (m : Int)] w fun e w' => ∃ F', e = .returned (.tuple #[.int .i64 ((keysOf m (nums 0 rows)).length : Nat), .int .i64 0]) ∧ Duo w0 F' b bk arity rows w' ∧ Step w F w' F' := by
  obtain ⟨R, abs, h1, h2, h3, h4, h5, h6, h7⟩ := h
  refine (b_distinct h2 h1 h3 h4 hm hma hn).mono ?_
  rintro e w' ⟨F', rfl, hB, hst⟩
  exact ⟨F', rfl, duo_turn h1 h2 h3 h4 h5 h6 h7 hB hst, hst⟩
theorem duo_len (h : Duo w0 F b bk arity rows w) : Calls Try.prog 15 #[.pointer (some ⟨b, 0, none⟩)] w fun e w' => e = .returned (.int .i64 (rows.length : Nat)) ∧ w' = w := by
  obtain ⟨R, abs, h1, _⟩ := h
  exact b_len h1
theorem duo_at (h : Duo w0 F b bk arity rows w) {i : Nat} (hi : i < rows.length) : Calls Try.prog 16 #[.pointer (some ⟨b, 0, none⟩), .int .i64 (i : Int)] w fun e w' => e = .returned (.tuple #[rowV (rows.getD i []), .int .i64 0]) ∧ Below w.heap.size w w' := by
  obtain ⟨R, abs, h1, _⟩ := h
  rw [List.getD_eq_getElem?_getD, List.getElem?_eq_getElem hi, Option.getD_some]
  exact b_at h1 hi
end
theorem or_nat {a c : Nat} (ha : a < 4294967296) (hc : c < 4294967296) : bits .or .u32 (a : Int) (c : Int) = ((a ||| c : Nat) : Int) := by
  unfold bits
  simp only [BitVec.ofInt_natCast, BitVec.toNat_or, BitVec.toNat_ofNat]
  have hb : (2 : Nat) ^ IntKind.u32.bits = 4294967296 := by decide
  have h : a ||| c < 2 ^ 32 := Nat.or_lt_two_pow (by omega) (by omega)
  rw [hb, Nat.mod_eq_of_lt (by omega), Nat.mod_eq_of_lt (by omega), wrap_u32' _ (Int.natCast_nonneg _) (by omega)]
def mineN (got : List Int) (i k : Nat) : Bool := decide ((i : Int) ∈ got.take k)
theorem mine_succ {got : List Int} {i k j : Nat} (hk : k < got.length) (hj : got.getD k 0 = (j : Int)) : mineN got i (k + 1) = (mineN got i k || ((j : Int) == (i : Int))) := by
  have : got[k] = (j : Int) := by rw [← hj, List.getD_eq_getElem?_getD, List.getElem?_eq_getElem hk, Option.getD_some]
  rw [Bool.eq_iff_iff]
  simp only [mineN, decide_eq_true_iff, Bool.or_eq_true, beq_iff_eq]
  rw [List.take_succ_eq_append_getElem hk, this, List.mem_append, List.mem_singleton]
  exact or_congr Iff.rfl eq_comm
theorem wrap_small {n : Nat} (h : n ≤ 9223372036854775807) : IntKind.i64.wrap (n : Int) = n := by
  rw [IntKind.wrap_i64]
  omega
set_option maxHeartbeats 8000000 in
set_option maxRecDepth 100000 in
theorem finds_calls {w : World} {width m n : Nat} {lv : Value} {L : List (List Int)} (hw : width < 256) (hm : m < 4294967296) (hn : n < 4294967296) (hl : SlRows w lv L) (hL : L.length ≤ 1048576) :
    Calls Try.prog 4 #[.int .u8 (width : Int), lv, .int .u32 (m : Int), .int .u32 (n : Int)] w fun e w' => e = .returned (.bool true) ∧ Below w.heap.size w w' := by
  obtain ⟨arity, har, ha⟩ : ∃ a : Nat, (width : Int) % 25 = a ∧ a ≤ 24 := ⟨width % 25, by simp, by omega⟩
  replace har := Lib.hid har
  obtain ⟨m1, hm1⟩ : ∃ m1, m % 2 ^ arity = m1 := ⟨_, rfl⟩
  obtain ⟨n1, hn1⟩ : ∃ n1, n % 2 ^ arity = n1 := ⟨_, rfl⟩
  have hlm := fun w => low_calls (w := w) hm ha
  have hln := fun w => low_calls (w := w) hn ha
  rw [hm1] at hlm
  rw [hn1] at hln
  have hml : m1 < 2 ^ arity := hm1 ▸ Nat.mod_lt _ (Nat.two_pow_pos _)
  have hnl : n1 < 2 ^ arity := hn1 ▸ Nat.mod_lt _ (Nat.two_pow_pos _)
  have hpow : 2 ^ arity ≤ 16777216 := by
    have := Nat.pow_le_pow_right (show 2 > 0 by decide) ha
    simpa using this
  have hor := or_nat (by omega : m1 < 4294967296) (by omega : n1 < 4294967296)
  have hmore : m1 ||| n1 < 2 ^ arity := Nat.or_lt_two_pow hml hnl
  have hbits : ∀ i, m1.testBit i = true → (m1 ||| n1).testBit i = true := fun i h => by rw [Nat.testBit_or, h, Bool.true_or]
  obtain ⟨more, hmo⟩ : ∃ more, m1 ||| n1 = more := ⟨_, rfl⟩
  rw [hmo] at hor hmore hbits
  have HM := Lib.hid (And.intro hml (And.intro hmore (And.intro hbits hpow)))
  clear hm1 hn1 hml hnl hmore hbits hpow hm hn hmo
  go_enter Try.func4, Try.ntmps4
  go_wp2_with fail
  refine lives_calls.mono ?_
  rintro e w1 ⟨rfl, hb1⟩
  have hl1 := Lib.hid (And.intro hb1 (hl.below hb1))
  clear hb1 hl
  go_wp2_with fail
  rw [har.out]
  clear har
  refine (filled_calls ha hl1.out.2 hL).mono ?_
  rintro e w2 ⟨b, bk, R, F, rfl, hR, hB, hd, hb2, hR2, hF2⟩
  have hD : Hid (Duo w F b bk arity (fillTo arity L L.length) w2) := Lib.hid ⟨R, [], hR, hB, hd, Fine.nil _ _, hl1.out.1.trans (hb2.mono hl1.out.1.size), fun j hj => Nat.le_trans hl1.out.1.size (hR2 j hj), fun j hj => Nat.le_trans hl1.out.1.size (hF2 j hj)⟩
  have hrl : (fillTo arity L L.length).length ≤ 1048576 := Nat.le_trans (fillTo_len arity L L.length) hL
  clear hR hB hd hb2 hR2 hF2 hl1 hL
  generalize fillTo arity L L.length = rows at *
  go_wp2_with fail
  refine (hlm _).mono ?_
  rintro e w3 ⟨rfl, hb3⟩
  replace hD := Lib.hid (hD.out.below hb3)
  clear hb3
  go_wp2_with fail
  refine (hln _).mono ?_
  rintro e w4 ⟨rfl, hb4⟩
  replace hD := Lib.hid (hD.out.below hb4)
  clear hb4 hw
  go_wp2_with fail
  go_loopw [13, 14, 15] (fun s13 s14 s15 wr => ∃ i : Nat, s15 = .int .i64 (i : Int) ∧ i ≤ rows.length ∧ s13 = .int .i64 (keysN m1 rows i : Int) ∧ s14 = .int .i64 (sumN m1 rows i : Int) ∧ ∃ F, Hid (Duo w F b bk arity rows wr)) (fun _ _ i _ => match i with | .int _ m => rows.length - m.toNat | _ => 0)
  case atStart => exact ⟨0, rfl, Nat.zero_le _, rfl, rfl, F, hD⟩
  case round =>
    clear hD
    obtain ⟨i, rfl, hi, rfl, rfl, F, hD⟩ := hrel
    have hi0 : (0 : Int) ≤ (i : Int) := by omega
    by_cases hlt : i < rows.length
    · have hlt' : decide ((i : Int) < (rows.length : Int)) = true := decide_eq_true (by omega)
      go_wp2_with fail
      refine (duo_len hD.out).mono ?_
      rintro e w5 ⟨rfl, rfl⟩
      have hx : RowOk (rows.getD i []) := by
        rw [List.getD_eq_getElem?_getD, List.getElem?_eq_getElem hlt, Option.getD_some]
        exact hD.out.ok.1 _ (List.getElem_mem _)
      have hat := duo_at hD.out hlt
      obtain ⟨x, hxx⟩ : ∃ x, rows.getD i [] = x := ⟨_, rfl⟩
      rw [hxx] at hx hat
      replace hxx := Lib.hid hxx
      have hxl := hx.1
      have hsz : (Try.prog.info? 43).map (·.size) = some (List.map symV x).toArray.size := by rw [infoRow]; simp [hxl]
      have hone := row_one x
      go_wp2_with fail
      refine hat.mono ?_
      rintro e w6 ⟨rfl, hb6⟩
      obtain ⟨got, few, hG⟩ := got_ok hlt HM.out.2.2.1
      rw [hxx.out] at hG
      replace hx := Lib.hid hx
      have hle3 : decide (got.length < few.length) = false := decide_eq_false (by have := hG.le; omega)
      have hle2 : decide ((got.length : Int) < (few.length : Int)) = false := decide_eq_false (by have := hG.le; omega)
      have hz := heap_alloc_new w6 (Obj.cells (List.replicate 24 (Value.int .i32 0)).toArray 43)
      have hbx := below_setRow ((Below.refl _ w6).alloc (Nat.le_refl _) (Obj.cells (List.replicate 24 (Value.int .i32 0)).toArray 43)) (Nat.le_refl _) (x.map symV).toArray
      have hzx := setRow_heap _ _ _ (x.map symV).toArray _ _ hz
      obtain ⟨W3, hW3⟩ : ∃ W3, (w6.alloc (Obj.cells (List.replicate 24 (Value.int .i32 0)).toArray 43)).setRow w6.heap.size (x.map symV).toArray = W3 := ⟨_, rfl⟩
      rw [hW3] at hbx hzx
      simp only [List.replicate] at hW3 hz
      have hD3 := Lib.hid ((hD.out.below hb6).below hbx)
      have hnF : ¬ F w6.heap.size := fun h => by have := hD.out.lt h; have := hb6.size; omega
      replace hG := Lib.hid hG
      go_wp2_with (first | (refine wpList_store_row rfl 43 _ _ rfl w6.heap.size _ rfl rfl 43 _ hz hsz (by simp [hxl]) hone ?_; rw [hW3]) | (refine wpList_load_row rfl 43 _ rfl w6.heap.size rfl 43 _ (0, 0) _ hzx Try.underlying43 rfl hsz ?_))
      clear hz hW3 hbx hD
      generalize w6.heap.size = N at *
      have hl1 := duo_look hD3.out (m := m1) (by have := HM.out.1; have := HM.out.2.2.2; unfold MskOk; omega) HM.out.1 hrl hx.out
      rw [hG.out.eg] at hl1
      refine hl1.mono ?_
      rintro e w7 ⟨v1, F1, rfl, hD, hst, hi1, hv1⟩
      have hN := hst.block (Array.getElem?_eq_some_iff.1 hzx).1 hnF
      have hz7 := hN.1.trans hzx
      have hnF := hN.2.1
      have hI1 := Lib.hid (And.intro hi1 hv1)
      replace hD := Lib.hid hD
      clear hst hN hl1 hi1 hv1 hD3 hzx
      go_wp2_with (refine wpList_load_row rfl 43 _ rfl N rfl 43 _ (0, 0) _ hz7 Try.underlying43 rfl hsz ?_)
      have hl1 := duo_look hD.out (m := more) (by have := HM.out.2.1; have := HM.out.2.2.2; unfold MskOk; omega) HM.out.2.1 hrl hx.out
      rw [hG.out.ef] at hl1
      refine hl1.mono ?_
      rintro e w8 ⟨v2, F2, rfl, hD2, hst, hi2, hv2⟩
      have hN := hst.block (Array.getElem?_eq_some_iff.1 hz7).1 hnF
      have hz8 := hN.1.trans hz7
      have hnF := hN.2.1
      have hI2 := Lib.hid hi2
      have hI1b : Hid (IntsAt w8 v1 got ∧ ∀ k, v1.ownBlock = some k → ¬ F2 k) := Lib.hid ⟨hI1.out.1.frame fun k hk => (hst.block (own_lt hI1.out.1 hk) (hI1.out.2 k hk)).1, fun k hk => (hst.block (own_lt hI1.out.1 hk) (hI1.out.2 k hk)).2.1⟩
      replace hD2 := Lib.hid hD2
      clear hst hN hl1 hi2 hv2 hD hI1 hz7
      go_wp2_with (refine wpList_load_row rfl 43 _ rfl N rfl 43 _ (0, 0) _ hz8 Try.underlying43 rfl hsz ?_)
      have hl1 := duo_count hD2.out (m := m1) (by have := HM.out.1; have := HM.out.2.2.2; unfold MskOk; omega) HM.out.1 hrl hx.out
      rw [hG.out.eg] at hl1
      refine hl1.mono ?_
      rintro e w9 ⟨F3, rfl, hD3, hst⟩
      have hN := hst.block (Array.getElem?_eq_some_iff.1 hz8).1 hnF
      have hz9 := hN.1.trans hz8
      have hI1 : Hid (IntsAt w9 v1 got) := Lib.hid (hI1b.out.1.frame fun k hk => (hst.block (own_lt hI1b.out.1 hk) (hI1b.out.2 k hk)).1)
      replace hD3 := Lib.hid hD3
      clear hst hN hl1 hD2 hI1b hz8 hnF
      have e1 := fun w' : World => own_len (w' := w') hI1.out
      have e2 := fun w' : World => own_len (w' := w') hI2.out
      have hgl : got.length ≤ 1048576 := Nat.le_trans hG.out.top hrl
      go_wp2_with fail
      go_loopw [24, 25] (fun s24 s25 wr => ∃ k : Nat, s25 = .int .i64 (k : Int) ∧ k ≤ got.length ∧ s24 = .bool (mineN got i k) ∧ Below w9.heap.size w9 wr) (fun _ s _ => match s with | .int _ m => got.length - m.toNat | _ => 0)
      case atStart => exact ⟨0, rfl, Nat.zero_le _, by simp [mineN], Below.refl _ _⟩
      case round =>
        obtain ⟨k, rfl, hk, rfl, hbl⟩ := hrel
        have hk0 : (0 : Int) ≤ (k : Int) := by omega
        by_cases hkl : k < got.length
        · have hkl' : decide ((k : Int) < (got.length : Int)) = true := decide_eq_true (by omega)
          have hk1 : (k : Int) < (got.length : Int) := by omega
          obtain ⟨j, hj, hjr, hkey⟩ := hG.out.at_ k hkl
          obtain ⟨g, cap, rfl, hg, hmx, hc⟩ := hI1.out.cell rfl hkl
          rw [hj] at hc
          have c1 : wr.cell? ⟨g, k, none⟩ = some (.int .i64 (j : Int)) := (hbl.cell (p := ⟨g, k, none⟩) hg).trans hc
          have hat := duo_at (hD3.out.below hbl) hjr
          have hy : RowOk (rows.getD j []) := by
            rw [List.getD_eq_getElem?_getD, List.getElem?_eq_getElem hjr, Option.getD_some]
            exact hD3.out.ok.1 _ (List.getElem_mem _)
          obtain ⟨y, hyy⟩ : ∃ y, rows.getD j [] = y := ⟨_, rfl⟩
          rw [hyy] at hy hat hkey
          replace hyy := Lib.hid hyy
          replace hkey := Lib.hid hkey
          replace hj := Lib.hid hj
          have hyl := hy.1
          replace hy := Lib.hid hy
          have hszy : (Try.prog.info? 43).map (·.size) = some (List.map symV y).toArray.size := by rw [infoRow]; simp [hyl]
          have honey := row_one y
          go_wp2_with fail
          refine hat.mono ?_
          rintro e wa ⟨rfl, hba⟩
          have hz := heap_alloc_new wa (Obj.cells (List.replicate 24 (Value.int .i32 0)).toArray 43)
          have hbx := below_setRow ((Below.refl _ wa).alloc (Nat.le_refl _) (Obj.cells (List.replicate 24 (Value.int .i32 0)).toArray 43)) (Nat.le_refl _) (y.map symV).toArray
          have hzx := setRow_heap _ _ _ (y.map symV).toArray _ _ hz
          obtain ⟨W4, hW4⟩ : ∃ W4, (wa.alloc (Obj.cells (List.replicate 24 (Value.int .i32 0)).toArray 43)).setRow wa.heap.size (y.map symV).toArray = W4 := ⟨_, rfl⟩
          rw [hW4] at hbx hzx
          simp only [List.replicate] at hW4 hz
          have hb4 := hbl.trans ((hba.trans (hbx.mono hba.size)).mono hbl.size)
          go_wp2_with (refine wpList_store_row rfl 43 _ _ rfl wa.heap.size _ rfl rfl 43 _ hz hszy (by simp [hyl]) honey ?_; rw [hW4])
          clear hz hW4 hbx hba hat hbl
          generalize wa.heap.size = N4 at *
          obtain ⟨p, hp⟩ : ∃ p : Int, got.getD (k - 1) 0 = p := ⟨_, rfl⟩
          obtain ⟨kp, hkp⟩ : ∃ kp, k - 1 = kp := ⟨_, rfl⟩
          have hsz1 : (Try.prog.info? 43).map (·.size) = some (x.map symV).length := by rw [infoRow]; simp [hxl]
          have hszy1 : (Try.prog.info? 43).map (·.size) = some (y.map symV).length := by rw [infoRow]; simp [hyl]
          have hS : (fun w' : World => w'.rangeAt N 0 (x.map symV) ∧ w'.rangeAt N4 0 (y.map symV) ∧ w'.cell? ⟨g, k, none⟩ = some (.int .i64 (j : Int)) ∧ w'.cell? ⟨g, kp, none⟩ = some (.int .i64 p) ∧ Below w9.heap.size w9 w') W4.drew := by
            have r1 : ∀ (W : World) (M : Nat) (z : List Int), W.heap[M]? = some (.cells (z.map symV).toArray 43 (0, 0)) → W.rangeAt M 0 (z.map symV) := fun W M z h q v hq => by
              simp only [World.cell?, h, Nat.zero_add]
              simpa using hq
            refine ⟨r1 _ _ _ ((hb4.block N (Array.getElem?_eq_some_iff.1 hz9).1).trans hz9), r1 _ _ _ hzx, (hb4.cell (p := ⟨g, k, none⟩) hg).trans hc, ?_, below_drew' hb4⟩
            obtain ⟨g', cap', e', _, _, hc'⟩ := hI1.out.cell rfl (by omega : k - 1 < got.length)
            cases e'
            rw [hp, hkp] at hc'
            exact (hb4.cell (p := ⟨g, kp, none⟩) hg).trans hc'
          have hlike := fun w => like_calls (w := w) (m := m1) (by have := HM.out.1; have := HM.out.2.2.2; omega) hx.out hy.out
          rw [decide_eq_true hkey.out] at hlike
          have hms := Lib.hid (mine_succ (i := i) hkl hj.out)
          have hup : 0 < k → decide ((j : Int) ≤ p) = false := fun h => decide_eq_false (by
            have h1 := hG.out.up (k - 1) (by omega)
            rw [hp, show k - 1 + 1 = k by omega, hj.out] at h1
            omega)
          replace hup := Lib.hid hup
          replace hp := Lib.hid hp
          clear hzx hb4 c1 hc
          by_cases hkz : k = 0
          · clear hkp
            subst hkz
            refine wp_region_held_drew (S := (fun w' : World => w'.rangeAt N 0 (x.map symV) ∧ w'.rangeAt N4 0 (y.map symV) ∧ w'.cell? ⟨g, 0, none⟩ = some (.int .i64 (j : Int)) ∧ w'.cell? ⟨g, kp, none⟩ = some (.int .i64 p) ∧ Below w9.heap.size w9 w')) (by kernel_rfl) hS (fun hS => ?_)
            generalize W4.drew = W5 at *
            refine wpAnyH_take (i := 0) (v := ?_) rfl (by kernel_rfl) (by kernel_rfl) (by kernel_rfl) (fun _ _ _ h => h) (Or.inl ⟨by rfl, ?_⟩) (by assumption) ?_
            rotate_left
            · intro w hSw; (try dsimp only at hSw); go_simp; try with_reducible rfl
            try simp only [Act.put, List.getElem_toArray, List.getElem_cons_succ, List.getElem_cons_zero, List.setIfInBounds_toArray, List.set_cons_zero, List.set_cons_succ]
            refine wpAnyH_take (i := 1) (v := ?_) rfl (by kernel_rfl) (by kernel_rfl) (by kernel_rfl) (fun _ _ _ h => h) (Or.inl ⟨by rfl, ?_⟩) (by assumption) ?_
            rotate_left
            · intro w hSw; (try dsimp only at hSw); go_simp; try with_reducible rfl
            try simp only [Act.put, List.getElem_toArray, List.getElem_cons_succ, List.getElem_cons_zero, List.setIfInBounds_toArray, List.set_cons_zero, List.set_cons_succ]
            refine wpAnyH_take (i := 2) (v := ?_) rfl (by kernel_rfl) (by kernel_rfl) (by kernel_rfl) (fun _ _ _ h => h) (Or.inl ⟨by rfl, ?_⟩) (by assumption) ?_
            rotate_left
            · intro w hSw; (try dsimp only at hSw); go_simp; try with_reducible rfl
            try simp only [Act.put, List.getElem_toArray, List.getElem_cons_succ, List.getElem_cons_zero, List.setIfInBounds_toArray, List.set_cons_zero, List.set_cons_succ]
            refine wpAnyH_take (i := 3) (v := ?_) rfl (by kernel_rfl) (by kernel_rfl) (by kernel_rfl) (fun _ _ _ h => h) (Or.inl ⟨by rfl, ?_⟩) (by assumption) ?_
            rotate_left
            · intro w hSw; (try dsimp only at hSw); go_simp; try with_reducible rfl
            try simp only [Act.put, List.getElem_toArray, List.getElem_cons_succ, List.getElem_cons_zero, List.setIfInBounds_toArray, List.set_cons_zero, List.set_cons_succ]
            refine wpAnyH_take (i := 4) (v := _) rfl (by kernel_rfl) (by kernel_rfl) (by kernel_rfl) (fun _ _ _ h => h) (yieldsIf_load_mid (by rfl) 43 _ rfl N 0 rfl (x.map symV) _ (fun w' hw' => hw'.1) Try.underlying43 rfl hsz1) (by assumption) ?_
            try simp only [Act.put, List.getElem_toArray, List.getElem_cons_succ, List.getElem_cons_zero, List.setIfInBounds_toArray, List.set_cons_zero, List.set_cons_succ]
            refine wpAnyH_take (i := 5) (v := _) rfl (by kernel_rfl) (by kernel_rfl) (by kernel_rfl) (fun _ _ _ h => h) (yieldsIf_load_mid (by rfl) 43 _ rfl N4 0 rfl (y.map symV) _ (fun w' hw' => hw'.2.1) Try.underlying43 rfl hszy1) (by assumption) ?_
            try simp only [Act.put, List.getElem_toArray, List.getElem_cons_succ, List.getElem_cons_zero, List.setIfInBounds_toArray, List.set_cons_zero, List.set_cons_succ]
            refine wpAnyH_ready (rs := [6]) (by kernel_rfl) (by simp) (AllReadyH.cons rfl (fun K hK => ?_) AllReadyH.nil)
            rw [if_pos (by rfl)]
            go_simp
            refine (hlike W5).mono ?_
            rintro e W6 ⟨rfl, hb6'⟩
            have hS6 : (fun w' : World => w'.rangeAt N 0 (x.map symV) ∧ w'.rangeAt N4 0 (y.map symV) ∧ w'.cell? ⟨g, 0, none⟩ = some (.int .i64 (j : Int)) ∧ w'.cell? ⟨g, kp, none⟩ = some (.int .i64 p) ∧ Below w9.heap.size w9 w') W6 := ⟨fun q v hq => (hb6'.cell (p := ⟨N, 0 + q, none⟩) (World.block_lt_of_cell? W5 ⟨N, 0 + q, none⟩ (hS.1 q v hq))).trans (hS.1 q v hq), fun q v hq => (hb6'.cell (p := ⟨N4, 0 + q, none⟩) (World.block_lt_of_cell? W5 ⟨N4, 0 + q, none⟩ (hS.2.1 q v hq))).trans (hS.2.1 q v hq), (hb6'.cell (p := ⟨g, _, none⟩) (World.block_lt_of_cell? W5 _ hS.2.2.1)).trans hS.2.2.1, (hb6'.cell (p := ⟨g, _, none⟩) (World.block_lt_of_cell? W5 _ hS.2.2.2.1)).trans hS.2.2.2.1, hS.2.2.2.2.trans (hb6'.mono hS.2.2.2.2.size)⟩
            refine hK.out _ _ hS6 (fun _ => ?_)
            clear hK K
            try simp only [Act.put, List.getElem_toArray, List.getElem_cons_succ, List.getElem_cons_zero, List.setIfInBounds_toArray, List.set_cons_zero, List.set_cons_succ]
            clear hS hb6'
            refine wpAnyH_take (i := 7) (v := ?_) rfl (by kernel_rfl) (by kernel_rfl) (by kernel_rfl) (fun _ _ _ h => h) (Or.inl ⟨by rfl, ?_⟩) (by assumption) ?_
            rotate_left
            · intro w hSw; (try dsimp only at hSw); go_simp; try with_reducible rfl
            try simp only [Act.put, List.getElem_toArray, List.getElem_cons_succ, List.getElem_cons_zero, List.setIfInBounds_toArray, List.set_cons_zero, List.set_cons_succ]
            refine wpAnyH_take (i := 8) (v := ?_) rfl (by kernel_rfl) (by kernel_rfl) (by kernel_rfl) (fun _ _ _ h => h) (Or.inl ⟨by rfl, ?_⟩) (by assumption) ?_
            rotate_left
            · intro w hSw; (try dsimp only at hSw); go_simp; try with_reducible rfl
            try simp only [Act.put, List.getElem_toArray, List.getElem_cons_succ, List.getElem_cons_zero, List.setIfInBounds_toArray, List.set_cons_zero, List.set_cons_succ]
            refine wpAnyH_take (i := 9) (v := ?_) rfl (by kernel_rfl) (by kernel_rfl) (by kernel_rfl) (fun _ _ _ h => h) (Or.inl ⟨by rfl, ?_⟩) (by assumption) ?_
            rotate_left
            · intro w hSw; (try dsimp only at hSw); go_simp; try with_reducible rfl
            try simp only [Act.put, List.getElem_toArray, List.getElem_cons_succ, List.getElem_cons_zero, List.setIfInBounds_toArray, List.set_cons_zero, List.set_cons_succ]
            refine wpAnyH_take (i := 10) (v := ?_) rfl (by kernel_rfl) (by kernel_rfl) (by kernel_rfl) (fun _ _ _ h => h) (Or.inl ⟨by rfl, ?_⟩) (by assumption) ?_
            rotate_left
            · intro w hSw; (try dsimp only at hSw); go_simp; try with_reducible rfl
            try simp only [Act.put, List.getElem_toArray, List.getElem_cons_succ, List.getElem_cons_zero, List.setIfInBounds_toArray, List.set_cons_zero, List.set_cons_succ]
            refine wpAnyH_take (i := 11) (v := ?_) rfl (by kernel_rfl) (by kernel_rfl) (by kernel_rfl) (fun _ _ _ h => h) (Or.inl ⟨by rfl, ?_⟩) (by assumption) ?_
            rotate_left
            · intro w hSw; (try dsimp only at hSw); go_simp; try with_reducible rfl
            try simp only [Act.put, List.getElem_toArray, List.getElem_cons_succ, List.getElem_cons_zero, List.setIfInBounds_toArray, List.set_cons_zero, List.set_cons_succ]
            refine wpAnyH_take (i := 12) (v := ?_) rfl (by kernel_rfl) (by kernel_rfl) (by kernel_rfl) (fun _ _ _ h => h) (Or.inl ⟨by rfl, ?_⟩) (by assumption) ?_
            rotate_left
            · intro w hSw; (try dsimp only at hSw); go_simp; try with_reducible rfl
            try simp only [Act.put, List.getElem_toArray, List.getElem_cons_succ, List.getElem_cons_zero, List.setIfInBounds_toArray, List.set_cons_zero, List.set_cons_succ]
            refine wpAnyH_take (i := 13) (v := undef) rfl (by kernel_rfl) (by kernel_rfl) (by kernel_rfl) (fun _ _ _ h => h) (Or.inr ⟨by rfl, rfl⟩) (by assumption) ?_
            try simp only [Act.put, List.getElem_toArray, List.getElem_cons_succ, List.getElem_cons_zero, List.setIfInBounds_toArray, List.set_cons_zero, List.set_cons_succ]
            refine wpAnyH_take (i := 14) (v := undef) rfl (by kernel_rfl) (by kernel_rfl) (by kernel_rfl) (fun _ _ _ h => h) (Or.inr ⟨by rfl, rfl⟩) (by assumption) ?_
            try simp only [Act.put, List.getElem_toArray, List.getElem_cons_succ, List.getElem_cons_zero, List.setIfInBounds_toArray, List.set_cons_zero, List.set_cons_succ]
            refine wpAnyH_take (i := 15) (v := undef) rfl (by kernel_rfl) (by kernel_rfl) (by kernel_rfl) (fun _ _ _ h => h) (Or.inr ⟨by rfl, rfl⟩) (by assumption) ?_
            try simp only [Act.put, List.getElem_toArray, List.getElem_cons_succ, List.getElem_cons_zero, List.setIfInBounds_toArray, List.set_cons_zero, List.set_cons_succ]
            refine wpAnyH_take (i := 16) (v := undef) rfl (by kernel_rfl) (by kernel_rfl) (by kernel_rfl) (fun _ _ _ h => h) (Or.inr ⟨by rfl, rfl⟩) (by assumption) ?_
            try simp only [Act.put, List.getElem_toArray, List.getElem_cons_succ, List.getElem_cons_zero, List.setIfInBounds_toArray, List.set_cons_zero, List.set_cons_succ]
            refine wpAnyH_take (i := 17) (v := undef) rfl (by kernel_rfl) (by kernel_rfl) (by kernel_rfl) (fun _ _ _ h => h) (Or.inr ⟨by rfl, rfl⟩) (by assumption) ?_
            try simp only [Act.put, List.getElem_toArray, List.getElem_cons_succ, List.getElem_cons_zero, List.setIfInBounds_toArray, List.set_cons_zero, List.set_cons_succ]
            refine wpAnyH_take (i := 18) (v := undef) rfl (by kernel_rfl) (by kernel_rfl) (by kernel_rfl) (fun _ _ _ h => h) (Or.inr ⟨by rfl, rfl⟩) (by assumption) ?_
            try simp only [Act.put, List.getElem_toArray, List.getElem_cons_succ, List.getElem_cons_zero, List.setIfInBounds_toArray, List.set_cons_zero, List.set_cons_succ]
            refine wpAnyH_take (i := 19) (v := undef) rfl (by kernel_rfl) (by kernel_rfl) (by kernel_rfl) (fun _ _ _ h => h) (Or.inr ⟨by rfl, rfl⟩) (by assumption) ?_
            try simp only [Act.put, List.getElem_toArray, List.getElem_cons_succ, List.getElem_cons_zero, List.setIfInBounds_toArray, List.set_cons_zero, List.set_cons_succ]
            refine wpAnyH_take (i := 20) (v := undef) rfl (by kernel_rfl) (by kernel_rfl) (by kernel_rfl) (fun _ _ _ h => h) (Or.inr ⟨by rfl, rfl⟩) (by assumption) ?_
            try simp only [Act.put, List.getElem_toArray, List.getElem_cons_succ, List.getElem_cons_zero, List.setIfInBounds_toArray, List.set_cons_zero, List.set_cons_succ]
            refine wpAnyH_take (i := 21) (v := undef) rfl (by kernel_rfl) (by kernel_rfl) (by kernel_rfl) (fun _ _ _ h => h) (Or.inr ⟨by rfl, rfl⟩) (by assumption) ?_
            try simp only [Act.put, List.getElem_toArray, List.getElem_cons_succ, List.getElem_cons_zero, List.setIfInBounds_toArray, List.set_cons_zero, List.set_cons_succ]
            refine wpAnyH_take (i := 22) (v := undef) rfl (by kernel_rfl) (by kernel_rfl) (by kernel_rfl) (fun _ _ _ h => h) (Or.inr ⟨by rfl, rfl⟩) (by assumption) ?_
            try simp only [Act.put, List.getElem_toArray, List.getElem_cons_succ, List.getElem_cons_zero, List.setIfInBounds_toArray, List.set_cons_zero, List.set_cons_succ]
            refine wpAnyH_take (i := 23) (v := ?_) rfl (by kernel_rfl) (by kernel_rfl) (by kernel_rfl) (fun _ _ _ h => h) (Or.inl ⟨by rfl, ?_⟩) (by assumption) ?_
            rotate_left
            · intro w hSw; (try dsimp only at hSw); go_simp; try with_reducible rfl
            try simp only [Act.put, List.getElem_toArray, List.getElem_cons_succ, List.getElem_cons_zero, List.setIfInBounds_toArray, List.set_cons_zero, List.set_cons_succ]
            refine wpAnyH_take (i := 24) (v := ?_) rfl (by kernel_rfl) (by kernel_rfl) (by kernel_rfl) (fun _ _ _ h => h) (Or.inl ⟨by rfl, ?_⟩) (by assumption) ?_
            rotate_left
            · intro w hSw; (try dsimp only at hSw); go_simp; try with_reducible rfl
            try simp only [Act.put, List.getElem_toArray, List.getElem_cons_succ, List.getElem_cons_zero, List.setIfInBounds_toArray, List.set_cons_zero, List.set_cons_succ]
            refine wpAnyH_done (by kernel_rfl) ?_ _
            have c2 := hS6.2.2.1
            have HB := Lib.hid hS6.2.2.2.2
            clear hS6
            have hlist : (0 : Int) < (got.length : Int) := by omega
            generalize mineN got i 0 = q at *
            cases q
            · go_wp2_with fail
              refine ⟨⟨1, congrArg (Value.int .i64) (by omega), by omega, congrArg Value.bool (by rw [hms.out]; simp), HB.out⟩, ?_⟩
              simp
              omega
            · go_wp2_with fail
              refine ⟨⟨1, congrArg (Value.int .i64) (by omega), by omega, congrArg Value.bool (by rw [hms.out]; simp), HB.out⟩, ?_⟩
              simp
              omega
          · obtain rfl : k = kp + 1 := by omega
            have hup2 := hup.out (by omega)
            have hkp0 : (0 : Int) ≤ (kp : Int) := by omega
            have hkp1 : (kp : Int) < (got.length : Int) := by omega
            have hwk := wrap_small (n := kp) (by omega)
            have hkq0 : (0 : Int) ≤ (kp : Int) + 1 := by omega
            have hkq1 : (kp : Int) + 1 < (got.length : Int) := by omega
            clear hkp hkz
            refine wp_region_held_drew (S := (fun w' : World => w'.rangeAt N 0 (x.map symV) ∧ w'.rangeAt N4 0 (y.map symV) ∧ w'.cell? ⟨g, (kp + 1), none⟩ = some (.int .i64 (j : Int)) ∧ w'.cell? ⟨g, kp, none⟩ = some (.int .i64 p) ∧ Below w9.heap.size w9 w')) (by kernel_rfl) hS (fun hS => ?_)
            generalize W4.drew = W5 at *
            refine wpAnyH_take (i := 0) (v := ?_) rfl (by kernel_rfl) (by kernel_rfl) (by kernel_rfl) (fun _ _ _ h => h) (Or.inl ⟨by rfl, ?_⟩) (by assumption) ?_
            rotate_left
            · intro w hSw; (try dsimp only at hSw); go_simp; try with_reducible rfl
            try simp only [Act.put, List.getElem_toArray, List.getElem_cons_succ, List.getElem_cons_zero, List.setIfInBounds_toArray, List.set_cons_zero, List.set_cons_succ]
            refine wpAnyH_take (i := 1) (v := ?_) rfl (by kernel_rfl) (by kernel_rfl) (by kernel_rfl) (fun _ _ _ h => h) (Or.inl ⟨by rfl, ?_⟩) (by assumption) ?_
            rotate_left
            · intro w hSw; (try dsimp only at hSw); go_simp; try with_reducible rfl
            try simp only [Act.put, List.getElem_toArray, List.getElem_cons_succ, List.getElem_cons_zero, List.setIfInBounds_toArray, List.set_cons_zero, List.set_cons_succ]
            refine wpAnyH_take (i := 2) (v := ?_) rfl (by kernel_rfl) (by kernel_rfl) (by kernel_rfl) (fun _ _ _ h => h) (Or.inl ⟨by rfl, ?_⟩) (by assumption) ?_
            rotate_left
            · intro w hSw; (try dsimp only at hSw); go_simp; try with_reducible rfl
            try simp only [Act.put, List.getElem_toArray, List.getElem_cons_succ, List.getElem_cons_zero, List.setIfInBounds_toArray, List.set_cons_zero, List.set_cons_succ]
            refine wpAnyH_take (i := 3) (v := ?_) rfl (by kernel_rfl) (by kernel_rfl) (by kernel_rfl) (fun _ _ _ h => h) (Or.inl ⟨by rfl, ?_⟩) (by assumption) ?_
            rotate_left
            · intro w hSw; (try dsimp only at hSw); go_simp; try with_reducible rfl
            try simp only [Act.put, List.getElem_toArray, List.getElem_cons_succ, List.getElem_cons_zero, List.setIfInBounds_toArray, List.set_cons_zero, List.set_cons_succ]
            refine wpAnyH_take (i := 4) (v := _) rfl (by kernel_rfl) (by kernel_rfl) (by kernel_rfl) (fun _ _ _ h => h) (yieldsIf_load_mid (by rfl) 43 _ rfl N 0 rfl (x.map symV) _ (fun w' hw' => hw'.1) Try.underlying43 rfl hsz1) (by assumption) ?_
            try simp only [Act.put, List.getElem_toArray, List.getElem_cons_succ, List.getElem_cons_zero, List.setIfInBounds_toArray, List.set_cons_zero, List.set_cons_succ]
            refine wpAnyH_take (i := 5) (v := _) rfl (by kernel_rfl) (by kernel_rfl) (by kernel_rfl) (fun _ _ _ h => h) (yieldsIf_load_mid (by rfl) 43 _ rfl N4 0 rfl (y.map symV) _ (fun w' hw' => hw'.2.1) Try.underlying43 rfl hszy1) (by assumption) ?_
            try simp only [Act.put, List.getElem_toArray, List.getElem_cons_succ, List.getElem_cons_zero, List.setIfInBounds_toArray, List.set_cons_zero, List.set_cons_succ]
            refine wpAnyH_ready (rs := [6]) (by kernel_rfl) (by simp) (AllReadyH.cons rfl (fun K hK => ?_) AllReadyH.nil)
            rw [if_pos (by rfl)]
            go_simp
            refine (hlike W5).mono ?_
            rintro e W6 ⟨rfl, hb6'⟩
            have hS6 : (fun w' : World => w'.rangeAt N 0 (x.map symV) ∧ w'.rangeAt N4 0 (y.map symV) ∧ w'.cell? ⟨g, (kp + 1), none⟩ = some (.int .i64 (j : Int)) ∧ w'.cell? ⟨g, kp, none⟩ = some (.int .i64 p) ∧ Below w9.heap.size w9 w') W6 := ⟨fun q v hq => (hb6'.cell (p := ⟨N, 0 + q, none⟩) (World.block_lt_of_cell? W5 ⟨N, 0 + q, none⟩ (hS.1 q v hq))).trans (hS.1 q v hq), fun q v hq => (hb6'.cell (p := ⟨N4, 0 + q, none⟩) (World.block_lt_of_cell? W5 ⟨N4, 0 + q, none⟩ (hS.2.1 q v hq))).trans (hS.2.1 q v hq), (hb6'.cell (p := ⟨g, _, none⟩) (World.block_lt_of_cell? W5 _ hS.2.2.1)).trans hS.2.2.1, (hb6'.cell (p := ⟨g, _, none⟩) (World.block_lt_of_cell? W5 _ hS.2.2.2.1)).trans hS.2.2.2.1, hS.2.2.2.2.trans (hb6'.mono hS.2.2.2.2.size)⟩
            refine hK.out _ _ hS6 (fun _ => ?_)
            clear hK K
            try simp only [Act.put, List.getElem_toArray, List.getElem_cons_succ, List.getElem_cons_zero, List.setIfInBounds_toArray, List.set_cons_zero, List.set_cons_succ]
            clear hS hb6'
            refine wpAnyH_take (i := 7) (v := ?_) rfl (by kernel_rfl) (by kernel_rfl) (by kernel_rfl) (fun _ _ _ h => h) (Or.inl ⟨by rfl, ?_⟩) (by assumption) ?_
            rotate_left
            · intro w hSw; (try dsimp only at hSw); go_simp; try with_reducible rfl
            try simp only [Act.put, List.getElem_toArray, List.getElem_cons_succ, List.getElem_cons_zero, List.setIfInBounds_toArray, List.set_cons_zero, List.set_cons_succ]
            refine wpAnyH_take (i := 8) (v := ?_) rfl (by kernel_rfl) (by kernel_rfl) (by kernel_rfl) (fun _ _ _ h => h) (Or.inl ⟨by rfl, ?_⟩) (by assumption) ?_
            rotate_left
            · intro w hSw; (try dsimp only at hSw); go_simp; try with_reducible rfl
            try simp only [Act.put, List.getElem_toArray, List.getElem_cons_succ, List.getElem_cons_zero, List.setIfInBounds_toArray, List.set_cons_zero, List.set_cons_succ]
            refine wpAnyH_take (i := 9) (v := ?_) rfl (by kernel_rfl) (by kernel_rfl) (by kernel_rfl) (fun _ _ _ h => h) (Or.inl ⟨by rfl, ?_⟩) (by assumption) ?_
            rotate_left
            · intro w hSw; (try dsimp only at hSw); go_simp; try with_reducible rfl
            try simp only [Act.put, List.getElem_toArray, List.getElem_cons_succ, List.getElem_cons_zero, List.setIfInBounds_toArray, List.set_cons_zero, List.set_cons_succ]
            refine wpAnyH_take (i := 10) (v := ?_) rfl (by kernel_rfl) (by kernel_rfl) (by kernel_rfl) (fun _ _ _ h => h) (Or.inl ⟨by rfl, ?_⟩) (by assumption) ?_
            rotate_left
            · intro w hSw; (try dsimp only at hSw); go_simp; try with_reducible rfl
            try simp only [Act.put, List.getElem_toArray, List.getElem_cons_succ, List.getElem_cons_zero, List.setIfInBounds_toArray, List.set_cons_zero, List.set_cons_succ]
            refine wpAnyH_take (i := 11) (v := ?_) rfl (by kernel_rfl) (by kernel_rfl) (by kernel_rfl) (fun _ _ _ h => h) (Or.inl ⟨by rfl, ?_⟩) (by assumption) ?_
            rotate_left
            · intro w hSw; (try dsimp only at hSw); go_simp; try with_reducible rfl
            try simp only [Act.put, List.getElem_toArray, List.getElem_cons_succ, List.getElem_cons_zero, List.setIfInBounds_toArray, List.set_cons_zero, List.set_cons_succ]
            refine wpAnyH_take (i := 12) (v := ?_) rfl (by kernel_rfl) (by kernel_rfl) (by kernel_rfl) (fun _ _ _ h => h) (Or.inl ⟨by rfl, ?_⟩) (by assumption) ?_
            rotate_left
            · intro w hSw; (try dsimp only at hSw); go_simp; try with_reducible rfl
            try simp only [Act.put, List.getElem_toArray, List.getElem_cons_succ, List.getElem_cons_zero, List.setIfInBounds_toArray, List.set_cons_zero, List.set_cons_succ]
            refine wpAnyH_take (i := 13) (v := ?_) rfl (by kernel_rfl) (by kernel_rfl) (by kernel_rfl) (fun _ _ _ h => h) (Or.inl ⟨by rfl, ?_⟩) (by assumption) ?_
            rotate_left
            · intro w hSw; (try dsimp only at hSw); go_simp; try with_reducible rfl
            try simp only [Act.put, List.getElem_toArray, List.getElem_cons_succ, List.getElem_cons_zero, List.setIfInBounds_toArray, List.set_cons_zero, List.set_cons_succ]
            refine wpAnyH_take (i := 14) (v := ?_) rfl (by kernel_rfl) (by kernel_rfl) (by kernel_rfl) (fun _ _ _ h => h) (Or.inl ⟨by rfl, ?_⟩) (by assumption) ?_
            rotate_left
            · intro w hSw; (try dsimp only at hSw); go_simp; try with_reducible rfl
            try simp only [Act.put, List.getElem_toArray, List.getElem_cons_succ, List.getElem_cons_zero, List.setIfInBounds_toArray, List.set_cons_zero, List.set_cons_succ]
            refine wpAnyH_take (i := 15) (v := ?_) rfl (by kernel_rfl) (by kernel_rfl) (by kernel_rfl) (fun _ _ _ h => h) (Or.inl ⟨by rfl, ?_⟩) (by assumption) ?_
            rotate_left
            · intro w hSw; (try dsimp only at hSw); go_simp; try with_reducible rfl
            try simp only [Act.put, List.getElem_toArray, List.getElem_cons_succ, List.getElem_cons_zero, List.setIfInBounds_toArray, List.set_cons_zero, List.set_cons_succ]
            refine wpAnyH_take (i := 16) (v := ?_) rfl (by kernel_rfl) (by kernel_rfl) (by kernel_rfl) (fun _ _ _ h => h) (Or.inl ⟨by rfl, ?_⟩) (by assumption) ?_
            rotate_left
            · intro w hSw; (try dsimp only at hSw); go_simp; try with_reducible rfl
            try simp only [Act.put, List.getElem_toArray, List.getElem_cons_succ, List.getElem_cons_zero, List.setIfInBounds_toArray, List.set_cons_zero, List.set_cons_succ]
            refine wpAnyH_take (i := 17) (v := ?_) rfl (by kernel_rfl) (by kernel_rfl) (by kernel_rfl) (fun _ _ _ h => h) (Or.inl ⟨by rfl, ?_⟩) (by assumption) ?_
            rotate_left
            · intro w hSw; (try dsimp only at hSw); go_simp; try with_reducible rfl
            try simp only [Act.put, List.getElem_toArray, List.getElem_cons_succ, List.getElem_cons_zero, List.setIfInBounds_toArray, List.set_cons_zero, List.set_cons_succ]
            refine wpAnyH_take (i := 18) (v := ?_) rfl (by kernel_rfl) (by kernel_rfl) (by kernel_rfl) (fun _ _ _ h => h) (Or.inl ⟨by rfl, ?_⟩) (by assumption) ?_
            rotate_left
            · intro w hSw; (try dsimp only at hSw); go_simp; try with_reducible rfl
            try simp only [Act.put, List.getElem_toArray, List.getElem_cons_succ, List.getElem_cons_zero, List.setIfInBounds_toArray, List.set_cons_zero, List.set_cons_succ]
            refine wpAnyH_take (i := 19) (v := ?_) rfl (by kernel_rfl) (by kernel_rfl) (by kernel_rfl) (fun _ _ _ h => h) (Or.inl ⟨by rfl, ?_⟩) (by assumption) ?_
            rotate_left
            · intro w hSw; (try dsimp only at hSw); go_simp; try with_reducible rfl
            try simp only [Act.put, List.getElem_toArray, List.getElem_cons_succ, List.getElem_cons_zero, List.setIfInBounds_toArray, List.set_cons_zero, List.set_cons_succ]
            refine wpAnyH_take (i := 20) (v := ?_) rfl (by kernel_rfl) (by kernel_rfl) (by kernel_rfl) (fun _ _ _ h => h) (Or.inl ⟨by rfl, ?_⟩) (by assumption) ?_
            rotate_left
            · intro w hSw; (try dsimp only at hSw); go_simp; try with_reducible rfl
            try simp only [Act.put, List.getElem_toArray, List.getElem_cons_succ, List.getElem_cons_zero, List.setIfInBounds_toArray, List.set_cons_zero, List.set_cons_succ]
            refine wpAnyH_take (i := 21) (v := ?_) rfl (by kernel_rfl) (by kernel_rfl) (by kernel_rfl) (fun _ _ _ h => h) (Or.inl ⟨by rfl, ?_⟩) (by assumption) ?_
            rotate_left
            · intro w hSw; (try dsimp only at hSw); go_simp; try with_reducible rfl
            try simp only [Act.put, List.getElem_toArray, List.getElem_cons_succ, List.getElem_cons_zero, List.setIfInBounds_toArray, List.set_cons_zero, List.set_cons_succ]
            refine wpAnyH_take (i := 22) (v := ?_) rfl (by kernel_rfl) (by kernel_rfl) (by kernel_rfl) (fun _ _ _ h => h) (Or.inl ⟨by rfl, ?_⟩) (by assumption) ?_
            rotate_left
            · intro w hSw; (try dsimp only at hSw); go_simp; try with_reducible rfl
            try simp only [Act.put, List.getElem_toArray, List.getElem_cons_succ, List.getElem_cons_zero, List.setIfInBounds_toArray, List.set_cons_zero, List.set_cons_succ]
            refine wpAnyH_take (i := 23) (v := ?_) rfl (by kernel_rfl) (by kernel_rfl) (by kernel_rfl) (fun _ _ _ h => h) (Or.inl ⟨by rfl, ?_⟩) (by assumption) ?_
            rotate_left
            · intro w hSw; (try dsimp only at hSw); go_simp; try with_reducible rfl
            try simp only [Act.put, List.getElem_toArray, List.getElem_cons_succ, List.getElem_cons_zero, List.setIfInBounds_toArray, List.set_cons_zero, List.set_cons_succ]
            refine wpAnyH_take (i := 24) (v := ?_) rfl (by kernel_rfl) (by kernel_rfl) (by kernel_rfl) (fun _ _ _ h => h) (Or.inl ⟨by rfl, ?_⟩) (by assumption) ?_
            rotate_left
            · intro w hSw; (try dsimp only at hSw); go_simp; try with_reducible rfl
            try simp only [Act.put, List.getElem_toArray, List.getElem_cons_succ, List.getElem_cons_zero, List.setIfInBounds_toArray, List.set_cons_zero, List.set_cons_succ]
            refine wpAnyH_done (by kernel_rfl) ?_ _
            have c2 := hS6.2.2.1
            have HB := Lib.hid hS6.2.2.2.2
            clear hS6
            have hlist : (0 : Int) < (got.length : Int) := by omega
            generalize mineN got i (kp + 1) = q at *
            cases q
            · go_wp2_with fail
              refine ⟨⟨kp + 1 + 1, congrArg (Value.int .i64) (by omega), by omega, congrArg Value.bool (by rw [hms.out]; simp), HB.out⟩, ?_⟩
              simp
              omega
            · go_wp2_with fail
              refine ⟨⟨kp + 1 + 1, congrArg (Value.int .i64) (by omega), by omega, congrArg Value.bool (by rw [hms.out]; simp), HB.out⟩, ?_⟩
              simp
              omega
        · have hkg : k = got.length := by omega
          subst hkg
          have hkl' : decide ((got.length : Int) < (got.length : Int)) = false := by simp
          have hmine : mineN got i got.length = true := by rw [mineN, List.take_length]; exact decide_eq_true hG.out.mine
          have hpos : 0 < got.length := List.length_pos_of_mem hG.out.mine
          obtain ⟨g, cap, rfl, hg, _, hc⟩ := hI1.out.cell rfl hpos
          have c0 := (hbl.cell (p := ⟨g, 0, none⟩) hg).trans hc
          have hDz := Lib.hid (hD3.out.below hbl)
          have hg0 : (0 : Int) < (got.length : Int) := by omega
          have hkN := keysN_le (m := m1) (rows := rows) hi
          have hsN := sumN_le (m := m1) (rows := rows) (i := i)
          by_cases hf : got.getD 0 0 = (i : Int)
          · have hq := Lib.hid (hG.out.first hf)
            rw [hf] at c0
            clear hf hc
            generalize keysN m1 rows i = a1 at *
            generalize sumN m1 rows i = a2 at *
            rw [hmine]
            clear hmine
            go_wp2_with fail
            refine ⟨⟨i + 1, congrArg (Value.int .i64) (by omega), by omega, congrArg (Value.int .i64) (by rw [hq.out.1]; omega), congrArg (Value.int .i64) (by rw [hq.out.2]; omega), F3, hDz⟩, ?_⟩
            simp
            omega
          · have hq := Lib.hid (hG.out.later hf)
            have hne : (got.getD 0 0 == (i : Int)) = false := by rw [beq_eq_false_iff_ne]; exact hf
            clear hc
            generalize got.getD 0 0 = f at *
            generalize keysN m1 rows i = a1 at *
            generalize sumN m1 rows i = a2 at *
            rw [hmine]
            clear hmine
            go_wp2_with fail
            refine ⟨⟨i + 1, congrArg (Value.int .i64) (by omega), by omega, congrArg (Value.int .i64) (by rw [hq.out.1]), congrArg (Value.int .i64) (by rw [hq.out.2]), F3, hDz⟩, ?_⟩
            simp
            omega
    · have hig : i = rows.length := by omega
      subst hig
      have hlt' : decide ((rows.length : Int) < (rows.length : Int)) = false := by simp
      have hk1 := keysN_all m1 rows
      have hk2 := Lib.hid (sumN_all m1 rows)
      have hk3 := keys_more (rows := rows) HM.out.2.2.1
      rw [hk1, hk2.out]
      clear hk1
      go_wp2_with fail
      refine (duo_len hD.out).mono ?_
      rintro e w5 ⟨rfl, rfl⟩
      have hl1 := duo_distinct hD.out (m := m1) (by have := HM.out.1; have := HM.out.2.2.2; unfold MskOk; omega) HM.out.1 hrl
      generalize (keysOf m1 (nums 0 rows)).length = d1 at *
      go_wp2_with fail
      refine hl1.mono ?_
      rintro e w6 ⟨F1, rfl, hD1, hst⟩
      replace hD1 := Lib.hid hD1
      have hl2 := duo_distinct hD1.out (m := more) (by have := HM.out.2.1; have := HM.out.2.2.2; unfold MskOk; omega) HM.out.2.1 hrl
      generalize (keysOf more (nums 0 rows)).length = d2 at *
      clear hl1 hst
      go_wp2_with fail
      refine hl2.mono ?_
      rintro e w7 ⟨F2, rfl, hD2, hst⟩
      replace hD2 := Lib.hid hD2
      have hge : decide ((d1 : Int) ≤ (d2 : Int)) = true := decide_eq_true (by omega)
      clear hl2 hst
      go_wp2_with fail
      refine (duo_len hD2.out).mono ?_
      rintro e w8 ⟨rfl, rfl⟩
      go_wp2_with fail
      obtain ⟨R, abs, _, _, _, _, h5, _⟩ := hD2.out
      exact bodyPost_ret (v := .bool true) (by simp [results, Try.results4, go_sem]) rfl ⟨rfl, h5⟩
end Go.Proofs.Ytiomojlcnemnhaa

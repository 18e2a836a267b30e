import Derived.Test.YtiomojlcnemnhaaAHxD4
namespace Go.Proofs.Ytiomojlcnemnhaa
open Go.Fx Go.RowKit
theorem or_bits {a i : Nat} (ha : a < 2 ^ i) (hi : i < 24) : bits .or .u32 (a : Int) (IntKind.u32.wrap (2 ^ min i IntKind.u32.bits)) = ((a + 2 ^ i : Nat) : Int) := by
  obtain ⟨e1, e2⟩ := pow24 hi
  rw [e1]
  unfold bits
  simp only [BitVec.ofInt_natCast, BitVec.toNat_or, BitVec.toNat_ofNat]
  have hb : (2 : Nat) ^ IntKind.u32.bits = 4294967296 := by decide
  have h : a ||| 2 ^ i = a + 2 ^ i := by
    have := Nat.two_pow_add_eq_or_of_lt ha 1
    rw [Nat.mul_one] at this
    rw [Nat.or_comm, ← this, Nat.add_comm]
  rw [hb, Nat.mod_eq_of_lt (by omega), Nat.mod_eq_of_lt (by omega), h, wrap_u32' _ (Int.natCast_nonneg _) (by omega)]
theorem mod_bit (m i : Nat) : m % 2 ^ (i + 1) = m % 2 ^ i + if m.testBit i then 2 ^ i else 0 := by
  rw [Nat.mod_pow_succ, Nat.testBit_eq_decide_div_mod_eq]
  rcases Nat.mod_two_eq_zero_or_one (m / 2 ^ i) with h | h <;> simp [h]
set_option maxHeartbeats 1000000 in
set_option maxRecDepth 100000 in
theorem low_calls {w : World} {m arity : Nat} (hm : m < 4294967296) (ha : arity ≤ 24) :
    Calls Try.prog 14 #[.int .u32 (m : Int), .int .i64 (arity : Int)] w fun e w' => e = .returned (.int .u32 ((m % 2 ^ arity : Nat) : Int)) ∧ Below w.heap.size w w' := by
  go_enter Try.func14, Try.ntmps14
  go_wp2_with fail
  go_loopw [5, 6] (fun o i wr => ∃ k : Nat, i = .int .i64 (k : Int) ∧ k ≤ arity ∧ o = .int .u32 ((m % 2 ^ k : Nat) : Int) ∧ Below w.heap.size w wr) (fun _ i _ => match i with | .int _ j => arity - j.toNat | _ => 0)
  case atStart => exact ⟨0, rfl, Nat.zero_le _, by simp [Nat.mod_one], Below.refl _ _⟩
  case round =>
    obtain ⟨k, rfl, hk, rfl, hbl⟩ := hrel
    by_cases hlt : k < arity
    · have hlt' : decide ((k : Int) < (arity : Int)) = true := decide_eq_true (by omega)
      have hi0 : (0 : Int) ≤ (k : Int) := by omega
      have hmb := Lib.hid (mod_bit m k)
      have hor := or_bits (Nat.mod_lt m (Nat.two_pow_pos k)) (by omega : k < 24)
      have his := fun w => is_calls (w := w) hm (by omega : k < 24)
      generalize m % 2 ^ k = a at *
      generalize m.testBit k = q at *
      cases q
      · go_wp2_with fail
        refine (his wr).mono ?_
        rintro e w1 ⟨rfl, rfl⟩
        go_wp2_with fail
        refine ⟨⟨k + 1, congrArg (Value.int .i64) (by omega), by omega, congrArg (fun n : Nat => Value.int .u32 (n : Int)) (by rw [hmb.out]; rfl), hbl⟩, ?_⟩
        show arity - ((k : Int) + 1).toNat < arity - (k : Int).toNat
        omega
      · go_wp2_with fail
        refine (his wr).mono ?_
        rintro e w1 ⟨rfl, rfl⟩
        go_wp2_with fail
        have hor2 : bits .or .u32 (a : Int) (2 ^ k % 4294967296) = ((a + 2 ^ k : Nat) : Int) := by
          rw [← hor]
          congr 1
          have h1 := (pow24 (by omega : k < 24)).1
          have h2 := (pow24 (by omega : k < 24)).2
          rw [h1]
          have h3 : ((2 ^ k : Nat) : Int) = (2 : Int) ^ k := by simp
          rw [← h3]
          exact Int.emod_eq_of_lt (Int.natCast_nonneg _) (by omega)
        rw [hor2]
        refine ⟨⟨k + 1, congrArg (Value.int .i64) (by omega), by omega, congrArg (fun n : Nat => Value.int .u32 (n : Int)) (by rw [hmb.out, if_pos trivial]), hbl⟩, ?_⟩
        show arity - ((k : Int) + 1).toNat < arity - (k : Int).toNat
        omega
    · obtain rfl : k = arity := by omega
      go_wp2_with fail
      simp [bodyPost, results, Try.results14, go_sem]
      exact hbl
def SlRows (w : World) (lv : Value) (L : List (List Int)) : Prop :=
  ∃ ad cap, lv = .slice ad L.length cap ∧ (∀ i, i < L.length → ∃ g o, ad = some ⟨g, o, none⟩ ∧ g < w.heap.size ∧ w.rangeAt g (o + i * 24) ((L.getD i []).map symV)) ∧ ∀ x ∈ L, RowOk x
def fillTo (arity : Nat) (L : List (List Int)) (k : Nat) : List (List Int) := (L.take k).foldl (fun rows x => addRow rows (fitRow arity x)) []
theorem fillTo_succ (arity : Nat) (L : List (List Int)) {k : Nat} (hk : k < L.length) : fillTo arity L (k + 1) = addRow (fillTo arity L k) (fitRow arity (L.getD k [])) := by
  rw [fillTo, List.take_succ_eq_append_getElem hk, List.foldl_append, List.getD_eq_getElem?_getD, List.getElem?_eq_getElem hk]
  rfl
theorem fillTo_len (arity : Nat) (L : List (List Int)) (k : Nat) : (fillTo arity L k).length ≤ k := by
  induction k with
  | zero => simp [fillTo]
  | succ k ih =>
    by_cases hk : k < L.length
    · rw [fillTo_succ arity L hk, addRow]
      split
      · omega
      · rw [List.length_append]; simp; omega
    · rw [fillTo, List.take_of_length_le (by omega)]
      rw [fillTo, List.take_of_length_le (by omega)] at ih
      omega
def FillAt (w : World) (L : List (List Int)) (arity b k : Nat) (s8 : Value) (wr : World) : Prop :=
  ∃ R, Rel wr R b arity 0 (fillTo arity L k) ∧ Below w.heap.size w wr ∧ (∀ j, R j → w.heap.size ≤ j) ∧
    ((k ≤ L.length / 2 ∧ s8 = .pointer none) ∨ (L.length / 2 < k ∧ ∃ bk F, s8 = .pointer (some ⟨bk, 0, none⟩) ∧ Bk wr F bk b [] ∧ (∀ j, F j → ¬ R j) ∧ (∀ j, F j → w.heap.size ≤ j)))
def FillMid (w : World) (L : List (List Int)) (arity b k : Nat) (s8 : Value) (wr : World) : Prop :=
  ∃ R, Rel wr R b arity 0 (fillTo arity L k) ∧ Below w.heap.size w wr ∧ (∀ j, R j → w.heap.size ≤ j) ∧
    ((k + 1 ≤ L.length / 2 ∧ s8 = .pointer none) ∨ (L.length / 2 < k + 1 ∧ ∃ bk F, s8 = .pointer (some ⟨bk, 0, none⟩) ∧ Bk wr F bk b [] ∧ (∀ j, F j → ¬ R j) ∧ (∀ j, F j → w.heap.size ≤ j)))
theorem FillAt.mid {w wr : World} {L : List (List Int)} {arity b k : Nat} {s8 : Value} (h : FillAt w L arity b k s8 wr) (hk : k ≠ L.length / 2) : FillMid w L arity b k s8 wr := by
  obtain ⟨R, h1, h2, h3, ⟨h4, h5⟩ | ⟨h4, h5⟩⟩ := h
  · exact ⟨R, h1, h2, h3, .inl ⟨by omega, h5⟩⟩
  · exact ⟨R, h1, h2, h3, .inr ⟨by omega, h5⟩⟩
theorem FillMid.step' {w wr wx wy : World} {L : List (List Int)} {arity b k : Nat} {s8 : Value} {R R' : Nat → Prop} (h : Rel wr R b arity 0 (fillTo arity L k) ∧ Below w.heap.size w wr ∧ (∀ j, R j → w.heap.size ≤ j) ∧
    ((k + 1 ≤ L.length / 2 ∧ s8 = .pointer none) ∨ (L.length / 2 < k + 1 ∧ ∃ bk F, s8 = .pointer (some ⟨bk, 0, none⟩) ∧ Bk wr F bk b [] ∧ (∀ j, F j → ¬ R j) ∧ (∀ j, F j → w.heap.size ≤ j)))) (hk : k < L.length) (hb : Below wr.heap.size wr wx) (h5 : Rel wy R' b arity 0 (fillTo arity L (k + 1))) (h6 : Step wx R wy R') : FillAt w L arity b (k + 1) s8 wy := by
  obtain ⟨h1, h2, h3, h4⟩ := h
  have h7 := h6.before hb
  have hsz := h2.size
  have hbl : Below w.heap.size w wy := by
    refine KeptBut.below ((KeptBut.of_below (M := fun _ => False) h2).trans h7.1 fun j hj => .inl (h3 j hj))
  refine ⟨R', h5, hbl, fun j hj => (h7.2 j hj).elim (h3 j) fun h => by omega, ?_⟩
  rcases h4 with ⟨h4, h8⟩ | ⟨h4, bk, F, rfl, h8, h9, h10⟩
  · exact .inl ⟨h4, h8⟩
  · have := h7.bk h8 h9
    exact .inr ⟨h4, bk, F, rfl, this.1, this.2, h10⟩
set_option maxHeartbeats 1000000 in
set_option maxRecDepth 100000 in
theorem filled_calls {w : World} {arity : Nat} {lv : Value} {L : List (List Int)} (ha : arity ≤ 24) (hl : SlRows w lv L) (hn : L.length ≤ 1048576) :
    Calls Try.prog 13 #[.int .i64 (arity : Int), lv] w fun e w' => ∃ b bk R F, e = .returned (.tuple #[.pointer (some ⟨b, 0, none⟩), .pointer (some ⟨bk, 0, none⟩)]) ∧ Rel w' R b arity 0 (fillTo arity L L.length) ∧ Bk w' F bk b [] ∧ (∀ j, F j → ¬ R j) ∧ Below w.heap.size w w' ∧ (∀ j, R j → w.heap.size ≤ j) ∧ (∀ j, F j → w.heap.size ≤ j) := by
  obtain ⟨ad, cap, rfl, hrows, hok⟩ := hl
  obtain ⟨n, hnn⟩ : ∃ n, L.length = n := ⟨_, rfl⟩
  rw [hnn] at hrows hn ⊢
  have HL := Lib.hid (And.intro hnn (And.intro hrows hok))
  clear hnn hrows hok
  go_enter Try.func13, Try.ntmps13
  go_wp2_with fail
  refine (b_new ha).mono ?_
  rintro e w1 ⟨b, R, rfl, hR, hb1, hR1⟩
  go_wp2_with fail
  go_loopw [8, 9] (fun s8 i wr => ∃ k : Nat, i = .int .i64 (k : Int) ∧ ((k ≤ n ∧ Hid (FillAt w L arity b k s8 wr)) ∨ (k = n + 1 ∧ ∃ bk R F, s8 = .pointer (some ⟨bk, 0, none⟩) ∧ Hid (Rel wr R b arity 0 (fillTo arity L n) ∧ Bk wr F bk b [] ∧ (∀ j, F j → ¬ R j) ∧ Below w.heap.size w wr ∧ (∀ j, R j → w.heap.size ≤ j) ∧ (∀ j, F j → w.heap.size ≤ j))))) (fun _ i _ => match i with | .int _ m => n + 1 - m.toNat | _ => 0)
  case atStart => exact ⟨0, rfl, .inl ⟨Nat.zero_le _, Lib.hid ⟨R, hR, hb1, hR1, .inl ⟨Nat.zero_le _, rfl⟩⟩⟩⟩
  case round =>
    clear hR hb1 hR1
    obtain ⟨k, rfl, ⟨hk, hF⟩ | ⟨rfl, bk, R, F, rfl, hF⟩⟩ := hrel
    · have hle : decide ((k : Int) ≤ (n : Int)) = true := decide_eq_true (by omega)
      have hi0 : (0 : Int) ≤ (k : Int) := by omega
      by_cases hkh : k = n / 2
      · have heq : ((k : Int) == (n : Int) / 2) = true := by rw [beq_iff_eq]; omega
        replace hkh := Lib.hid hkh
        go_wp2_with fail
        obtain ⟨R, h1, h2, h3, h4⟩ := hF.out
        refine (b_open h1).mono ?_
        rintro e w3 ⟨bk, F, rfl, hB3, hb3, hF3⟩
        have HM : Hid (FillMid w L arity b k (.pointer (some ⟨bk, 0, none⟩)) w3) := Lib.hid ⟨R, h1.below hb3, h2.trans (hb3.mono h2.size), h3, .inr ⟨by have := HL.out.1; have := hkh.out; omega, bk, F, rfl, hB3, fun j hf hr => by have := h1.lt hr; have := hF3 j hf; omega, fun j hf => Nat.le_trans h2.size (hF3 j hf)⟩⟩
        clear h1 h2 h3 h4 hB3 hb3 hF3 hF R
        by_cases hkn : k < n
        · obtain ⟨g, o, rfl, hg, hrg⟩ := HL.out.2.1 k hkn
          have hlt : decide ((k : Int) < (n : Int)) = true := decide_eq_true (by omega)
          have hi1 : (k : Int) < (n : Int) := by omega
          have hx : RowOk (L.getD k []) := by
            have := HL.out.1
            rw [List.getD_eq_getElem?_getD, List.getElem?_eq_getElem (by omega), Option.getD_some]
            exact HL.out.2.2 _ (List.getElem_mem _)
          have hrg2 : (w3).rangeAt g (o + k * 24) ((L.getD k []).map symV) := fun j v hj => by
            obtain ⟨R, h1, h2, h3⟩ := HM.out
            exact (h2.cell (p := ⟨g, o + k * 24 + j, none⟩) hg).trans (hrg j v hj)
          have hsu := fillTo_succ arity L (k := k) (by have := HL.out.1; omega)
          have hfl := fillTo_len arity L k
          obtain ⟨x, hxx⟩ : ∃ x, L.getD k [] = x := ⟨_, rfl⟩
          rw [hxx] at hx hrg2 hsu
          have hsz1 : (Try.prog.info? 43).map (·.size) = some (x.map symV).length := by rw [infoRow]; simp [hx.1]
          have HS := Lib.hid (And.intro hsu hfl)
          clear hrg hsu hfl hxx
          go_wp2_with (refine wpList_load_mid rfl 43 _ rfl g (o + k * 24) rfl _ _ hrg2 Try.underlying43 rfl hsz1 ?_)
          refine (fit_calls hx ha).mono ?_
          rintro e w4 ⟨rfl, hb4⟩
          go_wp2_with fail
          obtain ⟨R, hR⟩ := HM.out
          refine (b_add (hR.1.below hb4) (fitRow_ok hx) fitRow_right (by have := HS.out.2; omega)).mono ?_
          rintro e w5 ⟨tt, R', rfl, hR', hst⟩
          rw [← HS.out.1] at hR'
          have HF : Hid (FillAt w L arity b (k + 1) (.pointer (some ⟨bk, 0, none⟩)) w5) := Lib.hid (FillMid.step' hR (by have := HL.out.1; omega) hb4 hR' hst)
          clear hR' hst hR hb4
          go_wp2_with fail
          refine ⟨⟨k + 1, congrArg (Value.int .i64) (by omega), .inl ⟨by omega, HF⟩⟩, ?_⟩
          show n + 1 - ((k : Int) + 1).toNat < n + 1 - (k : Int).toNat
          omega
        · have hlt : decide ((k : Int) < (n : Int)) = false := decide_eq_false (by omega)
          obtain rfl : k = n := by omega
          obtain ⟨R, h1, h2, h3, ⟨h4, _⟩ | ⟨h4, bk', F', hbk, h5⟩⟩ := HM.out
          · have := HL.out.1; omega
          · cases hbk
            have HZ := Lib.hid (And.intro h1 (And.intro h5.1 (And.intro h5.2.1 (And.intro h2 (And.intro h3 h5.2.2)))))
            clear h1 h2 h3 h4 h5 HM
            go_wp2_with fail
            refine ⟨⟨k + 1, congrArg (Value.int .i64) (by omega), .inr ⟨rfl, _, R, F', rfl, HZ⟩⟩, ?_⟩
            show k + 1 - ((k : Int) + 1).toNat < k + 1 - (k : Int).toNat
            omega
      · have heq : ((k : Int) == (n : Int) / 2) = false := by rw [beq_eq_false_iff_ne]; omega
        have HM : Hid (FillMid w L arity b k u8 wr) := Lib.hid (hF.out.mid (by have := HL.out.1; omega))
        clear hF
        replace hkh := Lib.hid hkh
        by_cases hkn : k < n
        · obtain ⟨g, o, rfl, hg, hrg⟩ := HL.out.2.1 k hkn
          have hlt : decide ((k : Int) < (n : Int)) = true := decide_eq_true (by omega)
          have hi1 : (k : Int) < (n : Int) := by omega
          have hx : RowOk (L.getD k []) := by
            have := HL.out.1
            rw [List.getD_eq_getElem?_getD, List.getElem?_eq_getElem (by omega), Option.getD_some]
            exact HL.out.2.2 _ (List.getElem_mem _)
          have hrg2 : (wr).rangeAt g (o + k * 24) ((L.getD k []).map symV) := fun j v hj => by
            obtain ⟨R, h1, h2, h3⟩ := HM.out
            exact (h2.cell (p := ⟨g, o + k * 24 + j, none⟩) hg).trans (hrg j v hj)
          have hsu := fillTo_succ arity L (k := k) (by have := HL.out.1; omega)
          have hfl := fillTo_len arity L k
          obtain ⟨x, hxx⟩ : ∃ x, L.getD k [] = x := ⟨_, rfl⟩
          rw [hxx] at hx hrg2 hsu
          have hsz1 : (Try.prog.info? 43).map (·.size) = some (x.map symV).length := by rw [infoRow]; simp [hx.1]
          have HS := Lib.hid (And.intro hsu hfl)
          clear hrg hsu hfl hxx
          go_wp2_with (refine wpList_load_mid rfl 43 _ rfl g (o + k * 24) rfl _ _ hrg2 Try.underlying43 rfl hsz1 ?_)
          refine (fit_calls hx ha).mono ?_
          rintro e w4 ⟨rfl, hb4⟩
          go_wp2_with fail
          obtain ⟨R, hR⟩ := HM.out
          refine (b_add (hR.1.below hb4) (fitRow_ok hx) fitRow_right (by have := HS.out.2; omega)).mono ?_
          rintro e w5 ⟨tt, R', rfl, hR', hst⟩
          rw [← HS.out.1] at hR'
          have HF : Hid (FillAt w L arity b (k + 1) u8 w5) := Lib.hid (FillMid.step' hR (by have := HL.out.1; omega) hb4 hR' hst)
          clear hR' hst hR hb4
          go_wp2_with fail
          refine ⟨⟨k + 1, congrArg (Value.int .i64) (by omega), .inl ⟨by omega, HF⟩⟩, ?_⟩
          show n + 1 - ((k : Int) + 1).toNat < n + 1 - (k : Int).toNat
          omega
        · have hlt : decide ((k : Int) < (n : Int)) = false := decide_eq_false (by omega)
          obtain rfl : k = n := by omega
          obtain ⟨R, h1, h2, h3, ⟨h4, _⟩ | ⟨h4, bk', F', hbk, h5⟩⟩ := HM.out
          · have := HL.out.1; omega
          · cases hbk
            have HZ := Lib.hid (And.intro h1 (And.intro h5.1 (And.intro h5.2.1 (And.intro h2 (And.intro h3 h5.2.2)))))
            clear h1 h2 h3 h4 h5 HM
            go_wp2_with fail
            refine ⟨⟨k + 1, congrArg (Value.int .i64) (by omega), .inr ⟨rfl, _, R, F', rfl, HZ⟩⟩, ?_⟩
            show k + 1 - ((k : Int) + 1).toNat < k + 1 - (k : Int).toNat
            omega
    · have hle : decide (((n + 1 : Nat) : Int) ≤ (n : Int)) = false := decide_eq_false (by omega)
      go_wp2_with fail
      refine bodyPost_ret (v := .tuple #[.pointer (some ⟨b, 0, none⟩), .pointer (some ⟨bk, 0, none⟩)]) (by simp [results, Try.results13, go_sem]) rfl ⟨b, bk, R, F, rfl, hF.out.1, hF.out.2.1, hF.out.2.2.1, hF.out.2.2.2.1, hF.out.2.2.2.2.1, hF.out.2.2.2.2.2⟩
end Go.Proofs.Ytiomojlcnemnhaa

import Derived.Test.YtiomojlcnemnhaaAHxG3
import Derived.Test.YtiomojlcnemnhaaAHxG5
import Derived.Deep.CutRange
namespace Go.Proofs.Ytiomojlcnemnhaa
open Go.Fx Go.RowKit
theorem slRows_below {w w' : World} {lv : Value} {L : List (List Int)} (h : SlRows w lv L) (hb : Below w.heap.size w w') : SlRows w' lv L := by
  obtain ⟨ad, cap, e, h1, h2⟩ := h
  refine ⟨ad, cap, e, fun i hi => ?_, h2⟩
  obtain ⟨g, o, e1, hg, hr⟩ := h1 i hi
  exact ⟨g, o, e1, Nat.lt_of_lt_of_le hg hb.size, fun j v hj => (hb.cell (p := ⟨g, o + i * 24 + j, none⟩) hg).trans (hr j v hj)⟩
theorem Anew.frame {w0 w w' : World} {M : Nat → Prop} {b bk arity : Nat} {gone : Int} {rows : List (List Int)} (h : Anew w0 M b bk arity gone rows w) (hk : ∀ k, M k → w'.heap[k]? = w.heap[k]?) (hb : Below w0.heap.size w0 w') : Anew w0 M b bk arity gone rows w' := by
  obtain ⟨F, R, abs, h1, h2, h3, h4, h5, h6, h7, rfl⟩ := h
  exact ⟨F, R, abs, h1.frame fun k h => hk k (.inr h), h2.frame fun k h => hk k (.inl h), h3, h4, hb, h6, h7, rfl⟩
def TurnMid (w : World) (N N6 b bk arity j : Nat) (x y : List Int) (wr : World) : Prop :=
  ∃ M gone rows, Anew w M b bk arity gone rows wr ∧ ¬ M N ∧ ¬ M N6 ∧ wr.heap[N]? = some (.cells (x.map symV).toArray 43 (0, 0)) ∧ wr.heap[N6]? = some (.cells (y.map symV).toArray 43 (0, 0)) ∧ rows.length ≤ 1048576 ∧ (∀ y ∈ rows, rightRow arity y = true) ∧ 0 ≤ gone ∧ gone ≤ (j : Int)
def TurnAt (w : World) (N b bk arity j : Nat) (wr : World) : Prop :=
  ∃ M gone rows x, Anew w M b bk arity gone rows wr ∧ ¬ M N ∧ wr.heap[N]? = some (.cells (x.map symV).toArray 43 (0, 0)) ∧ RowOk x ∧ rows.length ≤ 1048576 ∧ (∀ y ∈ rows, rightRow arity y = true) ∧ 0 ≤ gone ∧ gone ≤ (j : Int)
def SlInts (w : World) (v : Value) (L : List Int) : Prop :=
  ∃ ad cap, v = .slice ad L.length cap ∧ ∀ i, i < L.length → ∃ g o, ad = some ⟨g, o, none⟩ ∧ g < w.heap.size ∧ w.cell? ⟨g, o + i, none⟩ = some (.int .i64 (L.getD i 0))
theorem fillTo_right (arity : Nat) (L : List (List Int)) (k : Nat) : ∀ x ∈ fillTo arity L k, rightRow arity x = true := by
  unfold fillTo
  generalize L.take k = l
  have : ∀ (l acc : List (List Int)), (∀ x ∈ acc, rightRow arity x = true) → ∀ x ∈ l.foldl (fun rows x => addRow rows (fitRow arity x)) acc, rightRow arity x = true := by
    intro l
    induction l with
    | nil => exact fun acc h => h
    | cons y l ih =>
      intro acc h
      refine ih _ fun x hx => ?_
      simp only [addRow] at hx
      split at hx
      · exact h x hx
      · rcases List.mem_append.1 hx with hx | hx
        · exact h x hx
        · rw [List.mem_singleton.1 hx]; exact fitRow_right
  exact this l [] fun _ h => by cases h
set_option maxHeartbeats 8000000 in
set_option maxRecDepth 100000 in
theorem anew_calls {w : World} {width m : Nat} {lv av : Value} {L : List (List Int)} {A x : List Int} (hw : width < 256) (hm : m < 4294967296) (hl : SlRows w lv L) (hL : L.length ≤ 1048576) (hA : SlInts w av A) (hAl : A.length ≤ 1048576) (hx : RowOk x) :
    Calls Try.prog 6 #[.int .u8 (width : Int), lv, av, .int .u32 (m : Int), rowV x] w fun e w' => e = .returned (.bool true) ∧ Below w.heap.size w w' := by
  obtain ⟨arity, har, ha⟩ : ∃ a : Nat, (width : Int) % 25 = a ∧ a ≤ 24 := ⟨width % 25, by simp, by omega⟩
  replace har := Lib.hid har
  obtain ⟨m1, hm1⟩ : ∃ m1, m % 2 ^ arity = m1 := ⟨_, rfl⟩
  have hlm := fun w => low_calls (w := w) hm ha
  rw [hm1] at hlm
  have hml : m1 < 2 ^ arity := hm1 ▸ Nat.mod_lt _ (Nat.two_pow_pos _)
  have hpow : 2 ^ arity ≤ 16777216 := by
    have := Nat.pow_le_pow_right (show 2 > 0 by decide) ha
    simpa using this
  have HM := Lib.hid (And.intro hml (show MskOk m1 from by show m1 < 4294967296; omega))
  clear hm1 hml hpow hm
  obtain ⟨ad, cap, rfl, hA⟩ := hA
  replace hA := Lib.hid hA
  have hsz : (Try.prog.info? 43).map (·.size) = some (List.map symV x).toArray.size := by rw [infoRow]; simp [hx.1]
  go_enter Try.func6, Try.ntmps6
  go_wp2_with fail
  have hb1 := (Below.refl w.heap.size w).alloc (Nat.le_refl _) (.cells (x.map symV).toArray 43)
  have hN1 := heap_alloc_new w (.cells (x.map symV).toArray 43)
  have hl1 := slRows_below hl hb1
  generalize w.alloc (.cells (x.map symV).toArray 43) = w1 at *
  have hlt1 : w.heap.size < w1.heap.size := (Array.getElem?_eq_some_iff.1 hN1).1
  refine lives_calls.mono ?_
  rintro e w2 ⟨rfl, hb2⟩
  have H2 := Lib.hid (And.intro (hb1.trans (hb2.mono hb1.size)) (And.intro (slRows_below hl1 hb2) ((hb2.block _ hlt1).trans hN1)))
  clear hb1 hN1 hl1 hl hlt1 hb2
  go_wp2_with fail
  rw [har.out]
  clear har
  refine (filled_calls ha H2.out.2.1 hL).mono ?_
  rintro e w3 ⟨b, bk, R, F, rfl, hR, hB, hd, hb3, hR3, hF3⟩
  have hlt2 : w.heap.size < w2.heap.size := (Array.getElem?_eq_some_iff.1 H2.out.2.2).1
  have hD : Anew w (fun k => F k ∨ R k) b bk arity 0 (fillTo arity L L.length) w3 := ⟨F, R, [], hR, hB, hd, Fine.nil _ _, H2.out.1.trans (hb3.mono H2.out.1.size), fun j hj => Nat.le_trans H2.out.1.size (hR3 j hj), fun j hj => Nat.le_trans H2.out.1.size (hF3 j hj), rfl⟩
  have hND : ¬ (fun k => F k ∨ R k) w.heap.size := by
    rintro (h | h)
    · have := hF3 _ h; omega
    · have := hR3 _ h; omega
  have hN3 : w3.heap[w.heap.size]? = some (.cells (x.map symV).toArray 43 (0, 0)) := (hb3.block _ hlt2).trans H2.out.2.2
  have hrl : (fillTo arity L L.length).length ≤ 1048576 := Nat.le_trans (fillTo_len arity L L.length) hL
  have hfr := fillTo_right arity L L.length
  generalize fillTo arity L L.length = rows at *
  generalize (fun k => F k ∨ R k) = M at *
  replace hD := Lib.hid hD
  clear hR hB hd hb3 hR3 hF3 hlt2 H2 hL
  go_wp2_with fail
  refine (hlm _).mono ?_
  rintro e w4 ⟨rfl, hb4⟩
  replace hD := Lib.hid (hD.out.below hb4)
  have hN4 := (hb4.block _ (Array.getElem?_eq_some_iff.1 hN3).1).trans hN3
  clear hb4 hw hN3 hlm
  go_wp2_with fail
  have hT : Hid (TurnAt w w.heap.size b bk arity 0 w4) := Lib.hid ⟨M, 0, rows, x, hD.out, hND, hN4, hx, hrl, hfr, by omega, by omega⟩
  clear hD hND hN4 hx hrl hfr hsz
  clear rows M w1 w2 w3 R F
  go_loopw [14] (fun s14 wr => ∃ j : Nat, s14 = .int .i64 ((j : Int) - 1) ∧ j ≤ A.length + 1 ∧ Hid (TurnAt w w.heap.size b bk arity j wr)) (fun s _ => match s with | .int _ m => A.length + 1 - (m + 1).toNat | _ => 0)
  case atStart => exact ⟨0, rfl, Nat.zero_le _, hT⟩
  case round =>
    clear hT
    obtain ⟨j, rfl, hj, hT⟩ := hrel
    by_cases hjl : j < A.length + 1
    · have h1 : decide ((j : Int) - 1 < (A.length : Int)) = true := decide_eq_true (by omega)
      obtain ⟨M, gone, rows, x, hD, hMN, hN, hx, hrl, hfr, hg0, hg1⟩ := hT.out
      have hlen := an_len hD
      have HT := Lib.hid (And.intro hD (And.intro hMN (And.intro hN (And.intro hx (And.intro hrl (And.intro hfr (And.intro hg0 hg1)))))))
      clear hT hD hMN hN hx hrl hfr hg0 hg1
      go_upto_region 11 with fail
      go_cut [54] from 48 to 54 (fun s54 wx => s54 = .bool (decide (1 ≤ j ∧ 0 < rows.length)) ∧ wx = wr)
      case first =>
        by_cases hj1 : 1 ≤ j
        · have hj2 : 1 ≤ (j : Int) := by omega
          go_wp2_with fail
          refine hlen.mono ?_
          rintro e w5 ⟨rfl, rfl⟩
          go_wp2_with fail
          go_meet
          exact ⟨congrArg Value.bool (by simp [hj1]), rfl⟩
        · have hj2 : ¬ 1 ≤ (j : Int) := by omega
          go_wp2_with fail
          go_meet
          exact ⟨congrArg Value.bool (by simp [hj1]), rfl⟩
      case rest =>
        obtain ⟨rfl, rfl⟩ := hcut
        clear hlen
        go_upto_if 54 with fail
        generalize hq : decide (1 ≤ j ∧ 0 < rows.length) = q
        go_cut [14, 15, 16, 17] from 42 to 86 (fun s14 _ _ _ wx => s14 = .int .i64 ((j : Int) - 1) ∧ Hid (TurnAt w w.heap.size b bk arity (j + 1) wx))
        case first =>
          cases q
          · go_wp2_with fail
            go_meet
            exact ⟨rfl, Lib.hid ⟨M, gone, rows, x, HT.out.1, HT.out.2.1, HT.out.2.2.1, HT.out.2.2.2.1, HT.out.2.2.2.2.1, HT.out.2.2.2.2.2.1, HT.out.2.2.2.2.2.2.1, by have := HT.out.2.2.2.2.2.2.2; omega⟩⟩
          · obtain ⟨hj1, hr0⟩ := of_decide_eq_true hq
            obtain ⟨i, rfl⟩ : ∃ i, j = i + 1 := ⟨j - 1, by omega⟩
            have hi1 : ((i + 1 : Nat) : Int) - 1 = (i : Int) := by omega
            obtain ⟨g, o, hg, hglt, hc⟩ := hA.out i (by omega)
            subst hg
            obtain ⟨a, haa⟩ : ∃ a, A.getD i 0 = a := ⟨_, rfl⟩
            rw [haa] at hc
            replace haa := Lib.hid haa
            have hcd : wc.drew.cell? ⟨g, o + i, none⟩ = some (.int .i64 a) := (HT.out.1.from.cell (p := ⟨g, o + i, none⟩) hglt).trans hc
            have hNd : wc.drew.heap[w.heap.size]? = some (.cells (x.map symV).toArray 43 (0, 0)) := HT.out.2.2.1
            have hDd := HT.out.1.below (w' := wc.drew) (below_drew' (Below.refl _ _))
            have hn0 : ¬ rows = [] := fun h => by rw [h] at hr0; exact Nat.lt_irrefl _ hr0
            have hi0 : (0 : Int) ≤ (i : Int) := by omega
            have hia : (i : Int) < (A.length : Int) := by omega
            rw [hi1]
            go_upto_region 12 with fail
            refine wp_region_still_lit (by kernel_rfl) (by kernel_rfl) ?_
            change wpStill _ _ wc.drew _ _ _
            repeat (first | still_call (an_len hDd) | still_step)
            refine wpStill_nil ?_
            change Exit.then _ _ _ _ wc.drew
            obtain ⟨r, hr⟩ : ∃ r, a.tmod (rows.length : Int) = r := ⟨_, rfl⟩
            have hr1 : r < (rows.length : Int) := hr ▸ Int.tmod_lt_of_pos _ (by omega)
            have hr2 : -(rows.length : Int) < r := hr ▸ Int.lt_tmod_of_pos _ (by omega)
            rw [hr]
            replace hr := Lib.hid hr
            generalize wc.drew = w5 at *
            obtain ⟨k, hk, hkr⟩ : ∃ k : Nat, k < rows.length ∧ (if r < 0 then r + (rows.length : Int) else r) = (k : Int) := by
              by_cases h : r < 0
              · exact ⟨(r + (rows.length : Int)).toNat, by omega, by rw [if_pos h]; omega⟩
              · exact ⟨r.toNat, by omega, by rw [if_neg h]; omega⟩
            go_upto_if 63 with fail
            go_cut [15] from 62 to 67 (fun s15 wx => s15 = .int .i64 (k : Int) ∧ wx = w5)
            case first =>
              have hlen := an_len hDd
              by_cases hneg : r < 0
              · rw [if_pos hneg] at hkr
                have hw1 : IntKind.i64.wrap (r + (rows.length : Int)) = (k : Int) := by rw [hkr, IntKind.wrap_i64]; have := HT.out.2.2.2.2.1; omega
                go_wp2_with fail
                refine hlen.mono ?_
                rintro e w6 ⟨rfl, rfl⟩
                go_wp2_with fail
                go_meet
                exact ⟨congrArg (Value.int .i64) (by have := HT.out.2.2.2.2.1; unfold wrap64; omega), rfl⟩
              · rw [if_neg hneg] at hkr
                subst hkr
                go_wp2_with fail
                go_meet
                exact ⟨rfl, rfl⟩
            case rest =>
              obtain ⟨rfl, rfl⟩ := hcut
              have hat := an_at hDd hk
              have hyin : rows.getD k [] ∈ rows := by
                rw [List.getD_eq_getElem?_getD, List.getElem?_eq_getElem hk, Option.getD_some]
                exact List.getElem_mem _
              have hy : RowOk (rows.getD k []) := hDd.ok.1 _ hyin
              have hyr := HT.out.2.2.2.2.2.1 _ hyin
              obtain ⟨y, hyy⟩ : ∃ y, rows.getD k [] = y := ⟨_, rfl⟩
              rw [hyy] at hyin hy hyr hat
              replace hyy := Lib.hid hyy
              have hyl := hy.1
              have hsz : (Try.prog.info? 43).map (·.size) = some (List.map symV y).toArray.size := by rw [infoRow]; simp [hyl]
              have hone := row_one y
              replace hyin := Lib.hid (And.intro hyin (And.intro hy hyr))
              clear hy hyr
              go_wp2_with fail
              refine hat.mono ?_
              rintro e w6 ⟨rfl, hb6⟩
              have hz := heap_alloc_new w6 (Obj.cells (List.replicate 24 (Value.int .i32 0)).toArray 43)
              have hbx := below_setRow ((Below.refl _ w6).alloc (Nat.le_refl _) (Obj.cells (List.replicate 24 (Value.int .i32 0)).toArray 43)) (Nat.le_refl _) (y.map symV).toArray
              have hzx := setRow_heap _ _ _ (y.map symV).toArray _ _ hz
              obtain ⟨W3, hW3⟩ : ∃ W3, (w6.alloc (Obj.cells (List.replicate 24 (Value.int .i32 0)).toArray 43)).setRow w6.heap.size (y.map symV).toArray = W3 := ⟨_, rfl⟩
              rw [hW3] at hbx hzx
              simp only [List.replicate] at hW3 hz
              have hD7 := (hDd.below hb6).below hbx
              have hNN : ¬ M w6.heap.size := fun h => by have := hDd.lt h; have := hb6.size; omega
              go_wp2_with (first | (refine wpList_store_row rfl 43 _ _ rfl w6.heap.size _ rfl rfl 43 _ hz hsz (by simp [hyl]) hone ?_; rw [hW3]) | (refine wpList_load_row rfl 43 _ rfl w6.heap.size rfl 43 _ (0, 0) _ hzx Try.underlying43 rfl hsz ?_))
              have hN7 : W3.heap[w.heap.size]? = some (.cells (x.map symV).toArray 43 (0, 0)) := (hbx.block _ (by have := (Array.getElem?_eq_some_iff.1 hNd).1; have := hb6.size; omega)).trans ((hb6.block _ (Array.getElem?_eq_some_iff.1 hNd).1).trans hNd)
              have hNlt : w.heap.size < w6.heap.size := by have := (Array.getElem?_eq_some_iff.1 hNd).1; have := hb6.size; omega
              clear hz hW3 hbx hat hDd hb6 hNd hcd hk hkr
              generalize w6.heap.size = N6 at *
              refine (an_remove hD7 hyin.out.1 HT.out.2.2.2.2.1 (by have := HT.out.2.2.2.2.2.2; omega)).mono ?_
              rintro e w8 ⟨rfl, M8, hD8, hst8⟩
              have h8a := hst8.block (Array.getElem?_eq_some_iff.1 hN7).1 HT.out.2.1
              have h8b := hst8.block (Array.getElem?_eq_some_iff.1 hzx).1 hNN
              have hN8 := h8a.1.trans hN7
              have hz8 := h8b.1.trans hzx
              have hMN8 := h8a.2.1
              have hMz8 := h8b.2.1
              clear h8a h8b hst8 hD7 hN7 hzx hNN
              have hc8 : w8.cell? ⟨g, o + i, none⟩ = some (.int .i64 a) := (hD8.from.cell (p := ⟨g, o + i, none⟩) hglt).trans hc
              have hel : (rows.erase y).length = rows.length - 1 := by rw [List.length_erase]; simp [hyin.out.1]
              have hrr : ∀ z ∈ rows.erase y, rightRow arity z = true := fun z hz => HT.out.2.2.2.2.2.1 z (List.mem_of_mem_erase hz)
              have hgl := HT.out.2.2.2.2.2.2
              have hln := HT.out.2.2.2.2.1
              replace hD8 := Lib.hid hD8
              go_upto_if 82 with fail
              go_cut [] from 55 to 86 (fun wx => TurnMid w w.heap.size N6 b bk arity (i + 1 + 1) x y wx)
              case first =>
                by_cases h3 : a.tmod 3 = 0
                · have h3b : (a.tmod 3 == 0) = true := by simp [h3]
                  go_wp2_with (refine wpList_load_row rfl 43 _ rfl N6 rfl 43 _ (0, 0) _ hz8 Try.underlying43 rfl hsz ?_)
                  refine (an_add hD8.out hyin.out.2.1 hyin.out.2.2 (by omega)).mono ?_
                  rintro e w9 ⟨tt, M9, rfl, hD9, hst9⟩
                  have h9a := hst9.block (Array.getElem?_eq_some_iff.1 hN8).1 hMN8
                  have h9b := hst9.block (Array.getElem?_eq_some_iff.1 hz8).1 hMz8
                  go_wp2_with fail
                  go_meet
                  refine ⟨M9, _, _, hD9, h9a.2.1, h9b.2.1, h9a.1.trans hN8, h9b.1.trans hz8, ?_, ?_, by omega, by omega⟩
                  · unfold addRow
                    split
                    · omega
                    · rw [List.length_append, List.length_singleton]; omega
                  · intro z hz
                    unfold addRow at hz
                    split at hz
                    · exact hrr z hz
                    · rcases List.mem_append.1 hz with hz | hz
                      · exact hrr z hz
                      · rw [List.mem_singleton.1 hz]; exact hyin.out.2.2
                · have h3b : (a.tmod 3 == 0) = false := by simp [h3]
                  go_wp2_with fail
                  go_meet
                  exact ⟨M8, _, _, hD8.out, hMN8, hMz8, hN8, hz8, by omega, hrr, by omega, by omega⟩
              case rest =>
                have HC := Lib.hid hcut
                clear hcut hD8 hN8 hz8 hMN8 hMz8 hel hrr hc8
                obtain ⟨M9, gone9, rows9, hD9, hMN9, hMz9, hN9, hz9, hl9, hr9, hg9, hg9'⟩ := HC.out
                have hxl9 := HT.out.2.2.2.1.1
                have hbs := below_setRow hD9.from (Nat.le_refl w.heap.size) (y.map symV).toArray
                have hns := setRow_heap _ _ _ (y.map symV).toArray _ _ hN9
                have hDs := hD9.frame (w' := wc.setRow w.heap.size (y.map symV).toArray) (fun k hk => setRow_other wc w.heap.size k _ fun e => hMN9 (e ▸ hk)) hbs
                go_wp2_with (first | (refine wpList_load_row rfl 43 _ rfl N6 rfl 43 _ (0, 0) _ hz9 Try.underlying43 rfl hsz ?_) | (refine wpList_store_row rfl 43 _ _ rfl w.heap.size _ rfl rfl 43 _ hN9 hsz (by simp [hyl, hxl9]) hone ?_))
                go_wp2_with fail
                go_meet
                exact ⟨congrArg (Value.int .i64) hi1.symm, Lib.hid ⟨M9, gone9, rows9, y, hDs, hMN9, hns, hyin.out.2.1, hl9, hr9, hg9, hg9'⟩⟩
        case rest =>
          obtain ⟨rfl, hT⟩ := hcut
          clear hq HT M gone rows x
          go_upto_region 20 with fail
          go_cut [14, 96] from 87 to 96 (fun s14 s96 wx => s14 = .int .i64 ((j : Int) - 1) ∧ (∃ q, s96 = .bool q) ∧ wx = wc)
          case first =>
            by_cases hj1 : 1 ≤ j
            · obtain ⟨i, rfl⟩ : ∃ i, j = i + 1 := ⟨j - 1, by omega⟩
              have hi1 : ((i + 1 : Nat) : Int) - 1 = (i : Int) := by omega
              obtain ⟨g, o, hg, hglt, hc⟩ := hA.out i (by omega)
              subst hg
              have hcd : wc.cell? ⟨g, o + i, none⟩ = some (.int .i64 (A.getD i 0)) := by
                obtain ⟨M, gone, rows, x, hD, _⟩ := hT.out
                exact (hD.from.cell (p := ⟨g, o + i, none⟩) hglt).trans hc
              generalize A.getD i 0 = a at *
              have hi0 : (0 : Int) ≤ (i : Int) := by omega
              have hia : (i : Int) < (A.length : Int) := by omega
              rw [hi1]
              go_wp2_with fail
              go_meet
              exact ⟨congrArg (Value.int .i64) hi1.symm, ⟨_, rfl⟩, rfl⟩
            · have hj2 : ¬ 1 ≤ (j : Int) := by omega
              go_wp2_with fail
              go_meet
              exact ⟨rfl, ⟨_, rfl⟩, rfl⟩
          case rest =>
            obtain ⟨rfl, ⟨q, rfl⟩, rfl⟩ := hcut
            cases q
            rotate_left
            · go_wp2_with fail
              refine ⟨⟨j + 1, congrArg (Value.int .i64) (by omega), by omega, hT⟩, ?_⟩
              show A.length + 1 - ((j : Int) + 1).toNat < A.length + 1 - ((j : Int) - 1 + 1).toNat
              omega
            · obtain ⟨M, gone, rows, y, hD, hMN, hN, hy, hrl, hfr, hg0, hg1⟩ := hT.out
              have hyl := hy.1
              have hsz : (Try.prog.info? 43).map (·.size) = some (List.map symV y).toArray.size := by rw [infoRow]; simp [hyl]
              have HY := Lib.hid (And.intro hy (And.intro hrl (And.intro hfr (And.intro hg0 hg1))))
              have hNlt := (Array.getElem?_eq_some_iff.1 hN).1
              clear hT hy hfr hg0 hg1
              go_wp2_with fail
              refine (an_new hD).mono ?_
              rintro e w5 ⟨bk2, M5, abs5, rfl, hB5, hb5, hM5⟩
              have hN5 := (hb5.block _ hNlt).trans hN
              have hMN5 : ¬ M5 w.heap.size := fun h => (hM5 _ h).elim hMN (by omega)
              replace hB5 := Lib.hid hB5
              clear hD hMN hN hb5 hM5 hNlt
              go_wp2_with fail
              refine (bo_masks hB5.out.swap (by simp)).mono ?_
              rintro e w6 ⟨v6, rfl, hown6, hb6⟩
              obtain ⟨a6, c6, rfl⟩ := own_slice hown6
              have hN6 := (hb6.block _ (Array.getElem?_eq_some_iff.1 hN5).1).trans hN5
              have hB6 := Lib.hid (hB5.out.below hb6)
              clear hB5 hN5 hown6 hb6
              have hsn := bo_seen hB6.out.swap HM.out.2
              rw [show seenN [] m1 = 0 from rfl] at hsn
              go_wp2_with fail
              refine hsn.mono ?_
              rintro e w7 ⟨rfl, rfl⟩
              clear hsn
              go_wp2_with (refine wpList_load_row rfl 43 _ rfl w.heap.size rfl 43 _ (0, 0) _ hN6 Try.underlying43 rfl hsz ?_)
              refine (bo_look hB6.out HM.out.2 HM.out.1 hrl HY.out.1).mono ?_
              rintro e w8 ⟨v8, M8, rfl, hB8, hst8, hi8, hv8⟩
              have h8 := hst8.block (Array.getElem?_eq_some_iff.1 hN6).1 hMN5
              have hN8 := h8.1.trans hN6
              have hMN8 := h8.2.1
              replace hB8 := Lib.hid hB8
              have hI8 := Lib.hid (And.intro hi8 hv8)
              clear hB6 hst8 hi8 hv8 h8 hN6 hMN5
              go_wp2_with (refine wpList_load_row rfl 43 _ rfl w.heap.size rfl 43 _ (0, 0) _ hN8 Try.underlying43 rfl hsz ?_)
              refine (bo_look hB8.out.swap HM.out.2 HM.out.1 hrl HY.out.1).mono ?_
              rintro e w9 ⟨v9, M9, rfl, hB9, hst9, hi9, hv9⟩
              have h9 := hst9.block (Array.getElem?_eq_some_iff.1 hN8).1 hMN8
              have hN9 := h9.1.trans hN8
              have hMN9 := h9.2.1
              have hsame := same_calls (w := w9) (v1 := v8) (v2 := v9) (hI8.out.1.frame fun k hk => (hst9.block (own_lt hI8.out.1 hk) (hI8.out.2 k hk)).1) hi9
              rw [decide_eq_true rfl] at hsame
              replace hB9 := Lib.hid hB9.swap
              clear hB8 hst9 hi9 hv9 h9 hN8 hMN8 hI8
              go_wp2_with fail
              refine hsame.mono ?_
              rintro e w10 ⟨rfl, hb10⟩
              have hN10 := (hb10.block _ (Array.getElem?_eq_some_iff.1 hN9).1).trans hN9
              have hB10 := Lib.hid (hB9.out.below hb10)
              clear hB9 hN9 hb10 hsame
              have hsn := bo_seen hB10.out HM.out.2
              rw [seen_ask] at hsn
              go_wp2_with fail
              refine hsn.mono ?_
              rintro e w11 ⟨rfl, rfl⟩
              clear hsn
              go_wp2_with fail
              refine (bo_len hB10.out).mono ?_
              rintro e w12 ⟨rfl, rfl⟩
              go_wp2_with fail
              refine (bo_distinct hB10.out HM.out.2 HM.out.1 hrl).mono ?_
              rintro e w13 ⟨M13, rfl, hB13, hst13⟩
              have h13 := hst13.block (Array.getElem?_eq_some_iff.1 hN10).1 hMN9
              have hN13 := h13.1.trans hN10
              have hMN13 := h13.2.1
              replace hB13 := Lib.hid hB13
              clear hB10 hst13 h13 hN10 hMN9
              go_wp2_with fail
              refine (bo_distinct hB13.out.swap HM.out.2 HM.out.1 hrl).mono ?_
              rintro e w14 ⟨M14, rfl, hB14, hst14⟩
              have h14 := hst14.block (Array.getElem?_eq_some_iff.1 hN13).1 hMN13
              have hN14 := h14.1.trans hN13
              have hMN14 := h14.2.1
              have hab : askAbs (askAbs [] m1 rows gone) m1 rows gone = [(m1, nums 0 rows, gone)] := by simp [askAbs]
              rw [hab] at hB14
              replace hB14 := Lib.hid hB14.swap
              clear hB13 hst14 h14 hN13 hMN13 hab
              go_wp2_with fail
              refine (bo_masks hB14.out.swap (by simp)).mono ?_
              rintro e w15 ⟨v15, rfl, hown15, hb15⟩
              have hu15 : U32At w15 v15 [(m1 : Int)] := U32At.ofMasks (l := [m1]) hown15
              have hN15 := (hb15.block _ (Array.getElem?_eq_some_iff.1 hN14).1).trans hN14
              have hB15 := Lib.hid (hB14.out.below hb15)
              clear hB14 hN14 hown15 hb15
              have hb16 := (Below.refl w15.heap.size w15).alloc (Nat.le_refl _) (.cells #[.int .u32 (m1 : Int)] 33)
              have hu16 : U32At (w15.alloc (.cells #[.int .u32 (m1 : Int)] 33)) (.slice (some ⟨w15.heap.size, 0, none⟩) 1 1) [(m1 : Int)] :=
                ⟨rfl, .inr ⟨w15.heap.size, 1, #[.int .u32 (m1 : Int)], rfl, Nat.zero_le _, heap_alloc_new w15 _, Nat.le_refl _, by unfold maxLen; omega, rfl, rfl⟩⟩
              have hu15' := hu15.frame (w' := w15.alloc (.cells #[.int .u32 (m1 : Int)] 33)) fun k hk => hb16.block k (own_lt hu15 hk)
              have hsm := same_masks hu15' hu16
              rw [decide_eq_true rfl] at hsm
              replace hsm := Lib.hid hsm
              have hN16 := (hb16.block _ (Array.getElem?_eq_some_iff.1 hN15).1).trans hN15
              have hB16 := Lib.hid (hB15.out.below hb16)
              clear hu15 hu16 hu15' hb16 hB15 hN15
              go_wp2_with fail
              refine hsm.out.mono ?_
              rintro e w17 ⟨rfl, hb17⟩
              have hN17 := (hb17.block _ (Array.getElem?_eq_some_iff.1 hN16).1).trans hN16
              obtain ⟨M17, hD17, hM17⟩ := (hB16.out.below hb17).drop
              have hT17 : Hid (TurnAt w w.heap.size b bk arity (j + 1) w17) := Lib.hid ⟨M17, gone, rows, y, hD17, fun h => hMN14 (hM17 _ h), hN17, HY.out.1, HY.out.2.1, HY.out.2.2.1, HY.out.2.2.2.1, HY.out.2.2.2.2⟩
              clear hsm hN16 hB16 hb17 hN17 hD17 hM17 hMN14
              go_wp2_with fail
              refine ⟨⟨j + 1, congrArg (Value.int .i64) (by omega), by omega, hT17⟩, ?_⟩
              show A.length + 1 - ((j : Int) + 1).toNat < A.length + 1 - ((j : Int) - 1 + 1).toNat
              omega
    · obtain rfl : j = A.length + 1 := by omega
      have h1 : decide (((A.length + 1 : Nat) : Int) - 1 < (A.length : Int)) = false := decide_eq_false (by omega)
      go_wp2_with fail
      obtain ⟨M, gone, rows, y, hD, _⟩ := hT.out
      exact bodyPost_ret (v := .bool true) (by simp [results, Try.results6, go_sem]) rfl ⟨rfl, hD.from⟩
end Go.Proofs.Ytiomojlcnemnhaa

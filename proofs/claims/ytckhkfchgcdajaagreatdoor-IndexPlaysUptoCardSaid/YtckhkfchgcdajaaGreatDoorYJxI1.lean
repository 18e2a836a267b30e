import Derived.Test.YtckhkfchgcdajaaGreatDoorYJxE8
import Derived.Test.YtckhkfchgcdajaaGreatDoorYFxWm
import Derived.Test.YtckhkfchgcdajaaGreatDoorYJxG5
namespace Go.Proofs.YtckhkfchgcdajaaGreatDoor
open Go.Fx Go.RowKit Go.Maps Go.Sort
def Kept (w : World) (kb : Nat) (F : Nat → Prop) (n : Nat) (LI LM : List (Value × Nat)) : Prop :=
  ∃ vI vM, w.heap[kb]? = some (.cells (keepCells n vI vM).toArray 55 (0, 0)) ∧ w.ownsRow (kb + 1) 202 3 vI LI.length (heldV LI) ∧ w.ownsRow (kb + 1) 245 3 vM LM.length (heldV LM) ∧ (∀ g, vI.ownBlock = some g → vM.ownBlock ≠ some g) ∧
    F = fun k => k = kb ∨ vI.ownBlock = some k ∨ vM.ownBlock = some k
theorem own_ge {w : World} {base size n : Nat} {e : TypeId} {v : Value} {xs : List Value} (h : w.ownsRow base e size v n xs) {k : Nat} (hk : v.ownBlock = some k) : base ≤ k := by
  rcases h.2 with ⟨rfl, _⟩ | ⟨g, cap, cur, rfl, hg, _⟩
  · cases hk
  · simp only [Value.ownBlock, Option.some.injEq] at hk
    exact hk ▸ hg
theorem Kept.lt {w : World} {kb : Nat} {F : Nat → Prop} {n : Nat} {LI LM : List (Value × Nat)} (h : Kept w kb F n LI LM) {k : Nat} (hk : F k) : k < w.heap.size := by
  obtain ⟨vI, vM, h1, h2, h3, h4, rfl⟩ := h
  rcases hk with rfl | hk | hk
  · exact (Array.getElem?_eq_some_iff.1 h1).1
  · exact own_lt h2 hk
  · exact own_lt h3 hk
theorem Kept.frame {w w' : World} {kb : Nat} {F : Nat → Prop} {n : Nat} {LI LM : List (Value × Nat)} (h : Kept w kb F n LI LM) (hb : ∀ k, F k → w'.heap[k]? = w.heap[k]?) : Kept w' kb F n LI LM := by
  obtain ⟨vI, vM, h1, h2, h3, h4, rfl⟩ := h
  exact ⟨vI, vM, (hb kb (.inl rfl)).trans h1, ownsRow_of_block h2 fun k hk => hb k (.inr (.inl hk)), ownsRow_of_block h3 fun k hk => hb k (.inr (.inr hk)), h4, rfl⟩
theorem Kept.below {w w' : World} {kb : Nat} {F : Nat → Prop} {n : Nat} {LI LM : List (Value × Nat)} (h : Kept w kb F n LI LM) (hb : Below w.heap.size w w') : Kept w' kb F n LI LM := h.frame fun k hk => hb.block k (h.lt hk)
theorem kept_int {w : World} {kb : Nat} {F : Nat → Prop} {n : Nat} {LI LM : List (Value × Nat)} (h : Kept w kb F n LI LM) (hn : n < 4611686018427387904) (hL : LI.length ≤ 4194304) {l : Value} (hl : ∃ a m c, l = .slice a m c) :
    Calls Tryz.prog 61 #[.pointer (some ⟨kb, 0, none⟩), l] w fun e w' => ∃ F', e = .returned (.tuple #[]) ∧ Kept w' kb F' (n + 1) (LI ++ [(l, n + 1)]) LM ∧ Step w F w' F' := by
  obtain ⟨vI, vM, h1, h2, h3, h4, rfl⟩ := h
  have hlt := (Array.getElem?_eq_some_iff.1 h1).1
  go_enter Tryz.func61, Tryz.ntmps61
  obtain ⟨la, lm, lc, rfl⟩ := hl
  go_wp2_with fail
  refine (keepInt_calls h1 h2 (by omega) (fun e => by have := own_ge h2 e; omega) hn hL ⟨la, lm, lc, rfl⟩).mono ?_
  rintro e w' ⟨vI', rfl, g1, g2, g3, g4⟩
  go_wp2_with fail
  go_end0
  refine ⟨_, rfl, ⟨vI', vM, g1, g2, ?_, ?_, rfl⟩, ?_, ?_⟩
  · refine ownsRow_of_block h3 fun k hk => g3.block k (own_lt h3 hk) ?_
    rintro (rfl | hc)
    · have := own_ge h3 hk; omega
    · exact h4 k hc hk
  · intro g hg hm
    rcases g4 with e | ⟨g', e, hge⟩
    · rw [e] at hg; exact h4 g hg hm
    · rw [e] at hg
      injection hg with hg
      have := own_lt h3 hm
      omega
  · exact g3.mono fun k hk => hk.elim .inl fun h => .inr (.inl h)
  · rintro k (rfl | hk | hk)
    · exact .inl (.inl rfl)
    · rcases g4 with e | ⟨g', e, hge⟩
      · rw [e] at hk; exact .inl (.inr (.inl hk))
      · rw [e] at hk
        injection hk with hk
        exact .inr (hk ▸ hge)
    · exact .inl (.inr (.inr hk))
theorem kept_mask {w : World} {kb : Nat} {F : Nat → Prop} {n : Nat} {LI LM : List (Value × Nat)} (h : Kept w kb F n LI LM) (hn : n < 4611686018427387904) (hL : LM.length ≤ 4194304) {l : Value} (hl : ∃ a m c, l = .slice a m c) :
    Calls Tryz.prog 68 #[.pointer (some ⟨kb, 0, none⟩), l] w fun e w' => ∃ F', e = .returned (.tuple #[]) ∧ Kept w' kb F' (n + 1) LI (LM ++ [(l, n + 1)]) ∧ Step w F w' F' := by
  obtain ⟨vI, vM, h1, h2, h3, h4, rfl⟩ := h
  have hlt := (Array.getElem?_eq_some_iff.1 h1).1
  go_enter Tryz.func68, Tryz.ntmps68
  obtain ⟨la, lm, lc, rfl⟩ := hl
  go_wp2_with fail
  refine (keepMask_calls h1 h3 (by omega) (fun e => by have := own_ge h3 e; omega) hn hL ⟨la, lm, lc, rfl⟩).mono ?_
  rintro e w' ⟨vM', rfl, g1, g2, g3, g4⟩
  go_wp2_with fail
  go_end0
  refine ⟨_, rfl, ⟨vI, vM', g1, ?_, g2, ?_, rfl⟩, ?_, ?_⟩
  · refine ownsRow_of_block h2 fun k hk => g3.block k (own_lt h2 hk) ?_
    rintro (rfl | hc)
    · have := own_ge h2 hk; omega
    · exact h4 k hk hc
  · intro g hg hm
    rcases g4 with e | ⟨g', e, hge⟩
    · rw [e] at hm; exact h4 g hg hm
    · rw [e] at hm
      injection hm with hm
      have := own_lt h2 hg
      omega
  · exact g3.mono fun k hk => hk.elim .inl fun h => .inr (.inr h)
  · rintro k (rfl | hk | hk)
    · exact .inl (.inl rfl)
    · exact .inl (.inr (.inl hk))
    · rcases g4 with e | ⟨g', e, hge⟩
      · rw [e] at hk; exact .inl (.inr (.inr hk))
      · rw [e] at hk
        injection hk with hk
        exact .inr (hk ▸ hge)
end Go.Proofs.YtckhkfchgcdajaaGreatDoor

namespace Go.Proofs.YtckhkfchgcdajaaGreatDoor
open Go.Fx Go.RowKit Go.Maps Go.Sort
def relT (b arity : Nat) (gone : Int) (rows : List (List Int)) : Thing := ⟨fun w F => Rel w F b arity gone rows, fun h _ hk => h.lt hk, fun h hk => h.frame hk⟩
def bkT (bk b : Nat) (abs : Abs) : Thing := ⟨fun w F => Bk w F bk b abs, fun h _ hk => h.lt hk, fun h hk => h.frame hk⟩
def docT (k arity : Nat) (l : List (Nat × Nat)) : Thing := ⟨fun w F => DocAt w F k arity l, fun h _ hk => h.lt hk, fun h hk => h.frame hk⟩
def keptT (kb n : Nat) (LI LM : List (Value × Nat)) : Thing := ⟨fun w F => Kept w kb F n LI LM, fun h _ hk => h.lt hk, fun h hk => h.frame hk⟩
def rowsT (lv : Value) (rows : List (List Int)) : Thing where
  at_ w F := (ownT 64 24 lv rows.length (rowsV rows)).at_ w F ∧ ∀ y ∈ rows, RowOk y
  lt := fun h => (ownT 64 24 lv rows.length (rowsV rows)).lt h.1
  frame := fun h hk => ⟨(ownT 64 24 lv rows.length (rowsV rows)).frame h.1 hk, h.2⟩
theorem rowsT_own {w0 w : World} {F0 : Nat → Prop} {R : List Thing} {lv : Value} {rows : List (List Int)} (h : Mid w0 F0 (rowsT lv rows :: R) w) : Mid w0 F0 (ownT 64 24 lv rows.length (rowsV rows) :: R) w ∧ ∀ y ∈ rows, RowOk y := by
  obtain ⟨M, ⟨F, G, ⟨g0, h1⟩, g2, g3, rfl⟩, h2⟩ := h
  exact ⟨⟨_, ⟨F, G, g0, g2, g3, rfl⟩, h2⟩, h1⟩
theorem rowsT_of {w0 w : World} {F0 : Nat → Prop} {R : List Thing} {lv : Value} {rows : List (List Int)} (h : Mid w0 F0 (ownT 64 24 lv rows.length (rowsV rows) :: R) w) (ho : ∀ y ∈ rows, RowOk y) : Mid w0 F0 (rowsT lv rows :: R) w := h.weaken fun h => ⟨h, ho⟩
theorem rows_sl {w : World} {F : Nat → Prop} {lv : Value} {rows : List (List Int)} (h : (rowsT lv rows).at_ w F) : SlRows w lv rows := by
  obtain ⟨⟨h1, _⟩, h2⟩ := h
  obtain ⟨a, c, rfl⟩ := own_slice0 h1
  refine ⟨a, c, rfl, fun i hi => ?_, h2⟩
  obtain ⟨g, cap, e, _, hg⟩ := h1.form (by omega)
  injection e with e1 _ e2
  subst e1; subst e2
  refine ⟨g, 0, rfl, hg, ?_⟩
  have := own_row_range h1 (fun y hy => (h2 y hy).1) hi
  rw [List.getD_eq_getElem?_getD, List.getElem?_eq_getElem hi, Nat.zero_add]
  exact this
section
variable {w0 w : World} {F0 : Nat → Prop} {R : List Thing} {bk b k arity : Nat} {gone : Int} {rows : List (List Int)} {abs : Abs} {l : List (Nat × Nat)} {lv : Value}
theorem _root_.Go.Fx.Mid.up1 {a b : Thing} {l : List Thing} (h : Mid w0 F0 (a :: b :: l) w) : Mid w0 F0 (b :: a :: l) w := h.perm (List.Perm.swap ..)
theorem _root_.Go.Fx.Mid.up2 {a b c : Thing} {l : List Thing} (h : Mid w0 F0 (a :: b :: c :: l) w) : Mid w0 F0 (c :: a :: b :: l) w := h.perm (List.perm_middle (l₁ := [a, b]))
theorem _root_.Go.Fx.Mid.up3 {a b c d : Thing} {l : List Thing} (h : Mid w0 F0 (a :: b :: c :: d :: l) w) : Mid w0 F0 (d :: a :: b :: c :: l) w := h.perm (List.perm_middle (l₁ := [a, b, c]))
theorem _root_.Go.Fx.Mid.up4 {a b c d e : Thing} {l : List Thing} (h : Mid w0 F0 (a :: b :: c :: d :: e :: l) w) : Mid w0 F0 (e :: a :: b :: c :: d :: l) w := h.perm (List.perm_middle (l₁ := [a, b, c, d]))
theorem _root_.Go.Fx.Mid.up5 {a b c d e f : Thing} {l : List Thing} (h : Mid w0 F0 (a :: b :: c :: d :: e :: f :: l) w) : Mid w0 F0 (f :: a :: b :: c :: d :: e :: l) w := h.perm (List.perm_middle (l₁ := [a, b, c, d, e]))
theorem _root_.Go.Fx.Mid.dn4 {a b c d e : Thing} {l : List Thing} (h : Mid w0 F0 (a :: b :: c :: d :: e :: l) w) : Mid w0 F0 (b :: c :: d :: e :: a :: l) w := h.perm (List.perm_middle (l₁ := [b, c, d, e])).symm
theorem _root_.Go.Fx.Mid.drop1 {a : Thing} {l : List Thing} (h : Mid w0 F0 (a :: l) w) : Mid w0 F0 l w := h.drop (l1 := [a])
theorem w_look (h : Mid w0 F0 (bkT bk b abs :: relT b arity gone rows :: R) w) (hf : Fine abs gone rows) {m : Nat} (hm : MskOk m) (hma : m < 2 ^ arity) (hn : rows.length ≤ 1048576) {y : List Int} (hy : RowOk y) :
    Calls Tryz.prog 55 #[.pointer (some ⟨bk, 0, none⟩), .int .u32 (m : Int), rowV y] w fun e w' => ∃ v, e = .returned (.tuple #[v, .int .i64 0]) ∧
      Mid w0 F0 (bkT bk b (askAbs abs m rows gone) :: ownT 3 1 v (idsOf m (nums 0 rows) (keyRow m y)).length ((idsOf m (nums 0 rows) (keyRow m y)).map intV) :: relT b arity gone rows :: R) w' := by
  obtain ⟨F, G, hB, hR, hd, ht⟩ := h.turn2
  refine (b_look hB hR hd hf hm hma hn hy).mono ?_
  rintro e w' ⟨v, F', rfl, hB', hs, ho, hv⟩
  exact ⟨v, rfl, Mid.rowTurn ht hB' hs ho hv⟩
theorem w_count (h : Mid w0 F0 (bkT bk b abs :: relT b arity gone rows :: R) w) (hf : Fine abs gone rows) {m : Nat} (hm : MskOk m) (hma : m < 2 ^ arity) (hn : rows.length ≤ 1048576) {y : List Int} (hy : RowOk y) :
    Calls Tryz.prog 54 #[.pointer (some ⟨bk, 0, none⟩), .int .u32 (m : Int), rowV y] w fun e w' => e = .returned (.tuple #[intV ((idsOf m (nums 0 rows) (keyRow m y)).length : Nat), .int .i64 0]) ∧
      Mid w0 F0 (bkT bk b (askAbs abs m rows gone) :: relT b arity gone rows :: R) w' := by
  obtain ⟨F, G, hB, hR, hd, ht⟩ := h.turn2
  refine (b_count hB hR hd hf hm hma hn hy).mono ?_
  rintro e w' ⟨F', rfl, hB', hs⟩
  exact ⟨rfl, ht (t' := bkT bk b (askAbs abs m rows gone)) hB' hs⟩
theorem w_distinct (h : Mid w0 F0 (bkT bk b abs :: relT b arity gone rows :: R) w) (hf : Fine abs gone rows) {m : Nat} (hm : MskOk m) (hma : m < 2 ^ arity) (hn : rows.length ≤ 1048576) :
    Calls Tryz.prog 63 #[.pointer (some ⟨bk, 0, none⟩), .int .u32 (m : Int)] w fun e w' => e = .returned (.tuple #[intV ((keysOf m (nums 0 rows)).length : Nat), .int .i64 0]) ∧
      Mid w0 F0 (bkT bk b (askAbs abs m rows gone) :: relT b arity gone rows :: R) w' := by
  obtain ⟨F, G, hB, hR, hd, ht⟩ := h.turn2
  refine (b_distinct hB hR hd hf hm hma hn).mono ?_
  rintro e w' ⟨F', rfl, hB', hs⟩
  exact ⟨rfl, ht (t' := bkT bk b (askAbs abs m rows gone)) hB' hs⟩
theorem w_look_bad (h : Mid w0 F0 (bkT bk b abs :: relT b arity gone rows :: R) w) {m : Nat} (hm : MskOk m) (hma : ¬ m < 2 ^ arity) {y : List Int} :
    Calls Tryz.prog 55 #[.pointer (some ⟨bk, 0, none⟩), .int .u32 (m : Int), rowV y] w fun e w' => e = .returned (.tuple #[.slice none 0 0, .int .i64 110]) ∧ Mid w0 F0 (bkT bk b abs :: relT b arity gone rows :: R) w' := by
  obtain ⟨F, G, hB, hR, _, _⟩ := h.turn2
  refine (look_badmask hB hR hm hma).mono ?_
  rintro e w' ⟨rfl, hb⟩
  exact ⟨rfl, h.below hb⟩
theorem w_count_bad (h : Mid w0 F0 (bkT bk b abs :: relT b arity gone rows :: R) w) {m : Nat} (hm : MskOk m) (hma : ¬ m < 2 ^ arity) {y : List Int} :
    Calls Tryz.prog 54 #[.pointer (some ⟨bk, 0, none⟩), .int .u32 (m : Int), rowV y] w fun e w' => e = .returned (.tuple #[.int .i64 0, .int .i64 110]) ∧ Mid w0 F0 (bkT bk b abs :: relT b arity gone rows :: R) w' := by
  obtain ⟨F, G, hB, hR, _, _⟩ := h.turn2
  refine (count_badmask hB hR hm hma).mono ?_
  rintro e w' ⟨rfl, hb⟩
  exact ⟨rfl, h.below hb⟩
theorem w_distinct_bad (h : Mid w0 F0 (bkT bk b abs :: relT b arity gone rows :: R) w) {m : Nat} (hm : MskOk m) (hma : ¬ m < 2 ^ arity) :
    Calls Tryz.prog 63 #[.pointer (some ⟨bk, 0, none⟩), .int .u32 (m : Int)] w fun e w' => e = .returned (.tuple #[.int .i64 0, .int .i64 110]) ∧ Mid w0 F0 (bkT bk b abs :: relT b arity gone rows :: R) w' := by
  obtain ⟨F, G, hB, hR, _, _⟩ := h.turn2
  refine (distinct_badmask hB hR hm hma).mono ?_
  rintro e w' ⟨rfl, hb⟩
  exact ⟨rfl, h.below hb⟩
theorem w_masks (h : Mid w0 F0 (bkT bk b abs :: R) w) (ha : abs.length ≤ 16777216) :
    Calls Tryz.prog 65 #[.pointer (some ⟨bk, 0, none⟩)] w fun e w' => ∃ v, e = .returned v ∧ Mid w0 F0 (ownT 61 1 v abs.length ((rising (abs.map (·.1))).map encU) :: bkT bk b abs :: R) w' := by
  obtain ⟨F, hB, _⟩ := h.turn1
  refine (masks_all hB ha).mono ?_
  rintro e w' ⟨v, rfl, ho, hb⟩
  exact ⟨v, rfl, h.row hb ho⟩
theorem w_seen (h : Mid w0 F0 (bkT bk b abs :: R) w) {m : Nat} (hm : MskOk m) : Calls Tryz.prog 69 #[.pointer (some ⟨bk, 0, none⟩), .int .u32 (m : Int)] w fun e w' => e = .returned (.int .i64 (seenN abs m : Nat)) ∧ w' = w := by
  obtain ⟨F, hB, _⟩ := h.turn1
  exact b_seen hB hm
theorem sl_later (h : Mid w0 F0 (docT k arity l :: rowsT lv rows :: R) w) : ∃ D, DocAt w D k arity l ∧ (∀ w', KeptBut D w w' → SlRows w' lv rows) ∧
    ∀ {w' : World} {F' : Nat → Prop} {t' : Thing}, t'.at_ w' F' → Turn w D w' F' → Mid w0 F0 (t' :: rowsT lv rows :: R) w' := by
  obtain ⟨D, G, hD, hR, hd, ht⟩ := h.turn2
  exact ⟨D, hD, fun w' hk => rows_sl ((rowsT lv rows).frame hR fun j hj => hk.block j ((rowsT lv rows).lt hR j hj) fun h => hd j h hj), ht⟩
theorem w_dlook (h : Mid w0 F0 (docT k arity l :: rowsT lv rows :: R) w) (ha : arity ≤ 24) {m : Nat} (hm : MskOk m) (hma : m < 2 ^ arity) (hL : l.length ≤ 4194304) (hn : rows.length ≤ 1048576) {y : List Int} (hy : RowOk y) :
    Calls Tryz.prog 60 #[.pointer (some ⟨k, 0, none⟩), lv, .int .u32 (m : Int), rowV y] w fun e w' => ∃ v, e = .returned (.tuple #[v, .int .i64 0]) ∧
      Mid w0 F0 (docT k arity (askPut m rows.length l) :: ownT 3 1 v (idsOf m (nums 0 rows) (keyRow m y)).length ((idsOf m (nums 0 rows) (keyRow m y)).map intV) :: rowsT lv rows :: R) w' := by
  obtain ⟨D, hD, hl, ht⟩ := sl_later h
  refine (docm_look hD ha hm (holds_bits hma) hL hn hl hy).mono ?_
  rintro e w' ⟨v, D', rfl, hD', hs, ho, hv⟩
  exact ⟨v, rfl, Mid.rowTurn ht (t' := docT k arity (askPut m rows.length l)) hD' hs ho hv⟩
theorem w_dcount (h : Mid w0 F0 (docT k arity l :: rowsT lv rows :: R) w) (ha : arity ≤ 24) {m : Nat} (hm : MskOk m) (hma : m < 2 ^ arity) (hL : l.length ≤ 4194304) (hn : rows.length ≤ 1048576) {y : List Int} (hy : RowOk y) :
    Calls Tryz.prog 62 #[.pointer (some ⟨k, 0, none⟩), lv, .int .u32 (m : Int), rowV y] w fun e w' => e = .returned (.tuple #[.int .i64 ((idsOf m (nums 0 rows) (keyRow m y)).length : Int), .int .i64 0]) ∧
      Mid w0 F0 (docT k arity (askPut m rows.length l) :: rowsT lv rows :: R) w' := by
  obtain ⟨D, hD, hl, ht⟩ := sl_later h
  refine (docm_count hD ha hm (holds_bits hma) hL hn hl hy).mono ?_
  rintro e w' ⟨rfl, D', hD', hs⟩
  exact ⟨rfl, ht (t' := docT k arity (askPut m rows.length l)) hD' hs⟩
theorem w_ddistinct (h : Mid w0 F0 (docT k arity l :: rowsT lv rows :: R) w) (ha : arity ≤ 24) {m : Nat} (hm : MskOk m) (hma : m < 2 ^ arity) (hL : l.length ≤ 4194304) (hn : rows.length ≤ 1048576) :
    Calls Tryz.prog 64 #[.pointer (some ⟨k, 0, none⟩), lv, .int .u32 (m : Int)] w fun e w' => e = .returned (.tuple #[.int .i64 ((keysOf m (nums 0 rows)).length : Int), .int .i64 0]) ∧
      Mid w0 F0 (docT k arity (askPut m rows.length l) :: rowsT lv rows :: R) w' := by
  obtain ⟨D, hD, hl, ht⟩ := sl_later h
  refine (docm_distinct hD ha hm (holds_bits hma) hL hn hl).mono ?_
  rintro e w' ⟨rfl, D', hD', hs⟩
  rw [keyCnt_all]
  exact ⟨rfl, ht (t' := docT k arity (askPut m rows.length l)) hD' hs⟩
theorem w_dlook_bad (h : Mid w0 F0 (docT k arity l :: R) w) (ha : arity ≤ 24) {m : Nat} (hm : MskOk m) (hma : ¬ m < 2 ^ arity) {y : List Int} :
    Calls Tryz.prog 60 #[.pointer (some ⟨k, 0, none⟩), lv, .int .u32 (m : Int), rowV y] w fun e w' => e = .returned (.tuple #[.slice none 0 0, .int .i64 110]) ∧ Mid w0 F0 (docT k arity l :: R) w' := by
  obtain ⟨D, hD, _⟩ := h.turn1
  refine (docm_look_bad hD ha hm (lacks_bits hm hma) lv).mono ?_
  rintro e w' ⟨rfl, hb⟩
  exact ⟨rfl, h.below hb⟩
theorem w_dcount_bad (h : Mid w0 F0 (docT k arity l :: R) w) (ha : arity ≤ 24) {m : Nat} (hm : MskOk m) (hma : ¬ m < 2 ^ arity) {y : List Int} :
    Calls Tryz.prog 62 #[.pointer (some ⟨k, 0, none⟩), lv, .int .u32 (m : Int), rowV y] w fun e w' => e = .returned (.tuple #[.int .i64 0, .int .i64 110]) ∧ Mid w0 F0 (docT k arity l :: R) w' := by
  obtain ⟨D, hD, _⟩ := h.turn1
  refine (docm_count_bad hD ha hm (lacks_bits hm hma) lv).mono ?_
  rintro e w' ⟨rfl, hb⟩
  exact ⟨rfl, h.below hb⟩
theorem w_ddistinct_bad (h : Mid w0 F0 (docT k arity l :: R) w) (ha : arity ≤ 24) {m : Nat} (hm : MskOk m) (hma : ¬ m < 2 ^ arity) :
    Calls Tryz.prog 64 #[.pointer (some ⟨k, 0, none⟩), lv, .int .u32 (m : Int)] w fun e w' => e = .returned (.tuple #[.int .i64 0, .int .i64 110]) ∧ Mid w0 F0 (docT k arity l :: R) w' := by
  obtain ⟨D, hD, _⟩ := h.turn1
  refine (docm_distinct_bad hD ha hm (lacks_bits hm hma) lv).mono ?_
  rintro e w' ⟨rfl, hb⟩
  exact ⟨rfl, h.below hb⟩
theorem w_dmasks (h : Mid w0 F0 (docT k arity l :: R) w) (hL : l.length ≤ 4194304) :
    Calls Tryz.prog 66 #[.pointer (some ⟨k, 0, none⟩)] w fun e w' => ∃ v, e = .returned v ∧ Mid w0 F0 (ownT 61 1 v l.length ((l.map (·.1)).map encU) :: docT k arity l :: R) w' := by
  obtain ⟨D, hD, _⟩ := h.turn1
  refine (docm_masks hD hL).mono ?_
  rintro e w' ⟨v, rfl, ho, hb⟩
  exact ⟨v, rfl, h.row hb ho⟩
theorem w_dseen (h : Mid w0 F0 (docT k arity l :: R) w) (m : Nat) : Calls Tryz.prog 70 #[.pointer (some ⟨k, 0, none⟩), .int .u32 (m : Int)] w fun e w' => e = .returned (.int .i64 (seenOf m l : Int)) ∧ w' = w := by
  obtain ⟨D, hD, _⟩ := h.turn1
  exact docm_seen hD m
end
abbrev toldT (ty : TypeId) (p : Value × Nat) : Thing := rawT ty 1 (p.1, .slice none 0 0, p.2)
def keptS (kb n : Nat) (LI LM : List (Value × Nat)) : List Thing := keptT kb n LI LM :: (LI.map (toldT 3) ++ LM.map (toldT 61))
def Slim (L : List (Value × Nat)) : Prop := ∀ p ∈ L, ∃ a n c, p.1 = .slice a n c ∧ n ≤ 1099511627776
def KIn (B : Nat) (q : Nat × List (Value × Nat) × List (Value × Nat)) : Prop := q.1 ≤ B ∧ q.2.1.length ≤ B ∧ q.2.2.length ≤ B ∧ Slim q.2.1 ∧ Slim q.2.2
def pureT (p : Prop) (t : Thing) : Thing := ⟨fun w F => p ∧ t.at_ w F, fun h => t.lt h.2, fun h hk => ⟨h.1, t.frame h.2 hk⟩⟩
theorem _root_.Go.Fx.Mid.pureElim {p : Prop} {t : Thing} {w0 w : World} {F0 : Nat → Prop} {l : List Thing} (h : Mid w0 F0 (pureT p t :: l) w) : p ∧ Mid w0 F0 (t :: l) w := by
  obtain ⟨M, ⟨F, G, ⟨h1, g1⟩, g2, g3, rfl⟩, h2⟩ := h
  exact ⟨h1, _, ⟨F, G, g1, g2, g3, rfl⟩, h2⟩
theorem _root_.Go.Fx.Mid.pureIntro {p : Prop} {t : Thing} (hp : p) {w0 w : World} {F0 : Nat → Prop} {l : List Thing} (h : Mid w0 F0 (t :: l) w) : Mid w0 F0 (pureT p t :: l) w := h.weaken fun h => ⟨hp, h⟩
def kT (kb B : Nat) : Thing := exT fun q : Nat × List (Value × Nat) × List (Value × Nat) => pureT (KIn B q) (allT (keptS kb q.1 q.2.1 q.2.2))
theorem kT_open {kb B : Nat} {w0 w : World} {F0 : Nat → Prop} {R : List Thing} (h : Mid w0 F0 (kT kb B :: R) w) : ∃ n LI LM, KIn B (n, LI, LM) ∧ Mid w0 F0 (keptS kb n LI LM ++ R) w := by
  obtain ⟨⟨n, LI, LM⟩, h1⟩ := h.exElim
  obtain ⟨h2, h3⟩ := h1.pureElim
  exact ⟨n, LI, LM, h2, h3.unpack⟩
theorem kT_shut {kb B n : Nat} {LI LM : List (Value × Nat)} {w0 w : World} {F0 : Nat → Prop} {R : List Thing} (h : Mid w0 F0 (keptS kb n LI LM ++ R) w) (hk : KIn B (n, LI, LM)) : Mid w0 F0 (kT kb B :: R) w :=
  Mid.exIntro (n, LI, LM) (Mid.pureIntro hk h.pack)
theorem Slim.snoc {L : List (Value × Nat)} (h : Slim L) {a : Option Addr} {n c q : Nat} (hn : n ≤ 1099511627776) : Slim (L ++ [(.slice a n c, q)]) := by
  intro p hp
  rcases List.mem_append.1 hp with hp | hp
  · exact h p hp
  · rw [List.mem_singleton.1 hp]; exact ⟨a, n, c, rfl, hn⟩
theorem told_int {kb B : Nat} {w0 w : World} {F0 : Nat → Prop} {R : List Thing} {v : Value} {n : Nat} {xs : List Value} (h : Mid w0 F0 (kT kb B :: ownT 3 1 v n xs :: R) w) (hB : B ≤ 4194304) (hn : n ≤ 1099511627776) :
    Calls Tryz.prog 61 #[.pointer (some ⟨kb, 0, none⟩), v] w fun e w' => e = .returned (.tuple #[]) ∧ Mid w0 F0 (kT kb (B + 1) :: R) w' := by
  obtain ⟨a, c, rfl⟩ := own_slice0 (h.own mem1)
  obtain ⟨N, LI, LM, ⟨k1, k2, k3, k4, k5⟩, h2⟩ := kT_open h
  replace k1 : N ≤ B := k1
  replace k2 : LI.length ≤ B := k2
  replace k3 : LM.length ≤ B := k3
  obtain ⟨F, hK, ht⟩ := (show Mid w0 F0 (keptT kb N LI LM :: ((LI.map (toldT 3) ++ LM.map (toldT 61)) ++ (ownT 3 1 (.slice a n c) n xs :: R))) w from h2).turn1
  refine (kept_int hK (by omega) (by omega) ⟨a, n, c, rfl⟩).mono ?_
  rintro e w' ⟨F', rfl, hK', hs⟩
  refine ⟨rfl, kT_shut (n := N + 1) (LI := LI ++ [(Value.slice a n c, N + 1)]) (LM := LM) ?_ ⟨by show N + 1 ≤ B + 1; omega, by show (LI ++ [_]).length ≤ _; simp; omega, by show LM.length ≤ _; omega, k4.snoc hn, k5⟩⟩
  have h3 := ht (t' := keptT kb (N + 1) (LI ++ [(Value.slice a n c, N + 1)]) LM) hK' hs
  unfold keptS
  have h4 : Mid w0 F0 (ownT 3 1 (.slice a n c) n xs :: (keptT kb (N + 1) (LI ++ [(Value.slice a n c, N + 1)]) LM :: (LI.map (toldT 3) ++ LM.map (toldT 61)) ++ R)) w' := h3.perm (List.perm_middle (l₁ := keptT kb (N + 1) (LI ++ [(Value.slice a n c, N + 1)]) LM :: (LI.map (toldT 3) ++ LM.map (toldT 61))))
  have h5 : Mid w0 F0 (toldT 3 (Value.slice a n c, N + 1) :: (keptT kb (N + 1) (LI ++ [(Value.slice a n c, N + 1)]) LM :: (LI.map (toldT 3) ++ LM.map (toldT 61)) ++ R)) w' := Mid.exIntro (f := fun q : Nat × List Value => ownT 3 1 (.slice a n c) q.1 q.2) (n, xs) h4
  refine h5.perm ?_
  rw [List.map_append, List.map_cons, List.map_nil, List.cons_append, List.cons_append, List.append_assoc, List.append_assoc, List.append_assoc]
  refine (List.Perm.swap _ _ _).trans (List.Perm.cons _ ?_)
  exact List.perm_middle.symm
theorem told_mask {kb B : Nat} {w0 w : World} {F0 : Nat → Prop} {R : List Thing} {v : Value} {n : Nat} {xs : List Value} (h : Mid w0 F0 (kT kb B :: ownT 61 1 v n xs :: R) w) (hB : B ≤ 4194304) (hn : n ≤ 1099511627776) :
    Calls Tryz.prog 68 #[.pointer (some ⟨kb, 0, none⟩), v] w fun e w' => e = .returned (.tuple #[]) ∧ Mid w0 F0 (kT kb (B + 1) :: R) w' := by
  obtain ⟨a, c, rfl⟩ := own_slice0 (h.own mem1)
  obtain ⟨N, LI, LM, ⟨k1, k2, k3, k4, k5⟩, h2⟩ := kT_open h
  replace k1 : N ≤ B := k1
  replace k2 : LI.length ≤ B := k2
  replace k3 : LM.length ≤ B := k3
  obtain ⟨F, hK, ht⟩ := (show Mid w0 F0 (keptT kb N LI LM :: ((LI.map (toldT 3) ++ LM.map (toldT 61)) ++ (ownT 61 1 (.slice a n c) n xs :: R))) w from h2).turn1
  refine (kept_mask hK (by omega) (by omega) ⟨a, n, c, rfl⟩).mono ?_
  rintro e w' ⟨F', rfl, hK', hs⟩
  refine ⟨rfl, kT_shut (n := N + 1) (LI := LI) (LM := LM ++ [(Value.slice a n c, N + 1)]) ?_ ⟨by show N + 1 ≤ B + 1; omega, by show LI.length ≤ _; omega, by show (LM ++ [_]).length ≤ _; simp; omega, k4, k5.snoc hn⟩⟩
  have h3 := ht (t' := keptT kb (N + 1) LI (LM ++ [(Value.slice a n c, N + 1)])) hK' hs
  unfold keptS
  have h4 : Mid w0 F0 (ownT 61 1 (.slice a n c) n xs :: (keptT kb (N + 1) LI (LM ++ [(Value.slice a n c, N + 1)]) :: (LI.map (toldT 3) ++ LM.map (toldT 61)) ++ R)) w' := h3.perm (List.perm_middle (l₁ := keptT kb (N + 1) LI (LM ++ [(Value.slice a n c, N + 1)]) :: (LI.map (toldT 3) ++ LM.map (toldT 61))))
  have h5 : Mid w0 F0 (toldT 61 (Value.slice a n c, N + 1) :: (keptT kb (N + 1) LI (LM ++ [(Value.slice a n c, N + 1)]) :: (LI.map (toldT 3) ++ LM.map (toldT 61)) ++ R)) w' := Mid.exIntro (f := fun q : Nat × List Value => ownT 61 1 (.slice a n c) q.1 q.2) (n, xs) h4
  refine h5.perm ?_
  rw [List.map_append, List.map_cons, List.map_nil, List.cons_append, List.cons_append, List.append_assoc, List.append_assoc, List.append_assoc]
  refine (List.Perm.swap _ _ _).trans (List.Perm.cons _ ?_)
  rw [← List.append_assoc, ← List.append_assoc]
  exact List.perm_middle.symm
end Go.Proofs.YtckhkfchgcdajaaGreatDoor

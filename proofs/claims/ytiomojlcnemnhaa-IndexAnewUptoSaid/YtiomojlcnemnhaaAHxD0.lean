import Derived.Test.YtiomojlcnemnhaaAHxBb
namespace Go.Proofs.Ytiomojlcnemnhaa
open Go.Fx Go.RowKit
def Rel (w : World) (R : Nat → Prop) (b arity : Nat) (gone : Int) (rows : List (List Int)) : Prop := ∃ pb mb lv, RelAt w b pb mb lv arity gone rows ∧ R = relF b pb mb lv
abbrev Abs := List (Nat × List (Int × List Int) × Int)
def Bk (w : World) (F : Nat → Prop) (bk b : Nat) (abs : Abs) : Prop := ∃ bm ixs, BookAt w bk b bm ixs ∧ ixs.map Ix.abs = abs ∧ F = BookF bk bm ixs
def Fine (abs : Abs) (gone : Int) (rows : List (List Int)) : Prop := ∀ a ∈ abs, a.2.2 ≤ gone ∧ (a.2.2 = gone → a.2.1 = nums 0 (rows.take a.2.1.length))
def Step (w : World) (F : Nat → Prop) (w' : World) (F' : Nat → Prop) : Prop := KeptBut F w w' ∧ ∀ k, F' k → F k ∨ w.heap.size ≤ k
theorem Rel.lt {w : World} {R : Nat → Prop} {b arity : Nat} {gone : Int} {rows : List (List Int)} (h : Rel w R b arity gone rows) {k : Nat} (hk : R k) : k < w.heap.size := by
  obtain ⟨pb, mb, lv, h, rfl⟩ := h
  exact h.lt k hk
theorem Rel.frame {w w' : World} {R : Nat → Prop} {b arity : Nat} {gone : Int} {rows : List (List Int)} (h : Rel w R b arity gone rows) (hk : ∀ k, R k → w'.heap[k]? = w.heap[k]?) : Rel w' R b arity gone rows := by
  obtain ⟨pb, mb, lv, h, rfl⟩ := h
  exact ⟨pb, mb, lv, h.frame hk, rfl⟩
theorem Rel.below {w w' : World} {R : Nat → Prop} {b arity : Nat} {gone : Int} {rows : List (List Int)} (h : Rel w R b arity gone rows) (hb : Below w.heap.size w w') : Rel w' R b arity gone rows := h.frame fun k hk => hb.block k (h.lt hk)
theorem Bk.lt {w : World} {F : Nat → Prop} {bk b : Nat} {abs : Abs} (h : Bk w F bk b abs) {k : Nat} (hk : F k) : k < w.heap.size := by
  obtain ⟨bm, ixs, h, _, rfl⟩ := h
  exact h.lt k hk
theorem Bk.frame {w w' : World} {F : Nat → Prop} {bk b : Nat} {abs : Abs} (h : Bk w F bk b abs) (hk : ∀ k, F k → w'.heap[k]? = w.heap[k]?) : Bk w' F bk b abs := by
  obtain ⟨bm, ixs, h, e, rfl⟩ := h
  exact ⟨bm, ixs, h.frame hk, e, rfl⟩
theorem Bk.below {w w' : World} {F : Nat → Prop} {bk b : Nat} {abs : Abs} (h : Bk w F bk b abs) (hb : Below w.heap.size w w') : Bk w' F bk b abs := h.frame fun k hk => hb.block k (h.lt hk)
theorem Step.block {w w' : World} {F F' : Nat → Prop} (h : Step w F w' F') {k : Nat} (hk : k < w.heap.size) (hn : ¬ F k) : w'.heap[k]? = w.heap[k]? ∧ ¬ F' k ∧ k < w'.heap.size :=
  ⟨h.1.block k hk hn, fun h' => (h.2 k h').elim hn (by omega), Nat.lt_of_lt_of_le hk h.1.size⟩
theorem Step.below {w w1 w2 : World} {F F' : Nat → Prop} (h : Step w F w1 F') (hb : Below w1.heap.size w1 w2) : Step w F w2 F' := ⟨h.1.trans (KeptBut.of_below (M := fun _ => False) hb) fun _ h => h.elim, h.2⟩
theorem Step.before {w w1 w2 : World} {F F' : Nat → Prop} (h : Step w1 F w2 F') (hb : Below w.heap.size w w1) : Step w F w2 F' := ⟨(KeptBut.of_below hb).trans h.1 fun _ h => .inr h, fun k hk => (h.2 k hk).imp_right fun h => Nat.le_trans hb.size h⟩
theorem Step.trans {w w1 w2 : World} {F F1 F2 : Nat → Prop} (h : Step w F w1 F1) (h2 : Step w1 F1 w2 F2) : Step w F w2 F2 :=
  ⟨h.1.trans h2.1 fun k hk => (h.2 k hk).symm, fun k hk => (h2.2 k hk).elim (h.2 k) fun h' => .inr (Nat.le_trans h.1.size h')⟩
theorem Step.rel {w w' : World} {F F' R : Nat → Prop} {b arity : Nat} {gone : Int} {rows : List (List Int)} (h : Step w F w' F') (hR : Rel w R b arity gone rows) (hd : ∀ k, F k → ¬ R k) : Rel w' R b arity gone rows ∧ ∀ k, F' k → ¬ R k :=
  ⟨hR.frame fun k hk => (h.block (hR.lt hk) fun hf => hd k hf hk).1, fun k hf hk => (h.block (hR.lt hk) fun hf => hd k hf hk).2.1 hf⟩
theorem Step.bk {w w' : World} {F R R' : Nat → Prop} {bk b : Nat} {abs : Abs} (h : Step w R w' R') (hB : Bk w F bk b abs) (hd : ∀ k, F k → ¬ R k) : Bk w' F bk b abs ∧ ∀ k, F k → ¬ R' k :=
  ⟨hB.frame fun k hk => (h.block (hB.lt hk) (hd k hk)).1, fun k hk hr => (h.block (hB.lt hk) (hd k hk)).2.1 hr⟩
theorem Fine.nil (gone : Int) (rows : List (List Int)) : Fine [] gone rows := fun _ h => by cases h
theorem nums_take_all (rows : List (List Int)) : nums 0 (rows.take (nums 0 rows).length) = nums 0 rows := by rw [nums_len, List.take_length]
theorem Fine.ask {abs : Abs} {gone : Int} {rows : List (List Int)} (h : Fine abs gone rows) (m : Nat) : Fine (askAbs abs m rows gone) gone rows := by
  intro a ha
  unfold askAbs at ha
  split at ha
  · obtain ⟨c, hc, rfl⟩ := List.mem_map.1 ha
    split
    · exact ⟨Int.le_refl _, fun _ => (nums_take_all rows).symm⟩
    · exact h c hc
  · rcases List.mem_append.1 ha with ha | ha
    · exact h a ha
    · obtain rfl := List.mem_singleton.1 ha
      exact ⟨Int.le_refl _, fun _ => (nums_take_all rows).symm⟩
theorem Fine.add {abs : Abs} {gone : Int} {rows : List (List Int)} (h : Fine abs gone rows) (x : List Int) : Fine abs gone (rows ++ [x]) := by
  intro a ha
  refine ⟨(h a ha).1, fun e => ?_⟩
  have h1 := (h a ha).2 e
  have h2 : a.2.1.length ≤ rows.length := by
    have := congrArg List.length h1
    rw [nums_len, List.length_take] at this
    omega
  rw [List.take_append_of_le_length h2]
  exact h1
section
variable {w : World} {R F : Nat → Prop} {bk b arity : Nat} {gone : Int} {rows : List (List Int)} {abs : Abs}
theorem Fine.pre {bm : Nat} {ixs : List Ix} (h : Fine (ixs.map Ix.abs) gone rows) (m : Nat) : ∀ x ∈ ixs, x.m = m → x.gone = gone → x.took = nums 0 (rows.take x.took.length) := fun x hx _ hg => (h _ (List.mem_map.2 ⟨x, hx, rfl⟩)).2 hg
theorem b_look (hB : Bk w F bk b abs) (hR : Rel w R b arity gone rows) (hd : ∀ k, F k → ¬ R k) (hf : Fine abs gone rows) {m : Nat} (hm : MskOk m) (hma : m < 2 ^ arity) (hn : rows.length ≤ 1048576) {y : List Int} (hy : RowOk y) :
    Calls Try.prog 17 #[.pointer (some ⟨bk, 0, none⟩), .int .u32 (m : Int), rowV y] w fun e w' => ∃ v F', e = .returned (.tuple #[v, .int .i64 0]) ∧ Bk w' F' bk b (askAbs abs m rows gone) ∧ Step w F w' F' ∧
      w'.ownsRow w.heap.size 3 1 v (idsOf m (nums 0 rows) (keyRow m y)).length ((idsOf m (nums 0 rows) (keyRow m y)).map intV) ∧ (∀ k, v.ownBlock = some k → ¬ F' k) := by
  obtain ⟨pb, mb, lv, hR, rfl⟩ := hR
  obtain ⟨bm, ixs, hB, rfl, rfl⟩ := hB
  refine (look_calls hB hR hd hm hma hn (Fine.pre (bm := bm) hf m) hy).mono ?_
  rintro e w' ⟨v, ixs', rfl, ⟨h1, h2, h3, h4⟩, h5, h6⟩
  exact ⟨v, _, rfl, ⟨bm, ixs', h1, h2, rfl⟩, ⟨h3, h4⟩, h5, h6⟩
theorem b_count (hB : Bk w F bk b abs) (hR : Rel w R b arity gone rows) (hd : ∀ k, F k → ¬ R k) (hf : Fine abs gone rows) {m : Nat} (hm : MskOk m) (hma : m < 2 ^ arity) (hn : rows.length ≤ 1048576) {y : List Int} (hy : RowOk y) :
    Calls Try.prog 18 #[.pointer (some ⟨bk, 0, none⟩), .int .u32 (m : Int), rowV y] w fun e w' => ∃ F', e = .returned (.tuple #[intV ((idsOf m (nums 0 rows) (keyRow m y)).length : Nat), .int .i64 0]) ∧ Bk w' F' bk b (askAbs abs m rows gone) ∧ Step w F w' F' := by
  obtain ⟨pb, mb, lv, hR, rfl⟩ := hR
  obtain ⟨bm, ixs, hB, rfl, rfl⟩ := hB
  refine (count_calls hB hR hd hm hma hn (Fine.pre (bm := bm) hf m) hy).mono ?_
  rintro e w' ⟨ixs', rfl, ⟨h1, h2, h3, h4⟩⟩
  exact ⟨_, rfl, ⟨bm, ixs', h1, h2, rfl⟩, ⟨h3, h4⟩⟩
theorem b_distinct (hB : Bk w F bk b abs) (hR : Rel w R b arity gone rows) (hd : ∀ k, F k → ¬ R k) (hf : Fine abs gone rows) {m : Nat} (hm : MskOk m) (hma : m < 2 ^ arity) (hn : rows.length ≤ 1048576) :
    Calls Try.prog 20 #[.pointer (some ⟨bk, 0, none⟩), .int .u32 (m : Int)] w fun e w' => ∃ F', e = .returned (.tuple #[intV ((keysOf m (nums 0 rows)).length : Nat), .int .i64 0]) ∧ Bk w' F' bk b (askAbs abs m rows gone) ∧ Step w F w' F' := by
  obtain ⟨pb, mb, lv, hR, rfl⟩ := hR
  obtain ⟨bm, ixs, hB, rfl, rfl⟩ := hB
  refine (distinct_calls hB hR hd hm hma hn (Fine.pre (bm := bm) hf m)).mono ?_
  rintro e w' ⟨ixs', rfl, ⟨h1, h2, h3, h4⟩⟩
  exact ⟨_, rfl, ⟨bm, ixs', h1, h2, rfl⟩, ⟨h3, h4⟩⟩
theorem b_len (hR : Rel w R b arity gone rows) : Calls Try.prog 15 #[.pointer (some ⟨b, 0, none⟩)] w fun e w' => e = .returned (.int .i64 (rows.length : Nat)) ∧ w' = w := by
  obtain ⟨pb, mb, lv, hR, rfl⟩ := hR
  obtain ⟨hl, ⟨rfl, h0⟩ | ⟨g, cap, cur, rfl, _⟩⟩ := hR.own
  · rw [h0]
    exact len_same hR.cells
  · exact len_same hR.cells
theorem b_at (hR : Rel w R b arity gone rows) {i : Nat} (hi : i < rows.length) : Calls Try.prog 16 #[.pointer (some ⟨b, 0, none⟩), .int .i64 (i : Int)] w fun e w' => e = .returned (.tuple #[rowV rows[i], .int .i64 0]) ∧ Below w.heap.size w w' := by
  obtain ⟨pb, mb, lv, hR, rfl⟩ := hR
  exact at_calls hR hi
def addRow (rows : List (List Int)) (x : List Int) : List (List Int) := if x ∈ rows then rows else rows ++ [x]
theorem b_add (hR : Rel w R b arity gone rows) {x : List Int} (hx : RowOk x) (hr : rightRow arity x = true) (hn : rows.length ≤ 1048576) :
    Calls Try.prog 24 #[.pointer (some ⟨b, 0, none⟩), rowV x] w fun e w' => ∃ t R', e = .returned (.tuple #[.bool t, .int .i64 0]) ∧ Rel w' R' b arity gone (addRow rows x) ∧ Step w R w' R' := by
  have hlt := fun k => hR.lt (k := k)
  obtain ⟨pb, mb, lv, hR, rfl⟩ := hR
  unfold addRow
  by_cases hin : x ∈ rows
  · rw [if_pos hin]
    refine (add_in hR hx hr hin).mono ?_
    rintro e w' ⟨rfl, hb⟩
    exact ⟨_, _, rfl, ⟨pb, mb, lv, hR.below hb, rfl⟩, KeptBut.of_below hb, fun k hk => .inl hk⟩
  · rw [if_neg hin]
    refine (add_new hR hx hr hin hn).mono ?_
    rintro e w' ⟨rfl, lv', h1, h2, h3⟩
    exact ⟨_, _, rfl, ⟨pb, mb, lv', h1, rfl⟩, h2, h3⟩
theorem b_new {w : World} {arity : Nat} (ha : arity ≤ 24) : Calls Try.prog 45 #[.int .i64 (arity : Int)] w fun e w' => ∃ b R, e = .returned (.tuple #[.pointer (some ⟨b, 0, none⟩), .int .i64 0]) ∧ Rel w' R b arity 0 [] ∧ Below w.heap.size w w' ∧ (∀ k, R k → w.heap.size ≤ k) := by
  refine (new_calls ha).mono ?_
  rintro e w' ⟨b, pb, mb, rfl, h1, h2, h3⟩
  exact ⟨b, _, rfl, ⟨pb, mb, _, h1, rfl⟩, h2, h3⟩
end
end Go.Proofs.Ytiomojlcnemnhaa

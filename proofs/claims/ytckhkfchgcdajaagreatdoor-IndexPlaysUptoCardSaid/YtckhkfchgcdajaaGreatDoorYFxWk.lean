import Derived.Test.YtckhkfchgcdajaaGreatDoorYFxB
namespace Go.Fx
open Go.RowKit
def Turn (w : World) (F : Nat → Prop) (w' : World) (F' : Nat → Prop) : Prop := KeptBut F w w' ∧ ∀ k, F' k → F k ∨ w.heap.size ≤ k
theorem Turn.refl (w : World) (F : Nat → Prop) : Turn w F w F := ⟨KeptBut.refl _ _, fun _ h => .inl h⟩
theorem Turn.trans {w w1 w2 : World} {F F1 F2 : Nat → Prop} (h : Turn w F w1 F1) (h2 : Turn w1 F1 w2 F2) : Turn w F w2 F2 :=
  ⟨h.1.trans h2.1 fun k hk => (h.2 k hk).symm, fun k hk => (h2.2 k hk).elim (h.2 k) fun h' => .inr (Nat.le_trans h.1.size h')⟩
theorem Turn.of_below {w w' : World} (F : Nat → Prop) (h : Below w.heap.size w w') : Turn w F w' F := ⟨KeptBut.of_below h, fun _ h => .inl h⟩
theorem Turn.below {w w' : World} {F' : Nat → Prop} (h : Turn w (fun _ => False) w' F') : Below w.heap.size w w' := h.1.below
theorem Turn.fresh {w w' : World} {F' : Nat → Prop} (h : Turn w (fun _ => False) w' F') : ∀ k, F' k → w.heap.size ≤ k := fun k hk => (h.2 k hk).elim (fun h => h.elim) id
theorem Turn.block {w w' : World} {F F' : Nat → Prop} (h : Turn w F w' F') {k : Nat} (hk : k < w.heap.size) (hn : ¬ F k) : w'.heap[k]? = w.heap[k]? ∧ ¬ F' k ∧ k < w'.heap.size :=
  ⟨h.1.block k hk hn, fun h' => (h.2 k h').elim hn (by omega), Nat.lt_of_lt_of_le hk h.1.size⟩
structure Thing where
  at_ : World → (Nat → Prop) → Prop
  lt : ∀ {w F}, at_ w F → ∀ k, F k → k < w.heap.size
  frame : ∀ {w w' F}, at_ w F → (∀ k, F k → w'.heap[k]? = w.heap[k]?) → at_ w' F
def All : List Thing → World → (Nat → Prop) → Prop
  | [], _, M => M = fun _ => False
  | t :: l, w, M => ∃ F G, t.at_ w F ∧ All l w G ∧ (∀ k, F k → ¬ G k) ∧ M = fun k => F k ∨ G k
theorem All.lt : ∀ {l : List Thing} {w : World} {M : Nat → Prop}, All l w M → ∀ k, M k → k < w.heap.size
  | [], _, _, h, k, hk => by have h : _ = _ := h; subst h; exact hk.elim
  | t :: l, w, M, ⟨F, G, h1, h2, _, e⟩, k, hk => by subst e; exact hk.elim (t.lt h1 k) (All.lt h2 k)
theorem All.frame : ∀ {l : List Thing} {w w' : World} {M : Nat → Prop}, All l w M → (∀ k, M k → w'.heap[k]? = w.heap[k]?) → All l w' M
  | [], _, _, _, h, _ => h
  | t :: l, w, w', M, ⟨F, G, h1, h2, h3, e⟩, hk => by subst e; exact ⟨F, G, t.frame h1 fun k h => hk k (.inl h), All.frame h2 fun k h => hk k (.inr h), h3, rfl⟩
theorem All.below {l : List Thing} {w w' : World} {M : Nat → Prop} (h : All l w M) (hb : Below w.heap.size w w') : All l w' M := h.frame fun k hk => hb.block k (h.lt k hk)
def allT (l : List Thing) : Thing := ⟨All l, fun h => h.lt, fun h hk => h.frame hk⟩
theorem All.nil (w : World) : All [] w fun _ => False := rfl
theorem All.one {t : Thing} {w : World} {F : Nat → Prop} (h : t.at_ w F) : All [t] w F := ⟨F, _, h, rfl, fun _ _ h => h, by funext k; exact propext ⟨.inl, fun h => h.elim id False.elim⟩⟩
theorem All.of_one {t : Thing} {w : World} {F : Nat → Prop} (h : All [t] w F) : t.at_ w F := by
  obtain ⟨F1, G, h1, h2, _, rfl⟩ := h
  have h2 : G = _ := h2
  subst h2
  have : (fun k => F1 k ∨ False) = F1 := by funext k; exact propext ⟨fun h => h.elim id False.elim, .inl⟩
  rw [this]
  exact h1
theorem All.append : ∀ {l l' : List Thing} {w : World} {F G : Nat → Prop}, All l w F → All l' w G → (∀ k, F k → ¬ G k) → All (l ++ l') w fun k => F k ∨ G k
  | [], l', w, F, G, h1, h2, _ => by
    have h1 : F = _ := h1
    subst h1
    have : (fun k => False ∨ G k) = G := by funext k; exact propext ⟨fun h => h.elim False.elim id, .inr⟩
    rw [this]
    exact h2
  | t :: l, l', w, F, G, ⟨F1, F2, h1, h2, h3, e⟩, h4, h5 => by
    subst e
    refine ⟨F1, _, h1, All.append h2 h4 fun k hk => h5 k (.inr hk), ?_, ?_⟩
    · rintro k hk (h | h)
      · exact h3 k hk h
      · exact h5 k (.inl hk) h
    · funext k; exact propext or_assoc
theorem All.split : ∀ {l l' : List Thing} {w : World} {M : Nat → Prop}, All (l ++ l') w M → ∃ F G, All l w F ∧ All l' w G ∧ (∀ k, F k → ¬ G k) ∧ M = fun k => F k ∨ G k
  | [], l', w, M, h => ⟨_, M, rfl, h, fun _ h => h.elim, by funext k; exact propext ⟨.inr, fun h => h.elim False.elim id⟩⟩
  | t :: l, l', w, M, ⟨F1, F2, h1, h2, h3, e⟩ => by
    subst e
    obtain ⟨G1, G2, g1, g2, g3, rfl⟩ := All.split h2
    refine ⟨_, G2, ⟨F1, G1, h1, g1, fun k hk hg => h3 k hk (.inl hg), rfl⟩, g2, ?_, ?_⟩
    · rintro k (h | h)
      · exact fun hg => h3 k h (.inr hg)
      · exact g3 k h
    · funext k; exact propext or_assoc.symm
theorem All.perm {l l' : List Thing} (hp : l.Perm l') : ∀ {w : World} {M : Nat → Prop}, All l w M → All l' w M := by
  induction hp with
  | nil => exact fun h => h
  | cons t _ ih => rintro w M ⟨F, G, h1, h2, h3, e⟩; exact ⟨F, G, h1, ih h2, h3, e⟩
  | swap a b l =>
    rintro w M ⟨F, _, h1, ⟨F2, G, h2, h4, h5, rfl⟩, h3, e⟩
    refine ⟨F2, _, h2, ⟨F, G, h1, h4, fun k hk hg => h3 k hk (.inr hg), rfl⟩, ?_, ?_⟩
    · rintro k hk (h | h)
      · exact h3 k h (.inl hk)
      · exact h5 k hk h
    · rw [e]; funext k; exact propext or_left_comm
  | trans _ _ ih1 ih2 => exact fun h => ih2 (ih1 h)
theorem All.get {l : List Thing} {t : Thing} (ht : t ∈ l) {w : World} {M : Nat → Prop} (h : All l w M) : ∃ F, t.at_ w F ∧ ∀ k, F k → M k := by
  induction l generalizing M with
  | nil => cases ht
  | cons u l ih =>
    obtain ⟨F, G, h1, h2, h3, rfl⟩ := h
    rcases List.mem_cons.1 ht with rfl | ht
    · exact ⟨F, h1, fun k => .inl⟩
    · obtain ⟨F', g1, g2⟩ := ih ht h2
      exact ⟨F', g1, fun k hk => .inr (g2 k hk)⟩
theorem All.turn {l1' l2 : List Thing} {w w' : World} {F F' G : Nat → Prop} (h1 : All l1' w' F') (h2 : All l2 w G) (hd : ∀ k, F k → ¬ G k) (ht : Turn w F w' F') :
    All (l1' ++ l2) w' (fun k => F' k ∨ G k) ∧ Turn w (fun k => F k ∨ G k) w' (fun k => F' k ∨ G k) := by
  refine ⟨All.append h1 (h2.frame fun k hk => (ht.block (h2.lt k hk) fun hf => hd k hf hk).1) fun k hk hg => (ht.block (h2.lt k hg) fun hf => hd k hf hg).2.1 hk, ht.1.mono fun k => .inl, ?_⟩
  rintro k (h | h)
  · exact (ht.2 k h).imp_left .inl
  · exact .inl (.inr h)
def Mid (w0 : World) (F0 : Nat → Prop) (l : List Thing) (w : World) : Prop := ∃ M, All l w M ∧ Turn w0 F0 w M
theorem Mid.start {l : List Thing} {w : World} {F : Nat → Prop} (h : All l w F) : Mid w F l w := ⟨F, h, Turn.refl _ _⟩
theorem Mid.empty (w : World) : Mid w (fun _ => False) [] w := ⟨_, All.nil w, Turn.refl _ _⟩
theorem Mid.below {w0 w w' : World} {F0 : Nat → Prop} {l : List Thing} (h : Mid w0 F0 l w) (hb : Below w.heap.size w w') : Mid w0 F0 l w' := by
  obtain ⟨M, h1, h2⟩ := h
  exact ⟨M, h1.below hb, h2.trans (Turn.of_below M hb)⟩
theorem Mid.perm {w0 w : World} {F0 : Nat → Prop} {l l' : List Thing} (h : Mid w0 F0 l w) (hp : l.Perm l') : Mid w0 F0 l' w := by
  obtain ⟨M, h1, h2⟩ := h
  exact ⟨M, h1.perm hp, h2⟩
theorem Mid.get {w0 w : World} {F0 : Nat → Prop} {l : List Thing} {t : Thing} (h : Mid w0 F0 l w) (ht : t ∈ l) : ∃ F, t.at_ w F := by
  obtain ⟨M, h1, _⟩ := h
  obtain ⟨F, g, _⟩ := h1.get ht
  exact ⟨F, g⟩
theorem Mid.turn {w0 w : World} {F0 : Nat → Prop} {l1 l2 : List Thing} (h : Mid w0 F0 (l1 ++ l2) w) : ∃ F, All l1 w F ∧ ∀ {w' : World} {F' : Nat → Prop} {l1' : List Thing}, All l1' w' F' → Turn w F w' F' → Mid w0 F0 (l1' ++ l2) w' := by
  obtain ⟨M, h1, h2⟩ := h
  obtain ⟨F, G, g1, g2, g3, rfl⟩ := h1.split
  refine ⟨F, g1, fun h' ht => ?_⟩
  have := All.turn h' g2 g3 ht
  exact ⟨_, this.1, h2.trans this.2⟩
theorem Mid.sub {w0 w : World} {F0 : Nat → Prop} {l1 l2 : List Thing} (h : Mid w0 F0 (l1 ++ l2) w) : ∃ F, Mid w F l1 w ∧ ∀ {w' : World} {l1' : List Thing}, Mid w F l1' w' → Mid w0 F0 (l1' ++ l2) w' := by
  obtain ⟨F, g1, g2⟩ := h.turn
  exact ⟨F, Mid.start g1, fun ⟨_, k1, k2⟩ => g2 k1 k2⟩
theorem Mid.drop {w0 w : World} {F0 : Nat → Prop} {l1 l2 : List Thing} (h : Mid w0 F0 (l1 ++ l2) w) : Mid w0 F0 l2 w := by
  obtain ⟨M, h1, h2⟩ := h
  obtain ⟨F, G, g1, g2, g3, rfl⟩ := h1.split
  exact ⟨G, g2, h2.1, fun k hk => h2.2 k (.inr hk)⟩
theorem Mid.more {w0 w w' : World} {F0 F : Nat → Prop} {l l' : List Thing} (h : Mid w0 F0 l w) (hb : Below w.heap.size w w') (hn : All l' w' F) (hF : ∀ k, F k → w.heap.size ≤ k) : Mid w0 F0 (l' ++ l) w' := by
  have h' : Mid w0 F0 ([] ++ l) w := h
  obtain ⟨F1, g1, g2⟩ := h'.turn
  have g1 : F1 = _ := g1
  subst g1
  exact g2 hn ⟨KeptBut.of_below hb, fun k hk => .inr (hF k hk)⟩
theorem Mid.wasBelow {w0 w : World} {l : List Thing} (h : Mid w0 (fun _ => False) l w) : Below w0.heap.size w0 w := by
  obtain ⟨M, _, h2⟩ := h
  exact h2.below
theorem Mid.size {w0 w : World} {F0 : Nat → Prop} {l : List Thing} (h : Mid w0 F0 l w) : w0.heap.size ≤ w.heap.size := by
  obtain ⟨M, _, h2⟩ := h
  exact h2.1.size
theorem Mid.block {w0 w : World} {F0 : Nat → Prop} {l : List Thing} (h : Mid w0 F0 l w) {k : Nat} (hk : k < w0.heap.size) (hn : ¬ F0 k) : w.heap[k]? = w0.heap[k]? := by
  obtain ⟨M, _, h2⟩ := h
  exact (h2.block hk hn).1
theorem Mid.out {w0 w : World} {F0 : Nat → Prop} {l : List Thing} (h : Mid w0 F0 l w) : ∃ M, All l w M ∧ Turn w0 F0 w M := h
theorem Mid.turn2 {w0 w : World} {F0 : Nat → Prop} {t u : Thing} {l : List Thing} (h : Mid w0 F0 (t :: u :: l) w) :
    ∃ F G, t.at_ w F ∧ u.at_ w G ∧ (∀ k, F k → ¬ G k) ∧ ∀ {w' : World} {F' : Nat → Prop} {t' : Thing}, t'.at_ w' F' → Turn w F w' F' → Mid w0 F0 (t' :: u :: l) w' := by
  have h' : Mid w0 F0 ([t] ++ (u :: l)) w := h
  have hu := h'.out
  obtain ⟨M, h1, h2⟩ := hu
  obtain ⟨F, G, g1, ⟨F2, G2, k1, k2, k3, rfl⟩, g3, rfl⟩ := h1
  refine ⟨F, F2, g1, k1, fun k hk hg => g3 k hk (.inl hg), fun ht' hT => ?_⟩
  have hrest : All (u :: l) w (fun k => F2 k ∨ G2 k) := ⟨F2, G2, k1, k2, k3, rfl⟩
  have := All.turn (All.one ht') hrest g3 hT
  exact ⟨_, this.1, h2.trans this.2⟩
theorem Mid.turn1 {w0 w : World} {F0 : Nat → Prop} {t : Thing} {l : List Thing} (h : Mid w0 F0 (t :: l) w) :
    ∃ F, t.at_ w F ∧ ∀ {w' : World} {F' : Nat → Prop} {t' : Thing}, t'.at_ w' F' → Turn w F w' F' → Mid w0 F0 (t' :: l) w' := by
  have h' : Mid w0 F0 ([t] ++ l) w := h
  obtain ⟨F, g1, g2⟩ := h'.turn
  exact ⟨F, g1.of_one, fun ht hT => g2 (All.one ht) hT⟩
theorem Mid.pack {w0 w : World} {F0 : Nat → Prop} {l1 l2 : List Thing} (h : Mid w0 F0 (l1 ++ l2) w) : Mid w0 F0 (allT l1 :: l2) w := by
  obtain ⟨M, h1, h2⟩ := h
  obtain ⟨F, G, g1, g2, g3, rfl⟩ := h1.split
  exact ⟨_, ⟨F, G, g1, g2, g3, rfl⟩, h2⟩
theorem Mid.unpack {w0 w : World} {F0 : Nat → Prop} {l1 l2 : List Thing} (h : Mid w0 F0 (allT l1 :: l2) w) : Mid w0 F0 (l1 ++ l2) w := by
  obtain ⟨M, ⟨F, G, g1, g2, g3, rfl⟩, h2⟩ := h
  exact ⟨_, All.append g1 g2 g3, h2⟩
theorem Mid.done {w0 w : World} {F0 : Nat → Prop} {t : Thing} {l : List Thing} (h : Mid w0 F0 (t :: l) w) : ∃ F', t.at_ w F' ∧ Turn w0 F0 w F' := by
  obtain ⟨M, ⟨F, G, g1, g2, g3, rfl⟩, h2⟩ := h
  exact ⟨F, g1, h2.1, fun k hk => h2.2 k (.inl hk)⟩
theorem Mid.weaken {w0 w : World} {F0 : Nat → Prop} {t t' : Thing} {l : List Thing} (h : Mid w0 F0 (t :: l) w) (ht : ∀ {F}, t.at_ w F → t'.at_ w F) : Mid w0 F0 (t' :: l) w := by
  obtain ⟨M, ⟨F, G, g1, g2, g3, rfl⟩, h2⟩ := h
  exact ⟨_, ⟨F, G, ht g1, g2, g3, rfl⟩, h2⟩
def cellsT (k : Nat) (cs : List Value) (ty : TypeId) : Thing where
  at_ w F := w.heap[k]? = some (.cells cs.toArray ty (0, 0)) ∧ F = fun j => j = k
  lt := by
    rintro w F ⟨h, rfl⟩ j rfl
    exact (Array.getElem?_eq_some_iff.1 h).1
  frame := by
    rintro w w' F ⟨h, rfl⟩ hk
    exact ⟨(hk k rfl).trans h, rfl⟩
def ownT (ty : TypeId) (size : Nat) (v : Value) (n : Nat) (xs : List Value) : Thing where
  at_ w F := w.ownsRow 0 ty size v n xs ∧ F = fun k => v.ownBlock = some k
  lt := by
    rintro w F ⟨h, rfl⟩ k hk
    exact (h.lt k hk).2
  frame := by
    rintro w w' F ⟨h, rfl⟩ hk
    refine ⟨⟨h.1, h.2.imp_right ?_⟩, rfl⟩
    rintro ⟨g, cap, cur, rfl, h2, h3, h4⟩
    exact ⟨g, cap, cur, rfl, h2, (hk g rfl).trans h3, h4⟩
theorem Mid.cells {w0 w : World} {F0 : Nat → Prop} {l : List Thing} {k : Nat} {cs : List Value} {ty : TypeId} (h : Mid w0 F0 l w) (hm : cellsT k cs ty ∈ l) : w.heap[k]? = some (.cells cs.toArray ty (0, 0)) := by
  obtain ⟨F, h, _⟩ := h.get hm
  exact h
theorem Mid.own {w0 w : World} {F0 : Nat → Prop} {l : List Thing} {ty : TypeId} {size : Nat} {v : Value} {n : Nat} {xs : List Value} (h : Mid w0 F0 l w) (hm : ownT ty size v n xs ∈ l) : w.ownsRow 0 ty size v n xs := by
  obtain ⟨F, h, _⟩ := h.get hm
  exact h
theorem Mid.alloc {w0 w : World} {F0 : Nat → Prop} {l : List Thing} (h : Mid w0 F0 l w) (cs : List Value) (ty : TypeId) : Mid w0 F0 (cellsT w.heap.size cs ty :: l) (w.alloc (.cells cs.toArray ty)) := by
  refine h.more (l' := [cellsT w.heap.size cs ty]) (F := fun k => k = w.heap.size) ((Below.refl _ _).alloc (Nat.le_refl _) _) (All.one ⟨heap_alloc_new w _, rfl⟩) ?_
  rintro k rfl
  exact Nat.le_refl _
theorem ownsRow_base {w : World} {base size n : Nat} {e : TypeId} {v : Value} {xs : List Value} (h : w.ownsRow base e size v n xs) : w.ownsRow 0 e size v n xs :=
  ⟨h.1, h.2.imp_right fun ⟨g, cap, cur, h1, _, h3⟩ => ⟨g, cap, cur, h1, Nat.zero_le _, h3⟩⟩
theorem Mid.row {w0 w w' : World} {F0 : Nat → Prop} {l : List Thing} (h : Mid w0 F0 l w) (hb : Below w.heap.size w w') {ty : TypeId} {size : Nat} {v : Value} {n : Nat} {xs : List Value} (hr : w'.ownsRow w.heap.size ty size v n xs) : Mid w0 F0 (ownT ty size v n xs :: l) w' :=
  h.more (l' := [ownT ty size v n xs]) (F := fun k => v.ownBlock = some k) hb (All.one ⟨ownsRow_base hr, rfl⟩) fun k hk => (hr.lt k hk).1
theorem Mid.rowTurn {w0 w w' : World} {F0 F F' : Nat → Prop} {t' : Thing} {l : List Thing} (h : ∀ {w' : World} {F' : Nat → Prop} {t' : Thing}, t'.at_ w' F' → Turn w F w' F' → Mid w0 F0 (t' :: l) w') (ht : t'.at_ w' F') (hT : Turn w F w' F')
    {ty : TypeId} {size : Nat} {v : Value} {n : Nat} {xs : List Value} (hr : w'.ownsRow w.heap.size ty size v n xs) (hd : ∀ k, v.ownBlock = some k → ¬ F' k) : Mid w0 F0 (t' :: ownT ty size v n xs :: l) w' := by
  have h2 : All [ownT ty size v n xs, t'] w' fun k => v.ownBlock = some k ∨ F' k := ⟨_, F', ⟨ownsRow_base hr, rfl⟩, All.one ht, hd, rfl⟩
  have h3 := h (t' := allT [ownT ty size v n xs, t']) h2 ⟨hT.1, fun k hk => hk.elim (fun h => .inr (hr.lt k h).1) (hT.2 k)⟩
  exact h3.unpack.perm (List.Perm.swap ..)
end Go.Fx

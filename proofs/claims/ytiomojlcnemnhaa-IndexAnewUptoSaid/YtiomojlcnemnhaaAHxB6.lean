import Derived.Test.YtiomojlcnemnhaaAHxB5
namespace Go.Proofs.Ytiomojlcnemnhaa
open Go.Fx Go.RowKit
structure BookAt (w : World) (bk b bm : Nat) (ixs : List Ix) : Prop where
  hb : w.heap[bk]? = some (.cells #[.pointer (some ⟨b, 0, none⟩), .map (some bm)] 104 (0, 0))
  hm : MMapAt w bm (ixs.map fun x => (x.m, .pointer (some ⟨x.rb, 0, none⟩)))
  ix : ∀ x ∈ ixs, IxAt w x x.took.length
  sep : ixs.Pairwise fun x y => ∀ k, IxF x k → ¬ IxF y k
  ne : bk ≠ bm
  nb : ∀ x ∈ ixs, ¬ IxF x bk ∧ ¬ IxF x bm
def BookF (bk bm : Nat) (ixs : List Ix) (k : Nat) : Prop := k = bk ∨ k = bm ∨ ∃ x ∈ ixs, IxF x k
theorem BookAt.lt {w : World} {bk b bm : Nat} {ixs : List Ix} (h : BookAt w bk b bm ixs) : ∀ k, BookF bk bm ixs k → k < w.heap.size := by
  rintro k (rfl | rfl | ⟨x, hx, hk⟩)
  · exact (Array.getElem?_eq_some_iff.1 h.hb).1
  · exact h.hm.lt
  · exact (h.ix x hx).lt k hk
theorem BookAt.frame {w w' : World} {bk b bm : Nat} {ixs : List Ix} (h : BookAt w bk b bm ixs) (hb : ∀ k, BookF bk bm ixs k → w'.heap[k]? = w.heap[k]?) : BookAt w' bk b bm ixs :=
  { h with
    hb := (hb _ (.inl rfl)).trans h.hb
    hm := h.hm.frame (hb _ (.inr (.inl rfl)))
    ix := fun x hx => (h.ix x hx).frame fun k hk => hb k (.inr (.inr ⟨x, hx, hk⟩)) }
theorem BookAt.below {w w' : World} {bk b bm : Nat} {ixs : List Ix} (h : BookAt w bk b bm ixs) (hb : Below w.heap.size w w') : BookAt w' bk b bm ixs := h.frame fun k hk => hb.block k (h.lt k hk)
def Ix.abs (x : Ix) : Nat × List (Int × List Int) × Int := (x.m, x.took, x.gone)
theorem BookAt.nodup {w : World} {bk b bm : Nat} {ixs : List Ix} (h : BookAt w bk b bm ixs) : (ixs.map (·.m)).Nodup := by
  obtain ⟨_, _, _, _, _, h4, _⟩ := h.hm
  rw [List.map_map] at h4
  exact h4
theorem BookAt.look {w : World} {bk b bm : Nat} {ixs : List Ix} (h : BookAt w bk b bm ixs) (m : Nat) :
    (∃ l1 x l2, ixs = l1 ++ x :: l2 ∧ x.m = m ∧ lookKV (ixs.map fun x => (x.m, Value.pointer (some ⟨x.rb, 0, none⟩))) m = some (.pointer (some ⟨x.rb, 0, none⟩))) ∨
    (m ∉ ixs.map (·.m) ∧ lookKV (ixs.map fun x => (x.m, Value.pointer (some ⟨x.rb, 0, none⟩))) m = none) := by
  have hf : (ixs.map fun x => (x.m, Value.pointer (some ⟨x.rb, 0, none⟩))).map (·.1) = ixs.map (·.m) := by rw [List.map_map]; rfl
  by_cases hm : m ∈ ixs.map (·.m)
  · left
    obtain ⟨x, hx, rfl⟩ := List.mem_map.1 hm
    obtain ⟨l1, l2, e⟩ := List.append_of_mem hx
    refine ⟨l1, x, l2, e, rfl, ?_⟩
    exact look_of_mem (by rw [hf]; exact h.nodup) (List.mem_map.2 ⟨x, hx, rfl⟩)
  · right
    refine ⟨hm, look_none (by rw [hf]; exact hm)⟩
theorem BookAt.turn {w w' : World} {bk b bm : Nat} {l1 l2 : List Ix} {x x' : Ix} (h : BookAt w bk b bm (l1 ++ x :: l2)) (hm : x'.m = x.m) (hrb : x'.rb = x.rb) (hi : IxAt w' x' x'.took.length) (hk : KeptBut (IxF x) w w')
    (hf : ∀ k, IxF x' k → IxF x k ∨ w.heap.size ≤ k) :
    BookAt w' bk b bm (l1 ++ x' :: l2) ∧ KeptBut (BookF bk bm (l1 ++ x :: l2)) w w' ∧ (∀ k, BookF bk bm (l1 ++ x' :: l2) k → BookF bk bm (l1 ++ x :: l2) k ∨ w.heap.size ≤ k) := by
  have hx : x ∈ l1 ++ x :: l2 := by simp
  have hlt := h.lt
  have hsep := h.sep
  rw [List.pairwise_append] at hsep
  obtain ⟨s1, s2, s3⟩ := hsep
  rw [List.pairwise_cons] at s2
  have hother : ∀ y ∈ l1 ++ l2, ∀ k, IxF y k → ¬ IxF x k := fun y hy k h1 h2 => by
    rcases List.mem_append.1 hy with hy | hy
    · exact s3 y hy x (List.mem_cons_self ..) k h1 h2
    · exact s2.1 y hy k h2 h1
  have hmem : ∀ y, y ∈ l1 ++ x :: l2 ↔ y = x ∨ y ∈ l1 ++ l2 := fun y => by simp only [List.mem_append, List.mem_cons]; constructor <;> (intro h; rcases h with h | h | h <;> simp [h])
  have hmem' : ∀ y, y ∈ l1 ++ x' :: l2 ↔ y = x' ∨ y ∈ l1 ++ l2 := fun y => by simp only [List.mem_append, List.mem_cons]; constructor <;> (intro h; rcases h with h | h | h <;> simp [h])
  have hnew : ∀ y ∈ l1 ++ l2, ∀ k, IxF y k → ¬ IxF x' k := fun y hy k h1 h2 => by
    rcases hf k h2 with h2 | h2
    · exact hother y hy k h1 h2
    · have := (h.ix y ((hmem y).2 (.inr hy))).lt k h1
      omega
  refine ⟨⟨?_, ?_, ?_, ?_, h.ne, ?_⟩, hk.mono fun k hk => .inr (.inr ⟨x, hx, hk⟩), ?_⟩
  · rw [hk.block bk (hlt bk (.inl rfl)) (h.nb x hx).1]; exact h.hb
  · have e : ((l1 ++ x' :: l2).map fun x => (x.m, Value.pointer (some ⟨x.rb, 0, none⟩))) = (l1 ++ x :: l2).map fun x => (x.m, Value.pointer (some ⟨x.rb, 0, none⟩)) := by
      rw [List.map_append, List.map_append, List.map_cons, List.map_cons, hm, hrb]
    show MMapAt w' bm ((l1 ++ x' :: l2).map fun x => (x.m, Value.pointer (some ⟨x.rb, 0, none⟩)))
    rw [e]
    exact h.hm.frame (hk.block bm (hlt bm (.inr (.inl rfl))) (h.nb x hx).2)
  · intro y hy
    rcases (hmem' y).1 hy with rfl | hy
    · exact hi
    · have h1 := h.ix y ((hmem y).2 (.inr hy))
      exact h1.frame fun k hk' => hk.block k (h1.lt k hk') (hother y hy k hk')
  · rw [List.pairwise_append]
    refine ⟨s1, ?_, ?_⟩
    · rw [List.pairwise_cons]
      exact ⟨fun y hy k h1 h2 => hnew y (List.mem_append_right _ hy) k h2 h1, s2.2⟩
    · intro y hy z hz
      rcases List.mem_cons.1 hz with rfl | hz
      · exact hnew y (List.mem_append_left _ hy)
      · exact s3 y hy z (List.mem_cons_of_mem _ hz)
  · intro y hy
    rcases (hmem' y).1 hy with rfl | hy
    · refine ⟨fun h1 => ?_, fun h1 => ?_⟩
      · rcases hf _ h1 with h1 | h1
        · exact (h.nb x hx).1 h1
        · have := hlt bk (.inl rfl); omega
      · rcases hf _ h1 with h1 | h1
        · exact (h.nb x hx).2 h1
        · have := hlt bm (.inr (.inl rfl)); omega
    · exact h.nb y ((hmem y).2 (.inr hy))
  · rintro k (hk | hk | ⟨y, hy, hk⟩)
    · exact .inl (.inl hk)
    · exact .inl (.inr (.inl hk))
    · rcases (hmem' y).1 hy with rfl | hy
      · rcases hf k hk with hk | hk
        · exact .inl (.inr (.inr ⟨x, hx, hk⟩))
        · exact .inr hk
      · exact .inl (.inr (.inr ⟨y, (hmem y).2 (.inr hy), hk⟩))
theorem BookAt.more {w w' : World} {bk b bm : Nat} {ixs : List Ix} {x : Ix} (h : BookAt w bk b bm ixs) (hn : x.m ∉ ixs.map (·.m)) (hm : MMapAt w' bm (putKV (ixs.map fun x => (x.m, .pointer (some ⟨x.rb, 0, none⟩))) x.m (.pointer (some ⟨x.rb, 0, none⟩))))
    (hi : IxAt w' x x.took.length) (hk : KeptBut (fun k => k = bm) w w') (hf : ∀ k, IxF x k → w.heap.size ≤ k) :
    BookAt w' bk b bm (ixs ++ [x]) ∧ KeptBut (BookF bk bm ixs) w w' ∧ (∀ k, BookF bk bm (ixs ++ [x]) k → BookF bk bm ixs k ∨ w.heap.size ≤ k) := by
  have hlt := h.lt
  have hfst : (ixs.map fun x => (x.m, Value.pointer (some ⟨x.rb, 0, none⟩))).map (·.1) = ixs.map (·.m) := by rw [List.map_map]; rfl
  refine ⟨⟨?_, ?_, ?_, ?_, h.ne, ?_⟩, hk.mono fun k hk => .inr (.inl hk), ?_⟩
  · rw [hk.block bk (hlt bk (.inl rfl)) h.ne]; exact h.hb
  · unfold putKV at hm
    rw [hfst, if_neg hn] at hm
    show MMapAt w' bm ((ixs ++ [x]).map fun x => (x.m, Value.pointer (some ⟨x.rb, 0, none⟩)))
    rw [List.map_append]
    exact hm
  · intro y hy
    rcases List.mem_append.1 hy with hy | hy
    · have h1 := h.ix y hy
      exact h1.frame fun k hk' => hk.block k (h1.lt k hk') fun e => (h.nb y hy).2 (e ▸ hk')
    · rw [List.mem_singleton.1 hy]; exact hi
  · rw [List.pairwise_append]
    refine ⟨h.sep, List.pairwise_singleton _ _, ?_⟩
    intro y hy z hz k h1 h2
    rw [List.mem_singleton.1 hz] at h2
    have := hf k h2
    have := (h.ix y hy).lt k h1
    omega
  · intro y hy
    rcases List.mem_append.1 hy with hy | hy
    · exact h.nb y hy
    · rw [List.mem_singleton.1 hy]
      refine ⟨fun h1 => ?_, fun h1 => ?_⟩
      · have := hf _ h1; have := hlt bk (.inl rfl); omega
      · have := hf _ h1; have := hlt bm (.inr (.inl rfl)); omega
  · rintro k (hk | hk | ⟨y, hy, hk⟩)
    · exact .inl (.inl hk)
    · exact .inl (.inr (.inl hk))
    · rcases List.mem_append.1 hy with hy | hy
      · exact .inl (.inr (.inr ⟨y, hy, hk⟩))
      · rw [List.mem_singleton.1 hy] at hk; exact .inr (hf k hk)
end Go.Proofs.Ytiomojlcnemnhaa

import Derived.Test.YtiomojlcnemnhaaNHxE8
namespace Go.Proofs.Ytiomojlcnemnhaa
open Go.Fx Go.RowKit Go.Maps Go.Sort
def Kept (w : World) (kb : Nat) (F : Nat → Prop) (n : Nat) (LI LM : List (Value × Nat)) : Prop :=
  ∃ vI vM, w.heap[kb]? = some (.cells (keepCells n vI vM).toArray 88 (0, 0)) ∧ w.ownsRow (kb + 1) 259 3 vI LI.length (heldV LI) ∧ w.ownsRow (kb + 1) 261 3 vM LM.length (heldV LM) ∧ (∀ g, vI.ownBlock = some g → vM.ownBlock ≠ some g) ∧
    F = fun k => k = kb ∨ vI.ownBlock = some k ∨ vM.ownBlock = some k
theorem own_ge {w : World} {base size n : Nat} {e : TypeId} {v : Value} {xs : List Value} (h : w.ownsRow base e size v n xs) {k : Nat} (hk : v.ownBlock = some k) : base ≤ k := by
  rcases h.2 with ⟨rfl, _⟩ | ⟨g, cap, cur, rfl, hg, _⟩
  · cases hk
  · simp only [Value.ownBlock, Option.some.injEq] at hk
    exact hk ▸ hg
theorem Kept.lt {w : World} {kb : Nat} {F : Nat → Prop} {n : Nat} {LI LM : List (Value × Nat)} (h : Kept w kb F n LI LM) {k : Nat} (hk : F k) : k < w.heap.size := by
  obtain ⟨vI, vM, h1, h2, h3, h4, rfl⟩ := h
  rcases hk with rfl | hk | hk
  · exact (Array.getElem?_eq_some_iff.1 h1).1
  · exact own_lt h2 hk
  · exact own_lt h3 hk
theorem Kept.frame {w w' : World} {kb : Nat} {F : Nat → Prop} {n : Nat} {LI LM : List (Value × Nat)} (h : Kept w kb F n LI LM) (hb : ∀ k, F k → w'.heap[k]? = w.heap[k]?) : Kept w' kb F n LI LM := by
  obtain ⟨vI, vM, h1, h2, h3, h4, rfl⟩ := h
  exact ⟨vI, vM, (hb kb (.inl rfl)).trans h1, ownsRow_of_block h2 fun k hk => hb k (.inr (.inl hk)), ownsRow_of_block h3 fun k hk => hb k (.inr (.inr hk)), h4, rfl⟩
theorem Kept.below {w w' : World} {kb : Nat} {F : Nat → Prop} {n : Nat} {LI LM : List (Value × Nat)} (h : Kept w kb F n LI LM) (hb : Below w.heap.size w w') : Kept w' kb F n LI LM := h.frame fun k hk => hb.block k (h.lt hk)
theorem kept_int {w : World} {kb : Nat} {F : Nat → Prop} {n : Nat} {LI LM : List (Value × Nat)} (h : Kept w kb F n LI LM) (hn : n < 4611686018427387904) (hL : LI.length ≤ 4194304) {l : Value} (hl : ∃ a m c, l = .slice a m c) :
    Calls Try.prog 53 #[.pointer (some ⟨kb, 0, none⟩), l] w fun e w' => ∃ F', e = .returned (.tuple #[]) ∧ Kept w' kb F' (n + 1) (LI ++ [(l, n + 1)]) LM ∧ Step w F w' F' := by
  obtain ⟨vI, vM, h1, h2, h3, h4, rfl⟩ := h
  have hlt := (Array.getElem?_eq_some_iff.1 h1).1
  go_enter Try.func53, Try.ntmps53
  obtain ⟨la, lm, lc, rfl⟩ := hl
  go_wp2_with fail
  refine (keepInt_calls h1 h2 (by omega) (fun e => by have := own_ge h2 e; omega) hn hL ⟨la, lm, lc, rfl⟩).mono ?_
  rintro e w' ⟨vI', rfl, g1, g2, g3, g4⟩
  go_wp2_with fail
  go_end0
  refine ⟨_, rfl, ⟨vI', vM, g1, g2, ?_, ?_, rfl⟩, ?_, ?_⟩
  · refine ownsRow_of_block h3 fun k hk => g3.block k (own_lt h3 hk) ?_
    rintro (rfl | hc)
    · have := own_ge h3 hk; omega
    · exact h4 k hc hk
  · intro g hg hm
    rcases g4 with e | ⟨g', e, hge⟩
    · rw [e] at hg; exact h4 g hg hm
    · rw [e] at hg
      injection hg with hg
      have := own_lt h3 hm
      omega
  · exact g3.mono fun k hk => hk.elim .inl fun h => .inr (.inl h)
  · rintro k (rfl | hk | hk)
    · exact .inl (.inl rfl)
    · rcases g4 with e | ⟨g', e, hge⟩
      · rw [e] at hk; exact .inl (.inr (.inl hk))
      · rw [e] at hk
        injection hk with hk
        exact .inr (hk ▸ hge)
    · exact .inl (.inr (.inr hk))
theorem kept_mask {w : World} {kb : Nat} {F : Nat → Prop} {n : Nat} {LI LM : List (Value × Nat)} (h : Kept w kb F n LI LM) (hn : n < 4611686018427387904) (hL : LM.length ≤ 4194304) {l : Value} (hl : ∃ a m c, l = .slice a m c) :
    Calls Try.prog 57 #[.pointer (some ⟨kb, 0, none⟩), l] w fun e w' => ∃ F', e = .returned (.tuple #[]) ∧ Kept w' kb F' (n + 1) LI (LM ++ [(l, n + 1)]) ∧ Step w F w' F' := by
  obtain ⟨vI, vM, h1, h2, h3, h4, rfl⟩ := h
  have hlt := (Array.getElem?_eq_some_iff.1 h1).1
  go_enter Try.func57, Try.ntmps57
  obtain ⟨la, lm, lc, rfl⟩ := hl
  go_wp2_with fail
  refine (keepMask_calls h1 h3 (by omega) (fun e => by have := own_ge h3 e; omega) hn hL ⟨la, lm, lc, rfl⟩).mono ?_
  rintro e w' ⟨vM', rfl, g1, g2, g3, g4⟩
  go_wp2_with fail
  go_end0
  refine ⟨_, rfl, ⟨vI, vM', g1, ?_, g2, ?_, rfl⟩, ?_, ?_⟩
  · refine ownsRow_of_block h2 fun k hk => g3.block k (own_lt h2 hk) ?_
    rintro (rfl | hc)
    · have := own_ge h2 hk; omega
    · exact h4 k hk hc
  · intro g hg hm
    rcases g4 with e | ⟨g', e, hge⟩
    · rw [e] at hm; exact h4 g hg hm
    · rw [e] at hm
      injection hm with hm
      have := own_lt h2 hg
      omega
  · exact g3.mono fun k hk => hk.elim .inl fun h => .inr (.inr h)
  · rintro k (rfl | hk | hk)
    · exact .inl (.inl rfl)
    · exact .inl (.inr (.inl hk))
    · rcases g4 with e | ⟨g', e, hge⟩
      · rw [e] at hk; exact .inl (.inr (.inr hk))
      · rw [e] at hk
        injection hk with hk
        exact .inr (hk ▸ hge)
end Go.Proofs.Ytiomojlcnemnhaa

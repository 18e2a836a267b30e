import Derived.Test.YtiomojlcnemnhaaNHxEa
namespace Go.Proofs.Ytiomojlcnemnhaa
open Go.Fx Go.RowKit Go.Maps Go.Sort
theorem wpList_load_row_g {P : Program} {ops : Array Oper} {Q : Exit → Act → World → Prop} {rest : List Oper} {o : Oper} {a : Act} {w : World} (hw : Region.wanted o (yielded ops a.tmps) = true) (ty : TypeId) (x : Operand) (ho : o.op = .load ty x)
    (g : Nat) (hx : a.eval x = .pointer (some ⟨g, 0, none⟩)) (t : TypeId) (cs : Array Value) (fr : Nat × Nat) (d : TypeDesc) (hg : w.heap[g]? = some (.cells cs t fr))
    (hu : P.underlying ty = some d) (hd : (match d with | .struct _ | .array _ _ => true | _ => false) = true) (hi : (P.info? ty).map (·.size) = some cs.size)
    (h : wpList P ops Q rest (a.put o.dst (.agg cs)) w) : wpList P ops Q (o :: rest) a w := by
  unfold wpList
  rw [if_pos hw]
  exact .inl (wp_load_row ty x ho g hx t cs fr d hg hu hd hi h)
structure NoneAt (N kb n : Nat) (C : List Value) (F : Nat → Prop) (LI LM : List (Value × Nat)) (w0 w : World) : Prop where
  c : w.heap[N]? = some (.cells C.toArray 55 (0, 0))
  q : Kept w kb F n LI LM
  b : Below w0.heap.size w0 w
  f : ∀ k, F k → w0.heap.size ≤ k
  nf : ¬ F N
theorem NoneAt.below {N kb n : Nat} {C : List Value} {F : Nat → Prop} {LI LM : List (Value × Nat)} {w0 w w' : World} (h : NoneAt N kb n C F LI LM w0 w) (hb : Below w.heap.size w w') : NoneAt N kb n C F LI LM w0 w' :=
  ⟨(hb.block N (Array.getElem?_eq_some_iff.1 h.c).1).trans h.c, h.q.below hb, h.b.trans (hb.mono h.b.size), h.f, h.nf⟩
theorem NoneAt.step {N kb n n' : Nat} {C : List Value} {F F' : Nat → Prop} {LI LM LI' LM' : List (Value × Nat)} {w0 w w' : World} (h : NoneAt N kb n C F LI LM w0 w) (hq : Kept w' kb F' n' LI' LM') (hs : Step w F w' F') : NoneAt N kb n' C F' LI' LM' w0 w' := by
  have h1 := hs.block (Array.getElem?_eq_some_iff.1 h.c).1 h.nf
  have h2 := own_step h.b h.f hs
  exact ⟨h1.1.trans h.c, hq, h2.1, h2.2, h1.2.1⟩
set_option maxRecDepth 100000 in
set_option maxHeartbeats 4000000 in
theorem none_calls {w : World} {kind on book : Int} {m : Nat} {row : List Int} (hrow : RowOk row) (hm : MskOk m) :
    Calls Try.prog 5 #[.agg (opV kind on book m row).toArray] w fun e w' => e = .returned (.bool true) ∧ Below w.heap.size w w' := by
  have hsz : (Try.prog.info? 55).map (·.size) = some (opV kind on book m row).toArray.size := by
    have : (Try.prog.info? 55).map (·.size) = some 28 := by kernel_rfl
    rw [this]; simp [opV, hrow.1]
  go_enter Try.func5, Try.ntmps5
  go_wp2_with fail
  obtain ⟨w1, hw1⟩ : ∃ w1, w1 = w.alloc (.cells (opV kind on book m row).toArray 55) := ⟨_, rfl⟩
  have hb1 : Below w.heap.size w w1 := by rw [hw1]; exact (Below.refl _ w).alloc (Nat.le_refl _) _
  have hN1 : w1.heap[w.heap.size]? = some (.cells (opV kind on book m row).toArray 55 (0, 0)) := by rw [hw1]; exact heap_alloc_new w _
  have hs1 : w1.heap.size = w.heap.size + 1 := by rw [hw1]; exact alloc_size w _
  rw [← hw1]
  have hA : NoneAt w.heap.size (w.heap.size + 1) 0 (opV kind on book m row) (fun k => k = w.heap.size + 1 ∨ (Value.slice none 0 0).ownBlock = some k ∨ (Value.slice none 0 0).ownBlock = some k) [] [] w (w1.alloc (.cells (keepCells 0 (.slice none 0 0) (.slice none 0 0)).toArray 88)) := by
    have hb2 := (Below.refl w1.heap.size w1).alloc (Nat.le_refl _) (.cells (keepCells 0 (.slice none 0 0) (.slice none 0 0)).toArray 88)
    refine ⟨(hb2.block _ (by omega)).trans hN1, ⟨_, _, ?_, World.ownsRow_nil _ _ _ _, World.ownsRow_nil _ _ _ _, (fun g h => by cases h), rfl⟩, hb1.trans (hb2.mono hb1.size), ?_, ?_⟩
    · have := heap_alloc_new w1 (.cells (keepCells 0 (.slice none 0 0) (.slice none 0 0)).toArray 88)
      rw [hs1] at this
      exact this
    · rintro k (rfl | h | h)
      · omega
      · cases h
      · cases h
    · rintro (h | h | h)
      · omega
      · cases h
      · cases h
  replace hA : NoneAt w.heap.size (w.heap.size + 1) 0 (opV kind on book m row) (fun k => k = w.heap.size + 1 ∨ (Value.slice none 0 0).ownBlock = some k ∨ (Value.slice none 0 0).ownBlock = some k) [] [] w (w1.alloc (.cells #[.int .i64 0, .slice none 0 0, .slice none 0 0, .slice none 0 0, .slice none 0 0, .slice none 0 0, .slice none 0 0, .slice none 0 0, .slice none 0 0,
      .slice none 0 0, .slice none 0 0, .slice none 0 0, .slice none 0 0, .slice none 0 0, .slice none 0 0, .slice none 0 0, .slice none 0 0, .slice none 0 0, .slice none 0 0, .slice none 0 0, .slice none 0 0, .slice none 0 0, .slice none 0 0, .slice none 0 0,
      .slice none 0 0, .slice none 0 0, .slice none 0 0, .slice none 0 0, .slice none 0 0, .slice none 0 0, .slice none 0 0, .slice none 0 0] 88)) := hA
  clear hb1 hN1 hs1 hw1
  generalize w1.alloc _ = w2 at *
  generalize (fun k => k = w.heap.size + 1 ∨ (Value.slice none 0 0).ownBlock = some k ∨ (Value.slice none 0 0).ownBlock = some k) = F at *
  refine (open_none (.inl rfl)).mono ?_
  rintro e w3 ⟨rfl, hb3⟩
  replace hA := hA.below hb3
  clear hb3 w1 w2
  go_wp2_with fail
  have hb4 := (Below.refl w3.heap.size w3).alloc (Nat.le_refl _) (.cells #[.int .i64 0, .int .i64 0, .pointer none] 93)
  have hN4 := heap_alloc_new w3 (.cells #[.int .i64 0, .int .i64 0, .pointer none] 93)
  have hA4 := hA.below hb4
  generalize w3.alloc (.cells #[.int .i64 0, .int .i64 0, .pointer none] 93) = w4 at *
  refine (open_none (.inr ⟨w3.heap.size, rfl, by simp [World.cell?, hN4]⟩)).mono ?_
  rintro e w5 ⟨rfl, hb5⟩
  have hA5 := hA4.below hb5
  clear hA hA4 hb4 hb5 hN4
  have hb6 := (Below.refl w5.heap.size w5).alloc (Nat.le_refl _) (.cells #[.bool false, .int .i64 0, .slice none 0 0] 98)
  have hd6 : NoDoc (w5.alloc (.cells #[.bool false, .int .i64 0, .slice none 0 0] 98)) w5.heap.size := heap_alloc_new w5 _
  have hA6 := hA5.below hb6
  have hc6 := hA6.c
  clear hA5 hb6
  go_wp2_with (refine wpList_load_row rfl 55 _ rfl w.heap.size rfl 55 _ (0, 0) _ hc6 Try.underlying55 rfl hsz ?_)
  generalize w5.alloc (.cells #[.bool false, .int .i64 0, .slice none 0 0] 98) = w6 at *
  refine (asks_none (.inl rfl) hd6 hA6.q (by omega) (by simp) (by simp) hrow hm).mono ?_
  rintro e w7 ⟨rfl, F1, n1, LI1, LM1, hq1, hs1, hn1, hI1, hM1⟩
  have hA7 := hA6.step hq1 hs1
  clear hA6 hq1 hs1 hc6 hd6
  have hb8 := (Below.refl w7.heap.size w7).alloc (Nat.le_refl _) (.cells #[.pointer none, .map none] 104)
  have hN8 := heap_alloc_new w7 (.cells #[.pointer none, .map none] 104)
  have hs8 := alloc_size w7 (.cells #[.pointer none, .map none] 104)
  have hA8 := hA7.below hb8
  clear hA7 hb8
  obtain ⟨w8, hw8⟩ : ∃ w8, w8 = w7.alloc (.cells #[.pointer none, .map none] 104) := ⟨_, rfl⟩
  rw [← hw8] at hN8 hA8 hs8
  have hb9 := (Below.refl w8.heap.size w8).alloc (Nat.le_refl _) (.cells #[.bool false, .int .i64 0, .slice none 0 0] 98)
  have hd9 : NoDoc (w8.alloc (.cells #[.bool false, .int .i64 0, .slice none 0 0] 98)) w8.heap.size := heap_alloc_new w8 _
  have hA9 := hA8.below hb9
  have hv9 : NoBk (w8.alloc (.cells #[.bool false, .int .i64 0, .slice none 0 0] 98)) (.pointer (some ⟨w7.heap.size, 0, none⟩)) := .inr ⟨w7.heap.size, rfl, (hb9.block _ (by omega)).trans hN8⟩
  have hc9 := hA9.c
  rw [hs8] at hd9
  rw [hw8] at hd9 hc9 hv9 hA9
  clear hA8 hb9 hN8 hs8 hw8
  go_wp2_with (refine wpList_load_row_g (by rfl) 55 _ rfl w.heap.size rfl 55 _ (0, 0) _ hc9 Try.underlying55 rfl hsz ?_)
  generalize (w7.alloc (.cells #[.pointer none, .map none] 104)).alloc (.cells #[.bool false, .int .i64 0, .slice none 0 0] 98) = w9 at *
  refine (asks_none hv9 hd9 hA9.q (by omega) (by simp at hI1; omega) (by simp at hM1; omega) hrow hm).mono ?_
  rintro e w10 ⟨rfl, F2, n2, LI2, LM2, hq2, hs2, -, -, -⟩
  have hA10 := hA9.step hq2 hs2
  clear hA9 hq2 hs2 hc9 hd9 hv9
  go_wp2_with fail
  refine lives_calls.mono ?_
  rintro e w11 ⟨rfl, hb11⟩
  have hA11 := (hA10.below hb11).b
  go_wp2_with fail
  exact bodyPost_ret (v := .bool true) (by simp [results, Try.results5, go_sem]) rfl ⟨rfl, hA11⟩
end Go.Proofs.Ytiomojlcnemnhaa

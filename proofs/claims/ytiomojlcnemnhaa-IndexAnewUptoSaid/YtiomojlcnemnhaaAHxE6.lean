import Derived.Test.YtiomojlcnemnhaaAHxE5
namespace Go.Proofs.Ytiomojlcnemnhaa
open Go.Fx Go.RowKit Go.Maps Go.Sort
attribute [local go_sem] Oper.semAt_some
theorem info33 : (Try.prog.info? 33).map (fun i => (i.zero, i.size, i.bytes)) = some (some (.int .u32 0), 1, 4) := by kernel_rfl
def AppI (w : World) (Bs : Nat) (ss : List Nat) (W : World) : Prop := ∃ v, W.heap[Bs]? = some (.cells #[v] 109 (0, 0)) ∧ W.ownsRow (Bs + 1) 33 1 v ss.length (ss.map encU) ∧ (v = .slice none 0 0 ↔ ss = []) ∧ Below Bs w W
theorem AppI.own {w : World} {Bs B : Nat} (hB : Bs + 1 ≤ B) : OwnFrom B (AppI w Bs) := by
  rintro ss W W' row ⟨v, h1, h2, h3, h4⟩ hg hr
  refine ⟨v, ?_, ?_, h3, h4.grown hg (Nat.le_of_lt (Array.getElem?_eq_some_iff.1 h1).1) fun k e => ?_⟩
  · exact (hg.block Bs (Array.getElem?_eq_some_iff.1 h1).1 fun e => by have := (hr Bs e.symm).1; omega).trans h1
  · refine ownsRow_of_block h2 fun k hk => hg.block k (own_lt h2 hk) fun e => ?_
    obtain ⟨_, o, ho, hc⟩ := hr k e.symm
    rcases h2.2 with ⟨rfl, _⟩ | ⟨g, cap, cur, rfl, _, hg2, _⟩
    · cases hk
    · simp only [Value.ownBlock, Option.some.injEq] at hk
      subst hk
      rw [hg2] at ho
      cases ho
      cases hc
  · have := (hr k e).1
    omega
set_option maxRecDepth 100000 in
set_option maxHeartbeats 2000000 in
theorem append_masks {w : World} {B : Nat} {S : List Nat → Prop} {N : Nat} (hN : N ≤ 16777216) (hseq : ∀ n, SeqStopsK (FW none) n Try.prog 107 #[.pointer (some ⟨B, 0, none⟩)] (fun x : Nat => #[encU x]) KeepsWalks S (fun _ => True) N w) :
    Calls Try.prog 130 #[.slice none 0 0, .func (.func 107) #[] #[.pointer (some ⟨B, 0, none⟩)]] w fun e w' => ∃ v ss, e = .returned v ∧ S ss ∧ w'.ownsRow w.heap.size 33 1 v ss.length (ss.map encU) ∧ (v = .slice none 0 0 ↔ ss = []) ∧ Below w.heap.size w w' := by
  refine callsIn_wide.1 (callsIn_of_wp_marks (n := 5) Try.func130 rfl trivial ?_)
  simp only [Try.ntmps130, List.size_toArray, List.length_cons, List.length_nil, Nat.reduceAdd, Nat.reduceSub, Array.replicate_succ, Array.replicate_zero, List.push_toArray, List.append_toArray, List.nil_append, List.cons_append]
  refine wpIn_wide.2 ?_
  go_wp2_with fail
  have hb0 : Below w.heap.size w (w.alloc (.cells #[.slice none 0 0] 109)) := (Below.refl _ w).alloc (Nat.le_refl _) _
  have hN0 := heap_alloc_new w (.cells #[.slice none 0 0] 109)
  have hs0 := alloc_size w (.cells #[.slice none 0 0] 109)
  generalize w.alloc (.cells #[.slice none 0 0] 109) = w0 at *
  obtain ⟨i0, hi0, hz0, hz1, hz2⟩ := info_parts info33
  refine (wpIn_wide (n := 5)).1 ?_
  refine wpIn_rangeFunc_ownG (F := FW none) (α := Nat) rfl (by decide) (gf := 107) (lb := #[.pointer (some ⟨B, 0, none⟩)]) rfl trivial (enters_of Try.func107 (by kernel_rfl) rfl) (hseq 4) (fun h h' => h.trans h') walksK_b hb0 (fun _ => rfl)
    (AppI w w.heap.size) (fun _ _ _ => False) (AppI.own (by omega)) (fun _ _ _ _ _ h _ _ => h) ⟨_, hN0, World.ownsRow_nil _ _ _ _, by simp, hb0⟩
    (fun x => { tmps := #[.slice none 0 0, .func (.func 107) #[] #[.pointer (some ⟨B, 0, none⟩)], .pointer (some ⟨w.heap.size, 0, none⟩), undef, .slice none 0 0, encU x, .func (.func 107) #[] #[.pointer (some ⟨B, 0, none⟩)], encU x, undef, undef, undef, undef, undef], defers := [] }) ?assign ?body ?done ?stop
  case stop =>
    rintro D c pre W _ _ h _
    exact h.elim
  case assign =>
    intro l x W K hK
    gi_wp2
    exact hK
  case body =>
    rintro l pre x W ⟨v, h1, h2, h3, h4⟩ hpl
    have c2 : W.cell? ⟨w.heap.size, 0, none⟩ = some v := by simp [World.cell?, h1]
    have hlt := (Array.getElem?_eq_some_iff.1 h1).1
    refine wpIn_block ?_
    refine wpIn_region_of_list (rd := some l) (fun ⟨_, _, h⟩ => h) (fun o ho c hc => by simp only [List.mem_cons, List.not_mem_nil, or_false] at ho; rcases ho with rfl | rfl | rfl | rfl | rfl <;> cases hc) ?_
    have hnb : v.ownBlock ≠ some w.heap.size := fun e => by
      rcases h2.2 with ⟨rfl, _⟩ | ⟨g, cap, cur, rfl, hg, _⟩
      · cases e
      · simp only [Value.ownBlock, Option.some.injEq] at e; omega
    go_wp2_with (at_builtin; refine stop_at ?_)
    unfold Stop
    refine wpList_append_own_at _ rfl _ _ 109 rfl (w.heap.size + 1) 33 i0 (.int .u32 0) 1 4 Try.underlying109 hi0 hz0 hz1 hz2 rfl (by decide) v pre.length (pre.map encU) rfl (h2.alloc _) ⟨W.heap.size, 0, none⟩ 1 1 [encU x] rfl rfl (World.news_of_block (cs := #[encU x]) (t := 33) (fr := (0, 0)) (heap_alloc_new W _)) (by simp [Value.oneCell']) (by unfold maxLen; omega) (by omega) (by rw [alloc_size]; omega) ?_
    intro v' w3 hown' hg3 hnil3 hat3
    have hv3 : w3.heap[w.heap.size]? = some (.cells #[v] 109 (0, 0)) := (hg3.block _ (by rw [alloc_size]; omega) (fun e => hnb e.symm)).trans ((((Below.refl _ W).alloc (Nat.le_refl _) _).block _ hlt).trans h1)
    have c3 : w3.cell? ⟨w.heap.size, 0, none⟩ = some v := by simp [World.cell?, hv3]
    have f3 : w3.frozen? ⟨w.heap.size, 0, none⟩ = false := by simp [World.frozen?, hv3]
    obtain ⟨g', cap', cur', rfl, hbase', hgb', hr1, hr2, hr3, hr4⟩ : ∃ g' cap' cur', v' = .slice (some ⟨g', 0, none⟩) (pre.length + 1) cap' ∧ w.heap.size + 1 ≤ g' ∧ w3.heap[g']? = some (.cells cur' 33 (0, 0)) ∧ pre.length + 1 ≤ cap' ∧ cap' ≤ maxLen ∧ cur'.size = cap' * 1 ∧ cur'.toList.take ((pre.length + 1) * 1) = pre.map encU ++ [encU x] := by
      rcases hown'.2 with ⟨_, h0⟩ | h'
      · omega
      · exact h'
    go_wp2_with fail
    obtain ⟨s1, _, _, s4⟩ := cells_set (n := 0) (pre := []) (post := []) (v := .slice (some ⟨g', 0, none⟩) (pre.length + 1) cap') rfl hv3
    have hvl : ∀ k, v.ownBlock = some k → w.heap.size + 1 ≤ k ∧ ∃ cs fr, W.heap[k]? = some (.cells cs 33 fr) := fun k hk => by
      rcases h2.2 with ⟨rfl, _⟩ | ⟨g, cap, cur, rfl, hge, hg, _⟩
      · cases hk
      · simp only [Value.ownBlock, Option.some.injEq] at hk
        subst hk
        exact ⟨hge, _, _, hg⟩
    generalize w3.setCell ⟨w.heap.size, 0, none⟩ (.slice (some ⟨g', 0, none⟩) (pre.length + 1) cap') = w4 at *
    have hsz3 : W.heap.size + 1 ≤ w3.heap.size := by have := hg3.size; rw [alloc_size] at this; exact this
    have hsz4 := s4.size
    have hall : ∀ (i : Nat) (o : Obj), W.heap[i]? = some o → (∀ cs ty fr, o ≠ .cells cs ty fr) → w4.heap[i]? = some o := fun i o ho hc => by
      have hi := (Array.getElem?_eq_some_iff.1 ho).1
      rw [s4.block i (by omega) (fun e => by subst e; rw [h1] at ho; cases ho; exact hc _ _ _ rfl)]
      refine (hg3.block i (by rw [alloc_size]; omega) fun e => ?_).trans ((((Below.refl _ W).alloc (Nat.le_refl _) _).block _ hi).trans ho)
      obtain ⟨_, cs, fr, h⟩ := hvl i e.symm
      rw [h] at ho
      cases ho
      exact hc _ _ _ rfl
    have hb4 : Below w.heap.size w w4 := by
      have hb3 : Below w.heap.size w w3 := (h4.alloc (Nat.le_of_lt hlt) _).grown hg3 (by rw [alloc_size]; omega) fun k e => by have := (hvl k e).1; omega
      exact ⟨s4.os.trans hb3.os, s4.tape.trans hb3.tape, s4.output.trans hb3.output, Nat.le_trans hb3.size s4.size, fun k hk => (s4.block k (by have := hb3.size; omega) (by omega)).trans (hb3.block k hk)⟩
    refine ⟨⟨by omega, fun i o _ ho hc => hall i o ho (by rintro cs ty fr rfl; cases hc)⟩, ⟨by omega, fun i o ho hw => hall i o ho (by rintro cs ty fr rfl; cases hw)⟩, _, s1, ?_, by simp, hb4⟩
    rw [List.length_append, List.length_singleton, List.map_append]
    refine ownsRow_of_block hown' fun k hk => s4.block k (own_lt hown' hk) ?_
    simp only [Value.ownBlock, Option.some.injEq] at hk
    omega
  case done =>
    intro D ys W hD hS hI hWD
    obtain ⟨v, h1, h2, h3, h4⟩ := hI
    have c2 : W.cell? ⟨w.heap.size, 0, none⟩ = some v := by simp [World.cell?, h1]
    go_wp2_with fail
    have hD1 : w.heap.size ≠ D := by omega
    have hvD : ∀ k, v.ownBlock = some k → k ≠ D := fun k hk e => by
      rcases h2.2 with ⟨rfl, _⟩ | ⟨g, cap, cur, rfl, hge, hg, _⟩
      · cases hk
      · simp only [Value.ownBlock, Option.some.injEq] at hk
        subst hk e
        rw [hWD] at hg
        cases hg
    refine ⟨by simp, .inl ⟨_, _, rfl, run_takeDeferred hWD, ?_⟩⟩
    refine ⟨_, results_tmp rfl _ _ _, v, ys, rfl, hS, ?_, h3, h4.grown (grownBy_putObj' W D _) (Nat.le_of_lt (Array.getElem?_eq_some_iff.1 h1).1) fun k e => by cases e; omega⟩
    have h5 : (W.putObj D (.deferred none)).ownsRow (w.heap.size + 1) 33 1 v ys.length (ys.map encU) := ownsRow_of_block h2 fun k hk => World.putObj_heap_other (hvD k hk)
    refine ⟨h5.1, ?_⟩
    rcases h5.2 with h | ⟨g, cap, cur, e1, e2, e3⟩
    · exact .inl h
    · exact .inr ⟨g, cap, cur, e1, by omega, e3⟩
end Go.Proofs.Ytiomojlcnemnhaa

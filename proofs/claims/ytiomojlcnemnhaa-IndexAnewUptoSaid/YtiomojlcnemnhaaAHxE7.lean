import Derived.Test.YtiomojlcnemnhaaAHxE6
namespace Go.Proofs.Ytiomojlcnemnhaa
open Go.Fx Go.RowKit Go.Maps Go.Sort
set_option maxRecDepth 100000 in
theorem ins_small {w : World} {v : Value} {n : Nat} (hn : n ≤ 1) : Calls Try.prog 144 #[v, .int .i64 0, .int .i64 (n : Int)] w fun e w' => e = .returned (.tuple #[]) ∧ w' = w := by
  have h1 : decide ((1 : Int) < (n : Int)) = false := decide_eq_false (by omega)
  go_enter Try.func144, Try.ntmps144
  go_wp2_with fail
  refine wp_loop_rounds 1 ?_
  rw [rounds_succ]
  go_wp2_with fail
  go_end0
  exact ⟨rfl, rfl⟩
set_option maxRecDepth 100000 in
theorem pdq_small {w : World} {v : Value} {n : Nat} {k : Int} (hn : n ≤ 1) : Calls Try.prog 131 #[v, .int .i64 0, .int .i64 (n : Int), .int .i64 k] w fun e w' => e = .returned (.tuple #[]) ∧ w' = w := by
  have h1 : decide ((n : Int) ≤ 12) = true := decide_eq_true (by omega)
  go_enter Try.func131, Try.ntmps131
  go_wp2_with fail
  refine wp_loop_rounds 1 ?_
  rw [rounds_succ]
  go_wp2_with fail
  refine (ins_small hn).mono ?_
  rintro e w2 ⟨rfl, rfl⟩
  go_wp2_with fail
  exact bodyPost_ret (results_none rfl _ _ _) rfl ⟨rfl, rfl⟩
set_option maxRecDepth 100000 in
theorem sort_small {w : World} {a : Option Addr} {n c : Nat} (hn : n ≤ 1) : Calls Try.prog 106 #[.slice a n c] w fun e w' => e = .returned (.tuple #[]) ∧ w' = w := by
  go_enter Try.func106, Try.ntmps106
  have hc : IntKind.u64.wrap (n : Int) = (n : Int) := by rw [IntKind.wrap_u64]; omega
  go_wp2_with fail
  refine (Try.bits_Len (n : Int) w (by omega) (by omega)).mono ?_
  rintro e w2 ⟨rfl, rfl⟩
  go_wp2_with fail
  refine (pdq_small hn).mono ?_
  rintro e w2 ⟨rfl, rfl⟩
  go_wp2_with fail
  go_end0
  exact ⟨rfl, rfl⟩
theorem own_slice {w : World} {base size n : Nat} {e : TypeId} {v : Value} {xs : List Value} (h : w.ownsRow base e size v n xs) : ∃ a c, v = .slice a n c := by
  obtain ⟨hl, ⟨rfl, h0⟩ | ⟨g, cap, cur, rfl, _⟩⟩ := h
  · exact ⟨_, _, by rw [h0]⟩
  · exact ⟨_, _, rfl⟩
set_option maxRecDepth 100000 in
theorem sorted_small {w : World} {B : Nat} {S : List Nat → Prop} {N : Nat} (hN : N ≤ 16777216) (hseq : ∀ n, SeqStopsK (FW none) n Try.prog 107 #[.pointer (some ⟨B, 0, none⟩)] (fun x : Nat => #[encU x]) KeepsWalks S (fun _ => True) N w)
    (hS : ∀ ss, S ss → ss.length ≤ 1) :
    Calls Try.prog 62 #[.func (.func 107) #[] #[.pointer (some ⟨B, 0, none⟩)]] w fun e w' => ∃ v ss, e = .returned v ∧ S ss ∧ w'.ownsRow w.heap.size 33 1 v ss.length (ss.map encU) ∧ (v = .slice none 0 0 ↔ ss = []) ∧ Below w.heap.size w w' := by
  go_enter Try.func62, Try.ntmps62
  go_wp2_with fail
  refine Calls.mono (?_ : Calls Try.prog 105 _ w (fun e w' => ∃ v ss, e = .returned v ∧ S ss ∧ w'.ownsRow w.heap.size 33 1 v ss.length (ss.map encU) ∧ (v = .slice none 0 0 ↔ ss = []) ∧ Below w.heap.size w w')) ?_
  · go_enter Try.func105, Try.ntmps105
    go_wp2_with fail
    refine (append_masks hN hseq).mono ?_
    rintro e w2 ⟨v, ss, rfl, h1, h2, h3, h4⟩
    go_wp2_with fail
    exact bodyPost_ret (v := v) (by simp [results, Try.results105, go_sem]) rfl ⟨v, ss, rfl, h1, h2, h3, h4⟩
  · rintro e w2 ⟨v, ss, rfl, h1, h2, h3, h4⟩
    obtain ⟨a, c, rfl⟩ := own_slice h2
    go_wp2_with fail
    refine (sort_small (hS ss h1)).mono ?_
    rintro e w3 ⟨rfl, rfl⟩
    go_wp2_with fail
    exact bodyPost_ret (v := .slice a ss.length c) (by simp [results, Try.results62, go_sem]) rfl ⟨_, ss, rfl, h1, h2, h3, h4⟩
set_option maxRecDepth 100000 in
theorem masks_small {w : World} {F : Nat → Prop} {bk b : Nat} {abs : Abs} (hB : Bk w F bk b abs) (h1 : abs.length ≤ 1) :
    Calls Try.prog 25 #[.pointer (some ⟨bk, 0, none⟩)] w fun e w' => ∃ v, e = .returned v ∧ w'.ownsRow w.heap.size 33 1 v abs.length ((abs.map (·.1)).map encU) ∧ Below w.heap.size w w' := by
  obtain ⟨bm, ixs, hB, rfl, rfl⟩ := hB
  have c1 : w.cell? ⟨bk, 1, none⟩ = some (.map (some bm)) := by simp [World.cell?, hB.hb]
  have hm := hB.hm
  have hkl : (ixs.map fun x => (x.m, Value.pointer (some ⟨x.rb, 0, none⟩))).map (·.1) = (ixs.map Ix.abs).map (·.1) := by rw [List.map_map, List.map_map]; rfl
  rw [List.length_map] at h1
  go_enter Try.func25, Try.ntmps25
  go_wp2_with fail
  refine (keys_calls _ _).mono ?_
  rintro e w2 ⟨rfl, rfl⟩
  have hbm : Below w.heap.size w (w.alloc (.cells #[.map (some bm)] 102)) := (Below.refl _ w).alloc (Nat.le_refl _) _
  have hN := heap_alloc_new w (.cells #[.map (some bm)] 102)
  have hm2 := hm.frame (w' := w.alloc (.cells #[.map (some bm)] 102)) (hbm.block bm hm.lt)
  generalize w.alloc (.cells #[.map (some bm)] 102) = w2 at *
  have c2 : w2.cell? ⟨w.heap.size, 0, none⟩ = some (.map (some bm)) := by simp [World.cell?, hN]
  go_wp2_with fail
  refine (sorted_small (N := (ixs.map fun x => (x.m, Value.pointer (some ⟨x.rb, 0, none⟩))).length) (by rw [List.length_map]; omega) (fun n => masks_stops n c2 hm2 (by rw [List.length_map]; unfold maxLen; omega)) (fun ss h => by rw [h.length_eq, List.length_map, List.length_map]; exact h1)).mono ?_
  rintro e w3 ⟨v, ss, rfl, hS, hown, _, hb3⟩
  go_wp2_with fail
  refine bodyPost_ret (v := v) (by simp [results, Try.results25, go_sem]) rfl ⟨v, rfl, ?_, hbm.trans (hb3.mono hbm.size)⟩
  rw [hkl] at hS
  have hss : ss = (ixs.map Ix.abs).map (·.1) := by
    have hl := hS.length_eq
    rw [List.length_map, List.length_map] at hl
    match ss, ixs.map Ix.abs, hS with
    | [], [], _ => rfl
    | [], _ :: _, h => exact absurd h.length_eq (by simp)
    | _ :: _, [], h => exact absurd h.length_eq (by simp)
    | [a], b :: l, h =>
      have : l = [] := by have := h.length_eq; simp at this; exact this
      subst this
      have := h.mem_iff (a := a)
      simp at this
      simp [this]
    | a :: a' :: t, _, _ => simp at hl; omega
  subst hss
  rw [List.length_map] at hown
  refine ⟨hown.1, ?_⟩
  rcases hown.2 with h | ⟨g, cap, cur, h1, h2, h3⟩
  · exact .inl h
  · exact .inr ⟨g, cap, cur, h1, Nat.le_trans hbm.size h2, h3⟩
end Go.Proofs.Ytiomojlcnemnhaa

import Derived.Test.YtiomojlcnemnhaaNHxE4
import Derived.Sort.MapsRangeIn
import Derived.RangeFuncGives
import Derived.Maps.AppendAt
namespace Go.Proofs.Ytiomojlcnemnhaa
open Go.Fx Go.RowKit Go.Maps Go.Sort
abbrev encU : Nat → Value := fun m => .int .u32 (m : Int)
def CameU (D : DataW Unit) (left : Lit → Bool) (ss : List Nat) : Prop := ss.Nodup ∧ ∀ x : Nat, x ∈ ss ↔ (has D (.int .u32 (x : Int)) = true ∧ left (.int .u32 (x : Int)) = false)
theorem CameU.start (D : DataW Unit) : CameU D (has D) [] := ⟨List.nodup_nil, fun x => by cases has D (.int .u32 (x : Int)) <;> simp⟩
theorem CameU.step {D : DataW Unit} {left : Lit → Bool} {ss : List Nat} (h : CameU D left ss) {x : Nat} {y : DataW Unit} (hl : left (.int .u32 (x : Int)) = true) (hat : ∀ zd, D.atKey (.int .u32 (x : Int)) zd = y) : CameU D (fun z => left z && !z.sameKey (.int .u32 (x : Int))) (ss ++ [x]) := by
  have hhas : has D (.int .u32 (x : Int)) = true := has_true_of_atKey hat
  have hnew : x ∉ ss := fun hx => by have := ((h.2 x).1 hx).2; rw [hl] at this; cases this
  refine ⟨List.nodup_append.2 ⟨h.1, by simp, fun a ha b hb => by simp at hb; subst hb; exact fun e => hnew (e ▸ ha)⟩, fun y => ?_⟩
  by_cases hy : y = x
  · subst hy; simp [hhas, Lit.sameKey]
  · have hy2 : ¬ (y : Int) = (x : Int) := by omega
    simp [h.2 y, hy, hy2, Lit.sameKey]
theorem keys_calls (mb : Option Nat) (w : World) : Calls Try.prog 63 #[.map mb] w fun e w' => e = .returned (.func (.func 107) #[] #[.pointer (some ⟨w.heap.size, 0, none⟩)]) ∧ w' = w.alloc (.cells #[.map mb] 102) := by
  go_enter Try.func63, Try.ntmps63
  go_wp2_with fail
  exact bodyPost_ret (v := .func (.func 107) #[] #[.pointer (some ⟨w.heap.size, 0, none⟩)]) (by simp [results, Try.results63, go_sem]) rfl ⟨rfl, rfl⟩
set_option maxRecDepth 100000 in
set_option maxHeartbeats 2000000 in
theorem masks_nil_stops (n : Nat) {w : World} {B : Nat} (hc : w.cell? ⟨B, 0, none⟩ = some (.map none)) :
    SeqStopsK (FW none) n Try.prog 107 #[.pointer (some ⟨B, 0, none⟩)] (fun x => #[encU x]) KeepsWalks (fun ss => ss = []) (fun _ => True) 0 w := by
  intro l J Jx W hW hJ hJx hY h0
  have hc' : W.cell? ⟨B, 0, none⟩ = some (.map none) := (hW.cell (p := ⟨B, 0, none⟩) (World.block_lt_of_cell? w _ hc)).trans hc
  refine callsIn_wide.2 ?_
  go_enter Try.func107, Try.ntmps107
  refine (wpIn_wide (n := n)).1 ?_
  have hrg := run_range_nilMap (P := Try.prog) W 102 33 165 Try.underlying102
  have hnx : ∀ ty, (Instr.next (.pointer (some ⟨W.heap.size, 0, none⟩)) false ty).run Try.prog (W.alloc (.mapIter none 0 #[] 0)) = _ := fun ty => run_next_nilMap _ ty 0 0 #[]
  gi_wp2
  refine wpIn_loop_rounds 1 ?_
  rw [roundsIn_succ]
  gi_wp2
  go_end0
  exact ⟨⟨_, rfl⟩, .inl ⟨[], rfl, hJ [] W _ none h0 (World.grownBy_alloc W _ none) (fun r e => by cases e)⟩⟩
end Go.Proofs.Ytiomojlcnemnhaa

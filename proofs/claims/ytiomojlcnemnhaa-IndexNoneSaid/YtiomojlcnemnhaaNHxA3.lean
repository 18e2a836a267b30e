import Derived.Test.YtiomojlcnemnhaaNHxA1
import Derived.DeepKeys
import Derived.Maps.Keyed
namespace Go.Proofs.Ytiomojlcnemnhaa
open Go.Fx Go.RowKit
def RowOk (x : List Int) : Prop := x.length = 24 ∧ ∀ n ∈ x, (Lit.int .i32 n).wf = true
abbrev rowLits (x : List Int) : List Lit := x.map fun n => Lit.int .i32 n
theorem mapM_get {α β : Type} (f : Nat → Option β) (g : α → β) : ∀ (x : List α) (o : Nat), (∀ i (h : i < x.length), f (o + i) = some (g x[i])) → (List.range' o x.length).mapM f = some (x.map g)
  | [], o, _ => rfl
  | a :: x, o, h => by
    have h0 := h 0 (by simp)
    have ih := mapM_get f g x (o + 1) (fun i hi => by
      have := h (i + 1) (by simpa using hi)
      rw [List.getElem_cons_succ] at this
      rw [← this]; congr 1; omega)
    rw [List.length_cons, List.range'_succ, List.mapM_cons, Nat.add_zero] at *
    rw [h0, ih]
    rfl
theorem row_lits {x : List Int} (hx : RowOk x) (D : Nat) : Try.prog.keyLits (D + 2) 43 (x.map symV) = some (rowLits x) := by
  obtain ⟨hl, hw⟩ := hx
  have h1 : Try.prog.cellsOf 41 = 1 := by kernel_rfl
  have h2 : Try.prog.cellsOf 43 = 24 := by kernel_rfl
  unfold Program.keyLits
  simp only [Try.underlying43, List.length_map, hl, h1, h2, if_true, Nat.mul_one]
  have := mapM_get (fun i => Try.prog.keyLits (D + 1) 41 ((List.drop i (x.map symV)).take 1)) (fun n => [Lit.int .i32 n]) x 0 (fun i hi => by
    rw [Nat.zero_add, List.drop_eq_getElem_cons (by simpa using hi), List.take_succ_cons, List.take_zero, List.getElem_map]
    unfold Program.keyLits
    simp only [Try.underlying41, true_and]
    rw [if_pos (hw _ (List.getElem_mem hi))])
  rw [hl] at this
  rw [List.range_eq_range', this]
  simp only [Option.map_some, Option.some.injEq]
  clear this hl hw h1 h2
  induction x with
  | nil => rfl
  | cons a x ih => rw [List.map_cons, List.flatten_cons, ih]; rfl
theorem rowLits_inj {x y : List Int} (h : rowLits x = rowLits y) : x = y := by
  induction x generalizing y with
  | nil => cases y with | nil => rfl | cons b y => cases h
  | cons a x ih =>
    cases y with
    | nil => cases h
    | cons b y =>
      injection h with h1 h2
      injection h1 with _ h1
      rw [h1, ih h2]
theorem row_formed {x : List Int} (hx : RowOk x) : (rowV x).formed Try.prog 43 = true := by
  have h2 : Try.prog.cellsOf 43 = 24 := by kernel_rfl
  simp [Value.formed, Try.underlying43, hx.1, h2]
theorem run_eqIn_row {x y : List Int} (hx : RowOk x) (hy : RowOk y) (w : World) : (Op.equalIn 10000 43 (rowV x) (rowV y)).run Try.prog w = .ok (decide (x = y)) w := by
  obtain ⟨r, hr, hiff⟩ := run_equalIn_deep (P := Try.prog) 9998 2 43 (by kernel_rfl) w 2 2 (rowV x) (rowV y) (rowLits x) (rowLits y) (row_formed hx) (row_formed hy) (row_lits hx 0) (row_lits hy 0)
  have : r = decide (x = y) := by
    rw [Bool.eq_iff_iff, hiff, decide_eq_true_iff]
    exact ⟨rowLits_inj, fun e => by rw [e]⟩
  subst this
  exact hr
theorem zRow_ok : RowOk zRow := ⟨by simp, fun n hn => by rw [List.eq_of_mem_replicate hn]; rfl⟩
end Go.Proofs.Ytiomojlcnemnhaa

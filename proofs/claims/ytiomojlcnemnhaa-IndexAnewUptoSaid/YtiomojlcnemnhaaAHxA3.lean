import Derived.Test.YtiomojlcnemnhaaAFxWe
import Derived.Test.YtiomojlcnemnhaaProg
import Derived.WalkSpells
import Derived.KernelRfl
import Derived.DeepKeys
import Derived.Maps.Keyed
namespace Go.Fx
open Go.RowKit
section
variable {P : Program} {G : World → Prop}
end
end Go.Fx

namespace Go.Fx
open Go.RowKit
section
variable {P : Program} {G : World → Prop}
end
end Go.Fx

namespace Go.Proofs.Ytiomojlcnemnhaa
open Go.Fx Go.RowKit
structure RelCells (w : World) (b pb mb : Nat) (lv : Value) (arity gone : Int) : Prop where
  h0 : w.cell? ⟨b, 0, none⟩ = some (.int .i64 arity)
  h1 : w.cell? ⟨b, 1, none⟩ = some (.int .i64 gone)
  h2 : w.cell? ⟨b, 2, none⟩ = some (.pointer (some ⟨pb, 0, none⟩))
  p0 : w.cell? ⟨pb, 0, none⟩ = some lv
  p1 : w.cell? ⟨pb, 1, none⟩ = some (.map (some mb))
  lb : b < w.heap.size
  lp : pb < w.heap.size
theorem RelCells.frame {w w' : World} {b pb mb : Nat} {lv : Value} {arity gone : Int} (h : RelCells w b pb mb lv arity gone) (hb : Below w.heap.size w w') : RelCells w' b pb mb lv arity gone :=
  ⟨(hb.cell (p := ⟨b, 0, none⟩) h.lb).trans h.h0, (hb.cell (p := ⟨b, 1, none⟩) h.lb).trans h.h1, (hb.cell (p := ⟨b, 2, none⟩) h.lb).trans h.h2, (hb.cell (p := ⟨pb, 0, none⟩) h.lp).trans h.p0, (hb.cell (p := ⟨pb, 1, none⟩) h.lp).trans h.p1,
    Nat.lt_of_lt_of_le h.lb hb.size, Nat.lt_of_lt_of_le h.lp hb.size⟩
set_option maxRecDepth 100000 in
theorem there_calls {w : World} {b : Nat} {a : Addr} (h2 : w.cell? ⟨b, 2, none⟩ = some (.pointer (some a))) :
    Calls Try.prog 48 #[.pointer (some ⟨b, 0, none⟩)] w fun e w' => e = .returned (.bool true) ∧ Below w.heap.size w w' := by
  go_enter Try.func48, Try.ntmps48
  go_wp2_with fail
  simp [bodyPost, results, Try.results48, go_sem]
  exact Below.refl _ w
set_option maxRecDepth 100000 in
theorem there_nil (w : World) : Calls Try.prog 48 #[.pointer none] w fun e w' => e = .returned (.bool false) ∧ Below w.heap.size w w' := by
  go_enter Try.func48, Try.ntmps48
  go_wp2_with fail
  simp [bodyPost, results, Try.results48, go_sem]
  exact Below.refl _ w
set_option maxRecDepth 100000 in
theorem arity_calls {w : World} {b pb mb : Nat} {lv : Value} {arity gone : Int} (h : RelCells w b pb mb lv arity gone) :
    Calls Try.prog 126 #[.pointer (some ⟨b, 0, none⟩)] w fun e w' => e = .returned (.int .i64 arity) ∧ Below w.heap.size w w' := by
  have hth := there_calls h.h2
  go_enter Try.func126, Try.ntmps126
  go_wp2_with fail
  refine hth.mono ?_
  rintro e w' ⟨rfl, hb⟩
  have h0 := (h.frame hb).h0
  go_wp2_with fail
  simp [bodyPost, results, Try.results126, go_sem]
  exact hb
set_option maxRecDepth 100000 in
theorem len_calls {w : World} {b pb mb : Nat} {ad : Option Addr} {n cap : Nat} {arity gone : Int} (h : RelCells w b pb mb (.slice ad n cap) arity gone) :
    Calls Try.prog 15 #[.pointer (some ⟨b, 0, none⟩)] w fun e w' => e = .returned (.int .i64 n) ∧ Below w.heap.size w w' := by
  have hth := there_calls h.h2
  go_enter Try.func15, Try.ntmps15
  go_wp2_with fail
  refine hth.mono ?_
  rintro e w' ⟨rfl, hb⟩
  have h2 := (h.frame hb).h2
  have p0 := (h.frame hb).p0
  go_wp2_with fail
  simp [bodyPost, results, Try.results15, go_sem]
  exact hb
abbrev symV (n : Int) : Value := .int .i32 n
abbrev rowV (x : List Int) : Value := .agg (x.map symV).toArray
abbrev zRow : List Int := List.replicate 24 0
end Go.Proofs.Ytiomojlcnemnhaa

namespace Go.Proofs.Ytiomojlcnemnhaa
open Go.Fx Go.RowKit
def RowOk (x : List Int) : Prop := x.length = 24 ∧ ∀ n ∈ x, (Lit.int .i32 n).wf = true
abbrev rowLits (x : List Int) : List Lit := x.map fun n => Lit.int .i32 n
theorem mapM_get {α β : Type} (f : Nat → Option β) (g : α → β) : ∀ (x : List α) (o : Nat), (∀ i (h : i < x.length), f (o + i) = some (g x[i])) → (List.range' o x.length).mapM f = some (x.map g)
  | [], o, _ => rfl
  | a :: x, o, h => by
    have h0 := h 0 (by simp)
    have ih := mapM_get f g x (o + 1) (fun i hi => by
      have := h (i + 1) (by simpa using hi)
      rw [List.getElem_cons_succ] at this
      rw [← this]; congr 1; omega)
    rw [List.length_cons, List.range'_succ, List.mapM_cons, Nat.add_zero] at *
    rw [h0, ih]
    rfl
theorem row_lits {x : List Int} (hx : RowOk x) (D : Nat) : Try.prog.keyLits (D + 2) 43 (x.map symV) = some (rowLits x) := by
  obtain ⟨hl, hw⟩ := hx
  have h1 : Try.prog.cellsOf 41 = 1 := by kernel_rfl
  have h2 : Try.prog.cellsOf 43 = 24 := by kernel_rfl
  unfold Program.keyLits
  simp only [Try.underlying43, List.length_map, hl, h1, h2, if_true, Nat.mul_one]
  have := mapM_get (fun i => Try.prog.keyLits (D + 1) 41 ((List.drop i (x.map symV)).take 1)) (fun n => [Lit.int .i32 n]) x 0 (fun i hi => by
    rw [Nat.zero_add, List.drop_eq_getElem_cons (by simpa using hi), List.take_succ_cons, List.take_zero, List.getElem_map]
    unfold Program.keyLits
    simp only [Try.underlying41, true_and]
    rw [if_pos (hw _ (List.getElem_mem hi))])
  rw [hl] at this
  rw [List.range_eq_range', this]
  simp only [Option.map_some, Option.some.injEq]
  clear this hl hw h1 h2
  induction x with
  | nil => rfl
  | cons a x ih => rw [List.map_cons, List.flatten_cons, ih]; rfl
theorem rowLits_inj {x y : List Int} (h : rowLits x = rowLits y) : x = y := by
  induction x generalizing y with
  | nil => cases y with | nil => rfl | cons b y => cases h
  | cons a x ih =>
    cases y with
    | nil => cases h
    | cons b y =>
      injection h with h1 h2
      injection h1 with _ h1
      rw [h1, ih h2]
theorem row_formed {x : List Int} (hx : RowOk x) : (rowV x).formed Try.prog 43 = true := by
  have h2 : Try.prog.cellsOf 43 = 24 := by kernel_rfl
  simp [Value.formed, Try.underlying43, hx.1, h2]
theorem run_eqIn_row {x y : List Int} (hx : RowOk x) (hy : RowOk y) (w : World) : (Op.equalIn 10000 43 (rowV x) (rowV y)).run Try.prog w = .ok (decide (x = y)) w := by
  obtain ⟨r, hr, hiff⟩ := run_equalIn_deep (P := Try.prog) 9998 2 43 (by kernel_rfl) w 2 2 (rowV x) (rowV y) (rowLits x) (rowLits y) (row_formed hx) (row_formed hy) (row_lits hx 0) (row_lits hy 0)
  have : r = decide (x = y) := by
    rw [Bool.eq_iff_iff, hiff, decide_eq_true_iff]
    exact ⟨rowLits_inj, fun e => by rw [e]⟩
  subst this
  exact hr
theorem zRow_ok : RowOk zRow := ⟨by simp, fun n hn => by rw [List.eq_of_mem_replicate hn]; rfl⟩
end Go.Proofs.Ytiomojlcnemnhaa

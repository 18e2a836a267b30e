import Derived.Test.YtiomojlcnemnhaaNFxWe
import Derived.Test.YtiomojlcnemnhaaProg
import Derived.WalkSpells
import Derived.KernelRfl
namespace Go.Fx
open Go.RowKit
section
variable {P : Program} {G : World → Prop}
end
end Go.Fx

namespace Go.Fx
open Go.RowKit
section
variable {P : Program} {G : World → Prop}
end
end Go.Fx

namespace Go.Proofs.Ytiomojlcnemnhaa
open Go.Fx Go.RowKit
structure RelCells (w : World) (b pb mb : Nat) (lv : Value) (arity gone : Int) : Prop where
  h0 : w.cell? ⟨b, 0, none⟩ = some (.int .i64 arity)
  h1 : w.cell? ⟨b, 1, none⟩ = some (.int .i64 gone)
  h2 : w.cell? ⟨b, 2, none⟩ = some (.pointer (some ⟨pb, 0, none⟩))
  p0 : w.cell? ⟨pb, 0, none⟩ = some lv
  p1 : w.cell? ⟨pb, 1, none⟩ = some (.map (some mb))
  lb : b < w.heap.size
  lp : pb < w.heap.size
theorem RelCells.frame {w w' : World} {b pb mb : Nat} {lv : Value} {arity gone : Int} (h : RelCells w b pb mb lv arity gone) (hb : Below w.heap.size w w') : RelCells w' b pb mb lv arity gone :=
  ⟨(hb.cell (p := ⟨b, 0, none⟩) h.lb).trans h.h0, (hb.cell (p := ⟨b, 1, none⟩) h.lb).trans h.h1, (hb.cell (p := ⟨b, 2, none⟩) h.lb).trans h.h2, (hb.cell (p := ⟨pb, 0, none⟩) h.lp).trans h.p0, (hb.cell (p := ⟨pb, 1, none⟩) h.lp).trans h.p1,
    Nat.lt_of_lt_of_le h.lb hb.size, Nat.lt_of_lt_of_le h.lp hb.size⟩
set_option maxRecDepth 100000 in
theorem there_calls {w : World} {b : Nat} {a : Addr} (h2 : w.cell? ⟨b, 2, none⟩ = some (.pointer (some a))) :
    Calls Try.prog 48 #[.pointer (some ⟨b, 0, none⟩)] w fun e w' => e = .returned (.bool true) ∧ Below w.heap.size w w' := by
  go_enter Try.func48, Try.ntmps48
  go_wp2_with fail
  simp [bodyPost, results, Try.results48, go_sem]
  exact Below.refl _ w
set_option maxRecDepth 100000 in
theorem there_nil (w : World) : Calls Try.prog 48 #[.pointer none] w fun e w' => e = .returned (.bool false) ∧ Below w.heap.size w w' := by
  go_enter Try.func48, Try.ntmps48
  go_wp2_with fail
  simp [bodyPost, results, Try.results48, go_sem]
  exact Below.refl _ w
set_option maxRecDepth 100000 in
theorem arity_calls {w : World} {b pb mb : Nat} {lv : Value} {arity gone : Int} (h : RelCells w b pb mb lv arity gone) :
    Calls Try.prog 126 #[.pointer (some ⟨b, 0, none⟩)] w fun e w' => e = .returned (.int .i64 arity) ∧ Below w.heap.size w w' := by
  have hth := there_calls h.h2
  go_enter Try.func126, Try.ntmps126
  go_wp2_with fail
  refine hth.mono ?_
  rintro e w' ⟨rfl, hb⟩
  have h0 := (h.frame hb).h0
  go_wp2_with fail
  simp [bodyPost, results, Try.results126, go_sem]
  exact hb
set_option maxRecDepth 100000 in
theorem len_calls {w : World} {b pb mb : Nat} {ad : Option Addr} {n cap : Nat} {arity gone : Int} (h : RelCells w b pb mb (.slice ad n cap) arity gone) :
    Calls Try.prog 15 #[.pointer (some ⟨b, 0, none⟩)] w fun e w' => e = .returned (.int .i64 n) ∧ Below w.heap.size w w' := by
  have hth := there_calls h.h2
  go_enter Try.func15, Try.ntmps15
  go_wp2_with fail
  refine hth.mono ?_
  rintro e w' ⟨rfl, hb⟩
  have h2 := (h.frame hb).h2
  have p0 := (h.frame hb).p0
  go_wp2_with fail
  simp [bodyPost, results, Try.results15, go_sem]
  exact hb
abbrev symV (n : Int) : Value := .int .i32 n
abbrev rowV (x : List Int) : Value := .agg (x.map symV).toArray
abbrev zRow : List Int := List.replicate 24 0
end Go.Proofs.Ytiomojlcnemnhaa

import Derived.Test.YtiomojlcnemnhaaIHxA1
namespace Go.Proofs.Ytiomojlcnemnhaa
open Go.Fx Go.RowKit
set_option maxRecDepth 100000 in
theorem there_same {w : World} {b : Nat} {a : Addr} (h2 : w.cell? ⟨b, 2, none⟩ = some (.pointer (some a))) :
    Calls Try.prog 48 #[.pointer (some ⟨b, 0, none⟩)] w fun e w' => e = .returned (.bool true) ∧ w' = w := by
  go_enter Try.func48, Try.ntmps48
  go_wp2_with fail
  simp [bodyPost, results, Try.results48, go_sem]
set_option maxRecDepth 100000 in
theorem gone_same {w : World} {b pb mb : Nat} {lv : Value} {arity gone : Int} (h : RelCells w b pb mb lv arity gone) :
    Calls Try.prog 96 #[.pointer (some ⟨b, 0, none⟩)] w fun e w' => e = .returned (.int .i64 gone) ∧ w' = w := by
  have hth := there_same h.h2
  have h1 := h.h1
  go_enter Try.func96, Try.ntmps96
  go_wp2_with fail
  refine hth.mono ?_
  rintro e w' ⟨rfl, rfl⟩
  go_wp2_with fail
  simp [bodyPost, results, Try.results96, go_sem]
set_option maxRecDepth 100000 in
theorem len_same {w : World} {b pb mb : Nat} {ad : Option Addr} {n cap : Nat} {arity gone : Int} (h : RelCells w b pb mb (.slice ad n cap) arity gone) :
    Calls Try.prog 15 #[.pointer (some ⟨b, 0, none⟩)] w fun e w' => e = .returned (.int .i64 n) ∧ w' = w := by
  have hth := there_same h.h2
  have h2 := h.h2
  have p0 := h.p0
  go_enter Try.func15, Try.ntmps15
  go_wp2_with fail
  refine hth.mono ?_
  rintro e w' ⟨rfl, rfl⟩
  go_wp2_with fail
  simp [bodyPost, results, Try.results15, go_sem]
end Go.Proofs.Ytiomojlcnemnhaa

import Derived.Test.YtiomojlcnemnhaaAHxD6
namespace Go.Proofs.Ytiomojlcnemnhaa
open Go.Fx Go.RowKit
def NoBk (w : World) (v : Value) : Prop := v = .pointer none ∨ ∃ bk, v = .pointer (some ⟨bk, 0, none⟩) ∧ w.heap[bk]? = some (.cells #[.pointer none, .map none] 104 (0, 0))
theorem NoBk.below {w w' : World} {v : Value} (h : NoBk w v) (hb : Below w.heap.size w w') : NoBk w' v := by
  rcases h with rfl | ⟨bk, rfl, h⟩
  · exact .inl rfl
  · exact .inr ⟨bk, rfl, (hb.block bk (Array.getElem?_eq_some_iff.1 h).1).trans h⟩
end Go.Proofs.Ytiomojlcnemnhaa

namespace Go.Proofs.Ytiomojlcnemnhaa
open Go.Fx Go.RowKit
end Go.Proofs.Ytiomojlcnemnhaa

namespace Go.Proofs.Ytiomojlcnemnhaa
open Go.Fx Go.RowKit
def NoDoc (w : World) (k : Nat) : Prop := w.heap[k]? = some (.cells #[.bool false, .int .i64 0, .slice none 0 0] 98 (0, 0))
theorem NoDoc.below {w w' : World} {k : Nat} (h : NoDoc w k) (hb : Below w.heap.size w w') : NoDoc w' k := (hb.block k (Array.getElem?_eq_some_iff.1 h).1).trans h
theorem NoDoc.c0 {w : World} {k : Nat} (h : NoDoc w k) : w.cell? ⟨k, 0, none⟩ = some (.bool false) := by
  have h : w.heap[k]? = some (.cells #[.bool false, .int .i64 0, .slice none 0 0] 98 (0, 0)) := h
  simp [World.cell?, h]
end Go.Proofs.Ytiomojlcnemnhaa

namespace Go.Proofs.Ytiomojlcnemnhaa
open Go.Fx Go.RowKit
end Go.Proofs.Ytiomojlcnemnhaa

import Derived.Test.YtiomojlcnemnhaaNHxD6
namespace Go.Proofs.Ytiomojlcnemnhaa
open Go.Fx Go.RowKit
def NoBk (w : World) (v : Value) : Prop := v = .pointer none ∨ ∃ bk, v = .pointer (some ⟨bk, 0, none⟩) ∧ w.heap[bk]? = some (.cells #[.pointer none, .map none] 104 (0, 0))
theorem NoBk.below {w w' : World} {v : Value} (h : NoBk w v) (hb : Below w.heap.size w w') : NoBk w' v := by
  rcases h with rfl | ⟨bk, rfl, h⟩
  · exact .inl rfl
  · exact .inr ⟨bk, rfl, (hb.block bk (Array.getElem?_eq_some_iff.1 h).1).trans h⟩
set_option maxRecDepth 100000 in
theorem ask_nobk {w : World} {v : Value} (h : NoBk w v) (m : Nat) :
    Calls Try.prog 49 #[v, .int .u32 (m : Int)] w fun e w' => e = .returned (.tuple #[.pointer none, .int .i64 2]) ∧ Below w.heap.size w w' := by
  rcases h with rfl | ⟨bk, rfl, h⟩
  · go_enter Try.func49, Try.ntmps49
    go_wp2_with fail
    refine bodyPost_ret (v := .tuple #[.pointer none, .int .i64 2]) (by simp [results, Try.results49, go_sem]) rfl ⟨rfl, ?_⟩
    exact (Below.refl _ w).alloc (Nat.le_refl _) _
  · have hlt := (Array.getElem?_eq_some_iff.1 h).1
    have hb := (Below.refl w.heap.size w).alloc (Nat.le_refl _) (.cells #[.int .u32 (m : Int)] 33)
    have c0 : (w.alloc (.cells #[.int .u32 (m : Int)] 33)).cell? ⟨bk, 0, none⟩ = some (.pointer none) := by
      rw [hb.cell (p := ⟨bk, 0, none⟩) hlt]; simp [World.cell?, h]
    go_enter Try.func49, Try.ntmps49
    go_wp2_with fail
    refine under_none.mono ?_
    rintro e w2 ⟨rfl, hb2⟩
    go_wp2_with fail
    exact bodyPost_ret (v := .tuple #[.pointer none, .int .i64 2]) (by simp [results, Try.results49, go_sem]) rfl ⟨rfl, hb.trans (hb2.mono hb.size)⟩
set_option maxRecDepth 100000 in
theorem look_nobk {w : World} {v : Value} (h : NoBk w v) (m : Nat) {y : List Int} :
    Calls Try.prog 17 #[v, .int .u32 (m : Int), rowV y] w fun e w' => e = .returned (.tuple #[.slice none 0 0, .int .i64 2]) ∧ Below w.heap.size w w' := by
  go_enter Try.func17, Try.ntmps17
  go_wp2_with fail
  have hb := (Below.refl w.heap.size w).alloc (Nat.le_refl _) (.cells (y.map symV).toArray 43)
  generalize w.alloc (.cells (y.map symV).toArray 43) = w1 at *
  refine (ask_nobk (h.below hb) m).mono ?_
  rintro e w2 ⟨rfl, hb2⟩
  go_wp2_with fail
  exact bodyPost_ret (v := .tuple #[.slice none 0 0, .int .i64 2]) (by simp [results, Try.results17, go_sem]) rfl ⟨rfl, hb.trans (hb2.mono hb.size)⟩
set_option maxRecDepth 100000 in
theorem count_nobk {w : World} {v : Value} (h : NoBk w v) (m : Nat) {y : List Int} :
    Calls Try.prog 18 #[v, .int .u32 (m : Int), rowV y] w fun e w' => e = .returned (.tuple #[.int .i64 0, .int .i64 2]) ∧ Below w.heap.size w w' := by
  go_enter Try.func18, Try.ntmps18
  go_wp2_with fail
  have hb := (Below.refl w.heap.size w).alloc (Nat.le_refl _) (.cells (y.map symV).toArray 43)
  generalize w.alloc (.cells (y.map symV).toArray 43) = w1 at *
  refine (ask_nobk (h.below hb) m).mono ?_
  rintro e w2 ⟨rfl, hb2⟩
  go_wp2_with fail
  exact bodyPost_ret (v := .tuple #[.int .i64 0, .int .i64 2]) (by simp [results, Try.results18, go_sem]) rfl ⟨rfl, hb.trans (hb2.mono hb.size)⟩
set_option maxRecDepth 100000 in
theorem distinct_nobk {w : World} {v : Value} (h : NoBk w v) (m : Nat) :
    Calls Try.prog 20 #[v, .int .u32 (m : Int)] w fun e w' => e = .returned (.tuple #[.int .i64 0, .int .i64 2]) ∧ Below w.heap.size w w' := by
  go_enter Try.func20, Try.ntmps20
  go_wp2_with fail
  refine (ask_nobk h m).mono ?_
  rintro e w2 ⟨rfl, hb2⟩
  go_wp2_with fail
  exact bodyPost_ret (v := .tuple #[.int .i64 0, .int .i64 2]) (by simp [results, Try.results20, go_sem]) rfl ⟨rfl, hb2⟩
end Go.Proofs.Ytiomojlcnemnhaa

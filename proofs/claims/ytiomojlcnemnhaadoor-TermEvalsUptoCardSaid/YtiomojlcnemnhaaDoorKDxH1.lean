/- value.divide: the quotient or what is left; where the divisor is 0 the division's panic is recovered. -/
import Derived.Test.YtiomojlcnemnhaaDoorKFxZ
import Derived.Test.YtiomojlcnemnhaaDoorProg
import Derived.KernelRfl
import Derived.Tactics
import Derived.Tactics2
import Derived.Defers
import Derived.Recover
import Derived.Laws.Pointers
import Derived.Laws.Wrap64
namespace Go.Proofs.YtiomojlcnemnhaaDoor
open Go.Fx Go.RowKit

theorem catch_panicking (p q : Addr) (x : Value) (y : Value) (u : TypeId) (pv : Value) (older : List PanicEntry) (w : World) (hc : w.cell? p = some x) (hz : w.frozen? p = false) (hc2 : (w.setCell p (.int .i64 0)).cell? q = some y) (hz2 : w.frozen? q = false) :
    CallsD Tryd.prog 161 #[.pointer (some p), .pointer (some q)] (.panicking ({ v := .iface u pv, recovered := false } :: older)) w fun e u' w' =>
      e = .returned (.tuple #[]) ∧ u' = .panicking ({ v := .iface u pv, recovered := true } :: older) ∧ w' = (w.setCell p (.int .i64 0)).setCell q (.bool false) := by
  refine callsD_of_wpS Tryd.func161 rfl fun c₀ cs hu => ?_
  apply wpS_seq
  apply wpS_region
  simp [wpOpsS, go_sem, recoverD, hu, Tryd.ntmps161, Exit.thenS]
  refine wpS_cond (t := true) (by simp [Act.eval, Array.replicate]) ?_
  simp only [if_true]
  apply wpS_region
  simp [wpOpsS, go_sem, hc, hz, hc2, hz2, bodyPostS, results, Tryd.results161]

theorem catch_idle (p q : Addr) (w : World) :
    CallsD Tryd.prog 161 #[.pointer (some p), .pointer (some q)] .returning w fun e u' w' => e = .returned (.tuple #[]) ∧ u' = .returning ∧ w' = w := by
  refine callsD_of_wpS Tryd.func161 rfl fun c₀ cs hu => ?_
  apply wpS_seq
  apply wpS_region
  simp [wpOpsS, go_sem, recoverD, hu, Tryd.ntmps161, Exit.thenS]
  refine wpS_cond (t := false) (by simp [Act.eval, Array.replicate]) ?_
  simp only [Bool.false_eq_true, if_false]
  refine wpS_of_wp (wp_skip ?_)
  cases c₀
  simp_all [bodyPostS, results, Tryd.results161]

theorem divide_some (op a b : Int) (hb : ¬ b = 0) (w : World) :
    Calls Tryd.prog 103 #[.int .i8 op, .int .i64 a, .int .i64 b] w fun e w' => e = .returned (.tuple #[.int .i64 (if op = 5 then wrap64 (a.tdiv b) else a.tmod b), .bool true]) ∧ Below w.heap.size w w' := by
  have hmf : ∀ (fn : Fn) (first cap : Array Value) (w : World), (Instr.makeFunc fn first cap).run Tryd.prog w = .ok (.func fn first cap) w := fun _ _ _ _ => rfl
  by_cases ho : op = 5
  · subst ho
    go_enter_defers Tryd.func103, Tryd.ntmps103
    go_wp2
    refine leaves_cons (f := 161) (args := #[.pointer (some ⟨w.heap.size, 0, none⟩), .pointer (some ⟨w.heap.size + 1, 0, none⟩)]) (by simp) (by simp [go_sem]) ?_
    refine (catch_idle ⟨w.heap.size, 0, none⟩ ⟨w.heap.size + 1, 0, none⟩ _).mono ?_
    rintro e u' w'' ⟨rfl, rfl, rfl⟩
    simp [Leaves, settle, results, Tryd.results103, go_sem]
    exact Below.alloc (Below.alloc (Below.refl _ _) (Nat.le_refl _) _) (by simp) _
  · go_enter_defers Tryd.func103, Tryd.ntmps103
    go_wp2
    refine leaves_cons (f := 161) (args := #[.pointer (some ⟨w.heap.size, 0, none⟩), .pointer (some ⟨w.heap.size + 1, 0, none⟩)]) (by simp) (by simp [go_sem]) ?_
    refine (catch_idle ⟨w.heap.size, 0, none⟩ ⟨w.heap.size + 1, 0, none⟩ _).mono ?_
    rintro e u' w'' ⟨rfl, rfl, rfl⟩
    simp [Leaves, settle, results, Tryd.results103, go_sem, ho]
    exact Below.alloc (Below.alloc (Below.refl _ _) (Nat.le_refl _) _) (by simp) _

theorem divide_zero (op a : Int) (w : World) :
    Calls Tryd.prog 103 #[.int .i8 op, .int .i64 a, .int .i64 0] w fun e w' => e = .returned (.tuple #[.int .i64 0, .bool false]) ∧ Below w.heap.size w w' := by
  have hmf : ∀ (fn : Fn) (first cap : Array Value) (w : World), (Instr.makeFunc fn first cap).run Tryd.prog w = .ok (.func fn first cap) w := fun _ _ _ _ => rfl
  by_cases ho : op = 5
  · subst ho
    go_enter_defers Tryd.func103, Tryd.ntmps103
    go_wp2
    refine leaves_cons (f := 161) (args := #[.pointer (some ⟨w.heap.size, 0, none⟩), .pointer (some ⟨w.heap.size + 1, 0, none⟩)]) (by simp) (by simp [go_sem]) ?_
    refine (catch_panicking ⟨w.heap.size, 0, none⟩ ⟨w.heap.size + 1, 0, none⟩ (.int .i64 0) (.bool false) _ _ [] _ ?_ ?_ ?_ ?_).mono ?_
    · simp [go_sem]
    · simp [go_sem]
    · simp [go_sem]
    · simp [go_sem]
    rintro e u' w'' ⟨rfl, rfl, rfl⟩
    simp [Leaves, settle, results, Tryd.results103, go_sem]
    exact Below.alloc (Below.alloc (Below.refl _ _) (Nat.le_refl _) _) (by simp) _
  · go_enter_defers Tryd.func103, Tryd.ntmps103
    go_wp2
    refine leaves_cons (f := 161) (args := #[.pointer (some ⟨w.heap.size, 0, none⟩), .pointer (some ⟨w.heap.size + 1, 0, none⟩)]) (by simp) (by simp [go_sem]) ?_
    refine (catch_panicking ⟨w.heap.size, 0, none⟩ ⟨w.heap.size + 1, 0, none⟩ (.int .i64 0) (.bool false) _ _ [] _ ?_ ?_ ?_ ?_).mono ?_
    · simp [go_sem]
    · simp [go_sem]
    · simp [go_sem]
    · simp [go_sem]
    rintro e u' w'' ⟨rfl, rfl, rfl⟩
    simp [Leaves, settle, results, Tryd.results103, go_sem]
    exact Below.alloc (Below.alloc (Below.refl _ _) (Nat.le_refl _) _) (by simp) _

/-- What divide gives. -/
def divGo (op a b : Int) : Option Int := if b = 0 then none else some (if op = 5 then wrap64 (a.tdiv b) else a.tmod b)
theorem m103 {G : World → Prop} (op a b : Int) : Meets Tryd.prog G 103 [.one (cI .i8 op), .one (cI .i64 a), .one (cI .i64 b)] (.tup [.one (cI .i64 ((divGo op a b).getD 0)), .one (cB (divGo op a b).isSome)]) := by
  refine ⟨by kernel_rfl, fun w V vs _ _ ha => ?_⟩
  obtain ⟨v1, vs, rfl, h1, hn⟩ := ha.head
  obtain ⟨v2, vs, rfl, h2, hn⟩ := hn.head
  obtain ⟨v3, vs, rfl, h3, hn⟩ := hn.head
  obtain rfl := hn.nil_left
  obtain rfl : v1 = .int .i8 op := by cases h1; rfl
  obtain rfl : v2 = .int .i64 a := by cases h2; rfl
  obtain rfl : v3 = .int .i64 b := by cases h3; rfl
  by_cases hb : b = 0
  · subst hb
    refine (divide_zero op a w).mono fun e w' ⟨he, hw⟩ => ⟨_, he, ?_, hw⟩
    exact ⟨_, rfl, All2.cons (.v _ rfl) (All2.cons (.v _ rfl) All2.nil)⟩
  · refine (divide_some op a b hb w).mono fun e w' ⟨he, hw⟩ => ⟨_, he, ?_, hw⟩
    have hd : divGo op a b = some (if op = 5 then wrap64 (a.tdiv b) else a.tmod b) := by unfold divGo; rw [if_neg hb]
    rw [hd]
    exact ⟨_, rfl, All2.cons (.v _ rfl) (All2.cons (.v _ rfl) All2.nil)⟩
end Go.Proofs.YtiomojlcnemnhaaDoor

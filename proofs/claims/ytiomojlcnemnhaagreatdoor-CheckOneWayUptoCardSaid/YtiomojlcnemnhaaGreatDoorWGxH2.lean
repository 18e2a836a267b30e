import Derived.Test.YtiomojlcnemnhaaGreatDoorWFxZ
import Derived.Test.YtiomojlcnemnhaaGreatDoorProg
import Derived.KernelRfl
import Derived.Tactics
import Derived.Tactics2
import Derived.Defers
import Derived.Recover
import Derived.Laws.Pointers
import Derived.Laws.Wrap64
import Derived.WalkKit
import Derived.LoopTactic
import Derived.Laws.CopyOwn
import Derived.Laws.CopyRow
import Derived.StillTailTactics
/- value.divide: the quotient or what is left; where the divisor is 0 the division's panic is recovered. -/
namespace Go.Proofs.YtiomojlcnemnhaaGreatDoor
open Go.Fx Go.RowKit

theorem catch_panicking (p q : Addr) (x : Value) (y : Value) (u : TypeId) (pv : Value) (older : List PanicEntry) (w : World) (hc : w.cell? p = some x) (hz : w.frozen? p = false) (hc2 : (w.setCell p (.int .i64 0)).cell? q = some y) (hz2 : w.frozen? q = false) :
    CallsD Tryz.prog 346 #[.pointer (some p), .pointer (some q)] (.panicking ({ v := .iface u pv, recovered := false } :: older)) w fun e u' w' =>
      e = .returned (.tuple #[]) ∧ u' = .panicking ({ v := .iface u pv, recovered := true } :: older) ∧ w' = (w.setCell p (.int .i64 0)).setCell q (.bool false) := by
  refine callsD_of_wpS Tryz.func346 rfl fun c₀ cs hu => ?_
  apply wpS_seq
  apply wpS_region
  simp [wpOpsS, go_sem, recoverD, hu, Tryz.ntmps346, Exit.thenS]
  refine wpS_cond (t := true) (by simp [Act.eval, Array.replicate]) ?_
  simp only [if_true]
  apply wpS_region
  simp [wpOpsS, go_sem, hc, hz, hc2, hz2, bodyPostS, results, Tryz.results161]

theorem catch_idle (p q : Addr) (w : World) :
    CallsD Tryz.prog 346 #[.pointer (some p), .pointer (some q)] .returning w fun e u' w' => e = .returned (.tuple #[]) ∧ u' = .returning ∧ w' = w := by
  refine callsD_of_wpS Tryz.func346 rfl fun c₀ cs hu => ?_
  apply wpS_seq
  apply wpS_region
  simp [wpOpsS, go_sem, recoverD, hu, Tryz.ntmps346, Exit.thenS]
  refine wpS_cond (t := false) (by simp [Act.eval, Array.replicate]) ?_
  simp only [Bool.false_eq_true, if_false]
  refine wpS_of_wp (wp_skip ?_)
  cases c₀
  simp_all [bodyPostS, results, Tryz.results161]

theorem divide_some (op a b : Int) (hb : ¬ b = 0) (w : World) :
    Calls Tryz.prog 321 #[.int .i8 op, .int .i64 a, .int .i64 b] w fun e w' => e = .returned (.tuple #[.int .i64 (if op = 5 then wrap64 (a.tdiv b) else a.tmod b), .bool true]) ∧ Below w.heap.size w w' := by
  have hmf : ∀ (fn : Fn) (first cap : Array Value) (w : World), (Instr.makeFunc fn first cap).run Tryz.prog w = .ok (.func fn first cap) w := fun _ _ _ _ => rfl
  by_cases ho : op = 5
  · subst ho
    go_enter_defers Tryz.func321, Tryz.ntmps321
    go_wp2
    refine leaves_cons (f := 346) (args := #[.pointer (some ⟨w.heap.size, 0, none⟩), .pointer (some ⟨w.heap.size + 1, 0, none⟩)]) (by simp) (by simp [go_sem]) ?_
    refine (catch_idle ⟨w.heap.size, 0, none⟩ ⟨w.heap.size + 1, 0, none⟩ _).mono ?_
    rintro e u' w'' ⟨rfl, rfl, rfl⟩
    simp [Leaves, settle, results, Tryz.results103, go_sem]
    exact Below.alloc (Below.alloc (Below.refl _ _) (Nat.le_refl _) _) (by simp) _
  · go_enter_defers Tryz.func321, Tryz.ntmps321
    go_wp2
    refine leaves_cons (f := 346) (args := #[.pointer (some ⟨w.heap.size, 0, none⟩), .pointer (some ⟨w.heap.size + 1, 0, none⟩)]) (by simp) (by simp [go_sem]) ?_
    refine (catch_idle ⟨w.heap.size, 0, none⟩ ⟨w.heap.size + 1, 0, none⟩ _).mono ?_
    rintro e u' w'' ⟨rfl, rfl, rfl⟩
    simp [Leaves, settle, results, Tryz.results103, go_sem, ho]
    exact Below.alloc (Below.alloc (Below.refl _ _) (Nat.le_refl _) _) (by simp) _

theorem divide_zero (op a : Int) (w : World) :
    Calls Tryz.prog 321 #[.int .i8 op, .int .i64 a, .int .i64 0] w fun e w' => e = .returned (.tuple #[.int .i64 0, .bool false]) ∧ Below w.heap.size w w' := by
  have hmf : ∀ (fn : Fn) (first cap : Array Value) (w : World), (Instr.makeFunc fn first cap).run Tryz.prog w = .ok (.func fn first cap) w := fun _ _ _ _ => rfl
  by_cases ho : op = 5
  · subst ho
    go_enter_defers Tryz.func321, Tryz.ntmps321
    go_wp2
    refine leaves_cons (f := 346) (args := #[.pointer (some ⟨w.heap.size, 0, none⟩), .pointer (some ⟨w.heap.size + 1, 0, none⟩)]) (by simp) (by simp [go_sem]) ?_
    refine (catch_panicking ⟨w.heap.size, 0, none⟩ ⟨w.heap.size + 1, 0, none⟩ (.int .i64 0) (.bool false) _ _ [] _ ?_ ?_ ?_ ?_).mono ?_
    · simp [go_sem]
    · simp [go_sem]
    · simp [go_sem]
    · simp [go_sem]
    rintro e u' w'' ⟨rfl, rfl, rfl⟩
    simp [Leaves, settle, results, Tryz.results103, go_sem]
    exact Below.alloc (Below.alloc (Below.refl _ _) (Nat.le_refl _) _) (by simp) _
  · go_enter_defers Tryz.func321, Tryz.ntmps321
    go_wp2
    refine leaves_cons (f := 346) (args := #[.pointer (some ⟨w.heap.size, 0, none⟩), .pointer (some ⟨w.heap.size + 1, 0, none⟩)]) (by simp) (by simp [go_sem]) ?_
    refine (catch_panicking ⟨w.heap.size, 0, none⟩ ⟨w.heap.size + 1, 0, none⟩ (.int .i64 0) (.bool false) _ _ [] _ ?_ ?_ ?_ ?_).mono ?_
    · simp [go_sem]
    · simp [go_sem]
    · simp [go_sem]
    · simp [go_sem]
    rintro e u' w'' ⟨rfl, rfl, rfl⟩
    simp [Leaves, settle, results, Tryz.results103, go_sem]
    exact Below.alloc (Below.alloc (Below.refl _ _) (Nat.le_refl _) _) (by simp) _

/-- What divide gives. -/
def divGo (op a b : Int) : Option Int := if b = 0 then none else some (if op = 5 then wrap64 (a.tdiv b) else a.tmod b)
theorem m103 {G : World → Prop} (op a b : Int) : Meets Tryz.prog G 321 [.one (cI .i8 op), .one (cI .i64 a), .one (cI .i64 b)] (.tup [.one (cI .i64 ((divGo op a b).getD 0)), .one (cB (divGo op a b).isSome)]) := by
  refine ⟨by kernel_rfl, fun w V vs _ _ ha => ?_⟩
  obtain ⟨v1, vs, rfl, h1, hn⟩ := ha.head
  obtain ⟨v2, vs, rfl, h2, hn⟩ := hn.head
  obtain ⟨v3, vs, rfl, h3, hn⟩ := hn.head
  obtain rfl := hn.nil_left
  obtain rfl : v1 = .int .i8 op := by cases h1; rfl
  obtain rfl : v2 = .int .i64 a := by cases h2; rfl
  obtain rfl : v3 = .int .i64 b := by cases h3; rfl
  by_cases hb : b = 0
  · subst hb
    refine (divide_zero op a w).mono fun e w' ⟨he, hw⟩ => ⟨_, he, ?_, hw⟩
    exact ⟨_, rfl, All2.cons (.v _ rfl) (All2.cons (.v _ rfl) All2.nil)⟩
  · refine (divide_some op a b hb w).mono fun e w' ⟨he, hw⟩ => ⟨_, he, ?_, hw⟩
    have hd : divGo op a b = some (if op = 5 then wrap64 (a.tdiv b) else a.tmod b) := by unfold divGo; rw [if_neg hb]
    rw [hd]
    exact ⟨_, rfl, All2.cons (.v _ rfl) (All2.cons (.v _ rfl) All2.nil)⟩
end Go.Proofs.YtiomojlcnemnhaaGreatDoor

/- value.back: the closure that lays one character ahead of those that lie. -/
namespace Go.Proofs.YtiomojlcnemnhaaGreatDoor
open Go.Fx Go.RowKit

/-- The bytes of a string from one place to another, as cells. -/
def cellsOf (s : ByteArray) (a b : Nat) : List Value := ((s.data.toList.drop a).take (b - a)).map fun c => .int .u8 c.toNat

theorem wpList_copy_string {P : Program} {w : World} {ops : Array Oper} {rest : List Oper} {o : Oper} {a : Act} {Q : Exit → Act → World → Prop} (hgd : o.guard = none) (d s : Operand) (dT sT : TypeId)
    (ho : o.op = .call { callee := .builtin .copy, args := #[d, s], argTypes := #[dT, sT] }) (elem : TypeId) (hu : P.underlying dT = some (.slice elem)) (hsz : (P.info? elem).isSome = true)
    (g off dLen dCap : Nat) (t : ByteArray) (hd : a.eval d = .slice (some ⟨g, off, none⟩) dLen dCap) (hs : a.eval s = .string t) (ht : t.size ≤ dLen)
    (cur : Array Value) (ty : TypeId) (hg : w.heap[g]? = some (.cells cur ty (0, 0))) (hfit : off + t.size ≤ cur.size)
    (h : wpList P ops Q rest (a.put o.dst (goInt t.size)) (w.setRow g (cur.toList.take off ++ (t.data.toList.map fun c => Value.int .u8 c.toNat) ++ cur.toList.drop (off + t.size)).toArray)) :
    wpList P ops Q (o :: rest) a w := by
  refine wpList_plain hgd fun K hK => ?_
  have hmin : Nat.min t.size dLen = t.size := Nat.min_eq_left ht
  have hst := run_storeCells_at (P := P) g off ty (t.data.toList.map fun c => Value.int .u8 c.toNat) 0 cur w hg (by simpa using hfit) (by simp [Value.oneCell'])
  obtain ⟨i, hi⟩ := Option.isSome_iff_exists.1 hsz
  have hrun : (Builtin.copy_ #[dT, sT] o.type #[.slice (some ⟨g, off, none⟩) dLen dCap, .string t]).run P w = .ok (goInt t.size) (w.setRow g (cur.toList.take off ++ (t.data.toList.map fun c => Value.int .u8 c.toNat) ++ cur.toList.drop (off + t.size)).toArray) := by
    simp only [Nat.add_zero, List.length_map, Array.length_toList] at hst
    have hex : t.extract 0 t.size = t := by simp
    simp [Builtin.copy_, run_underlying hu, Builtin.lenOf, Builtin.firstCells, sizeOf, typeInfo, hi, hmin, hex]
    simp at hst
    have htk : List.take t.size (List.map (fun b => Value.int IntKind.u8 (b.toNat : Int)) t.data.toList) = List.map (fun b => Value.int IntKind.u8 (b.toNat : Int)) t.data.toList :=
      List.take_of_length_le (by rw [List.length_map, Array.length_toList]; exact Nat.le_refl _)
    rw [htk, hst]
    simp
  unfold Oper.wp
  simp [execOp, ho, resolve, invoke, builtin, hd, hs, hrun, Result.andThen]
  simp only [List.append_assoc] at h
  exact hK _ _ h

theorem c_far (w : World) (p a : Addr) (v : Value) (h : p.block ≠ a.block) : (w.setCell p v).cell? a = w.cell? a := World.cell?_setCell_other w p a v (fun e => h (by rw [e]))

theorem ite_addr (c : Prop) [Decidable c] (b x y : Nat) : (if c then some (⟨b, x, none⟩ : Addr) else some ⟨b, y, none⟩) = some ⟨b, if c then x else y, none⟩ := by split <;> rfl
theorem frozen_block {w w' : World} {a : Addr} (h : w'.heap[a.block]? = w.heap[a.block]?) : w'.frozen? a = w.frozen? a := by simp only [World.frozen?, h]
theorem put_row {s : ByteArray} {was i : Nat} {row : List Value} (hl : row.length = s.size) (h1 : was ≤ i) (h2 : i ≤ s.size) :
    ((row.toArray.toList.take (if s.size = s.size - i then 0 else s.size - i)) ++ ((s.extract was i).data.toList.map fun c => Value.int .u8 (c.toNat : Int)) ++ row.toArray.toList.drop ((if s.size = s.size - i then 0 else s.size - i) + (s.extract was i).size)) = row.take (s.size - i) ++ cellsOf s was i ++ row.drop (s.size - was) := by
  have hlen : (s.extract was i).size = i - was := by rw [ByteArray.size_extract]; omega
  have hc : ((s.extract was i).data.toList.map fun c => Value.int .u8 (c.toNat : Int)) = cellsOf s was i := by
    unfold cellsOf
    rw [ByteArray.data_extract, Array.toList_extract, List.extract_eq_take_drop]
  rw [hc, hlen, List.toList_toArray]
  by_cases h0 : s.size = s.size - i
  · by_cases hi : i = 0
    · subst hi
      obtain rfl : was = 0 := by omega
      rw [if_pos h0]
      have : cellsOf s 0 0 = [] := by simp [cellsOf]
      have q1 : row.take s.size = row := List.take_of_length_le (by omega)
      have q2 : row.drop s.size = [] := List.drop_of_length_le (by omega)
      rw [this, show s.size - 0 = s.size from rfl, q1, q2]
      simp
    · have hs : s.size = 0 := by omega
      omega
  · rw [if_neg h0, show s.size - i + (i - was) = s.size - was by omega]

/-- The memory of back: the text, the row, where the row lies, where what is laid begins, what has been laid. -/
structure BackSt (w : World) (N : Nat) (s : ByteArray) (was : Nat) (row : List Value) : Prop where
  hS : w.cell? ⟨N, 0, none⟩ = some (.string s)
  hR : w.heap[N + 1]? = some (.cells row.toArray 5 (0, 0))
  hO : w.cell? ⟨N + 2, 0, none⟩ = some (.slice (some ⟨N + 1, 0, none⟩) s.size s.size)
  hE : w.cell? ⟨N + 3, 0, none⟩ = some (.int .i64 ((s.size - was : Nat) : Int))
  hW : w.cell? ⟨N + 4, 0, none⟩ = some (.int .i64 (was : Int))
  fE : w.frozen? ⟨N + 3, 0, none⟩ = false
  fW : w.frozen? ⟨N + 4, 0, none⟩ = false

set_option maxRecDepth 100000 in
theorem put_calls (w : World) (N : Nat) (s : ByteArray) (was i : Nat) (row : List Value) (h : BackSt w N s was row) (hl : row.length = s.size) (h1 : was ≤ i) (h2 : i ≤ s.size) (h3 : s.size ≤ 200) :
    Calls Tryz.prog 347 #[.int .i64 (i : Int), .pointer (some ⟨N + 3, 0, none⟩), .pointer (some ⟨N + 4, 0, none⟩), .pointer (some ⟨N + 2, 0, none⟩), .pointer (some ⟨N, 0, none⟩)] w fun e w' =>
      e = .returned (.tuple #[]) ∧ BackSt w' N s i (row.take (s.size - i) ++ cellsOf s was i ++ row.drop (s.size - was)) ∧ (∀ b, b ≠ N + 1 → b ≠ N + 3 → b ≠ N + 4 → w'.heap[b]? = w.heap[b]?) ∧ Below N w w' := by
  obtain ⟨hS, hR, hO, hE, hW, fE, fW⟩ := h
  have e1 : IntKind.i64.wrap ((i : Int) - (was : Int)) = ((i - was : Nat) : Int) := by rw [IntKind.wrap_i64]; omega
  have e2 : IntKind.i64.wrap (((s.size - was : Nat) : Int) - ((i - was : Nat) : Int)) = ((s.size - i : Nat) : Int) := by rw [IntKind.wrap_i64]; omega
  have e3 : (0 : Int) ≤ ((s.size - i : Nat) : Int) := by omega
  have e4 : ((s.size - i : Nat) : Int) ≤ (s.size : Int) := by omega
  have e5 : (0 : Int) ≤ (was : Int) := by omega
  have e6 : (was : Int) ≤ (i : Int) := by omega
  have e7 : (i : Int) ≤ (s.size : Int) := by omega
  go_enter Tryz.func347, Tryz.ntmps347
  go_wp2_with fail
  have g1 := (c_far w ⟨N + 3, 0, none⟩ ⟨N, 0, none⟩ (.int .i64 ((s.size - i : Nat) : Int)) (by simp)).trans hS
  have g2 := (Below.heap_setCell w ⟨N + 3, 0, none⟩ (.int .i64 ((s.size - i : Nat) : Int)) (N + 1) (by simp)).trans hR
  have g3 := (c_far w ⟨N + 3, 0, none⟩ ⟨N + 2, 0, none⟩ (.int .i64 ((s.size - i : Nat) : Int)) (by simp)).trans hO
  have g4 := World.cell?_setCell_same w ⟨N + 3, 0, none⟩ (.int .i64 ((s.size - i : Nat) : Int)) hE
  have g5 := (c_far w ⟨N + 3, 0, none⟩ ⟨N + 4, 0, none⟩ (.int .i64 ((s.size - i : Nat) : Int)) (by simp)).trans hW
  have g6 := (World.frozen?_setCell w ⟨N + 3, 0, none⟩ ⟨N + 3, 0, none⟩ (.int .i64 ((s.size - i : Nat) : Int))).trans fE
  have g7 := (World.frozen?_setCell w ⟨N + 3, 0, none⟩ ⟨N + 4, 0, none⟩ (.int .i64 ((s.size - i : Nat) : Int))).trans fW
  have g8 : Hid (∀ b, b ≠ N + 3 → (w.setCell ⟨N + 3, 0, none⟩ (.int .i64 ((s.size - i : Nat) : Int))).heap[b]? = w.heap[b]?) := fun b hb => Below.heap_setCell _ _ _ _ hb
  have g9 : Hid (Below N w (w.setCell ⟨N + 3, 0, none⟩ (.int .i64 ((s.size - i : Nat) : Int)))) := Below.setCell (Below.refl _ _) (by simp) _
  generalize w.setCell ⟨N + 3, 0, none⟩ (.int .i64 ((s.size - i : Nat) : Int)) = w1 at *
  clear hS hR hO hE hW fE fW
  have hlen : (s.extract was i).size = i - was := by rw [ByteArray.size_extract]; omega
  have hfit1 : Hid ((if s.size = s.size - i then 0 else s.size - i) + (s.extract was i).size ≤ row.toArray.size) := by
    rw [hlen, List.size_toArray, hl]
    unfold Hid
    split <;> omega
  have hfit2 : Hid ((s.extract was i).size ≤ s.size - (s.size - i)) := by
    rw [hlen]; unfold Hid; omega
  go_still_tail 7, (by kernel_rfl)
  change wpList _ _ _ _ _ w1.drew
  have k1 : (w1.drew).heap[N + 1]? = some (.cells row.toArray 5 (0, 0)) := g2
  refine wpList_copy_string rfl (.tmp 13) (.tmp 17) 312 9 rfl 5 Tryz.underlying312 (by kernel_rfl) (N + 1) (if s.size = s.size - i then 0 else s.size - i) (s.size - (s.size - i)) (s.size - (s.size - i)) (s.extract was i) ?_ ?_ hfit2.out row.toArray 5 k1 hfit1.out ?_
  · simp [Act.eval]
    exact ite_addr _ _ _ _
  · simp [Act.eval]
  have hrow : ((row.toArray.toList.take (if s.size = s.size - i then 0 else s.size - i)) ++ ((s.extract was i).data.toList.map fun c => Value.int .u8 (c.toNat : Int)) ++ row.toArray.toList.drop ((if s.size = s.size - i then 0 else s.size - i) + (s.extract was i).size)) = row.take (s.size - i) ++ cellsOf s was i ++ row.drop (s.size - was) := put_row hl h1 h2
  rw [hrow]
  generalize hnew : row.take (s.size - i) ++ cellsOf s was i ++ row.drop (s.size - was) = new at *
  have r1 : ((w1.drew).setRow (N + 1) new.toArray).heap[N + 1]? = some (.cells new.toArray 5 (0, 0)) := setRow_heap _ _ _ _ _ _ k1
  have r2 : Hid (∀ b, b ≠ N + 1 → ((w1.drew).setRow (N + 1) new.toArray).heap[b]? = w1.heap[b]?) := fun b hb => setRow_other _ _ _ _ hb
  have r3 := (cell_setRow_other w1.drew (N + 1) new.toArray ⟨N, 0, none⟩ (by simp)).trans g1
  have r4 := (cell_setRow_other w1.drew (N + 1) new.toArray ⟨N + 2, 0, none⟩ (by simp)).trans g3
  have r5 := (cell_setRow_other w1.drew (N + 1) new.toArray ⟨N + 3, 0, none⟩ (by simp)).trans g4
  have r6 := (cell_setRow_other w1.drew (N + 1) new.toArray ⟨N + 4, 0, none⟩ (by simp)).trans g5
  have r7 := (frozen_block (a := ⟨N + 3, 0, none⟩) (r2.out (N + 3) (by simp))).trans g6
  have r8 := (frozen_block (a := ⟨N + 4, 0, none⟩) (r2.out (N + 4) (by simp))).trans g7
  have r9 : Hid (Below N w ((w1.drew).setRow (N + 1) new.toArray)) := below_setRow (w := w1.drew) (g9.out.trans (show Below N w1 w1.drew from ⟨rfl, rfl, rfl, Nat.le_refl _, fun _ _ => rfl⟩)) (Nat.le_succ N) _
  generalize (w1.drew).setRow (N + 1) new.toArray = w2 at *
  clear g1 g2 g3 g4 g5 g6 g7 k1 hrow
  generalize (if s.size = s.size - i then some (⟨N + 1, 0, none⟩ : Addr) else some ⟨N + 1, s.size - i, none⟩) = ad
  clear hfit1 hfit2
  go_wp2
  go_end0
  refine ⟨rfl, ⟨?_, ?_, ?_, ?_, ?_, ?_, ?_⟩, fun b b1 b2 b3 => ?_, ?_⟩
  · exact (c_far _ _ _ _ (by simp)).trans r3
  · exact ((Below.heap_setCell _ _ _ _ (by simp)).trans r1).trans (by first | rfl | rw [hnew])
  · exact (c_far _ _ _ _ (by simp)).trans r4
  · exact (c_far _ _ _ _ (by simp)).trans r5
  · exact World.cell?_setCell_same _ _ _ r6
  · exact (World.frozen?_setCell _ _ _ _).trans r7
  · exact (World.frozen?_setCell _ _ _ _).trans r8
  · exact (Below.heap_setCell _ _ _ _ b3).trans ((r2.out b b1).trans (g8.out b b2))
  · exact Below.setCell r9.out (by simp) _
end Go.Proofs.YtiomojlcnemnhaaGreatDoor

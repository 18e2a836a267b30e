/- Fx, part G: runs of the model's operations, in the words of the telling. -/
import Derived.Test.YtiomojlcnemnhaaDoorFxF
namespace Go.Fx
open Go.RowKit

section
variable {P : Program} {w : World}

theorem add_at (b o n : Nat) : Addr.add ⟨b, o, none⟩ n = ⟨b, o + n, none⟩ := Addr.add_lit b o n

theorem run_loadAt_one {t : TypeId} {ad : Addr} {u : Value} (h : cellsIn P t = some none) (hc : w.cell? ad = some u) :
    (Instr.loadAt t (.pointer (some ad))).run P w = .ok u w := by
  unfold cellsIn at h
  cases hu : P.underlying t with
  | none => rw [hu] at h; cases h
  | some d =>
    rw [hu] at h
    cases d <;> simp at h <;> simp [Instr.loadAt, Instr.sureAddr, loadVar, isAgg, run_underlying hu, run_load, hc]

theorem run_loadAt_agg {t : TypeId} {b o n : Nat} {us : List Value} (h : cellsIn P t = some (some n)) (hl : us.length = n)
    (hc : ∀ (j : Nat) (u : Value), us[j]? = some u → w.cell? ⟨b, o + j, none⟩ = some u) :
    (Instr.loadAt t (.pointer (some ⟨b, o, none⟩))).run P w = .ok (.agg us.toArray) w := by
  unfold cellsIn at h
  have hr : (loadCells ⟨b, o, none⟩ n).run P w = .ok us.toArray w := by
    subst hl
    exact run_loadCells_list w ⟨b, o, none⟩ us (fun j v hv => by rw [add_at]; exact hc j v hv)
  cases hu : P.underlying t with
  | none => rw [hu] at h; cases h
  | some d =>
    rw [hu] at h
    cases d <;> simp at h
    all_goals
      obtain ⟨i, hi, hs⟩ := h
      simp [Instr.loadAt, Instr.sureAddr, loadVar, isAgg, run_underlying hu, sizeOf, typeInfo, hi, hs, hr]

/-- us with vs written over it from o on. -/
def over (us : List Value) (o : Nat) (vs : List Value) : List Value := us.take o ++ vs ++ us.drop (o + vs.length)

theorem length_over {us : List Value} {o : Nat} {vs : List Value} (h : o + vs.length ≤ us.length) : (over us o vs).length = us.length := by
  simp [over]; omega

theorem over_cons {us : List Value} {o : Nat} {v : Value} {vs : List Value} (h : o + (vs.length + 1) ≤ us.length) : over (us.set o v) (o + 1) vs = over us o (v :: vs) := by
  unfold over
  have h1 : (us.set o v).take (o + 1) = us.take o ++ [v] := by
    rw [List.take_succ_eq_append_getElem (by simp; omega)]
    simp [List.take_set_of_le]
  have h2 : (us.set o v).drop (o + 1 + vs.length) = us.drop (o + (vs.length + 1)) := by
    rw [List.drop_set_of_lt (by omega)]
    congr 1; omega
  rw [h1, h2]
  simp

/-- Cells written into a block of our own. -/
theorem run_storeCells (b o : Nat) (ty : TypeId) : ∀ (vs : List Value) (i : Nat) (w : World) (us : List Value), w.heap[b]? = some (.cells us.toArray ty (0, 0)) → o + i + vs.length ≤ us.length →
    (∀ v ∈ vs, v.oneCell' = true) → ∃ w', (storeCells ⟨b, o, none⟩ vs i).run P w = .ok () w' ∧ w'.heap[b]? = some (.cells (over us (o + i) vs).toArray ty (0, 0)) ∧ Below b w w' ∧ ∀ j, j ≠ b → w'.heap[j]? = w.heap[j]?
  | [], i, w, us, h, _, _ => ⟨w, rfl, by simpa [over] using h, Below.refl _ _, fun _ _ => rfl⟩
  | v :: vs, i, w, us, h, hl, hv => by
    have hlt : o + i < us.length := by simp at hl; omega
    have hcell : w.cell? ⟨b, o + i, none⟩ = some us[o + i] := by
      rw [cell_of_row w b (o + i) us.toArray ty (0, 0) h]
      simp [hlt]
    have hfr : w.frozen? ⟨b, o + i, none⟩ = false := by simp [World.frozen?, h]
    have hset : (w.setCell ⟨b, o + i, none⟩ v).heap[b]? = some (.cells (us.set (o + i) v).toArray ty (0, 0)) := by
      simp [World.setCell, Array.getElem?_modify, h]
    obtain ⟨w', hr, hh, hb, ho⟩ := run_storeCells b o ty vs (i + 1) (w.setCell ⟨b, o + i, none⟩ v) (us.set (o + i) v) hset (by simp at hl ⊢; omega) (fun u hu => hv u (List.mem_cons_of_mem _ hu))
    refine ⟨w', ?_, ?_, ((Below.refl b w).setCell (p := ⟨b, o + i, none⟩) (Nat.le_refl _) v).trans hb, fun j hj => (ho j hj).trans (Below.heap_setCell w ⟨b, o + i, none⟩ v j hj)⟩
    · simp only [storeCells, Sem.run_bind, add_at, run_store P w _ v .plain (hv v (by simp)), hcell, hfr]
      simpa using hr
    · rw [hh, show o + (i + 1) = (o + i) + 1 by omega, over_cons (by simp at hl; omega)]

theorem run_storeAt {t : TypeId} {i : TypeInfo} {b o : Nat} {ty : TypeId} {us : List Value} {v : Value} (hi : P.info? t = some i) (hs : v.cells.size = i.size)
    (h : w.heap[b]? = some (.cells us.toArray ty (0, 0))) (hl : o + v.cells.size ≤ us.length) (hv : ∀ u ∈ v.cells.toList, u.oneCell' = true) :
    ∃ w', (Instr.storeAt t (.pointer (some ⟨b, o, none⟩)) v).run P w = .ok () w' ∧ w'.heap[b]? = some (.cells (over us o v.cells.toList).toArray ty (0, 0)) ∧ Below b w w' ∧ ∀ j, j ≠ b → w'.heap[j]? = w.heap[j]? := by
  obtain ⟨w', hr, hh, hb, ho⟩ := run_storeCells (P := P) b o ty v.cells.toList 0 w us h (by simpa using hl) hv
  refine ⟨w', ?_, by simpa using hh, hb, ho⟩
  have hne : ¬ (v.cells.size ≠ i.size) := fun h => h hs
  simp only [Instr.storeAt, Instr.sureAddr, Sem.run_bind, Sem.run_pure, Result.andThen_ok, storeVar, sizeOf, typeInfo, run_program, hi, if_neg hne]
  exact hr

/-- All rows of one length: where a cell of row i lies. -/
theorem flatten_at {α : Type} {s : Nat} : ∀ (l : List (List α)) (i m : Nat), (∀ e ∈ l, e.length = s) → m < s → l.flatten[i * s + m]? = (l[i]?).bind (·[m]?)
  | [], i, m, _, _ => by simp
  | e :: l, 0, m, h, hm => by
    have he : e.length = s := h e (by simp)
    simp only [List.flatten_cons, Nat.zero_mul, Nat.zero_add, List.getElem?_cons_zero, Option.bind_some]
    rw [List.getElem?_append_left (by omega)]
  | e :: l, i + 1, m, h, hm => by
    have he : e.length = s := h e (by simp)
    have ih := flatten_at l i m (fun x hx => h x (List.mem_cons_of_mem _ hx)) hm
    simp only [List.flatten_cons, List.getElem?_cons_succ]
    rw [List.getElem?_append_right (by rw [he, Nat.succ_mul]; omega), he, ← ih]
    congr 1
    rw [Nat.succ_mul]; omega

theorem length_flatten {α : Type} {s : Nat} : ∀ (l : List (List α)), (∀ e ∈ l, e.length = s) → l.flatten.length = l.length * s
  | [], _ => by simp
  | e :: l, h => by
    rw [List.flatten_cons, List.length_append, length_flatten l (fun x hx => h x (List.mem_cons_of_mem _ hx)), h e (by simp), List.length_cons, Nat.succ_mul]
    omega

end
end Go.Fx

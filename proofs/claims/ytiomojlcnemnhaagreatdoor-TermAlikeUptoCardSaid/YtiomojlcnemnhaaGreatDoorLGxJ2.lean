import Derived.Test.YtiomojlcnemnhaaGreatDoorLGxIcN
import Derived.Test.YtiomojlcnemnhaaGreatDoorLGxW4
import Derived.Test.YtiomojlcnemnhaaGreatDoorLGxJ1
import Derived.OwnWalk
import Derived.Deep.WholeRow
import Derived.Deep.MidRow
import Derived.Maps.AppendAt
namespace Go.Proofs.YtiomojlcnemnhaaGreatDoor
open Go.Fx Go.RowKit Go.Ped
variable {G : World → Prop}
def fitsV (how : Int) (l : List Val) : Bool := !(how == 0) && (l.length == (if how = 2 ∨ how = 4 then 2 else 1)) && l.all fun v => (v.k == (if how = 4 ∨ how = 3 then 2 else 1)) && v.ok
def numV (n : Int) : Val := ⟨1, n, []⟩
def txtO (s : List UInt8) : Option Val := if s.length ≤ 200 then some ⟨2, 0, s⟩ else none
def charsB (s : List UInt8) : List (List UInt8) := segs (bs s) s.length 0
def backB (s : List UInt8) : List UInt8 := (charsB s).reverse.flatten
def arithV (op : Int) (l : List Val) : Option Val :=
  if op < 0 ∨ 11 ≤ op then none
  else if fitsV (takesTab.getD op.toNat 0) l = false then none
  else if op = 1 then some (numV (IntKind.i64.wrap (-(l.getD 0 zeroV).n)))
  else if op = 2 then some (numV (IntKind.i64.wrap ((l.getD 0 zeroV).n + (l.getD 1 zeroV).n)))
  else if op = 3 then some (numV (IntKind.i64.wrap ((l.getD 0 zeroV).n - (l.getD 1 zeroV).n)))
  else if op = 4 then some (numV (IntKind.i64.wrap ((l.getD 0 zeroV).n * (l.getD 1 zeroV).n)))
  else if op = 5 ∨ op = 6 then (divGo op (l.getD 0 zeroV).n (l.getD 1 zeroV).n).map numV
  else if op = 7 then txtO ((l.getD 0 zeroV).s ++ (l.getD 1 zeroV).s)
  else if op = 8 then some (numV (l.getD 0 zeroV).s.length)
  else if op = 9 then some (numV (charsB (l.getD 0 zeroV).s).length)
  else txtO (backB (l.getD 0 zeroV).s)
end Go.Proofs.YtiomojlcnemnhaaGreatDoor

namespace Go.Proofs.YtiomojlcnemnhaaGreatDoor
open Go.Fx Go.RowKit Go.Ped Go.Lib
variable {G : World → Prop}
theorem below_cell {N : Nat} {w w' : World} (h : Below N w w') {b : Nat} (hb : b < N) (o : Nat) : w'.cell? ⟨b, o, none⟩ = w.cell? ⟨b, o, none⟩ := by simp only [World.cell?, h.block b hb]
end Go.Proofs.YtiomojlcnemnhaaGreatDoor

namespace Go.Proofs.YtiomojlcnemnhaaGreatDoor
open Go.Fx Go.RowKit Go.Ped
theorem info47 : ∃ i0 z, Tryz.prog.info? 105 = some i0 ∧ i0.zero = some z ∧ i0.size = 6 ∧ i0.bytes = 80 ∧ z.cells.size = 6 := by
  have e1 : (Tryz.prog.info? 105).map (·.bytes) = some 80 := by kernel_rfl
  have e2 : (Tryz.prog.info? 105).map (·.size) = some 6 := by kernel_rfl
  have e3 : ((Tryz.prog.info? 105).bind fun i => i.zero.map fun z => z.cells.size) = some 6 := by kernel_rfl
  obtain ⟨i0, h, h1⟩ := Option.map_eq_some_iff.1 e1
  rw [h] at e2 e3
  obtain ⟨z, h3, h4⟩ := Option.map_eq_some_iff.1 (show i0.zero.map (fun z => z.cells.size) = some 6 from e3)
  exact ⟨i0, z, h, h3, by simpa using e2, h1, h4⟩
@[irreducible] def Stop (p : Prop) : Prop := p
theorem stop_at {p : Prop} (h : Stop p) : p := by unfold Stop at h; exact h
theorem six_facts (wr : World) (z0 z1 z2 z3 z4 z5 v0 v1 v2 v3 v4 v5 : Value) (ty : TypeId) :
    ∃ A A1 A2 A3 A4 A5 A6 : World, wr.alloc (.cells #[z0, z1, z2, z3, z4, z5] ty) = A ∧ A.setCell ⟨wr.heap.size, 0, none⟩ v0 = A1 ∧ A1.setCell ⟨wr.heap.size, 1, none⟩ v1 = A2 ∧ A2.setCell ⟨wr.heap.size, 2, none⟩ v2 = A3 ∧ A3.setCell ⟨wr.heap.size, 3, none⟩ v3 = A4 ∧ A4.setCell ⟨wr.heap.size, 4, none⟩ v4 = A5 ∧ A5.setCell ⟨wr.heap.size, 5, none⟩ v5 = A6 ∧ A.cell? ⟨wr.heap.size, 0, none⟩ = some z0 ∧ A.frozen? ⟨wr.heap.size, 0, none⟩ = false ∧ A1.cell? ⟨wr.heap.size, 1, none⟩ = some z1 ∧ A1.frozen? ⟨wr.heap.size, 1, none⟩ = false ∧ A2.cell? ⟨wr.heap.size, 2, none⟩ = some z2 ∧ A2.frozen? ⟨wr.heap.size, 2, none⟩ = false ∧ A3.cell? ⟨wr.heap.size, 3, none⟩ = some z3 ∧ A3.frozen? ⟨wr.heap.size, 3, none⟩ = false ∧ A4.cell? ⟨wr.heap.size, 4, none⟩ = some z4 ∧ A4.frozen? ⟨wr.heap.size, 4, none⟩ = false ∧ A5.cell? ⟨wr.heap.size, 5, none⟩ = some z5 ∧ A5.frozen? ⟨wr.heap.size, 5, none⟩ = false ∧ A6.cell? ⟨wr.heap.size, 0, none⟩ = some v0 ∧ A6.cell? ⟨wr.heap.size, 1, none⟩ = some v1 ∧ A6.cell? ⟨wr.heap.size, 2, none⟩ = some v2 ∧ A6.cell? ⟨wr.heap.size, 3, none⟩ = some v3 ∧ A6.cell? ⟨wr.heap.size, 4, none⟩ = some v4 ∧ A6.cell? ⟨wr.heap.size, 5, none⟩ = some v5 ∧ A6.heap.size = wr.heap.size + 1 ∧ Below wr.heap.size wr A6 := by
  generalize hA : wr.alloc (.cells #[z0, z1, z2, z3, z4, z5] ty) = A
  have h : A.heap[wr.heap.size]? = some (.cells #[z0, z1, z2, z3, z4, z5] ty (0, 0)) := by rw [← hA]; exact heap_alloc_last wr _
  have hs : A.heap.size = wr.heap.size + 1 := by rw [← hA]; exact alloc_size _ _
  have hB : Below wr.heap.size wr A := by rw [← hA]; exact Below.alloc (Below.refl _ _) (Nat.le_refl _) _
  generalize wr.heap.size = g at *
  have c0 : A.cell? ⟨g, 0, none⟩ = some z0 := by simp only [World.cell?, h]; rfl
  have f0 : A.frozen? ⟨g, 0, none⟩ = false := by simp only [World.frozen?, h]; rfl
  have c1 : (A.setCell ⟨g, 0, none⟩ v0).cell? ⟨g, 1, none⟩ = some z1 := by rw [World.cell?_setCell_other _ _ _ _ (by simp)]; simp only [World.cell?, h]; rfl
  have f1 : (A.setCell ⟨g, 0, none⟩ v0).frozen? ⟨g, 1, none⟩ = false := by rw [World.frozen?_setCell]; simp only [World.frozen?, h]; rfl
  have c2 : ((A.setCell ⟨g, 0, none⟩ v0).setCell ⟨g, 1, none⟩ v1).cell? ⟨g, 2, none⟩ = some z2 := by rw [World.cell?_setCell_other _ _ _ _ (by simp), World.cell?_setCell_other _ _ _ _ (by simp)]; simp only [World.cell?, h]; rfl
  have f2 : ((A.setCell ⟨g, 0, none⟩ v0).setCell ⟨g, 1, none⟩ v1).frozen? ⟨g, 2, none⟩ = false := by rw [World.frozen?_setCell, World.frozen?_setCell]; simp only [World.frozen?, h]; rfl
  have c3 : (((A.setCell ⟨g, 0, none⟩ v0).setCell ⟨g, 1, none⟩ v1).setCell ⟨g, 2, none⟩ v2).cell? ⟨g, 3, none⟩ = some z3 := by rw [World.cell?_setCell_other _ _ _ _ (by simp), World.cell?_setCell_other _ _ _ _ (by simp), World.cell?_setCell_other _ _ _ _ (by simp)]; simp only [World.cell?, h]; rfl
  have f3 : (((A.setCell ⟨g, 0, none⟩ v0).setCell ⟨g, 1, none⟩ v1).setCell ⟨g, 2, none⟩ v2).frozen? ⟨g, 3, none⟩ = false := by rw [World.frozen?_setCell, World.frozen?_setCell, World.frozen?_setCell]; simp only [World.frozen?, h]; rfl
  have c4 : ((((A.setCell ⟨g, 0, none⟩ v0).setCell ⟨g, 1, none⟩ v1).setCell ⟨g, 2, none⟩ v2).setCell ⟨g, 3, none⟩ v3).cell? ⟨g, 4, none⟩ = some z4 := by rw [World.cell?_setCell_other _ _ _ _ (by simp), World.cell?_setCell_other _ _ _ _ (by simp), World.cell?_setCell_other _ _ _ _ (by simp), World.cell?_setCell_other _ _ _ _ (by simp)]; simp only [World.cell?, h]; rfl
  have f4 : ((((A.setCell ⟨g, 0, none⟩ v0).setCell ⟨g, 1, none⟩ v1).setCell ⟨g, 2, none⟩ v2).setCell ⟨g, 3, none⟩ v3).frozen? ⟨g, 4, none⟩ = false := by rw [World.frozen?_setCell, World.frozen?_setCell, World.frozen?_setCell, World.frozen?_setCell]; simp only [World.frozen?, h]; rfl
  have c5 : (((((A.setCell ⟨g, 0, none⟩ v0).setCell ⟨g, 1, none⟩ v1).setCell ⟨g, 2, none⟩ v2).setCell ⟨g, 3, none⟩ v3).setCell ⟨g, 4, none⟩ v4).cell? ⟨g, 5, none⟩ = some z5 := by rw [World.cell?_setCell_other _ _ _ _ (by simp), World.cell?_setCell_other _ _ _ _ (by simp), World.cell?_setCell_other _ _ _ _ (by simp), World.cell?_setCell_other _ _ _ _ (by simp), World.cell?_setCell_other _ _ _ _ (by simp)]; simp only [World.cell?, h]; rfl
  have f5 : (((((A.setCell ⟨g, 0, none⟩ v0).setCell ⟨g, 1, none⟩ v1).setCell ⟨g, 2, none⟩ v2).setCell ⟨g, 3, none⟩ v3).setCell ⟨g, 4, none⟩ v4).frozen? ⟨g, 5, none⟩ = false := by rw [World.frozen?_setCell, World.frozen?_setCell, World.frozen?_setCell, World.frozen?_setCell, World.frozen?_setCell]; simp only [World.frozen?, h]; rfl
  have r0 : ((((((A.setCell ⟨g, 0, none⟩ v0).setCell ⟨g, 1, none⟩ v1).setCell ⟨g, 2, none⟩ v2).setCell ⟨g, 3, none⟩ v3).setCell ⟨g, 4, none⟩ v4).setCell ⟨g, 5, none⟩ v5).cell? ⟨g, 0, none⟩ = some v0 := by rw [World.cell?_setCell_other _ _ _ _ (by simp), World.cell?_setCell_other _ _ _ _ (by simp), World.cell?_setCell_other _ _ _ _ (by simp), World.cell?_setCell_other _ _ _ _ (by simp), World.cell?_setCell_other _ _ _ _ (by simp)]; exact World.cell?_setCell_same _ _ _ c0
  have r1 : ((((((A.setCell ⟨g, 0, none⟩ v0).setCell ⟨g, 1, none⟩ v1).setCell ⟨g, 2, none⟩ v2).setCell ⟨g, 3, none⟩ v3).setCell ⟨g, 4, none⟩ v4).setCell ⟨g, 5, none⟩ v5).cell? ⟨g, 1, none⟩ = some v1 := by rw [World.cell?_setCell_other _ _ _ _ (by simp), World.cell?_setCell_other _ _ _ _ (by simp), World.cell?_setCell_other _ _ _ _ (by simp), World.cell?_setCell_other _ _ _ _ (by simp)]; exact World.cell?_setCell_same _ _ _ c1
  have r2 : ((((((A.setCell ⟨g, 0, none⟩ v0).setCell ⟨g, 1, none⟩ v1).setCell ⟨g, 2, none⟩ v2).setCell ⟨g, 3, none⟩ v3).setCell ⟨g, 4, none⟩ v4).setCell ⟨g, 5, none⟩ v5).cell? ⟨g, 2, none⟩ = some v2 := by rw [World.cell?_setCell_other _ _ _ _ (by simp), World.cell?_setCell_other _ _ _ _ (by simp), World.cell?_setCell_other _ _ _ _ (by simp)]; exact World.cell?_setCell_same _ _ _ c2
  have r3 : ((((((A.setCell ⟨g, 0, none⟩ v0).setCell ⟨g, 1, none⟩ v1).setCell ⟨g, 2, none⟩ v2).setCell ⟨g, 3, none⟩ v3).setCell ⟨g, 4, none⟩ v4).setCell ⟨g, 5, none⟩ v5).cell? ⟨g, 3, none⟩ = some v3 := by rw [World.cell?_setCell_other _ _ _ _ (by simp), World.cell?_setCell_other _ _ _ _ (by simp)]; exact World.cell?_setCell_same _ _ _ c3
  have r4 : ((((((A.setCell ⟨g, 0, none⟩ v0).setCell ⟨g, 1, none⟩ v1).setCell ⟨g, 2, none⟩ v2).setCell ⟨g, 3, none⟩ v3).setCell ⟨g, 4, none⟩ v4).setCell ⟨g, 5, none⟩ v5).cell? ⟨g, 4, none⟩ = some v4 := by rw [World.cell?_setCell_other _ _ _ _ (by simp)]; exact World.cell?_setCell_same _ _ _ c4
  have r5 : ((((((A.setCell ⟨g, 0, none⟩ v0).setCell ⟨g, 1, none⟩ v1).setCell ⟨g, 2, none⟩ v2).setCell ⟨g, 3, none⟩ v3).setCell ⟨g, 4, none⟩ v4).setCell ⟨g, 5, none⟩ v5).cell? ⟨g, 5, none⟩ = some v5 := by exact World.cell?_setCell_same _ _ _ c5
  have hb6 : Below g wr ((((((A.setCell ⟨g, 0, none⟩ v0).setCell ⟨g, 1, none⟩ v1).setCell ⟨g, 2, none⟩ v2).setCell ⟨g, 3, none⟩ v3).setCell ⟨g, 4, none⟩ v4).setCell ⟨g, 5, none⟩ v5) := Below.setCell (Below.setCell (Below.setCell (Below.setCell (Below.setCell (Below.setCell (hB) (Nat.le_refl _) _) (Nat.le_refl _) _) (Nat.le_refl _) _) (Nat.le_refl _) _) (Nat.le_refl _) _) (Nat.le_refl _) _
  have hs6 : ((((((A.setCell ⟨g, 0, none⟩ v0).setCell ⟨g, 1, none⟩ v1).setCell ⟨g, 2, none⟩ v2).setCell ⟨g, 3, none⟩ v3).setCell ⟨g, 4, none⟩ v4).setCell ⟨g, 5, none⟩ v5).heap.size = g + 1 := by simp only [World.setCell, Array.size_modify]; exact hs
  exact ⟨A, _, _, _, _, _, _, rfl, rfl, rfl, rfl, rfl, rfl, rfl, c0, f0, c1, f1, c2, f2, c3, f3, c4, f4, c5, f5, r0, r1, r2, r3, r4, r5, hs6, hb6⟩
theorem six_at (A : World) (g : Nat) (z0 z1 z2 z3 z4 z5 v0 v1 v2 v3 v4 v5 : Value) (ty : TypeId) (h : A.heap[g]? = some (.cells #[z0, z1, z2, z3, z4, z5] ty (0, 0))) :
    ∃ A1 A2 A3 A4 A5 A6 : World, A.setCell ⟨g, 0, none⟩ v0 = A1 ∧ A1.setCell ⟨g, 1, none⟩ v1 = A2 ∧ A2.setCell ⟨g, 2, none⟩ v2 = A3 ∧ A3.setCell ⟨g, 3, none⟩ v3 = A4 ∧ A4.setCell ⟨g, 4, none⟩ v4 = A5 ∧ A5.setCell ⟨g, 5, none⟩ v5 = A6 ∧ A.cell? ⟨g, 0, none⟩ = some z0 ∧ A.frozen? ⟨g, 0, none⟩ = false ∧ A1.cell? ⟨g, 1, none⟩ = some z1 ∧ A1.frozen? ⟨g, 1, none⟩ = false ∧ A2.cell? ⟨g, 2, none⟩ = some z2 ∧ A2.frozen? ⟨g, 2, none⟩ = false ∧ A3.cell? ⟨g, 3, none⟩ = some z3 ∧ A3.frozen? ⟨g, 3, none⟩ = false ∧ A4.cell? ⟨g, 4, none⟩ = some z4 ∧ A4.frozen? ⟨g, 4, none⟩ = false ∧ A5.cell? ⟨g, 5, none⟩ = some z5 ∧ A5.frozen? ⟨g, 5, none⟩ = false ∧ A6.cell? ⟨g, 0, none⟩ = some v0 ∧ A6.cell? ⟨g, 1, none⟩ = some v1 ∧ A6.cell? ⟨g, 2, none⟩ = some v2 ∧ A6.cell? ⟨g, 3, none⟩ = some v3 ∧ A6.cell? ⟨g, 4, none⟩ = some v4 ∧ A6.cell? ⟨g, 5, none⟩ = some v5 ∧ A6.heap.size = A.heap.size ∧ (∀ b, b ≠ g → A6.heap[b]? = A.heap[b]?) := by
  have c0 : A.cell? ⟨g, 0, none⟩ = some z0 := by simp only [World.cell?, h]; rfl
  have f0 : A.frozen? ⟨g, 0, none⟩ = false := by simp only [World.frozen?, h]; rfl
  have c1 : (A.setCell ⟨g, 0, none⟩ v0).cell? ⟨g, 1, none⟩ = some z1 := by rw [World.cell?_setCell_other _ _ _ _ (by simp)]; simp only [World.cell?, h]; rfl
  have f1 : (A.setCell ⟨g, 0, none⟩ v0).frozen? ⟨g, 1, none⟩ = false := by rw [World.frozen?_setCell]; simp only [World.frozen?, h]; rfl
  have c2 : ((A.setCell ⟨g, 0, none⟩ v0).setCell ⟨g, 1, none⟩ v1).cell? ⟨g, 2, none⟩ = some z2 := by rw [World.cell?_setCell_other _ _ _ _ (by simp), World.cell?_setCell_other _ _ _ _ (by simp)]; simp only [World.cell?, h]; rfl
  have f2 : ((A.setCell ⟨g, 0, none⟩ v0).setCell ⟨g, 1, none⟩ v1).frozen? ⟨g, 2, none⟩ = false := by rw [World.frozen?_setCell, World.frozen?_setCell]; simp only [World.frozen?, h]; rfl
  have c3 : (((A.setCell ⟨g, 0, none⟩ v0).setCell ⟨g, 1, none⟩ v1).setCell ⟨g, 2, none⟩ v2).cell? ⟨g, 3, none⟩ = some z3 := by rw [World.cell?_setCell_other _ _ _ _ (by simp), World.cell?_setCell_other _ _ _ _ (by simp), World.cell?_setCell_other _ _ _ _ (by simp)]; simp only [World.cell?, h]; rfl
  have f3 : (((A.setCell ⟨g, 0, none⟩ v0).setCell ⟨g, 1, none⟩ v1).setCell ⟨g, 2, none⟩ v2).frozen? ⟨g, 3, none⟩ = false := by rw [World.frozen?_setCell, World.frozen?_setCell, World.frozen?_setCell]; simp only [World.frozen?, h]; rfl
  have c4 : ((((A.setCell ⟨g, 0, none⟩ v0).setCell ⟨g, 1, none⟩ v1).setCell ⟨g, 2, none⟩ v2).setCell ⟨g, 3, none⟩ v3).cell? ⟨g, 4, none⟩ = some z4 := by rw [World.cell?_setCell_other _ _ _ _ (by simp), World.cell?_setCell_other _ _ _ _ (by simp), World.cell?_setCell_other _ _ _ _ (by simp), World.cell?_setCell_other _ _ _ _ (by simp)]; simp only [World.cell?, h]; rfl
  have f4 : ((((A.setCell ⟨g, 0, none⟩ v0).setCell ⟨g, 1, none⟩ v1).setCell ⟨g, 2, none⟩ v2).setCell ⟨g, 3, none⟩ v3).frozen? ⟨g, 4, none⟩ = false := by rw [World.frozen?_setCell, World.frozen?_setCell, World.frozen?_setCell, World.frozen?_setCell]; simp only [World.frozen?, h]; rfl
  have c5 : (((((A.setCell ⟨g, 0, none⟩ v0).setCell ⟨g, 1, none⟩ v1).setCell ⟨g, 2, none⟩ v2).setCell ⟨g, 3, none⟩ v3).setCell ⟨g, 4, none⟩ v4).cell? ⟨g, 5, none⟩ = some z5 := by rw [World.cell?_setCell_other _ _ _ _ (by simp), World.cell?_setCell_other _ _ _ _ (by simp), World.cell?_setCell_other _ _ _ _ (by simp), World.cell?_setCell_other _ _ _ _ (by simp), World.cell?_setCell_other _ _ _ _ (by simp)]; simp only [World.cell?, h]; rfl
  have f5 : (((((A.setCell ⟨g, 0, none⟩ v0).setCell ⟨g, 1, none⟩ v1).setCell ⟨g, 2, none⟩ v2).setCell ⟨g, 3, none⟩ v3).setCell ⟨g, 4, none⟩ v4).frozen? ⟨g, 5, none⟩ = false := by rw [World.frozen?_setCell, World.frozen?_setCell, World.frozen?_setCell, World.frozen?_setCell, World.frozen?_setCell]; simp only [World.frozen?, h]; rfl
  have r0 : ((((((A.setCell ⟨g, 0, none⟩ v0).setCell ⟨g, 1, none⟩ v1).setCell ⟨g, 2, none⟩ v2).setCell ⟨g, 3, none⟩ v3).setCell ⟨g, 4, none⟩ v4).setCell ⟨g, 5, none⟩ v5).cell? ⟨g, 0, none⟩ = some v0 := by rw [World.cell?_setCell_other _ _ _ _ (by simp), World.cell?_setCell_other _ _ _ _ (by simp), World.cell?_setCell_other _ _ _ _ (by simp), World.cell?_setCell_other _ _ _ _ (by simp), World.cell?_setCell_other _ _ _ _ (by simp)]; exact World.cell?_setCell_same _ _ _ c0
  have r1 : ((((((A.setCell ⟨g, 0, none⟩ v0).setCell ⟨g, 1, none⟩ v1).setCell ⟨g, 2, none⟩ v2).setCell ⟨g, 3, none⟩ v3).setCell ⟨g, 4, none⟩ v4).setCell ⟨g, 5, none⟩ v5).cell? ⟨g, 1, none⟩ = some v1 := by rw [World.cell?_setCell_other _ _ _ _ (by simp), World.cell?_setCell_other _ _ _ _ (by simp), World.cell?_setCell_other _ _ _ _ (by simp), World.cell?_setCell_other _ _ _ _ (by simp)]; exact World.cell?_setCell_same _ _ _ c1
  have r2 : ((((((A.setCell ⟨g, 0, none⟩ v0).setCell ⟨g, 1, none⟩ v1).setCell ⟨g, 2, none⟩ v2).setCell ⟨g, 3, none⟩ v3).setCell ⟨g, 4, none⟩ v4).setCell ⟨g, 5, none⟩ v5).cell? ⟨g, 2, none⟩ = some v2 := by rw [World.cell?_setCell_other _ _ _ _ (by simp), World.cell?_setCell_other _ _ _ _ (by simp), World.cell?_setCell_other _ _ _ _ (by simp)]; exact World.cell?_setCell_same _ _ _ c2
  have r3 : ((((((A.setCell ⟨g, 0, none⟩ v0).setCell ⟨g, 1, none⟩ v1).setCell ⟨g, 2, none⟩ v2).setCell ⟨g, 3, none⟩ v3).setCell ⟨g, 4, none⟩ v4).setCell ⟨g, 5, none⟩ v5).cell? ⟨g, 3, none⟩ = some v3 := by rw [World.cell?_setCell_other _ _ _ _ (by simp), World.cell?_setCell_other _ _ _ _ (by simp)]; exact World.cell?_setCell_same _ _ _ c3
  have r4 : ((((((A.setCell ⟨g, 0, none⟩ v0).setCell ⟨g, 1, none⟩ v1).setCell ⟨g, 2, none⟩ v2).setCell ⟨g, 3, none⟩ v3).setCell ⟨g, 4, none⟩ v4).setCell ⟨g, 5, none⟩ v5).cell? ⟨g, 4, none⟩ = some v4 := by rw [World.cell?_setCell_other _ _ _ _ (by simp)]; exact World.cell?_setCell_same _ _ _ c4
  have r5 : ((((((A.setCell ⟨g, 0, none⟩ v0).setCell ⟨g, 1, none⟩ v1).setCell ⟨g, 2, none⟩ v2).setCell ⟨g, 3, none⟩ v3).setCell ⟨g, 4, none⟩ v4).setCell ⟨g, 5, none⟩ v5).cell? ⟨g, 5, none⟩ = some v5 := by exact World.cell?_setCell_same _ _ _ c5
  have hs6 : ((((((A.setCell ⟨g, 0, none⟩ v0).setCell ⟨g, 1, none⟩ v1).setCell ⟨g, 2, none⟩ v2).setCell ⟨g, 3, none⟩ v3).setCell ⟨g, 4, none⟩ v4).setCell ⟨g, 5, none⟩ v5).heap.size = A.heap.size := by simp only [World.setCell, Array.size_modify]
  have hb6 : ∀ b, b ≠ g → ((((((A.setCell ⟨g, 0, none⟩ v0).setCell ⟨g, 1, none⟩ v1).setCell ⟨g, 2, none⟩ v2).setCell ⟨g, 3, none⟩ v3).setCell ⟨g, 4, none⟩ v4).setCell ⟨g, 5, none⟩ v5).heap[b]? = A.heap[b]? := fun b hb => by
    have hb' : ¬ g = b := fun e => hb e.symm
    simp only [World.setCell, Array.getElem?_modify, hb', if_false]
  exact ⟨_, _, _, _, _, _, rfl, rfl, rfl, rfl, rfl, rfl, c0, f0, c1, f1, c2, f2, c3, f3, c4, f4, c5, f5, r0, r1, r2, r3, r4, r5, hs6, hb6⟩
def exCells (e : Ex) (v : Value) : List Value := .int .i8 e.op :: (tmCells e.t ++ [v])
def KidsRep (V : Nat → Nat → Prop) (w : World) (e : Ex) (v : Value) : Prop := RepC V w (.sl (e.kids.map Ex.row) e.sp) v
theorem kids_slice {V : Nat → Nat → Prop} {w : World} {e : Ex} {v : Value} (h : KidsRep V w e v) : ∃ ad cap, v = .slice ad e.kids.length cap := by
  unfold KidsRep at h
  generalize hr : e.kids.map Ex.row = rows at h
  have hl : rows.length = e.kids.length := by rw [← hr, List.length_map]
  generalize e.sp = sp at h
  cases h with
  | nil c => exact ⟨none, 0, by rw [← hl]; rfl⟩
  | emp a => exact ⟨some a, 0, by rw [← hl]; rfl⟩
  | sl _ _ s b o n cap us hn _ _ _ _ _ _ => exact ⟨some ⟨b, o, none⟩, cap, by rw [hn, hl]⟩
theorem ownsRow_frame {w w' : World} {base : Nat} {e : TypeId} {size : Nat} {v : Value} {n : Nat} {xs : List Value} (h : w.ownsRow base e size v n xs) (hb : ∀ g, g < w.heap.size → w'.heap[g]? = w.heap[g]?) : w'.ownsRow base e size v n xs :=
  ⟨h.1, h.2.imp id fun ⟨g, cap, cur, e1, e2, e3, r⟩ => ⟨g, cap, cur, e1, e2, (hb g (Array.getElem?_eq_some_iff.1 e3).1).trans e3, r⟩⟩
structure CloneAt (X0 X1 : Obj) (w0 w : World) (N : Nat) (kids : List Ex) (i : Nat) (v : Value) (ns : List Nd) : Prop where
  ex : ns.map Nd.ex = (kids.take i).map Ex.bare
  row : w.ownsRow (N + 2) 105 6 v i (ns.flatMap Nd.cells)
  nil : i = 0 → v = .slice none 0 0
  ins : ∀ n ∈ ns, n.In w
  nd : (ns.flatMap Nd.blks).Nodup
  lo : ∀ b ∈ ns.flatMap Nd.blks, N + 2 ≤ b
  out : ∀ g, v.ownBlock = some g → g ∉ ns.flatMap Nd.blks
  below : Below N w0 w
  c0 : w.heap[N]? = some X0
  c1 : w.heap[N + 1]? = some X1
  sz : N + 2 ≤ w.heap.size
theorem ownsRow_block {w : World} {base : Nat} {e : TypeId} {size : Nat} {v : Value} {n : Nat} {xs : List Value} (h : w.ownsRow base e size v n xs) : ∀ g, v.ownBlock = some g → base ≤ g ∧ g < w.heap.size := by
  intro g hg
  rcases h.2 with ⟨rfl, _⟩ | ⟨g', cap, cur, rfl, e2, e3, _⟩
  · cases hg
  · obtain rfl : g' = g := Option.some.inj hg
    exact ⟨e2, (Array.getElem?_eq_some_iff.1 e3).1⟩
theorem clone_step {X0 X1 : Obj} {w wr A6 w2 w3 : World} {N : Nat} {kids : List Ex} {i : Nat} {u v' : Value} {ns : List Nd} {n : Nd} {o : Obj} (hrel : CloneAt X0 X1 w wr N kids i u ns) (hlt : i < kids.length) (hb6 : Below wr.heap.size wr A6) (hs6 : A6.heap.size = wr.heap.size + 1) (hnB : Below A6.heap.size A6 w2)
    (hnex : n.ex = kids[i].bare) (hnin : n.In w2) (hnnd : n.blks.Nodup) (hnlo : ∀ b ∈ n.blks, A6.heap.size ≤ b) (hown : w3.ownsRow (N + 2) 105 6 v' (i + 1) (ns.flatMap Nd.cells ++ n.cells)) (hgrow : (w2.alloc o).grownBy w3 u.ownBlock)
    (hblk : v'.ownBlock = u.ownBlock ∨ v'.ownBlock = some (w2.alloc o).heap.size) : CloneAt X0 X1 w w3 N kids (i + 1) v' (ns ++ [n]) := by
  have hob := ownsRow_block hrel.row
  have hszr := hrel.sz
  have hsz2 := hnB.size
  have hsa : (w2.alloc o).heap.size = w2.heap.size + 1 := alloc_size _ _
  have hg3 := hgrow.size
  have hfl : (ns ++ [n]).flatMap Nd.cells = ns.flatMap Nd.cells ++ n.cells := by simp [List.flatMap_append]
  have hflb : (ns ++ [n]).flatMap Nd.blks = ns.flatMap Nd.blks ++ n.blks := by simp [List.flatMap_append]
  have hnsb : ∀ m ∈ ns, ∀ b ∈ m.blks, b < wr.heap.size := fun m hm b hb => Nd.In.lt m (hrel.ins m hm) b hb
  have hnsb' : ∀ b ∈ ns.flatMap Nd.blks, b < wr.heap.size := fun b hb => by
    obtain ⟨m, hm, hb⟩ := List.mem_flatMap.1 hb
    exact hnsb m hm b hb
  have hold : ∀ b, b < wr.heap.size → some b ≠ u.ownBlock → w3.heap[b]? = wr.heap[b]? := fun b hb hne => by
    rw [hgrow.block b (by omega) hne, alloc_heap, if_neg (by omega), hnB.block b (by omega), hb6.block b hb]
  refine ⟨?_, ?_, fun h => by omega, ?_, ?_, ?_, ?_, ?_, ?_, ?_, by omega⟩
  · rw [List.map_append, hrel.ex, List.take_succ_eq_append_getElem hlt, List.map_append, List.map_singleton, List.map_singleton, hnex]
  · rw [hfl]; exact hown
  · intro m hm
    rcases List.mem_append.1 hm with hm | hm
    · refine Nd.In.frame m (hrel.ins m hm) fun b hb => hold b (hnsb m hm b hb) fun e => ?_
      exact hrel.out b e.symm (List.mem_flatMap.2 ⟨m, hm, hb⟩)
    · obtain rfl : m = n := by simpa using hm
      refine Nd.In.frame m hnin fun b hb => ?_
      have h1 := hnlo b hb
      have h2 := Nd.In.lt m hnin b hb
      rw [hgrow.block b (by omega) (fun e => by have := (hob b e.symm).2; omega), alloc_heap, if_neg (by omega)]
  · rw [hflb, List.nodup_append]
    refine ⟨hrel.nd, hnnd, fun a ha b hb e => ?_⟩
    have h1 := hnsb' a ha
    have h2 := hnlo b hb
    omega
  · intro b hb
    rw [hflb] at hb
    rcases List.mem_append.1 hb with hb | hb
    · exact hrel.lo b hb
    · have := hnlo b hb; omega
  · intro g hg hm
    rw [hflb] at hm
    rcases hblk with h | h
    · rw [h] at hg
      rcases List.mem_append.1 hm with hm | hm
      · exact hrel.out g hg hm
      · have h1 := (hob g hg).2
        have h2 := hnlo g hm
        omega
    · rw [h] at hg
      obtain rfl := Option.some.inj hg
      rcases List.mem_append.1 hm with hm | hm
      · have := hnsb' _ hm; omega
      · have := Nd.In.lt n hnin _ hm; omega
  · refine Below.grown (w := w2.alloc o) ?_ hgrow (by omega) fun k hk => by have := (hob k hk).1; omega
    exact Below.alloc ((hrel.below.trans (hb6.mono (by omega))).trans (hnB.mono (by omega))) (by omega) _
  · rw [hold N (by omega) (fun e => by have := (hob N e.symm).1; omega)]; exact hrel.c0
  · rw [hold (N + 1) (by omega) (fun e => by have := (hob (N + 1) e.symm).1; omega)]; exact hrel.c1
theorem clone_end {X0 X1 : Obj} {w wr A6 : World} {N : Nat} {kids : List Ex} {ns : List Nd} {ua : Option Addr} {uc : Nat} (op : Int) (t : Tm) (sp : Sp) (hrel : CloneAt X0 X1 w wr N kids kids.length (.slice ua kids.length uc) ns) (hA : ∀ b, N + 2 ≤ b → A6.heap[b]? = wr.heap[b]?) :
    ∃ n : Nd, n.cells = [.int .i8 op, .string (bs t.v), .int .i8 t.x.k, .int .i64 t.x.n, .string (bs t.x.s), .slice ua kids.length uc] ∧ n.ex = (Ex.mk op t kids sp).bare ∧ n.In A6 ∧ n.blks.Nodup ∧ ∀ b ∈ n.blks, N ≤ b := by
  have hex := hrel.ex
  rw [List.take_length] at hex
  have hlen : ns.length = kids.length := by have := congrArg List.length hex; simpa using this
  have hlo := hrel.lo
  have hins : ∀ m ∈ ns, m.In A6 := fun m hm => Nd.In.frame m (hrel.ins m hm) fun b hb => hA b (hlo b (List.mem_flatMap.2 ⟨m, hm, hb⟩))
  have hexn : ∀ b c, (Nd.mk op t b c ns).ex = (Ex.mk op t kids sp).bare := fun b c => by rw [Nd.ex_mk, Ex.bare_mk, hex]
  by_cases hk : kids = []
  · have h0 : kids.length = 0 := by rw [hk]; rfl
    have hns : ns = [] := List.length_eq_zero_iff.1 (hlen.trans h0)
    refine ⟨.mk op t 0 0 ns, ?_, hexn _ _, Nd.In_mk.2 ⟨fun h => absurd hns h, hins⟩, ?_, ?_⟩
    · rw [hrel.nil h0]; subst hns; rfl
    · rw [Nd.blks_mk, if_pos hns]; exact List.nodup_nil
    · rw [Nd.blks_mk, if_pos hns]; intro b hb; cases hb
  · rcases hrel.row.2 with ⟨h1, h2⟩ | ⟨g, c, cur, h1, h2, h3, h4, h5, h6, h7⟩
    · exact absurd (List.length_eq_zero_iff.1 h2) hk
    · injection h1 with e1 e2 e3
      subst e1 e3
      have hpos : ns.length ≠ 0 := fun e => hk (List.length_eq_zero_iff.1 (hlen.symm.trans e))
      have hne : ns ≠ [] := fun e => hpos (by rw [e]; rfl)
      have hgo : g ∉ ns.flatMap Nd.blks := hrel.out g rfl
      have hl1 := hrel.row.1
      refine ⟨.mk op t g uc ns, ?_, hexn _ _, Nd.In_mk.2 ⟨fun _ => ⟨by rw [hlen]; exact hl1, cur, (hA g h2).trans h3, by rw [hlen]; exact h4, h5, h6, by rw [hlen]; exact h7⟩, hins⟩, ?_, ?_⟩
      · show Value.int .i8 op :: (tmCells t ++ [slV g uc ns.length]) = _
        unfold slV
        rw [if_neg hpos, hlen]
        rfl
      · rw [Nd.blks_mk, if_neg hne]; exact List.nodup_cons.2 ⟨hgo, hrel.nd⟩
      · rw [Nd.blks_mk, if_neg hne]
        intro b hb
        rcases List.mem_cons.1 hb with rfl | hb
        · omega
        · have := hlo b hb; omega
set_option maxRecDepth 100000 in
set_option maxHeartbeats 2000000 in
theorem clone_calls : ∀ (e : Ex), e.small 1048576 → ∀ (w : World) (V : Nat → Nat → Prop) (v : Value), (∀ b o, V b o → b < w.heap.size) → KidsRep V w e v →
    Calls Tryz.prog 256 #[.agg (exCells e v).toArray] w fun r w' => ∃ n : Nd, r = .returned (.agg n.cells.toArray) ∧ n.ex = e.bare ∧ n.In w' ∧ n.blks.Nodup ∧ (∀ b ∈ n.blks, w.heap.size ≤ b) ∧ Below w.heap.size w w' := by
  refine Ex.ind fun op t kids sp ih hsm w V v hV hrep => ?_
  obtain ⟨hkl, hks⟩ := Ex.small_mk.1 hsm
  obtain ⟨cap, ad, rfl, hcell⟩ : ∃ cap ad, v = .slice ad kids.length cap ∧ ∀ i (hi : i < kids.length), ∃ b o, ad = some ⟨b, o, none⟩ ∧ ∃ vk, (∀ j u, (exCells kids[i] vk)[j]? = some u → w.cell? ⟨b, o + i * 6 + j, none⟩ = some u ∧ b < w.heap.size) ∧ KidsRep V w kids[i] vk := by
    have h : RepC V w (.sl (kids.map Ex.row) sp) v := hrep
    generalize hrows : kids.map Ex.row = rows at h
    have hrl : rows.length = kids.length := by rw [← hrows, List.length_map]
    cases h with
    | nil c => exact ⟨0, none, by rw [← hrl]; rfl, fun i hi => absurd hi (by rw [← hrl]; exact Nat.not_lt_zero i)⟩
    | emp a => exact ⟨0, some a, by rw [← hrl]; rfl, fun i hi => absurd hi (by rw [← hrl]; exact Nat.not_lt_zero i)⟩
    | sl _ _ s b o n cap us hn hc hm hw hul hu hr =>
      refine ⟨cap, some ⟨b, o, none⟩, by rw [hn, hrl], fun i hi => ⟨b, o, rfl, ?_⟩⟩
      have hri : rows[i]? = some kids[i].row := by rw [← hrows, List.getElem?_map, List.getElem?_eq_getElem hi]; rfl
      have hs6 : s = 6 := by
        have := hw _ (List.mem_append_left _ (List.mem_of_getElem? hri))
        rw [Ex.row_length] at this
        exact this.symm
      subst hs6
      have hfl : ∀ m, m < 6 → (rows ++ sp).flatten[i * 6 + m]? = kids[i].row[m]? := fun m hm => by
        rw [flatten_at _ _ _ hw hm, List.getElem?_append_left (by omega), hri]; rfl
      have hlen : (rows ++ sp).flatten.length = (rows ++ sp).length * 6 := length_flatten _ hw
      have hin : ∀ m, m < 6 → i * 6 + m < us.length := fun m hm => by rw [hul, hlen, List.length_append]; omega
      have hrow : kids[i].row = [cI .i8 kids[i].op, cS (bs kids[i].t.v), cI .i8 kids[i].t.x.k, cI .i64 kids[i].t.x.n, cS (bs kids[i].t.x.s), .sl (kids[i].kids.map Ex.row) kids[i].sp] := by
        generalize kids[i] = e
        obtain ⟨op, t, ks, sp⟩ := e
        rw [Ex.row_mk]
        rfl
      have hat : ∀ m (hm : m < 6) (c : C), kids[i].row[m]? = some c → RepC V w c (us[i * 6 + m]'(hin m hm)) := fun m hm c hc => hr (i * 6 + m) c _ ((hfl m hm).trans hc) (List.getElem?_eq_getElem (hin m hm))
      have hval : ∀ m (hm : m < 6) (x : Value), kids[i].row[m]? = some (.v x) → us[i * 6 + m]? = some x := fun m hm x hc => by
        have h1 := hat m hm _ hc
        rw [List.getElem?_eq_getElem (hin m hm)]
        generalize us[i * 6 + m]'(hin m hm) = y at h1
        cases h1
        rfl
      refine ⟨us[i * 6 + 5]'(hin 5 (by omega)), fun j u hj => ?_, ?_⟩
      · have huj : us[i * 6 + j]? = some u := by
          have hj6 : j < 6 := (List.getElem?_eq_some_iff.1 hj).1
          have hjj : j = 0 ∨ j = 1 ∨ j = 2 ∨ j = 3 ∨ j = 4 ∨ j = 5 := by omega
          rcases hjj with rfl | rfl | rfl | rfl | rfl | rfl
          · cases hj; exact hval 0 (by omega) _ (by rw [hrow]; rfl)
          · cases hj; exact hval 1 (by omega) _ (by rw [hrow]; rfl)
          · cases hj; exact hval 2 (by omega) _ (by rw [hrow]; rfl)
          · cases hj; exact hval 3 (by omega) _ (by rw [hrow]; rfl)
          · cases hj; exact hval 4 (by omega) _ (by rw [hrow]; rfl)
          · cases hj; exact List.getElem?_eq_getElem (hin 5 (by omega))
        have h2 := hu _ _ huj
        rw [Nat.add_assoc]
        exact ⟨h2.1, hV _ _ h2.2⟩
      · exact hat 5 (by omega) _ (by rw [hrow]; rfl)
  obtain ⟨i0, z, hi47, hz0, hz1, hz2, hzs⟩ := info47
  show Calls Tryz.prog 256 #[.agg #[.int .i8 op, .string (bs t.v), .int .i8 t.x.k, .int .i64 t.x.n, .string (bs t.x.s), .slice ad kids.length cap]] w _
  go_enter Tryz.func256, Tryz.ntmps256
  go_wp2_with fail
  generalize hX0 : Obj.cells #[Value.int .i8 op, .string (bs t.v), .int .i8 t.x.k, .int .i64 t.x.n, .string (bs t.x.s), .slice ad kids.length cap] 105 = X0
  generalize hX1 : Obj.cells #[Value.int IntKind.i8 0, Value.string { data := #[] }, Value.int IntKind.i8 0, Value.int IntKind.i64 0, Value.string { data := #[] }, Value.slice none 0 0] 105 = X1
  go_loopw [3, 9] (fun v n w' => ∃ i ns, i ≤ kids.length ∧ n = .int .i64 (i : Int) ∧ CloneAt X0 X1 w w' w.heap.size kids i v ns) (fun _ n _ => match n with | .int _ k => kids.length - k.toNat | _ => 0)
  case atStart =>
    refine ⟨0, [], Nat.zero_le _, rfl, rfl, World.ownsRow_nil _ _ _ _, fun _ => rfl, by simp, by simp, by simp, by simp, ?_, ?_, ?_, ?_⟩
    · exact Below.alloc (Below.alloc (Below.refl _ _) (Nat.le_refl _) _) (by rw [alloc_size]; omega) _
    · rw [alloc_heap, if_neg (by rw [alloc_size]; omega), alloc_heap, if_pos rfl]
    · rw [alloc_heap, if_pos (by rw [alloc_size])]
    · rw [alloc_size, alloc_size]; omega
  case round =>
    obtain ⟨i, ns, hi, rfl, hrel⟩ := hrel
    by_cases hlt : i < kids.length
    · have hlt' : (i : Int) < (kids.length : Int) := by omega
      obtain ⟨b, o, rfl, vk, hcells, hkr⟩ := hcell i hlt
      obtain ⟨adk, capk, rfl⟩ := kids_slice hkr
      generalize hvk0 : kids[i].kids.length = nk at *
      have hcl : exCells kids[i] (.slice adk nk capk) = [.int .i8 kids[i].op, .string (bs kids[i].t.v), .int .i8 kids[i].t.x.k, .int .i64 kids[i].t.x.n, .string (bs kids[i].t.x.s), .slice adk nk capk] := rfl
      rw [hcl] at hcells
      have hat : ∀ (j : Nat) (u : Value), [Value.int .i8 kids[i].op, .string (bs kids[i].t.v), .int .i8 kids[i].t.x.k, .int .i64 kids[i].t.x.n, .string (bs kids[i].t.x.s), .slice adk nk capk][j]? = some u → wr.cell? ⟨b, o + i * 6 + j, none⟩ = some u := fun j u h => (below_cell hrel.below (hcells j u h).2 _).trans (hcells j u h).1
      have g0 := hat 0 _ rfl
      have g1 := hat 1 _ rfl
      have g2 := hat 2 _ rfl
      have g3 := hat 3 _ rfl
      have g4 := hat 4 _ rfl
      have g5 := hat 5 _ rfl
      rw [Nat.add_zero] at g0
      have hvk := hkr.oneCell
      obtain ⟨A, A1, A2, A3, A4, A5, A6, hA, s0, s1, s2, s3, s4, s5, a0, b0, a1, b1, a2, b2, a3, b3, a4, b4, a5, b5, r0, r1, r2, r3, r4, r5, hs6, hb6⟩ := six_facts wr (Value.int IntKind.i8 0) (Value.string { data := #[] }) (Value.int IntKind.i8 0) (Value.int IntKind.i64 0) (Value.string { data := #[] }) (Value.slice none 0 0) (Value.int .i8 kids[i].op) (.string (bs kids[i].t.v)) (.int .i8 kids[i].t.x.k) (.int .i64 kids[i].t.x.n) (.string (bs kids[i].t.x.s)) (.slice adk nk capk) 105
      rw [hX1] at hA
      have hBA : Below w.heap.size w A6 := hrel.below.trans (hb6.mono (by have := hrel.sz; omega))
      have hkA : KidsRep V A6 kids[i] (.slice adk nk capk) := RepC.mono (fun _ _ h => h) (fun b o h => below_cell hBA (hV b o h) o) hkr
      have hcall := ih kids[i] (List.getElem_mem hlt) (hks _ (List.getElem_mem hlt)) A6 V _ (fun b o h => Nat.lt_of_lt_of_le (hV b o h) hBA.size) hkA
      rw [hcl] at hcall
      go_wp2_with fail
      refine hcall.mono ?_
      rintro e w2 ⟨n, rfl, hnex, hnin, hnnd, hnlo, hnB⟩
      obtain ⟨nad, nn, ncap, hsl⟩ : ∃ a m c, n.sl = .slice a m c := by
        obtain ⟨_, _, b, c, ks⟩ := n
        show ∃ a m c', slV b c ks.length = .slice a m c'
        unfold slV
        split
        · exact ⟨_, _, _, rfl⟩
        · exact ⟨_, _, _, rfl⟩
      have hnc : n.cells.toArray = #[.int .i8 n.op, .string (bs n.t.v), .int .i8 n.t.x.k, .int .i64 n.t.x.n, .string (bs n.t.x.s), .slice nad nn ncap] := by unfold Nd.cells tmCells; rw [hsl]; rfl
      clear s0 s1 s2 s3 s4 s5 a0 b0 a1 b1 a2 b2 a3 b3 a4 b4 a5 b5 r0 r1 r2 r3 r4 r5 hA hcall g0 g1 g2 g3 g4 g5 hat hcells
      rw [hnc]
      have hsz2 := hnB.size
      have hszr := hrel.sz
      have hrow : (w2.alloc (.cells #[.int .i8 n.op, .string (bs n.t.v), .int .i8 n.t.x.k, .int .i64 n.t.x.n, .string (bs n.t.x.s), .slice nad nn ncap] 105)).ownsRow (w.heap.size + 2) 105 6 u3 i (ns.flatMap Nd.cells) :=
        ownsRow_frame hrel.row fun g hg => by rw [alloc_heap, if_neg (by omega), hnB.block g (by omega), hb6.block g hg]
      have hnew : ∀ j u, [Value.int .i8 n.op, .string (bs n.t.v), .int .i8 n.t.x.k, .int .i64 n.t.x.n, .string (bs n.t.x.s), .slice nad nn ncap][j]? = some u → (w2.alloc (.cells #[.int .i8 n.op, .string (bs n.t.v), .int .i8 n.t.x.k, .int .i64 n.t.x.n, .string (bs n.t.x.s), .slice nad nn ncap] 105)).cell? ((⟨w2.heap.size, 0, none⟩ : Addr).add j) = some u := fun j u h => by
        have hadd : (⟨w2.heap.size, 0, none⟩ : Addr).add j = ⟨w2.heap.size, j, none⟩ := by unfold Addr.add; split <;> simp_all
        rw [hadd, cell_of_row _ _ j _ 105 (0, 0) (heap_alloc_last w2 _)]
        simpa using h
      go_wp2_with (at_builtin; refine stop_at ?_)
      unfold Stop
      refine (wpList_append_own_at _ rfl _ _ 103 rfl (w.heap.size + 2) 105 i0 z 6 80 Tryz.underlying103 hi47 hz0 hz1 hz2 hzs (by decide) u3 i (ns.flatMap Nd.cells) rfl hrow ⟨w2.heap.size, 0, none⟩ 1 1 [Value.int .i8 n.op, .string (bs n.t.v), .int .i8 n.t.x.k, .int .i64 n.t.x.n, .string (bs n.t.x.s), .slice nad nn ncap] rfl rfl hnew (by intro u hu; simp only [List.mem_cons, List.not_mem_nil, or_false] at hu; rcases hu with rfl | rfl | rfl | rfl | rfl | rfl <;> rfl) (by unfold maxLen; omega) (by omega) (by rw [alloc_size]; omega) ?_)
      intro v' w3 hown hgrow hnil hblk
      have hstep := clone_step hrel hlt hb6 hs6 hnB hnex hnin hnnd hnlo (by rw [show n.cells = _ from congrArg Array.toList hnc]; exact hown) hgrow hblk
      go_wp2_with fail
      refine ⟨⟨i + 1, ns ++ [n], by omega, congrArg (Value.int .i64) (by omega), hstep⟩, ?_⟩
      show kids.length - ((i : Int) + 1).toNat < kids.length - (i : Int).toNat
      omega
    · have hlt' : ¬ (i : Int) < (kids.length : Int) := by omega
      obtain rfl : i = kids.length := by omega
      obtain ⟨ua, uc, rfl⟩ : ∃ a c, u3 = .slice a kids.length c := by
        rcases hrel.row.2 with ⟨rfl, h0⟩ | ⟨g, c, _, rfl, _⟩
        · exact ⟨none, 0, by rw [h0]⟩
        · exact ⟨_, _, rfl⟩
      have hN := hrel.c0
      have hN1 := hrel.c1
      rw [← hX0] at hN
      rw [← hX1] at hN1
      obtain ⟨B1, hB1, d0, d1, d2, d3, d4, d5, dz, dc, db, ds⟩ : ∃ B1, wr.setCell ⟨w.heap.size, 5, none⟩ (.slice ua kids.length uc) = B1 ∧ B1.cell? ⟨w.heap.size, 0, none⟩ = some (.int .i8 op) ∧ B1.cell? ⟨w.heap.size, 1, none⟩ = some (.string (bs t.v)) ∧ B1.cell? ⟨w.heap.size, 2, none⟩ = some (.int .i8 t.x.k) ∧ B1.cell? ⟨w.heap.size, 3, none⟩ = some (.int .i64 t.x.n) ∧ B1.cell? ⟨w.heap.size, 4, none⟩ = some (.string (bs t.x.s)) ∧ B1.cell? ⟨w.heap.size, 5, none⟩ = some (.slice ua kids.length uc) ∧
          wr.frozen? ⟨w.heap.size, 5, none⟩ = false ∧ wr.cell? ⟨w.heap.size, 5, none⟩ = some (.slice ad kids.length cap) ∧ (∀ b, b ≠ w.heap.size → B1.heap[b]? = wr.heap[b]?) ∧ B1.heap.size = wr.heap.size := by
        have c5 : wr.cell? ⟨w.heap.size, 5, none⟩ = some (.slice ad kids.length cap) := by simp only [World.cell?, hN]; rfl
        have oth : ∀ j (u : Value), j ≠ 5 → wr.cell? ⟨w.heap.size, j, none⟩ = some u → (wr.setCell ⟨w.heap.size, 5, none⟩ (.slice ua kids.length uc)).cell? ⟨w.heap.size, j, none⟩ = some u := fun j u hj h => by rw [World.cell?_setCell_other _ _ _ _ (by simp <;> exact fun e => hj e)]; exact h
        refine ⟨_, rfl, oth 0 _ (by omega) ?_, oth 1 _ (by omega) ?_, oth 2 _ (by omega) ?_, oth 3 _ (by omega) ?_, oth 4 _ (by omega) ?_, World.cell?_setCell_same _ _ _ c5, ?_, c5, fun b hb => ?_, ?_⟩
        · simp only [World.cell?, hN]; rfl
        · simp only [World.cell?, hN]; rfl
        · simp only [World.cell?, hN]; rfl
        · simp only [World.cell?, hN]; rfl
        · simp only [World.cell?, hN]; rfl
        · simp only [World.frozen?, hN]; rfl
        · have hb' : ¬ w.heap.size = b := fun e => hb e.symm
          simp only [World.setCell, Array.getElem?_modify, hb', if_false]
        · simp only [World.setCell, Array.size_modify]
      obtain ⟨A1, A2, A3, A4, A5, A6, s0, s1, s2, s3, s4, s5, a0, b0, a1, b1, a2, b2, a3, b3, a4, b4, a5, b5, r0, r1, r2, r3, r4, r5, hs6, hb6⟩ := six_at B1 (w.heap.size + 1) (Value.int IntKind.i8 0) (Value.string { data := #[] }) (Value.int IntKind.i8 0) (Value.int IntKind.i64 0) (Value.string { data := #[] }) (Value.slice none 0 0) (Value.int .i8 op) (.string (bs t.v)) (.int .i8 t.x.k) (.int .i64 t.x.n) (.string (bs t.x.s)) (.slice ua kids.length uc) 105 (by rw [db _ (by omega)]; exact hN1)
      have hBl : Below w.heap.size w A6 := by
        rw [← s5, ← s4, ← s3, ← s2, ← s1, ← s0, ← hB1]
        exact Below.setCell (Below.setCell (Below.setCell (Below.setCell (Below.setCell (Below.setCell (Below.setCell hrel.below (Nat.le_refl _) _) (Nat.le_succ _) _) (Nat.le_succ _) _) (Nat.le_succ _) _) (Nat.le_succ _) _) (Nat.le_succ _) _) (Nat.le_succ _) _
      obtain ⟨n, hn1, hn2, hn3, hn4, hn5⟩ := clone_end (A6 := A6) op t sp hrel fun b hb => (hb6 b (by omega)).trans (db b (by omega))
      go_wp2_with fail
      simp [bodyPost, results, Tryz.results208, r0, r1, r2, r3, r4, r5, go_sem]
      exact ⟨n, by rw [hn1], hn2, hn3, hn4, hn5, hBl⟩
end Go.Proofs.YtiomojlcnemnhaaGreatDoor

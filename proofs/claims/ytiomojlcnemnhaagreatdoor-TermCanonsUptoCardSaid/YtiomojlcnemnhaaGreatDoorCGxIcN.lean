import Derived.Test.YtiomojlcnemnhaaGreatDoorCFxZ
import Derived.Test.YtiomojlcnemnhaaGreatDoorProg
import Derived.KernelRfl
import Derived.Tactics
import Derived.Tactics2
import Derived.Defers
import Derived.Recover
import Derived.Laws.Pointers
import Derived.Laws.Wrap64
import Derived.WalkKit
import Derived.LoopTactic
import Derived.Laws.CopyOwn
import Derived.Laws.CopyRow
import Derived.StillTailTactics
import Derived.Lib.OthersKept
import Derived.Lib.RuneCount
import Derived.Laws.BytesString
import Derived.Laws.BytesArg
namespace Go.Proofs.YtiomojlcnemnhaaGreatDoor
open Go.Fx Go.RowKit
def divGo (op a b : Int) : Option Int := if b = 0 then none else some (if op = 5 then wrap64 (a.tdiv b) else a.tmod b)
end Go.Proofs.YtiomojlcnemnhaaGreatDoor

namespace Go.Proofs.YtiomojlcnemnhaaGreatDoor
open Go.Fx Go.RowKit
def cellsOf (s : ByteArray) (a b : Nat) : List Value := ((s.data.toList.drop a).take (b - a)).map fun c => .int .u8 c.toNat
end Go.Proofs.YtiomojlcnemnhaaGreatDoor

namespace Go.Proofs.YtiomojlcnemnhaaGreatDoor
open Go.Fx Go.RowKit Go.Lib
def bytesOf (s : ByteArray) (a b : Nat) : List UInt8 := (s.data.toList.drop a).take (b - a)
def segs (s : ByteArray) : Nat → Nat → List (List UInt8)
  | 0, _ => []
  | n + 1, p => if p < s.size then bytesOf s p (p + (Utf8.decode s p).2) :: segs s n (p + (Utf8.decode s p).2) else []
theorem conv_row (w : World) (g : Nat) (l : List UInt8) (n cap : Nat) (hn : n = l.length) (ty : TypeId) (h : w.heap[g]? = some (.cells (l.map fun c => Value.int .u8 (c.toNat : Int)).toArray ty (0, 0))) :
    (convert 312 9 (.slice (some ⟨g, 0, none⟩) n cap)).run Tryz.prog w = .ok (.string ⟨l.toArray⟩) w := by
  have hns : (l.map fun c => (c.toNat : Int)).map (Value.int .u8) = l.map fun c => Value.int .u8 (c.toNat : Int) := by rw [List.map_map]; rfl
  rw [run_convert_bytes_string w 312 9 5 _ _ _ Tryz.underlying312 Tryz.underlying5 Tryz.underlying9]
  refine (run_bytesToString w ⟨g, 0, none⟩ n cap (l.map fun c => (c.toNat : Int)) ?_).trans ?_
  · rw [hns]
    have := run_loadCells_list (P := Tryz.prog) (w := w) ⟨g, 0, none⟩ (l.map fun c => Value.int .u8 (c.toNat : Int)) ?_
    · rw [List.length_map, ← hn] at this
      exact this
    · intro j v hj
      have hj' : (l.map fun c => Value.int .u8 (c.toNat : Int)).toArray[j]? = some v := by simpa using hj
      have he : (⟨g, 0, none⟩ : Addr).add j = ⟨g, j, none⟩ := by unfold Addr.add; split <;> simp_all
      rw [he]
      simp only [World.cell?, h]
      exact hj'
  · rw [foldl_push_bytes, List.map_map]
    congr 2
    have : ((fun n : Int => UInt8.ofNat n.toNat) ∘ fun c : UInt8 => (c.toNat : Int)) = id := by
      funext c; simp
    rw [this, List.map_id]
    simp [ByteArray.empty, ByteArray.emptyWithCapacity]
    try rfl
theorem alloc_heap (w : World) (o : Obj) (i : Nat) : (w.alloc o).heap[i]? = if i = w.heap.size then some o else w.heap[i]? := by
  show (w.heap.push o)[i]? = _
  rw [Array.getElem?_push]
theorem alloc_size (w : World) (o : Obj) : (w.alloc o).heap.size = w.heap.size + 1 := Array.size_push _
end Go.Proofs.YtiomojlcnemnhaaGreatDoor

namespace Go.Proofs.YtiomojlcnemnhaaGreatDoor
open Go.Fx
end Go.Proofs.YtiomojlcnemnhaaGreatDoor

import Derived.Test.YtiomojlcnemnhaaDoorTFxZ
import Derived.Test.YtiomojlcnemnhaaDoorProg
import Derived.KernelRfl
import Derived.Tactics
import Derived.Tactics2
import Derived.Defers
import Derived.Recover
import Derived.Laws.Pointers
import Derived.Laws.Wrap64
import Derived.WalkKit
import Derived.LoopTactic
import Derived.Laws.CopyOwn
import Derived.Laws.CopyRow
import Derived.StillTailTactics
import Derived.Lib.OthersKept
import Derived.Lib.RuneCount
import Derived.Laws.BytesString
import Derived.Laws.BytesArg
import Derived.Test.YtiomojlcnemnhaaDoorTFxWb
/- value.divide: the quotient or what is left; where the divisor is 0 the division's panic is recovered. -/
namespace Go.Proofs.YtiomojlcnemnhaaDoor
open Go.Fx Go.RowKit

/-- What divide gives. -/
def divGo (op a b : Int) : Option Int := if b = 0 then none else some (if op = 5 then wrap64 (a.tdiv b) else a.tmod b)
end Go.Proofs.YtiomojlcnemnhaaDoor

/- value.back: the closure that lays one character ahead of those that lie. -/
namespace Go.Proofs.YtiomojlcnemnhaaDoor
open Go.Fx Go.RowKit

/-- The bytes of a string from one place to another, as cells. -/
def cellsOf (s : ByteArray) (a b : Nat) : List Value := ((s.data.toList.drop a).take (b - a)).map fun c => .int .u8 c.toNat

end Go.Proofs.YtiomojlcnemnhaaDoor

/- value.back: the characters of a text from the last to the first. -/
namespace Go.Proofs.YtiomojlcnemnhaaDoor
open Go.Fx Go.RowKit Go.Lib

/-- A text's bytes from one place to another. -/
def bytesOf (s : ByteArray) (a b : Nat) : List UInt8 := (s.data.toList.drop a).take (b - a)
/-- The characters that begin at a place and behind. -/
def segs (s : ByteArray) : Nat → Nat → List (List UInt8)
  | 0, _ => []
  | n + 1, p => if p < s.size then bytesOf s p (p + (Utf8.decode s p).2) :: segs s n (p + (Utf8.decode s p).2) else []
theorem alloc_heap (w : World) (o : Obj) (i : Nat) : (w.alloc o).heap[i]? = if i = w.heap.size then some o else w.heap[i]? := by
  show (w.heap.push o)[i]? = _
  rw [Array.getElem?_push]
theorem alloc_size (w : World) (o : Obj) : (w.alloc o).heap.size = w.heap.size + 1 := Array.size_push _
end Go.Proofs.YtiomojlcnemnhaaDoor

/- Functions of the seat, as the small language has them. -/
namespace Go.Proofs.YtiomojlcnemnhaaDoor
open Go.Fx

end Go.Proofs.YtiomojlcnemnhaaDoor

import Derived.Test.YtiomojlcnemnhaaGreatDoorRFxZ
import Derived.Test.YtiomojlcnemnhaaGreatDoorProg
import Derived.KernelRfl
import Derived.Tactics
import Derived.Tactics2
import Derived.Defers
import Derived.Recover
import Derived.Laws.Pointers
import Derived.Laws.Wrap64
import Derived.WalkKit
import Derived.LoopTactic
import Derived.Laws.CopyOwn
import Derived.Laws.CopyRow
import Derived.StillTailTactics
import Derived.Lib.OthersKept
import Derived.Lib.RuneCount
import Derived.Laws.BytesString
import Derived.Laws.BytesArg
namespace Go.Proofs.YtiomojlcnemnhaaGreatDoor
open Go.Fx Go.RowKit
def divGo (op a b:Int):Option Int:=if b = 0 then none else some (if op = 5 then wrap64 (a.tdiv b) else a.tmod b)
end Go.Proofs.YtiomojlcnemnhaaGreatDoor

namespace Go.Proofs.YtiomojlcnemnhaaGreatDoor
open Go.Fx Go.RowKit
def cellsOf (s:ByteArray) (a b:Nat):List Value:=((s.data.toList.drop a).take (b - a)).map fun c=>.int .u8 c.toNat
end Go.Proofs.YtiomojlcnemnhaaGreatDoor

namespace Go.Proofs.YtiomojlcnemnhaaGreatDoor
open Go.Fx Go.RowKit Go.Lib
def bytesOf (s:ByteArray) (a b:Nat):List UInt8:=(s.data.toList.drop a).take (b - a)
def segs (s:ByteArray):Nat→Nat→List (List UInt8)
  | 0,_=>[]
  | n + 1,p=>if p < s.size then bytesOf s p (p + (Utf8.decode s p).2) :: segs s n (p + (Utf8.decode s p).2) else []
theorem alloc_heap (w:World) (o:Obj) (i:Nat):(w.alloc o).heap[i]? = if i = w.heap.size then some o else w.heap[i]?:=by
  show (w.heap.push o)[i]? = _
  rw [Array.getElem?_push]
theorem alloc_size (w:World) (o:Obj):(w.alloc o).heap.size = w.heap.size + 1:=Array.size_push _
end Go.Proofs.YtiomojlcnemnhaaGreatDoor

namespace Go.Proofs.YtiomojlcnemnhaaGreatDoor
open Go.Fx
end Go.Proofs.YtiomojlcnemnhaaGreatDoor

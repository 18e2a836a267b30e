import Derived.Test.YtiomojlcnemnhaaIFxWb
import Derived.Test.YtiomojlcnemnhaaProg
import Derived.KernelRfl
import Derived.Test.YtiomojlcnemnhaaIFxZ
namespace Go.Proofs.Ytiomojlcnemnhaa
open Go.Fx
end Go.Proofs.Ytiomojlcnemnhaa

namespace Go.Proofs.Ytiomojlcnemnhaa
open Go.Fx Go.RowKit
variable {G : World → Prop}
def okN (n : Int) : Bool := decide (n ≥ 97) && decide (n ≤ 122) || decide (n ≥ 65) && decide (n ≤ 90) || decide (n ≥ 48) && decide (n ≤ 57) || n == 95
def valOk (k n : Int) (s : List UInt8) : Bool := if k = 1 then s == [] else decide (k = 2) && decide (n = 0) && decide (s.length ≤ 200)
def okB (b : UInt8) : Bool := okN b.toNat
def wordOk (a z : Int) : List UInt8 → Bool
  | [] => false
  | b :: l => decide ((b :: l).length ≤ 120) && decide (a ≤ b.toNat) && decide ((b.toNat : Int) ≤ z) && okB b && l.all okB
def termOk (v : List UInt8) (k n : Int) (s : List UInt8) : Bool := if v = [] then valOk k n s else (decide (v = [95]) || wordOk 65 90 v) && decide (k = 0) && decide (n = 0) && decide (s = [])
end Go.Proofs.Ytiomojlcnemnhaa

namespace Go.Proofs.Ytiomojlcnemnhaa
open Go.Fx Go.RowKit
variable {G : World → Prop}
end Go.Proofs.Ytiomojlcnemnhaa

import Derived.Test.YtiomojlcnemnhaaGreatDoorAGxIcN
import Derived.Test.YtiomojlcnemnhaaGreatDoorAGxW4
/- Contracts, on: what operations give. -/
namespace Go.Proofs.YtiomojlcnemnhaaGreatDoor
open Go.Fx Go.RowKit Go.Ped
variable {G : World → Prop}

/-- Are these what an operation takes so? -/
def fitsV (how : Int) (l : List Val) : Bool := !(how == 0) && (l.length == (if how = 2 ∨ how = 4 then 2 else 1)) && l.all fun v => (v.k == (if how = 4 ∨ how = 3 then 2 else 1)) && v.ok
def numV (n : Int) : Val := ⟨1, n, []⟩
def txtO (s : List UInt8) : Option Val := if s.length ≤ 200 then some ⟨2, 0, s⟩ else none
/-- A text's characters. -/
def charsB (s : List UInt8) : List (List UInt8) := segs (bs s) s.length 0
def backB (s : List UInt8) : List UInt8 := (charsB s).reverse.flatten
/-- What an operation gives. -/
def arithV (op : Int) (l : List Val) : Option Val :=
  if op < 0 ∨ 11 ≤ op then none
  else if fitsV (takesTab.getD op.toNat 0) l = false then none
  else if op = 1 then some (numV (IntKind.i64.wrap (-(l.getD 0 zeroV).n)))
  else if op = 2 then some (numV (IntKind.i64.wrap ((l.getD 0 zeroV).n + (l.getD 1 zeroV).n)))
  else if op = 3 then some (numV (IntKind.i64.wrap ((l.getD 0 zeroV).n - (l.getD 1 zeroV).n)))
  else if op = 4 then some (numV (IntKind.i64.wrap ((l.getD 0 zeroV).n * (l.getD 1 zeroV).n)))
  else if op = 5 ∨ op = 6 then (divGo op (l.getD 0 zeroV).n (l.getD 1 zeroV).n).map numV
  else if op = 7 then txtO ((l.getD 0 zeroV).s ++ (l.getD 1 zeroV).s)
  else if op = 8 then some (numV (l.getD 0 zeroV).s.length)
  else if op = 9 then some (numV (charsB (l.getD 0 zeroV).s).length)
  else txtO (backB (l.getD 0 zeroV).s)
end Go.Proofs.YtiomojlcnemnhaaGreatDoor

/- Contracts, on: how many characters a text has. -/
namespace Go.Proofs.YtiomojlcnemnhaaGreatDoor
open Go.Fx Go.RowKit Go.Ped Go.Lib
variable {G : World → Prop}

theorem below_cell {N : Nat} {w w' : World} (h : Below N w w') {b : Nat} (hb : b < N) (o : Nat) : w'.cell? ⟨b, o, none⟩ = w.cell? ⟨b, o, none⟩ := by simp only [World.cell?, h.block b hb]

end Go.Proofs.YtiomojlcnemnhaaGreatDoor

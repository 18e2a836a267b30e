import Derived.Test.YtiomojlcnemnhaaDoorWDxIcN
import Derived.Test.YtiomojlcnemnhaaDoorWDxM8
import Derived.Test.YtiomojlcnemnhaaDoorWDxW5
import Derived.Lib.DecodeN
import Derived.Test.YtiomojlcnemnhaaDoorWDxX11
namespace Go.Proofs.YtiomojlcnemnhaaDoor
open Go.Fx Go.RowKit Go.Ped
variable {G : World → Prop}
theorem ret_three {L : List (Nat × T)} {O : List (Nat × Box)} {U : List (Nat × Fx.Tok)} {H : FHp} {a b c : IRes} {cs : List CX} : retO (st L O U H) [a, b, c] (.tup cs) = ((resO (st L O U H) a).need ∧ (resO (st L O U H) b).need ∧ (resO (st L O U H) c).need ∧ closeRs (st L O U H) [a, b, c] = some cs) := by
  refine propext ⟨fun ⟨h1, c1, h2, h3⟩ => ?_, fun ⟨h1, h2, h3, h4⟩ => ⟨fun x hx => ?_, cs, h4, rfl⟩⟩
  · injection h3 with h3; subst h3
    exact ⟨h1 a (by simp), h1 b (by simp), h1 c (by simp), h2⟩
  · simp only [List.mem_cons, List.not_mem_nil, or_false] at hx
    rcases hx with rfl | rfl | rfl
    · exact h1
    · exact h2
    · exact h3
attribute [local simp] ret_three
end Go.Proofs.YtiomojlcnemnhaaDoor

namespace Go.Proofs.YtiomojlcnemnhaaDoor
open Go.Fx Go.RowKit Go.Ped
variable {G : World → Prop}
def fitsV (how : Int) (l : List Val) : Bool := !(how == 0) && (l.length == (if how = 2 ∨ how = 4 then 2 else 1)) && l.all fun v => (v.k == (if how = 4 ∨ how = 3 then 2 else 1)) && v.ok
def numV (n : Int) : Val := ⟨1, n, []⟩
def txtO (s : List UInt8) : Option Val := if s.length ≤ 200 then some ⟨2, 0, s⟩ else none
def charsB (s : List UInt8) : List (List UInt8) := segs (bs s) s.length 0
def backB (s : List UInt8) : List UInt8 := (charsB s).reverse.flatten
def arithV (op : Int) (l : List Val) : Option Val :=
  if op < 0 ∨ 11 ≤ op then none
  else if fitsV (takesTab.getD op.toNat 0) l = false then none
  else if op = 1 then some (numV (IntKind.i64.wrap (-(l.getD 0 zeroV).n)))
  else if op = 2 then some (numV (IntKind.i64.wrap ((l.getD 0 zeroV).n + (l.getD 1 zeroV).n)))
  else if op = 3 then some (numV (IntKind.i64.wrap ((l.getD 0 zeroV).n - (l.getD 1 zeroV).n)))
  else if op = 4 then some (numV (IntKind.i64.wrap ((l.getD 0 zeroV).n * (l.getD 1 zeroV).n)))
  else if op = 5 ∨ op = 6 then (divGo op (l.getD 0 zeroV).n (l.getD 1 zeroV).n).map numV
  else if op = 7 then txtO ((l.getD 0 zeroV).s ++ (l.getD 1 zeroV).s)
  else if op = 8 then some (numV (l.getD 0 zeroV).s.length)
  else if op = 9 then some (numV (charsB (l.getD 0 zeroV).s).length)
  else txtO (backB (l.getD 0 zeroV).s)
end Go.Proofs.YtiomojlcnemnhaaDoor

namespace Go.Proofs.YtiomojlcnemnhaaDoor
open Go.Fx Go.RowKit Go.Ped
variable {G : World → Prop}
end Go.Proofs.YtiomojlcnemnhaaDoor

namespace Go.Proofs.YtiomojlcnemnhaaDoor
open Go.Fx Go.RowKit Go.Ped Go.Lib
variable {G : World → Prop}
theorem below_cell {N : Nat} {w w' : World} (h : Below N w w') {b : Nat} (hb : b < N) (o : Nat) : w'.cell? ⟨b, o, none⟩ = w.cell? ⟨b, o, none⟩ := by simp only [World.cell?, h.block b hb]
end Go.Proofs.YtiomojlcnemnhaaDoor

namespace Go.Proofs.YtiomojlcnemnhaaDoor
open Go.Fx Go.RowKit Go.Ped
variable {G : World → Prop}
def leafV (m : List Tm) (t : Tm) : Option Val := if t.v = [] then some t.x else match bindOf m t.v with | some w => if w.ok then some w else none | none => none
mutual
def Ex.val (m : List Tm) : Ex → Option Val
  | .mk op t kids _ => if op = 0 then leafV m t else match exVals m kids with | none => none | some vs => arithV op vs
def exVals (m : List Tm) : List Ex → Option (List Val)
  | [] => some []
  | e :: l => match e.val m with | none => none | some v => match exVals m l with | none => none | some vs => some (v :: vs)
end
end Go.Proofs.YtiomojlcnemnhaaDoor

namespace Go.Proofs.YtiomojlcnemnhaaDoor
open Go.Fx Go.RowKit Go.Ped
variable {G : World → Prop}
end Go.Proofs.YtiomojlcnemnhaaDoor

namespace Go.Proofs.YtiomojlcnemnhaaDoor
open Go.Fx Go.RowKit Go.Ped
variable {G : World → Prop}
end Go.Proofs.YtiomojlcnemnhaaDoor

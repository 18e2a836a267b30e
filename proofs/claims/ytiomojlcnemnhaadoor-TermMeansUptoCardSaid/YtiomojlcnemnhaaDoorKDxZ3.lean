import Derived.Test.YtiomojlcnemnhaaDoorKDxY3
import Derived.Test.YtiomojlcnemnhaaDoorKDxIcI
import Derived.Test.YtiomojlcnemnhaaDoorKDxHa
/- Contracts, on: variables that are found; lone sides of equations. -/
namespace Go.Proofs.YtiomojlcnemnhaaDoor
open Go.Fx Go.RowKit Go.Ped
variable {G : World → Prop}

abbrev OF (a b c : Nat) (acc : List Name) : List (Nat × Box) := [(a, ⟨174, 2, [[.own c (acc.map nmRow), .mapr b]], none⟩), (b, ⟨0, 2, thr 0 acc, some (.string, true)⟩)]
abbrev UF (c : Nat) (acc : List Name) : List (Nat × Tok) := [(c, ⟨9, 1, acc.length⟩)]
attribute [simp] thr_strike thr_get OF UF

end Go.Proofs.YtiomojlcnemnhaaDoor

/- Contracts, on: rounds over what waits. -/
namespace Go.Proofs.YtiomojlcnemnhaaDoor
open Go.Fx Go.RowKit Go.Ped
variable {G : World → Prop}

def Eqn.row (q : Eqn) : List C := [cS (bs q.left), cS (bs q.right), .sl (q.lefts.map nmRow) [], .sl (q.rights.map nmRow) []]
@[simp] theorem eqn_len (q : Eqn) : (Eqn.row q).length = 4 := rfl
end Go.Proofs.YtiomojlcnemnhaaDoor

/- Contracts, on: the variables that a body limits; the law on limits. -/
namespace Go.Proofs.YtiomojlcnemnhaaDoor
open Go.Fx Go.RowKit Go.Ped
variable {G : World → Prop}

theorem m28 (e : Ex) (hs : e.small 1048576) (hl : e.terms.length ≤ 1048576) : Meets Tryd.prog G 28 [.agg e.row] (.x (.one (.sl ((tmVars e.terms).map nmRow) []))) := by
  refine meets Tryd.func28 ie28 ig28 (Nat.le_of_ble_eq_true rfl) ?_
  simp [ic28, ir28]
  refine r_callW _ _ [] [] _ [] _ (MeetsV.of_fun (m99n (G := G) e hs (by omega))) rfl rfl rfl (by simp) (by simp) ?_
  simp
  refine call_of (m98 e.terms [] hl) ?_
  simp

end Go.Proofs.YtiomojlcnemnhaaDoor

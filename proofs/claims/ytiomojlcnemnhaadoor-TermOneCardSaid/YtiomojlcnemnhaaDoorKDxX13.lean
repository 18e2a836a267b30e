import Derived.Test.YtiomojlcnemnhaaDoorKFxWb
import Derived.Test.YtiomojlcnemnhaaDoorProg
import Derived.KernelRfl
import Derived.Test.YtiomojlcnemnhaaDoorKDxX2
import Derived.Test.YtiomojlcnemnhaaDoorKDxRow
import Derived.Test.YtiomojlcnemnhaaDoorKDxN3
import Derived.Test.YtiomojlcnemnhaaDoorKFxSc
import Derived.Test.YtiomojlcnemnhaaDoorKDxIcD
/- Functions of the seat, as the small language has them. -/
namespace Go.Proofs.YtiomojlcnemnhaaDoor
open Go.Fx
end Go.Proofs.YtiomojlcnemnhaaDoor

/- Contracts, on: literals: what they may be. -/
namespace Go.Proofs.YtiomojlcnemnhaaDoor
open Go.Fx Go.RowKit Go.Ped
variable {G : World → Prop}

end Go.Proofs.YtiomojlcnemnhaaDoor

/- Fx, part Se: lists that are copied element by element by a function, with a mark behind: once for all types of elements. -/
namespace Go.Fx
open Go.RowKit

section
variable {P : Program} {G : World → Prop} {α : Type} {s : Nat}

end
end Go.Fx

/- Contracts, on: copies of expressions. -/
namespace Go.Proofs.YtiomojlcnemnhaaDoor
open Go.Fx Go.RowKit Go.Ped

end Go.Proofs.YtiomojlcnemnhaaDoor

/- Contracts, on: copies of expressions, looked at again. -/
namespace Go.Proofs.YtiomojlcnemnhaaDoor
open Go.Fx Go.RowKit Go.Ped

end Go.Proofs.YtiomojlcnemnhaaDoor

/- Contracts, on: copies of literals. -/
namespace Go.Proofs.YtiomojlcnemnhaaDoor
open Go.Fx Go.RowKit Go.Ped

end Go.Proofs.YtiomojlcnemnhaaDoor

/- Contracts, on: the program's walk over the terms of an expression. -/
namespace Go.Proofs.YtiomojlcnemnhaaDoor
open Go.Fx Go.RowKit Go.Ped
variable {G : World → Prop}

section
variable {fv : A} {H H' : FHp} {Q : Exit → S → Prop} {t0 t12 t14 t15 t4 t21 t20 t22 t1 t5 t39 t38 t40 t6 t53 t54 t7 t74 t75 t8 t86 t85 t87 t9 t100 t101 t10 t107 t106 t108 t11 : T}

end

end Go.Proofs.YtiomojlcnemnhaaDoor

/- Functions of the seat, as the small language has them. -/
namespace Go.Proofs.YtiomojlcnemnhaaDoor
open Go.Fx

end Go.Proofs.YtiomojlcnemnhaaDoor

/- Contracts, on: the program's walk over a literal; its variables. -/
namespace Go.Proofs.YtiomojlcnemnhaaDoor
open Go.Fx Go.RowKit Go.Ped
variable {G : World → Prop}

theorem PtAt.sub {es : List (List C)} {i off : Nat} {cs : List C} (h : PtAt es i off cs) (j : Nat) {ds : List C} (hd : (cs.drop j).take ds.length = ds) (hj : j + ds.length ≤ cs.length) : PtAt es i (off + j) ds := by
  obtain ⟨r, h1, h2⟩ := h
  refine ⟨r, h1, ?_⟩
  rw [← h2, List.drop_take, List.take_take, List.drop_drop, Nat.min_eq_left (by omega)] at hd
  exact hd

end Go.Proofs.YtiomojlcnemnhaaDoor

/- Functions of the seat, as the small language has them. -/
namespace Go.Proofs.YtiomojlcnemnhaaDoor
open Go.Fx

end Go.Proofs.YtiomojlcnemnhaaDoor

/- Contracts, on: the document's terms of an expression. -/
namespace Go.Proofs.YtiomojlcnemnhaaDoor
open Go.Fx Go.RowKit Go.Ped
variable {G : World → Prop}

end Go.Proofs.YtiomojlcnemnhaaDoor

/- Contracts, on: the document's terms of an expression, from nothing on. -/
namespace Go.Proofs.YtiomojlcnemnhaaDoor
open Go.Fx Go.RowKit Go.Ped
variable {G : World → Prop}

/-- Two names change places. -/
def swF (a b k : Nat) : Nat := if k = a then b else if k = b then a else k
theorem swF_swF (a b k : Nat) : swF a b (swF a b k) = k := by
  unfold swF; split <;> (try split) <;> (try split) <;> (try split) <;> simp_all
def swR (a b : Nat) : Ren := ⟨swF a b, swF a b, swF_swF a b, swF_swF a b⟩
@[simp] theorem swR_f (a b : Nat) : (swR a b).f = swF a b := rfl

end Go.Proofs.YtiomojlcnemnhaaDoor

/- Contracts, on: the document's terms of a literal; its variables. -/
namespace Go.Proofs.YtiomojlcnemnhaaDoor
open Go.Fx Go.RowKit Go.Ped
variable {G : World → Prop}

end Go.Proofs.YtiomojlcnemnhaaDoor

/- Contracts, on: how many parts things have, counted up to a number. -/
namespace Go.Proofs.YtiomojlcnemnhaaDoor
open Go.Fx Go.RowKit Go.Ped
variable {G : World → Prop}

theorem wrap64 {n : Int} (h1 : -9223372036854775808 ≤ n) (h2 : n ≤ 9223372036854775807) : IntKind.i64.wrap n = n := Go.IntWalk.i64_in _ (by omega)

end Go.Proofs.YtiomojlcnemnhaaDoor

/- Contracts, on: a literal, as the program looks at it; the law on literals. -/
namespace Go.Proofs.YtiomojlcnemnhaaDoor
open Go.Fx Go.RowKit Go.Ped
variable {G : World → Prop}

end Go.Proofs.YtiomojlcnemnhaaDoor

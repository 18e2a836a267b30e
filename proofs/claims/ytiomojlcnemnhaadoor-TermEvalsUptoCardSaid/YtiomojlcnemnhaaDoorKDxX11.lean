import Derived.Test.YtiomojlcnemnhaaDoorKDxN3
import Derived.Test.YtiomojlcnemnhaaDoorKDxX2
import Derived.Test.YtiomojlcnemnhaaDoorKFxWb
import Derived.Test.YtiomojlcnemnhaaDoorProg
import Derived.KernelRfl
/- Contracts, on: the program's walk over the terms of an expression. -/
namespace Go.Proofs.YtiomojlcnemnhaaDoor
open Go.Fx Go.RowKit Go.Ped
variable {G : World → Prop}

section
variable {fv : A} {H H' : FHp} {Q : Exit → S → Prop} {t0 t12 t14 t15 t4 t21 t20 t22 t1 t5 t39 t38 t40 t6 t53 t54 t7 t74 t75 t8 t86 t85 t87 t9 t100 t101 t10 t107 t106 t108 t11 : T}

end

end Go.Proofs.YtiomojlcnemnhaaDoor

/- Functions of the seat, as the small language has them. -/
namespace Go.Proofs.YtiomojlcnemnhaaDoor
open Go.Fx

end Go.Proofs.YtiomojlcnemnhaaDoor

/- Contracts, on: the program's walk over a literal; its variables. -/
namespace Go.Proofs.YtiomojlcnemnhaaDoor
open Go.Fx Go.RowKit Go.Ped
variable {G : World → Prop}

theorem PtAt.sub {es : List (List C)} {i off : Nat} {cs : List C} (h : PtAt es i off cs) (j : Nat) {ds : List C} (hd : (cs.drop j).take ds.length = ds) (hj : j + ds.length ≤ cs.length) : PtAt es i (off + j) ds := by
  obtain ⟨r, h1, h2⟩ := h
  refine ⟨r, h1, ?_⟩
  rw [← h2, List.drop_take, List.take_take, List.drop_drop, Nat.min_eq_left (by omega)] at hd
  exact hd

end Go.Proofs.YtiomojlcnemnhaaDoor

/- Functions of the seat, as the small language has them. -/
namespace Go.Proofs.YtiomojlcnemnhaaDoor
open Go.Fx

end Go.Proofs.YtiomojlcnemnhaaDoor

/- Contracts, on: the document's terms of an expression. -/
namespace Go.Proofs.YtiomojlcnemnhaaDoor
open Go.Fx Go.RowKit Go.Ped
variable {G : World → Prop}

end Go.Proofs.YtiomojlcnemnhaaDoor

/- Contracts, on: the document's terms of an expression, from nothing on. -/
namespace Go.Proofs.YtiomojlcnemnhaaDoor
open Go.Fx Go.RowKit Go.Ped
variable {G : World → Prop}

/-- Two names change places. -/
def swF (a b k : Nat) : Nat := if k = a then b else if k = b then a else k
theorem swF_swF (a b k : Nat) : swF a b (swF a b k) = k := by
  unfold swF; split <;> (try split) <;> (try split) <;> (try split) <;> simp_all
def swR (a b : Nat) : Ren := ⟨swF a b, swF a b, swF_swF a b, swF_swF a b⟩
@[simp] theorem swR_f (a b : Nat) : (swR a b).f = swF a b := rfl

end Go.Proofs.YtiomojlcnemnhaaDoor

/- Contracts, on: the document's terms of a literal; its variables. -/
namespace Go.Proofs.YtiomojlcnemnhaaDoor
open Go.Fx Go.RowKit Go.Ped
variable {G : World → Prop}

end Go.Proofs.YtiomojlcnemnhaaDoor

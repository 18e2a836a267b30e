/- The law CheckFixed, of what is small. (Seat ZD.) -/
import Derived.Test.YtiomojlcnemnhaaGreatDoorGxQ2
import Derived.Test.YtiomojlcnemnhaaGreatDoorGxFacts
namespace Go.Proofs.YtiomojlcnemnhaaGreatDoor
open Go.Fx Go.RowKit Go.Ped

theorem lit_fit4 (x : Lit) (h : rowBulk x.row ≤ 1048576) : x.fit := by
  have h1 := lit_terms_bulk x
  simp only [Lit.terms, List.length_append] at h1
  exact ⟨lit_small x h, by omega, by omega⟩
theorem lits_sum4 : ∀ l : List Lit, (l.map fun x => x.l.length).sum ≤ rowsBulk (l.map Lit.row)
  | [] => Nat.zero_le _
  | x :: l => by
    have h1 := lit_terms_bulk x
    simp only [Lit.terms, List.length_append] at h1
    have h2 := lits_sum4 l
    simp only [List.map_cons, List.sum_cons, rowsBulk]
    omega
theorem m2011b (l : List Lit) (sp : Sp) (h : rowsBulk (l.map Lit.row) ≤ 1048576) : Meets Tryz.prog GT 11 [.one (.sl (l.map Lit.row) sp)] (.x (.one (cB true))) := by
  have h1 := lits_sum4 l
  have h2 := rows_len lit_bulk l
  have hm : ∀ x ∈ l, rowBulk x.row ≤ 1048576 := fun x hx => by have := rows_mem (row := Lit.row) hx; omega
  exact m2011 l sp (fun x hx => lit_fit4 x (hm x hx)) (by omega) (by omega) (fun x hx => Nat.le_trans (lit_terms_bulk x) (hm x hx))
theorem not_agg78 : ¬ isAggTy Tryz.prog 27 := by
  rintro (⟨fs, h⟩ | ⟨n, e, h⟩) <;> rw [Tryz.underlying27] at h <;> cases h
end Go.Proofs.YtiomojlcnemnhaaGreatDoor

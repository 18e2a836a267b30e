import Derived.Test.YtiomojlcnemnhaaGreatDoorWGxK1
import Derived.Test.YtiomojlcnemnhaaGreatDoorWGxIcR
import Derived.Test.YtiomojlcnemnhaaGreatDoorWGxF12
/- Contracts, on: may a rule be used, does it make values: the document's, the program's; the law. (Labels of 2000 and more: seat ZD.) -/
namespace Go.Proofs.YtiomojlcnemnhaaGreatDoor
open Go.Fx Go.RowKit Go.Ped
variable {G : World → Prop}

/-- The head alone. -/
def Rule.bare (r : Rule) : Rule := ⟨[], r.head, r.hsp, [], []⟩
end Go.Proofs.YtiomojlcnemnhaaGreatDoor

/- Rules and literals that are small fit. (Seat ZD.) -/
namespace Go.Proofs.YtiomojlcnemnhaaGreatDoor
open Go.Fx Go.RowKit Go.Ped

theorem lit_fit (x : Lit) (h : rowBulk x.row ≤ 1048576) : x.fit := by
  have h1 := lit_terms_bulk x
  simp only [Lit.terms, List.length_append] at h1
  exact ⟨lit_small x h, by omega, by omega⟩
theorem lits_sum : ∀ l : List Lit, (l.map fun x => x.l.length).sum ≤ rowsBulk (l.map Lit.row)
  | [] => Nat.zero_le _
  | x :: l => by
    have h1 := lit_terms_bulk x
    simp only [Lit.terms, List.length_append] at h1
    have h2 := lits_sum l
    simp only [List.map_cons, List.sum_cons, rowsBulk]
    omega
theorem rule_fit (r : Rule) (h : rowBulk r.row ≤ 1048576) : r.fit := by
  have h1 := rule_terms_bulk r
  have h2 := lits_sum r.body
  have h3 : rowsBulk (r.body.map Lit.row) ≤ rowBulk r.row := by simp only [Rule.row, rowBulk, C.bulk]; omega
  exact ⟨rule_small r h, fun x hx => lit_fit x (by have := rows_mem (row := Lit.row) hx; omega), by omega, by omega⟩
end Go.Proofs.YtiomojlcnemnhaaGreatDoor

import Derived.Test.YtiomojlcnemnhaaGreatDoorCFxZ
import Derived.Test.YtiomojlcnemnhaaGreatDoorProg
import Derived.KernelRfl
import Derived.Test.YtiomojlcnemnhaaGreatDoorCGxM3
import Derived.Test.YtiomojlcnemnhaaGreatDoorCGxU2
namespace Go.Proofs.YtiomojlcnemnhaaGreatDoor
open Go.Fx
end Go.Proofs.YtiomojlcnemnhaaGreatDoor

namespace Go.Ped
section
variable (val : Name → Val)
end
end Go.Ped

namespace Go.Ped
def NoBlank (c : List Pr) : Prop := ∀ p ∈ c, p.t.v ≠ us
theorem noBlank_end : ∀ {c : List Pr} (t : Tm), NoBlank c → t.v ≠ us → (endOf c t).v ≠ us
  | [], _, _, h => h
  | p :: c, t, h, ht => by
    have hc : NoBlank c := fun q hq => h q (List.mem_cons_of_mem _ hq)
    simp only [endOf]
    split
    · exact noBlank_end p.t hc (h p (List.mem_cons_self ..))
    · exact noBlank_end t hc ht
def valEnd (e : Tm) : Val := if e.v = [] then e.x else ⟨1, 0, []⟩
def valOf (c : List Pr) (v : Name) : Val := valEnd (endOf c ⟨v, zeroV⟩)
theorem solved {c : List Pr} (h : Good c) (hn : NoBlank c) : ∀ p ∈ solve c, p.v ≠ [] ∧ p.v ≠ us ∧ p.t.v ≠ us ∧ p.t.v ∉ keys (solve c) := fun p hp => by
  have hk : p.v ∈ keys (solve c) := List.mem_map_of_mem hp
  obtain ⟨q, hq, rfl⟩ := List.mem_map.1 hp
  rw [keys_solve] at hk ⊢
  exact ⟨(h.keys_ok _ hk).1, (h.keys_ok _ hk).2, noBlank_end q.t hn (hn q hq), h.end_out q.t⟩
end Go.Ped

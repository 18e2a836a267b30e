import Derived.Test.YtiomojlcnemnhaaGreatDoorAFxWb
import Derived.Test.YtiomojlcnemnhaaGreatDoorProg
import Derived.KernelRfl
import Derived.Test.YtiomojlcnemnhaaGreatDoorAGxM3
import Derived.Test.YtiomojlcnemnhaaGreatDoorAGxU2
/- Functions of the seat, as the small language has them. -/
namespace Go.Proofs.YtiomojlcnemnhaaGreatDoor
open Go.Fx

/-- pedigree/term.Apply -/
def ic54 : IC :=
 (.seq
 (.region [3, 4] [] [1, 3, 0, 4] [
 ⟨(some 3), (.box 25 (.t 1)), none, none⟩,
 ⟨(some 4), (.zero 25 [(.c (.v (.string (bs [])))), .nil]), none, none⟩])
 (.seq
 (.region [] [] [1, 3, 0, 4] [
 ⟨(some 5), (.faddr 1 (.t 3)), none, none⟩,
 ⟨(some 6), (.load none (.t 5)), none, none⟩,
 ⟨(some 7), (.call (.k (rF 79)) [(.t 6)]), none, none⟩,
 ⟨(some 8), (.faddr 1 (.t 3)), none, none⟩,
 ⟨none, (.store (some 1) (.t 8) (.t 7)), none, none⟩])
 (.seq
 (.region [] [] [1, 3, 0, 4] [
 ⟨(some 9), (.mki 120 (.t 3)), none, none⟩,
 ⟨(some 10), (.move (.t 0)), none, none⟩,
 ⟨(some 11), (.call (.k (rF 81)) [(.t 10)]), none, none⟩,
 ⟨(some 12), (.clo 82 [(.t 11)] []), none, none⟩,
 ⟨(some 13), (.call (.k (rF 80)) [(.t 9), (.t 12)]), none, none⟩])
 (.seq
 (.region [] [] [1, 3, 0, 4] [
 ⟨(some 14), (.load (some 2) (.t 3)), none, none⟩,
 ⟨none, (.store (some 2) (.t 4) (.t 14)), none, none⟩])
 .ret))))
def ir54 : List IRes := [.cell 4 (some 2)]
theorem ie54 : cmpFunc Go.Proofs.Tryz.prog ⟨[(7, none), (11, none), (13, none)], []⟩ Go.Proofs.Tryz.f18 [1, 3, 0, 4] = some ic54 := by kernel_rfl
theorem ig54 : cmpRes Go.Proofs.Tryz.prog Go.Proofs.Tryz.f18.results.toList = some ir54 := by kernel_rfl

def ic127l0 : IC :=
 (.seq
 (.region [] [] [0, 11, 10, 12, 9, 3, 5, 7, 33, 2] [
 ⟨(some 12), (.bin .lss (.t 11) (.t 10)), none, none⟩])
 (.seq
 (.cond (.t 12)
 .skip
 (.exit 0))
 (.seq
 (.block 1
 (.seq
 (.region [5] [] [0, 11, 10, 12, 9, 3, 5, 7, 33, 2] [
 ⟨(some 13), (.iaddr 5 (.t 9) (.t 11)), none, none⟩,
 ⟨(some 14), (.load (some 5) (.t 13)), none, none⟩,
 ⟨(some 5), (.zero 76 [(.c (.v (.string (bs [])))), (.c (.v (.string (bs [])))), (.c (.v (.int .i8 0))), (.c (.v (.int .i64 0))), (.c (.v (.string (bs []))))]), none, none⟩,
 ⟨none, (.store (some 5) (.t 5) (.t 14)), none, none⟩])
 (.seq
 (.region [6] [] [0, 11, 10, 12, 9, 3, 5, 7, 33, 2] [
 ⟨(some 16), (.move (.t 3)), none, none⟩,
 ⟨(some 17), (.faddr 0 (.t 5)), none, none⟩,
 ⟨(some 18), (.load none (.t 17)), none, none⟩,
 ⟨(some 19), (.mlook .string false true [(.c (.v (.string (bs [])))), (.c (.v (.int .i8 0))), (.c (.v (.int .i64 0))), (.c (.v (.string (bs []))))] (.t 16) (.t 18)), none, none⟩,
 ⟨(some 15), (.move (.t 19)), none, none⟩,
 ⟨(some 20), (.ext (.t 15) 0), none, none⟩,
 ⟨(some 21), (.ext (.t 15) 1), none, none⟩,
 ⟨(some 6), (.zero 73 [(.c (.v (.string (bs [])))), (.c (.v (.int .i8 0))), (.c (.v (.int .i64 0))), (.c (.v (.string (bs []))))]), none, none⟩,
 ⟨none, (.store (some 4) (.t 6) (.t 20)), none, none⟩,
 ⟨(some 7), (.move (.t 21)), none, none⟩])
 (.seq
 (.region [] [] [0, 11, 10, 12, 9, 3, 5, 7, 33, 2] [
 ⟨(some 22), (.move (.t 7)), none, none⟩,
 ⟨(some 23), (.un .not (.t 22)), none, none⟩,
 ⟨(some 24), (.move (.t 23)), none, none⟩,
 ⟨(some 25), (.faddr 0 (.t 5)), some (24, true), none⟩,
 ⟨(some 26), (.load none (.t 25)), some (24, true), none⟩,
 ⟨(some 27), (.bin .neq (.t 26) (.k (rS (bs [])))), some (24, true), none⟩,
 ⟨(some 28), (.pick (.t 24) (.t 27) (.k (rB false))), none, none⟩,
 ⟨(some 29), (.move (.t 28)), none, none⟩,
 ⟨(some 30), (.faddr 0 (.t 5)), some (29, true), none⟩,
 ⟨(some 31), (.load none (.t 30)), some (29, true), none⟩,
 ⟨(some 32), (.bin .neq (.t 31) (.k (rS (bs [95])))), some (29, true), none⟩,
 ⟨(some 33), (.pick (.t 29) (.t 32) (.k (rB false))), none, none⟩])
 (.cond (.t 33)
 (.region [] [] [0, 11, 10, 12, 9, 3, 5, 7, 33, 2] [
 ⟨(some 34), (.move (.t 3)), none, none⟩,
 ⟨(some 35), (.faddr 0 (.t 5)), none, none⟩,
 ⟨(some 36), (.load none (.t 35)), none, none⟩,
 ⟨(some 37), (.faddr 1 (.t 5)), none, none⟩,
 ⟨(some 38), (.load (some 4) (.t 37)), none, none⟩,
 ⟨none, (.mapup .string false (.t 34) (.t 36) (.t 38)), none, none⟩])
 .skip)))))
 (.region [] [] [0, 11, 10, 12, 9, 3, 5, 7, 33, 2] [
 ⟨(some 39), (.bin .add (.t 11) (.k (rI .i64 1))), none, none⟩,
 ⟨(some 11), (.move (.t 39)), none, none⟩]))))

/-- pedigree/term.pairs -/
def ic127 : IC :=
 (.seq
 (.region [] [] [0, 11, 10, 12, 9, 3, 5, 7, 33, 2] [
 ⟨(some 2), (.move (.k (.x (.one (.c (.v (.map none))))))), none, none⟩])
 (.seq
 (.region [8] [] [0, 11, 10, 12, 9, 3, 5, 7, 33, 2] [
 ⟨(some 8), (.mkmap .string 5 false), none, none⟩,
 ⟨(some 3), (.move (.t 8)), none, none⟩])
 (.seq
 (.seq
 (.region [] [] [0, 11, 10, 12, 9, 3, 5, 7, 33, 2] [
 ⟨(some 9), (.move (.t 0)), none, none⟩,
 ⟨(some 10), (.len (.t 9)), none, none⟩,
 ⟨(some 11), (.move (.k (rI .i64 0))), none, none⟩])
 (.block 0
 (.loop ic127l0)))
 (.seq
 (.region [] [] [0, 11, 10, 12, 9, 3, 5, 7, 33, 2] [
 ⟨(some 40), (.move (.t 3)), none, none⟩,
 ⟨(some 2), (.move (.t 40)), none, none⟩])
 .ret))))
def ir127 : List IRes := [.tmp 2]
theorem ie127 : cmpFunc Go.Proofs.Tryz.prog ⟨[], []⟩ Go.Proofs.Tryz.f81 [0, 11, 10, 12, 9, 3, 5, 7, 33, 2] = some ic127 := by kernel_rfl
theorem ig127 : cmpRes Go.Proofs.Tryz.prog Go.Proofs.Tryz.f81.results.toList = some ir127 := by kernel_rfl


/-- (pedigree/term.swap).put -/
def ic128 : IC :=
 (.seq
 (.region [4] [] [0, 1, 5, 15, 4] [
 ⟨(some 7), (.move (.t 0)), none, none⟩,
 ⟨(some 8), (.move (.t 1)), none, none⟩,
 ⟨(some 9), (.nilchk (.t 8)), none, none⟩,
 ⟨(some 10), (.faddr 0 (.t 9)), none, none⟩,
 ⟨(some 11), (.load none (.t 10)), none, none⟩,
 ⟨(some 12), (.mlook .string false true [(.c (.v (.string (bs [])))), (.c (.v (.int .i8 0))), (.c (.v (.int .i64 0))), (.c (.v (.string (bs []))))] (.t 7) (.t 11)), none, none⟩,
 ⟨(some 6), (.move (.t 12)), none, none⟩,
 ⟨(some 13), (.ext (.t 6) 0), none, none⟩,
 ⟨(some 14), (.ext (.t 6) 1), none, none⟩,
 ⟨(some 4), (.zero 73 [(.c (.v (.string (bs [])))), (.c (.v (.int .i8 0))), (.c (.v (.int .i64 0))), (.c (.v (.string (bs []))))]), none, none⟩,
 ⟨none, (.store (some 4) (.t 4) (.t 13)), none, none⟩,
 ⟨(some 5), (.move (.t 14)), none, none⟩])
 (.seq
 (.region [] [] [0, 1, 5, 15, 4] [
 ⟨(some 15), (.move (.t 5)), none, none⟩])
 (.cond (.t 15)
 (.region [] [] [0, 1, 5, 15, 4] [
 ⟨(some 16), (.move (.t 1)), none, none⟩,
 ⟨(some 17), (.load (some 4) (.t 4)), none, none⟩,
 ⟨(some 18), (.nilchk (.t 16)), none, none⟩,
 ⟨none, (.store (some 4) (.t 18) (.t 17)), none, none⟩])
 .skip)))
def ir128 : List IRes := []
theorem ie128 : cmpFunc Go.Proofs.Tryz.prog ⟨[], []⟩ Go.Proofs.Tryz.f82 [0, 1, 5, 15, 4] = some ic128 := by kernel_rfl
theorem ig128 : cmpRes Go.Proofs.Tryz.prog Go.Proofs.Tryz.f82.results.toList = some ir128 := by kernel_rfl

end Go.Proofs.YtiomojlcnemnhaaGreatDoor

/- Plain words for a most general one: an assignment under which two atoms become one fact is one of the kind that the pairs say. -/
namespace Go.Ped

section
variable (val : Name → Val)

end
end Go.Ped

/- Plain words for a most general one, on: two atoms can be made one just if some assignment makes their columns one; the pairs make each column one, and are solved. -/
namespace Go.Ped

/-- No pair's term is the blank. -/
def NoBlank (c : List Pr) : Prop := ∀ p ∈ c, p.t.v ≠ us
theorem noBlank_end : ∀ {c : List Pr} (t : Tm), NoBlank c → t.v ≠ us → (endOf c t).v ≠ us
  | [], _, _, h => h
  | p :: c, t, h, ht => by
    have hc : NoBlank c := fun q hq => h q (List.mem_cons_of_mem _ hq)
    simp only [endOf]
    split
    · exact noBlank_end p.t hc (h p (List.mem_cons_self ..))
    · exact noBlank_end t hc ht

/-- The assignment that a chain says, the others being a number. -/
def valEnd (e : Tm) : Val := if e.v = [] then e.x else ⟨1, 0, []⟩
def valOf (c : List Pr) (v : Name) : Val := valEnd (endOf c ⟨v, zeroV⟩)
theorem solved {c : List Pr} (h : Good c) (hn : NoBlank c) : ∀ p ∈ solve c, p.v ≠ [] ∧ p.v ≠ us ∧ p.t.v ≠ us ∧ p.t.v ∉ keys (solve c) := fun p hp => by
  have hk : p.v ∈ keys (solve c) := List.mem_map_of_mem hp
  obtain ⟨q, hq, rfl⟩ := List.mem_map.1 hp
  rw [keys_solve] at hk ⊢
  exact ⟨(h.keys_ok _ hk).1, (h.keys_ok _ hk).2, noBlank_end q.t hn (hn q hq), h.end_out q.t⟩
end Go.Ped

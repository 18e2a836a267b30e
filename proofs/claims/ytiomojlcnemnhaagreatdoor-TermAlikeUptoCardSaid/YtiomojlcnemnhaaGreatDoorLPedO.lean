import Derived.Test.YtiomojlcnemnhaaGreatDoorLFxZ
import Derived.Test.YtiomojlcnemnhaaGreatDoorProg
import Derived.KernelRfl
import Derived.Test.YtiomojlcnemnhaaGreatDoorLGxM3
import Derived.Test.YtiomojlcnemnhaaGreatDoorLGxU2
namespace Go.Proofs.YtiomojlcnemnhaaGreatDoor
open Go.Fx
def ic127l0 : IC :=
 (.seq
 (.region [] [] [0, 11, 10, 12, 9, 3, 5, 7, 33, 2] [⟨some 12, (.bin .lss (.t 11) (.t 10)), none, none⟩])
 (.seq
 (.cond (.t 12)
 .skip
 (.exit 0))
 (.seq
 (.block 1
 (.seq
 (.region [5] [] [0, 11, 10, 12, 9, 3, 5, 7, 33, 2] [⟨some 13, (.iaddr 5 (.t 9) (.t 11)), none, none⟩,⟨some 14, (.load (some 5) (.t 13)), none, none⟩,⟨some 5, (.zero 76 [(.c (.v (.string (bs [])))), (.c (.v (.string (bs [])))), (.c (.v (.int .i8 0))), (.c (.v (.int .i64 0))), (.c (.v (.string (bs []))))]), none, none⟩,⟨none, (.store (some 5) (.t 5) (.t 14)), none, none⟩])
 (.seq
 (.region [6] [] [0, 11, 10, 12, 9, 3, 5, 7, 33, 2] [⟨some 16, (.move (.t 3)), none, none⟩,⟨some 17, (.faddr 0 (.t 5)), none, none⟩,⟨some 18, (.load none (.t 17)), none, none⟩,⟨some 19, (.mlook .string false true [(.c (.v (.string (bs [])))), (.c (.v (.int .i8 0))), (.c (.v (.int .i64 0))), (.c (.v (.string (bs []))))] (.t 16) (.t 18)), none, none⟩,⟨some 15, (.move (.t 19)), none, none⟩,⟨some 20, (.ext (.t 15) 0), none, none⟩,⟨some 21, (.ext (.t 15) 1), none, none⟩,⟨some 6, (.zero 73 [(.c (.v (.string (bs [])))), (.c (.v (.int .i8 0))), (.c (.v (.int .i64 0))), (.c (.v (.string (bs []))))]), none, none⟩,⟨none, (.store (some 4) (.t 6) (.t 20)), none, none⟩,⟨some 7, (.move (.t 21)), none, none⟩])
 (.seq
 (.region [] [] [0, 11, 10, 12, 9, 3, 5, 7, 33, 2] [⟨some 22, (.move (.t 7)), none, none⟩,⟨some 23, (.un .not (.t 22)), none, none⟩,⟨some 24, (.move (.t 23)), none, none⟩,⟨some 25, (.faddr 0 (.t 5)), some (24, true), none⟩,⟨some 26, (.load none (.t 25)), some (24, true), none⟩,⟨some 27, (.bin .neq (.t 26) (.k (rS (bs [])))), some (24, true), none⟩,⟨some 28, (.pick (.t 24) (.t 27) (.k (rB false))), none, none⟩,⟨some 29, (.move (.t 28)), none, none⟩,⟨some 30, (.faddr 0 (.t 5)), some (29, true), none⟩,⟨some 31, (.load none (.t 30)), some (29, true), none⟩,⟨some 32, (.bin .neq (.t 31) (.k (rS (bs [95])))), some (29, true), none⟩,⟨some 33, (.pick (.t 29) (.t 32) (.k (rB false))), none, none⟩])
 (.cond (.t 33)
 (.region [] [] [0, 11, 10, 12, 9, 3, 5, 7, 33, 2] [⟨some 34, (.move (.t 3)), none, none⟩,⟨some 35, (.faddr 0 (.t 5)), none, none⟩,⟨some 36, (.load none (.t 35)), none, none⟩,⟨some 37, (.faddr 1 (.t 5)), none, none⟩,⟨some 38, (.load (some 4) (.t 37)), none, none⟩,⟨none, (.mapup .string false (.t 34) (.t 36) (.t 38)), none, none⟩])
 .skip)))))
 (.region [] [] [0, 11, 10, 12, 9, 3, 5, 7, 33, 2] [⟨some 39, (.bin .add (.t 11) (.k (rI .i64 1))), none, none⟩,⟨some 11, (.move (.t 39)), none, none⟩]))))
def ic127 : IC :=
 (.seq
 (.region [] [] [0, 11, 10, 12, 9, 3, 5, 7, 33, 2] [⟨some 2, (.move (.k (.x (.one (.c (.v (.map none))))))), none, none⟩])
 (.seq
 (.region [8] [] [0, 11, 10, 12, 9, 3, 5, 7, 33, 2] [⟨some 8, (.mkmap .string 5 false), none, none⟩,⟨some 3, (.move (.t 8)), none, none⟩])
 (.seq
 (.seq
 (.region [] [] [0, 11, 10, 12, 9, 3, 5, 7, 33, 2] [⟨some 9, (.move (.t 0)), none, none⟩,⟨some 10, (.len (.t 9)), none, none⟩,⟨some 11, (.move (.k (rI .i64 0))), none, none⟩])
 (.block 0
 (.loop ic127l0)))
 (.seq
 (.region [] [] [0, 11, 10, 12, 9, 3, 5, 7, 33, 2] [⟨some 40, (.move (.t 3)), none, none⟩,⟨some 2, (.move (.t 40)), none, none⟩])
 .ret))))
def ir127 : List IRes := [.tmp 2]
theorem ie127 : cmpFunc Go.Proofs.Tryz.prog ⟨[], []⟩ Go.Proofs.Tryz.f81 [0, 11, 10, 12, 9, 3, 5, 7, 33, 2] = some ic127 := by kernel_rfl
theorem ig127 : cmpRes Go.Proofs.Tryz.prog Go.Proofs.Tryz.f81.results.toList = some ir127 := by kernel_rfl
end Go.Proofs.YtiomojlcnemnhaaGreatDoor

namespace Go.Ped
section
variable (val : Name → Val)
end
end Go.Ped

namespace Go.Ped
def NoBlank (c : List Pr) : Prop := ∀ p ∈ c, p.t.v ≠ us
theorem noBlank_end : ∀ {c : List Pr} (t : Tm), NoBlank c → t.v ≠ us → (endOf c t).v ≠ us
  | [], _, _, h => h
  | p :: c, t, h, ht => by
    have hc : NoBlank c := fun q hq => h q (List.mem_cons_of_mem _ hq)
    simp only [endOf]
    split
    · exact noBlank_end p.t hc (h p (List.mem_cons_self ..))
    · exact noBlank_end t hc ht
def valEnd (e : Tm) : Val := if e.v = [] then e.x else ⟨1, 0, []⟩
def valOf (c : List Pr) (v : Name) : Val := valEnd (endOf c ⟨v, zeroV⟩)
theorem solved {c : List Pr} (h : Good c) (hn : NoBlank c) : ∀ p ∈ solve c, p.v ≠ [] ∧ p.v ≠ us ∧ p.t.v ≠ us ∧ p.t.v ∉ keys (solve c) := fun p hp => by
  have hk : p.v ∈ keys (solve c) := List.mem_map_of_mem hp
  obtain ⟨q, hq, rfl⟩ := List.mem_map.1 hp
  rw [keys_solve] at hk ⊢
  exact ⟨(h.keys_ok _ hk).1, (h.keys_ok _ hk).2, noBlank_end q.t hn (hn q hq), h.end_out q.t⟩
end Go.Ped

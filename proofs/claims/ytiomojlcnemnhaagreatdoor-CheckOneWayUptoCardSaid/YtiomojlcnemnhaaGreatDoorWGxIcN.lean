/- Functions of the seat, as the small language has them. -/
import Derived.Test.YtiomojlcnemnhaaGreatDoorWFxWb
import Derived.Test.YtiomojlcnemnhaaGreatDoorProg
import Derived.KernelRfl
namespace Go.Proofs.YtiomojlcnemnhaaGreatDoor
open Go.Fx

/-- pedigree/value.text -/
def ic104 : IC :=
 (.seq
 (.region [2] [] [0, 6, 2, 3] [
 ⟨(some 2), (.zero 71 [(.c (.v (.int .i8 0))), (.c (.v (.int .i64 0))), (.c (.v (.string (bs []))))]), none, none⟩,
 ⟨(some 3), (.move (.k (rB false))), none, none⟩])
 (.seq
 (.seq
 (.region [] [] [0, 6, 2, 3] [
 ⟨(some 4), (.move (.t 0)), none, none⟩,
 ⟨(some 5), (.slen (.t 4)), none, none⟩,
 ⟨(some 6), (.bin .gtr (.t 5) (.k (rI .i64 200))), none, none⟩])
 (.cond (.t 6)
 (.seq
 (.region [] [] [0, 6, 2, 3] [
 ⟨(some 7), (.build [(.c (.v (.int .i8 0))), (.c (.v (.int .i64 0))), (.c (.v (.string (bs []))))] []), none, none⟩,
 ⟨none, (.store (some 3) (.t 2) (.t 7)), none, none⟩,
 ⟨(some 3), (.move (.k (rB false))), none, none⟩])
 .ret)
 .skip))
 (.seq
 (.region [] [] [0, 6, 2, 3] [
 ⟨(some 8), (.move (.t 0)), none, none⟩,
 ⟨(some 9), (.build [(.c (.v (.int .i8 0))), (.c (.v (.int .i64 0))), (.c (.v (.string (bs []))))] [(0, 1, (.k (rI .i8 2))), (2, 1, (.t 8))]), none, none⟩,
 ⟨none, (.store (some 3) (.t 2) (.t 9)), none, none⟩,
 ⟨(some 3), (.move (.k (rB true))), none, none⟩])
 .ret)))
def ir104 : List IRes := [.cell 2 (some 3), .tmp 3]
theorem ie104 : cmpFunc Go.Proofs.Tryz.prog ⟨[], []⟩ Go.Proofs.Tryz.f322 [0, 6, 2, 3] = some ic104 := by kernel_rfl
theorem ig104 : cmpRes Go.Proofs.Tryz.prog Go.Proofs.Tryz.f322.results.toList = some ir104 := by kernel_rfl

end Go.Proofs.YtiomojlcnemnhaaGreatDoor

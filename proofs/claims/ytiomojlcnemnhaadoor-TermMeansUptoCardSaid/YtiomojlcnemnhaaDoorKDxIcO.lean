/- Functions of the seat, as the small language has them. -/
import Derived.Test.YtiomojlcnemnhaaDoorKFxWb
import Derived.Test.YtiomojlcnemnhaaDoorProg
import Derived.KernelRfl
namespace Go.Proofs.YtiomojlcnemnhaaDoor
open Go.Fx

/-- pedigree/pedigreelaw01.BeyondExpr -/
def ic25 : IC :=
 (.seq
 (.region [1] [] [0, 1, 2] [
 ⟨(some 1), (.box 47 (.t 0)), none, none⟩,
 ⟨(some 2), (.move (.k (rB false))), none, none⟩])
 (.seq
 (.region [] [] [0, 1, 2] [
 ⟨(some 3), (.load (some 6) (.t 1)), none, none⟩,
 ⟨(some 4), (.callp (.k (rF 93)) [(.t 3), (.k (rI .i64 1048576))]), none, none⟩,
 ⟨(some 5), (.bin .gtr (.t 4) (.k (rI .i64 1048576))), none, none⟩,
 ⟨(some 2), (.move (.t 5)), none, none⟩])
 .ret))
def ir25 : List IRes := [.tmp 2]
theorem ie25 : cmpFunc Go.Proofs.Tryd.prog ⟨[], []⟩ Go.Proofs.Tryd.f25 [0, 1, 2] = some ic25 := by kernel_rfl
theorem ig25 : cmpRes Go.Proofs.Tryd.prog Go.Proofs.Tryd.f25.results.toList = some ir25 := by kernel_rfl

def ic31l0 : IC :=
 (.seq
 (.seq
 (.region [] [] [1, 3, 0, 6, 18, 5, 4] [
 ⟨(some 14), (.move (.t 6)), none, none⟩,
 ⟨(some 15), (.faddr 5 (.t 3)), none, none⟩,
 ⟨(some 16), (.load none (.t 15)), none, none⟩,
 ⟨(some 17), (.len (.t 16)), none, none⟩,
 ⟨(some 18), (.bin .lss (.t 14) (.t 17)), none, none⟩])
 (.cond (.t 18)
 .skip
 (.exit 0)))
 (.seq
 (.block 1
 (.region [30] [] [1, 3, 0, 6, 18, 5, 4] [
 ⟨(some 21), (.faddr 5 (.t 5)), none, none⟩,
 ⟨(some 22), (.load none (.t 21)), none, none⟩,
 ⟨(some 23), (.move (.t 0)), none, none⟩,
 ⟨(some 24), (.faddr 5 (.t 3)), none, none⟩,
 ⟨(some 25), (.load none (.t 24)), none, none⟩,
 ⟨(some 26), (.move (.t 6)), none, none⟩,
 ⟨(some 27), (.iaddr 6 (.t 25) (.t 26)), none, none⟩,
 ⟨(some 28), (.load (some 6) (.t 27)), none, none⟩,
 ⟨(some 29), (.callp (.k (rF 31)) [(.t 23), (.t 28)]), none, none⟩,
 ⟨(some 30), (.row 47 6 [(.t 29)]), none, none⟩,
 ⟨(some 31), (.app 47 6 80 (.t 22) (.t 30)), none, none⟩,
 ⟨(some 32), (.faddr 5 (.t 5)), none, none⟩,
 ⟨none, (.store (some 1) (.t 32) (.t 31)), none, none⟩]))
 (.region [] [] [1, 3, 0, 6, 18, 5, 4] [
 ⟨(some 19), (.move (.t 6)), none, none⟩,
 ⟨(some 20), (.bin .add (.t 19) (.k (rI .i64 1))), none, none⟩,
 ⟨(some 6), (.move (.t 20)), none, none⟩])))

/-- pedigree/pedigreeref04.ApplyExpr -/
def ic31 : IC :=
 (.seq
 (.region [3, 4] [] [1, 3, 0, 6, 18, 5, 4] [
 ⟨(some 3), (.box 47 (.t 1)), none, none⟩,
 ⟨(some 4), (.zero 47 [(.c (.v (.int .i8 0))), (.c (.v (.string (bs [])))), (.c (.v (.int .i8 0))), (.c (.v (.int .i64 0))), (.c (.v (.string (bs [])))), .nil]), none, none⟩])
 (.seq
 (.region [5] [] [1, 3, 0, 6, 18, 5, 4] [
 ⟨(some 7), (.faddr 0 (.t 3)), none, none⟩,
 ⟨(some 8), (.load none (.t 7)), none, (some [3])⟩,
 ⟨(some 9), (.move (.t 0)), none, none⟩,
 ⟨(some 10), (.faddr 1 (.t 3)), none, none⟩,
 ⟨(some 11), (.load (some 4) (.t 10)), none, (some [3])⟩,
 ⟨(some 12), (.callp (.k (rF 100)) [(.t 9), (.t 11)]), none, none⟩,
 ⟨(some 13), (.build [(.c (.v (.int .i8 0))), (.c (.v (.string (bs [])))), (.c (.v (.int .i8 0))), (.c (.v (.int .i64 0))), (.c (.v (.string (bs [])))), .nil] [(0, 1, (.t 8)), (1, 4, (.t 12))]), none, none⟩,
 ⟨(some 5), (.zero 47 [(.c (.v (.int .i8 0))), (.c (.v (.string (bs [])))), (.c (.v (.int .i8 0))), (.c (.v (.int .i64 0))), (.c (.v (.string (bs [])))), .nil]), none, none⟩,
 ⟨none, (.store (some 6) (.t 5) (.t 13)), none, none⟩])
 (.seq
 (.seq
 (.region [] [] [1, 3, 0, 6, 18, 5, 4] [
 ⟨(some 6), (.move (.k (rI .i64 0))), none, none⟩])
 (.block 0
 (.loop ic31l0)))
 (.seq
 (.region [] [] [1, 3, 0, 6, 18, 5, 4] [
 ⟨(some 33), (.load (some 6) (.t 5)), none, none⟩,
 ⟨none, (.store (some 6) (.t 4) (.t 33)), none, none⟩])
 .ret))))
def ir31 : List IRes := [.cell 4 (some 6)]
theorem ie31 : cmpFunc Go.Proofs.Tryd.prog ⟨[(8, (some [3])), (11, (some [3]))], []⟩ Go.Proofs.Tryd.f31 [1, 3, 0, 6, 18, 5, 4] = some ic31 := by kernel_rfl
theorem ig31 : cmpRes Go.Proofs.Tryd.prog Go.Proofs.Tryd.f31.results.toList = some ir31 := by kernel_rfl

def ic32l0 : IC :=
 (.seq
 (.seq
 (.region [] [] [4, 0, 8, 3, 2] [
 ⟨(some 5), (.move (.t 4)), none, none⟩,
 ⟨(some 6), (.move (.t 0)), none, none⟩,
 ⟨(some 7), (.len (.t 6)), none, none⟩,
 ⟨(some 8), (.bin .lss (.t 5) (.t 7)), none, none⟩])
 (.cond (.t 8)
 .skip
 (.exit 0)))
 (.seq
 (.block 1
 (.region [24] [] [4, 0, 8, 3, 2] [
 ⟨(some 11), (.move (.t 3)), none, none⟩,
 ⟨(some 12), (.move (.t 0)), none, none⟩,
 ⟨(some 13), (.move (.t 4)), none, none⟩,
 ⟨(some 14), (.iaddr 4 (.t 12) (.t 13)), none, none⟩,
 ⟨(some 15), (.faddr 0 (.t 14)), none, none⟩,
 ⟨(some 16), (.load none (.t 15)), none, none⟩,
 ⟨(some 17), (.move (.t 0)), none, none⟩,
 ⟨(some 18), (.move (.t 4)), none, none⟩,
 ⟨(some 19), (.iaddr 4 (.t 17) (.t 18)), none, none⟩,
 ⟨(some 20), (.faddr 1 (.t 19)), none, none⟩,
 ⟨(some 21), (.load (some 3) (.t 20)), none, none⟩,
 ⟨(some 22), (.build [(.c (.v (.string (bs [])))), (.c (.v (.int .i8 0))), (.c (.v (.int .i64 0))), (.c (.v (.string (bs []))))] [(1, 3, (.t 21))]), none, none⟩,
 ⟨(some 23), (.build [(.c (.v (.string (bs [])))), (.c (.v (.string (bs [])))), (.c (.v (.int .i8 0))), (.c (.v (.int .i64 0))), (.c (.v (.string (bs []))))] [(0, 1, (.t 16)), (1, 4, (.t 22))]), none, none⟩,
 ⟨(some 24), (.row 65 5 [(.t 23)]), none, none⟩,
 ⟨(some 25), (.app 65 5 64 (.t 11) (.t 24)), none, none⟩,
 ⟨(some 3), (.move (.t 25)), none, none⟩]))
 (.region [] [] [4, 0, 8, 3, 2] [
 ⟨(some 9), (.move (.t 4)), none, none⟩,
 ⟨(some 10), (.bin .add (.t 9) (.k (rI .i64 1))), none, none⟩,
 ⟨(some 4), (.move (.t 10)), none, none⟩])))

/-- pedigree/pedigreelaw04.pairsOf -/
def ic32 : IC :=
 (.seq
 (.region [] [] [4, 0, 8, 3, 2] [
 ⟨(some 2), (.move (.k (.x (.one .nil)))), none, none⟩])
 (.seq
 (.region [] [] [4, 0, 8, 3, 2] [
 ⟨(some 3), (.move (.k (.x (.one .nil)))), none, none⟩])
 (.seq
 (.seq
 (.region [] [] [4, 0, 8, 3, 2] [
 ⟨(some 4), (.move (.k (rI .i64 0))), none, none⟩])
 (.block 0
 (.loop ic32l0)))
 (.seq
 (.region [] [] [4, 0, 8, 3, 2] [
 ⟨(some 26), (.move (.t 3)), none, none⟩,
 ⟨(some 2), (.move (.t 26)), none, none⟩])
 .ret))))
def ir32 : List IRes := [.tmp 2]
theorem ie32 : cmpFunc Go.Proofs.Tryd.prog ⟨[], []⟩ Go.Proofs.Tryd.f32 [4, 0, 8, 3, 2] = some ic32 := by kernel_rfl
theorem ig32 : cmpRes Go.Proofs.Tryd.prog Go.Proofs.Tryd.f32.results.toList = some ir32 := by kernel_rfl

end Go.Proofs.YtiomojlcnemnhaaDoor

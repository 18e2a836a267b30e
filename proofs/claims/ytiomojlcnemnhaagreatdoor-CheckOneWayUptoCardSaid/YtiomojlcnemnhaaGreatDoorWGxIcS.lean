/- Functions of the seat, as the small language has them. -/
import Derived.Test.YtiomojlcnemnhaaGreatDoorWFxWb
import Derived.Test.YtiomojlcnemnhaaGreatDoorProg
import Derived.KernelRfl
namespace Go.Proofs.YtiomojlcnemnhaaGreatDoor
open Go.Fx
def ic2058l0 : IC :=
 (.seq
 (.region [] [] [0, 15, 14, 16, 13, 6, 7, 22, 1, 27, 26, 28, 25, 9, 10, 34, 12, 4] [
 ⟨(some 16), (.bin .lss (.t 15) (.t 14)), none, none⟩])
 (.seq
 (.cond (.t 16)
 .skip
 (.exit 0))
 (.seq
 (.block 1
 (.seq
 (.region [6] [] [0, 15, 14, 16, 13, 6, 7, 22, 1, 27, 26, 28, 25, 9, 10, 34, 12, 4] [
 ⟨(some 17), (.iaddr 3 (.t 13) (.t 15)), none, none⟩,
 ⟨(some 18), (.load (some 3) (.t 17)), none, none⟩,
 ⟨(some 6), (.zero 29 [(.c (.v (.string (bs [])))), .nil, .nil]), none, none⟩,
 ⟨none, (.store (some 3) (.t 6) (.t 18)), none, none⟩])
 (.seq
 (.region [] [] [0, 15, 14, 16, 13, 6, 7, 22, 1, 27, 26, 28, 25, 9, 10, 34, 12, 4] [
 ⟨(some 19), (.load (some 3) (.t 6)), none, none⟩,
 ⟨(some 20), (.callp (.k (rF 26)) [(.t 19)]), none, none⟩,
 ⟨(some 7), (.move (.t 20)), none, none⟩])
 (.seq
 (.region [] [] [0, 15, 14, 16, 13, 6, 7, 22, 1, 27, 26, 28, 25, 9, 10, 34, 12, 4] [
 ⟨(some 21), (.move (.t 7)), none, none⟩,
 ⟨(some 22), (.bin .neq (.t 21) (.k (rI .i64 0))), none, none⟩])
 (.cond (.t 22)
 (.seq
 (.region [] [] [0, 15, 14, 16, 13, 6, 7, 22, 1, 27, 26, 28, 25, 9, 10, 34, 12, 4] [
 ⟨(some 23), (.move (.t 7)), none, none⟩,
 ⟨(some 4), (.move (.t 23)), none, none⟩])
 .ret)
 .skip)))))
 (.region [] [] [0, 15, 14, 16, 13, 6, 7, 22, 1, 27, 26, 28, 25, 9, 10, 34, 12, 4] [
 ⟨(some 24), (.bin .add (.t 15) (.k (rI .i64 1))), none, none⟩,
 ⟨(some 15), (.move (.t 24)), none, none⟩]))))

def ic2058l1 : IC :=
 (.seq
 (.region [] [] [0, 15, 14, 16, 13, 6, 7, 22, 1, 27, 26, 28, 25, 9, 10, 34, 12, 4] [
 ⟨(some 28), (.bin .lss (.t 27) (.t 26)), none, none⟩])
 (.seq
 (.cond (.t 28)
 .skip
 (.exit 2))
 (.seq
 (.block 3
 (.seq
 (.region [9] [] [0, 15, 14, 16, 13, 6, 7, 22, 1, 27, 26, 28, 25, 9, 10, 34, 12, 4] [
 ⟨(some 29), (.iaddr 2 (.t 25) (.t 27)), none, none⟩,
 ⟨(some 30), (.load (some 2) (.t 29)), none, none⟩,
 ⟨(some 9), (.zero 147 [(.c (.v (.string (bs [])))), .nil]), none, none⟩,
 ⟨none, (.store (some 2) (.t 9) (.t 30)), none, none⟩])
 (.seq
 (.region [] [] [0, 15, 14, 16, 13, 6, 7, 22, 1, 27, 26, 28, 25, 9, 10, 34, 12, 4] [
 ⟨(some 31), (.load (some 2) (.t 9)), none, none⟩,
 ⟨(some 32), (.callp (.k (rF 116)) [(.t 31)]), none, none⟩,
 ⟨(some 10), (.move (.t 32)), none, none⟩])
 (.seq
 (.region [] [] [0, 15, 14, 16, 13, 6, 7, 22, 1, 27, 26, 28, 25, 9, 10, 34, 12, 4] [
 ⟨(some 33), (.move (.t 10)), none, none⟩,
 ⟨(some 34), (.bin .neq (.t 33) (.k (rI .i64 0))), none, none⟩])
 (.cond (.t 34)
 (.seq
 (.region [] [] [0, 15, 14, 16, 13, 6, 7, 22, 1, 27, 26, 28, 25, 9, 10, 34, 12, 4] [
 ⟨(some 35), (.move (.t 10)), none, none⟩,
 ⟨(some 4), (.move (.t 35)), none, none⟩])
 .ret)
 .skip)))))
 (.region [] [] [0, 15, 14, 16, 13, 6, 7, 22, 1, 27, 26, 28, 25, 9, 10, 34, 12, 4] [
 ⟨(some 36), (.bin .add (.t 27) (.k (rI .i64 1))), none, none⟩,
 ⟨(some 27), (.move (.t 36)), none, none⟩]))))

/-- pedigree/check.Job -/
def ic2058 : IC :=
 (.seq
 (.region [] [] [0, 15, 14, 16, 13, 6, 7, 22, 1, 27, 26, 28, 25, 9, 10, 34, 12, 4] [
 ⟨(some 4), (.move (.k (rI .i64 0))), none, none⟩])
 (.seq
 (.seq
 (.region [] [] [0, 15, 14, 16, 13, 6, 7, 22, 1, 27, 26, 28, 25, 9, 10, 34, 12, 4] [
 ⟨(some 13), (.move (.t 0)), none, none⟩,
 ⟨(some 14), (.len (.t 13)), none, none⟩,
 ⟨(some 15), (.move (.k (rI .i64 0))), none, none⟩])
 (.block 0
 (.loop ic2058l0)))
 (.seq
 (.seq
 (.region [] [] [0, 15, 14, 16, 13, 6, 7, 22, 1, 27, 26, 28, 25, 9, 10, 34, 12, 4] [
 ⟨(some 25), (.move (.t 1)), none, none⟩,
 ⟨(some 26), (.len (.t 25)), none, none⟩,
 ⟨(some 27), (.move (.k (rI .i64 0))), none, none⟩])
 (.block 2
 (.loop ic2058l1)))
 (.seq
 (.region [] [] [0, 15, 14, 16, 13, 6, 7, 22, 1, 27, 26, 28, 25, 9, 10, 34, 12, 4] [
 ⟨(some 38), (.move (.t 0)), none, none⟩,
 ⟨(some 39), (.build [.nil] [(0, 1, (.t 38))]), none, none⟩,
 ⟨(some 40), (.move (.t 1)), none, none⟩,
 ⟨(some 41), (.callp (.k (rF 43)) [(.t 39), (.t 40)]), none, none⟩,
 ⟨(some 37), (.move (.t 41)), none, none⟩,
 ⟨(some 42), (.ext (.t 37) 0), none, none⟩,
 ⟨(some 43), (.ext (.t 37) 1), none, none⟩,
 ⟨(some 11), (.move (.t 42)), none, none⟩,
 ⟨(some 12), (.move (.t 43)), none, none⟩])
 (.seq
 (.region [] [] [0, 15, 14, 16, 13, 6, 7, 22, 1, 27, 26, 28, 25, 9, 10, 34, 12, 4] [
 ⟨(some 44), (.move (.t 12)), none, none⟩,
 ⟨(some 4), (.move (.t 44)), none, none⟩])
 .ret)))))
def ir2058 : List IRes := [.tmp 4]
theorem ie2058 : cmpFunc Go.Proofs.Tryz.prog ⟨[], []⟩ Go.Proofs.Tryz.f58 [0, 15, 14, 16, 13, 6, 7, 22, 1, 27, 26, 28, 25, 9, 10, 34, 12, 4] = some ic2058 := by kernel_rfl
theorem ig2058 : cmpRes Go.Proofs.Tryz.prog Go.Proofs.Tryz.f58.results.toList = some ir2058 := by kernel_rfl


/-- pedigree/pedigreelaw07.lives -/
def ic2062 : IC :=
 (.seq
 (.region [] [] [1, 2, 3, 4, 5, 0] [
 ⟨(some 0), (.move (.k (rB false))), none, none⟩])
 (.seq
 (.region [1] [] [1, 2, 3, 4, 5, 0] [
 ⟨(some 6), (.build [(.c (.v (.string (bs [])))), (.c (.v (.int .i8 0))), (.c (.v (.int .i64 0))), (.c (.v (.string (bs []))))] [(0, 1, (.k (rS (bs [88]))))]), none, none⟩,
 ⟨(some 1), (.zero 73 [(.c (.v (.string (bs [])))), (.c (.v (.int .i8 0))), (.c (.v (.int .i64 0))), (.c (.v (.string (bs []))))]), none, none⟩,
 ⟨none, (.store (some 4) (.t 1) (.t 6)), none, none⟩])
 (.seq
 (.region [8, 2] [] [1, 2, 3, 4, 5, 0] [
 ⟨(some 7), (.load (some 4) (.t 1)), none, none⟩,
 ⟨(some 8), (.row 73 4 [(.t 7)]), none, none⟩,
 ⟨(some 9), (.build [(.c (.v (.string (bs [])))), .nil] [(0, 1, (.k (rS (bs [113])))), (1, 1, (.t 8))]), none, none⟩,
 ⟨(some 10), (.build [(.c (.v (.int .i8 0))), (.c (.v (.string (bs [])))), .nil, (.c (.v (.int .i8 0))), (.c (.v (.int .i8 0))), (.c (.v (.string (bs [])))), (.c (.v (.int .i8 0))), (.c (.v (.int .i64 0))), (.c (.v (.string (bs [])))), .nil, (.c (.v (.int .i8 0))), (.c (.v (.string (bs [])))), (.c (.v (.int .i8 0))), (.c (.v (.int .i64 0))), (.c (.v (.string (bs [])))), .nil] [(0, 1, (.k (rI .i8 1))), (1, 2, (.t 9))]), none, none⟩,
 ⟨(some 2), (.zero 107 [(.c (.v (.int .i8 0))), (.c (.v (.string (bs [])))), .nil, (.c (.v (.int .i8 0))), (.c (.v (.int .i8 0))), (.c (.v (.string (bs [])))), (.c (.v (.int .i8 0))), (.c (.v (.int .i64 0))), (.c (.v (.string (bs [])))), .nil, (.c (.v (.int .i8 0))), (.c (.v (.string (bs [])))), (.c (.v (.int .i8 0))), (.c (.v (.int .i64 0))), (.c (.v (.string (bs [])))), .nil]), none, none⟩,
 ⟨none, (.store (some 16) (.t 2) (.t 10)), none, none⟩])
 (.seq
 (.region [13, 15, 3] [] [1, 2, 3, 4, 5, 0] [
 ⟨(some 11), (.load (some 4) (.t 1)), none, none⟩,
 ⟨(some 12), (.build [(.c (.v (.int .i8 0))), (.c (.v (.string (bs [])))), (.c (.v (.int .i8 0))), (.c (.v (.int .i64 0))), (.c (.v (.string (bs []))))] [(1, 4, (.t 11))]), none, none⟩,
 ⟨(some 13), (.row 137 5 [(.t 12)]), none, none⟩,
 ⟨(some 14), (.load (some 16) (.t 2)), none, none⟩,
 ⟨(some 15), (.row 107 16 [(.t 14)]), none, none⟩,
 ⟨(some 16), (.build [(.c (.v (.string (bs [])))), .nil, .nil] [(0, 1, (.k (rS (bs [112])))), (1, 1, (.t 13)), (2, 1, (.t 15))]), none, none⟩,
 ⟨(some 3), (.zero 29 [(.c (.v (.string (bs [])))), .nil, .nil]), none, none⟩,
 ⟨none, (.store (some 3) (.t 3) (.t 16)), none, none⟩])
 (.seq
 (.region [19, 4] [] [1, 2, 3, 4, 5, 0] [
 ⟨(some 17), (.load (some 4) (.t 1)), none, none⟩,
 ⟨(some 18), (.build [(.c (.v (.int .i8 0))), (.c (.v (.string (bs [])))), (.c (.v (.int .i8 0))), (.c (.v (.int .i64 0))), (.c (.v (.string (bs []))))] [(1, 4, (.t 17))]), none, none⟩,
 ⟨(some 19), (.row 137 5 [(.t 18)]), none, none⟩,
 ⟨(some 20), (.build [(.c (.v (.string (bs [])))), .nil, .nil] [(0, 1, (.k (rS (bs [112])))), (1, 1, (.t 19))]), none, none⟩,
 ⟨(some 4), (.zero 29 [(.c (.v (.string (bs [])))), .nil, .nil]), none, none⟩,
 ⟨none, (.store (some 3) (.t 4) (.t 20)), none, none⟩])
 (.seq
 (.region [] [] [1, 2, 3, 4, 5, 0] [
 ⟨(some 21), (.faddr 2 (.t 3)), none, none⟩,
 ⟨(some 22), (.load none (.t 21)), none, none⟩,
 ⟨(some 23), (.callp (.k (rF 63)) [(.t 22)]), none, none⟩,
 ⟨(some 5), (.move (.t 23)), none, none⟩])
 (.seq
 (.region [46] [] [1, 2, 3, 4, 5, 0] [
 ⟨(some 24), (.load (some 3) (.t 3)), none, none⟩,
 ⟨(some 25), (.callp (.k (rF 26)) [(.t 24)]), none, none⟩,
 ⟨(some 26), (.bin .eql (.t 25) (.k (rI .i64 0))), none, none⟩,
 ⟨(some 27), (.move (.t 26)), none, none⟩,
 ⟨(some 28), (.load (some 3) (.t 4)), some (27, true), none⟩,
 ⟨(some 29), (.callp (.k (rF 26)) [(.t 28)]), some (27, true), none⟩,
 ⟨(some 30), (.bin .eql (.t 29) (.k (rI .i64 73))), some (27, true), none⟩,
 ⟨(some 31), (.pick (.t 27) (.t 30) (.k (rB false))), none, none⟩,
 ⟨(some 32), (.move (.t 31)), none, none⟩,
 ⟨(some 33), (.move (.t 5)), some (32, true), none⟩,
 ⟨(some 34), (.len (.t 33)), some (32, true), none⟩,
 ⟨(some 35), (.bin .eql (.t 34) (.k (rI .i64 1))), some (32, true), none⟩,
 ⟨(some 36), (.pick (.t 32) (.t 35) (.k (rB false))), none, none⟩,
 ⟨(some 37), (.move (.t 36)), none, none⟩,
 ⟨(some 38), (.move (.t 5)), some (37, true), none⟩,
 ⟨(some 39), (.iaddr 1 (.t 38) (.k (rI .i64 0))), some (37, true), none⟩,
 ⟨(some 40), (.load none (.t 39)), some (37, true), none⟩,
 ⟨(some 41), (.bin .eql (.t 40) (.k (rS (bs [88])))), some (37, true), none⟩,
 ⟨(some 42), (.pick (.t 37) (.t 41) (.k (rB false))), none, none⟩,
 ⟨(some 43), (.move (.t 42)), none, none⟩,
 ⟨(some 44), (.load (some 3) (.t 3)), some (43, true), none⟩,
 ⟨(some 45), (.load (some 3) (.t 4)), some (43, true), none⟩,
 ⟨(some 46), (.row 29 3 [(.t 44), (.t 45)]), some (43, true), none⟩,
 ⟨(some 47), (.callp (.k (rF 58)) [(.t 46), (.k (.x (.one .nil)))]), some (43, true), none⟩,
 ⟨(some 48), (.bin .eql (.t 47) (.k (rI .i64 73))), some (43, true), none⟩,
 ⟨(some 49), (.pick (.t 43) (.t 48) (.k (rB false))), none, none⟩,
 ⟨(some 0), (.move (.t 49)), none, none⟩])
 .ret)))))))
def ir2062 : List IRes := [.tmp 0]
theorem ie2062 : cmpFunc Go.Proofs.Tryz.prog ⟨[], []⟩ Go.Proofs.Tryz.f62 [1, 2, 3, 4, 5, 0] = some ic2062 := by kernel_rfl
theorem ig2062 : cmpRes Go.Proofs.Tryz.prog Go.Proofs.Tryz.f62.results.toList = some ir2062 := by kernel_rfl

end Go.Proofs.YtiomojlcnemnhaaGreatDoor

/- Functions of the seat, as the small language has them. -/
import Derived.Test.YtiomojlcnemnhaaLFxWb
import Derived.Test.YtiomojlcnemnhaaProg
import Derived.KernelRfl
namespace Go.Proofs.Ytiomojlcnemnhaa
open Go.Fx
/-- pedigree/pedigreelaw07.CheckLess -/
def ic3008 : IC :=
 (.seq
 (.region [1] [] [0, 1, 3, 4, 22, 24, 6, 8, 9, 7, 59, 10, 11, 66, 5, 73, 2] [
 ⟨(some 1), (.box 135 (.t 0)), none, none⟩,
 ⟨(some 2), (.move (.k (rB false))), none, none⟩])
 (.seq
 (.region [5] [.fz [1]] [0, 1, 3, 4, 22, 24, 6, 8, 9, 7, 59, 10, 11, 66, 5, 73, 2] [
 ⟨(some 12), (.faddr 0 (.t 1)), none, none⟩,
 ⟨(some 13), (.load none (.t 12)), none, (some [])⟩,
 ⟨(some 14), (.faddr 1 (.t 1)), none, none⟩,
 ⟨(some 15), (.load none (.t 14)), none, (some [])⟩,
 ⟨(some 16), (.faddr 2 (.t 1)), none, none⟩,
 ⟨(some 17), (.load (some 2) (.t 16)), none, (some [])⟩,
 ⟨(some 18), (.faddr 4 (.t 1)), none, none⟩,
 ⟨(some 19), (.load none (.t 18)), none, (some [])⟩,
 ⟨(some 5), (.zero 122 [(.c (.v (.string (bs [])))), .nil]), none, none⟩,
 ⟨(some 3), (.move (.t 13)), none, none⟩,
 ⟨(some 4), (.move (.t 15)), none, none⟩,
 ⟨none, (.store (some 2) (.t 5) (.t 17)), none, none⟩,
 ⟨(some 6), (.move (.t 19)), none, none⟩])
 (.seq
 (.seq
 (.region [] [] [0, 1, 3, 4, 22, 24, 6, 8, 9, 7, 59, 10, 11, 66, 5, 73, 2] [
 ⟨(some 20), (.move (.t 3)), none, none⟩,
 ⟨(some 21), (.move (.t 4)), none, none⟩,
 ⟨(some 22), (.callp (.k (rF 33)) [(.t 20), (.t 21)]), none, none⟩])
 (.cond (.t 22)
 (.seq
 (.region [] [] [0, 1, 3, 4, 22, 24, 6, 8, 9, 7, 59, 10, 11, 66, 5, 73, 2] [
 ⟨(some 2), (.move (.k (rB true))), none, none⟩])
 .ret)
 .skip))
 (.seq
 (.seq
 (.region [] [] [0, 1, 3, 4, 22, 24, 6, 8, 9, 7, 59, 10, 11, 66, 5, 73, 2] [
 ⟨(some 23), (.callp (.k (rF 30)) []), none, none⟩,
 ⟨(some 24), (.un .not (.t 23)), none, none⟩])
 (.cond (.t 24)
 (.seq
 (.region [] [] [0, 1, 3, 4, 22, 24, 6, 8, 9, 7, 59, 10, 11, 66, 5, 73, 2] [
 ⟨(some 2), (.move (.k (rB false))), none, none⟩])
 .ret)
 .skip))
 (.seq
 (.region [] [] [0, 1, 3, 4, 22, 24, 6, 8, 9, 7, 59, 10, 11, 66, 5, 73, 2] [
 ⟨(some 25), (.move (.t 3)), none, none⟩,
 ⟨(some 26), (.move (.t 4)), none, none⟩,
 ⟨(some 27), (.callp (.k (rF 34)) [(.t 25), (.t 26)]), none, none⟩,
 ⟨(some 28), (.bin .eql (.t 27) (.k (rI .i64 0))), none, none⟩,
 ⟨(some 7), (.move (.t 28)), none, none⟩])
 (.seq
 (.region [] [] [0, 1, 3, 4, 22, 24, 6, 8, 9, 7, 59, 10, 11, 66, 5, 73, 2] [
 ⟨(some 30), (.move (.t 3)), none, none⟩,
 ⟨(some 31), (.move (.t 4)), none, none⟩,
 ⟨(some 32), (.call (.k (rF 35)) [(.t 30), (.t 31), (.k (rI .i64 0))]), none, none⟩,
 ⟨(some 29), (.move (.t 32)), none, none⟩,
 ⟨(some 33), (.ext (.t 29) 0), none, none⟩,
 ⟨(some 34), (.ext (.t 29) 1), none, none⟩,
 ⟨(some 8), (.move (.t 33)), none, none⟩,
 ⟨(some 9), (.move (.t 34)), none, none⟩])
 (.seq
 (.region [] [] [0, 1, 3, 4, 22, 24, 6, 8, 9, 7, 59, 10, 11, 66, 5, 73, 2] [
 ⟨(some 36), (.move (.t 3)), none, none⟩,
 ⟨(some 37), (.move (.t 4)), none, none⟩,
 ⟨(some 38), (.move (.t 6)), none, none⟩,
 ⟨(some 39), (.call (.k (rF 35)) [(.t 36), (.t 37), (.t 38)]), none, none⟩,
 ⟨(some 35), (.move (.t 39)), none, none⟩,
 ⟨(some 40), (.ext (.t 35) 0), none, none⟩,
 ⟨(some 41), (.ext (.t 35) 1), none, none⟩,
 ⟨(some 10), (.move (.t 40)), none, none⟩,
 ⟨(some 11), (.move (.t 41)), none, none⟩])
 (.seq
 (.seq
 (.region [] [] [0, 1, 3, 4, 22, 24, 6, 8, 9, 7, 59, 10, 11, 66, 5, 73, 2] [
 ⟨(some 42), (.move (.t 8)), none, none⟩,
 ⟨(some 43), (.move (.t 9)), none, none⟩,
 ⟨(some 44), (.callp (.k (rF 34)) [(.t 42), (.t 43)]), none, none⟩,
 ⟨(some 45), (.bin .eql (.t 44) (.k (rI .i64 0))), none, none⟩,
 ⟨(some 46), (.move (.t 7)), none, none⟩,
 ⟨(some 47), (.eqb true (.t 45) (.t 46)), none, none⟩,
 ⟨(some 48), (.move (.t 47)), none, none⟩,
 ⟨(some 49), (.move (.t 8)), some (48, false), none⟩,
 ⟨(some 50), (.move (.t 3)), some (48, false), none⟩,
 ⟨(some 51), (.app 186 3 64 (.t 49) (.t 50)), some (48, false), none⟩,
 ⟨(some 52), (.move (.t 9)), some (48, false), none⟩,
 ⟨(some 53), (.move (.t 4)), some (48, false), none⟩,
 ⟨(some 54), (.app 201 2 40 (.t 52) (.t 53)), some (48, false), none⟩,
 ⟨(some 55), (.callp (.k (rF 34)) [(.t 51), (.t 54)]), some (48, false), none⟩,
 ⟨(some 56), (.bin .eql (.t 55) (.k (rI .i64 0))), some (48, false), none⟩,
 ⟨(some 57), (.move (.t 7)), some (48, false), none⟩,
 ⟨(some 58), (.eqb true (.t 56) (.t 57)), some (48, false), none⟩,
 ⟨(some 59), (.pick (.t 48) (.k (rB true)) (.t 58)), none, none⟩])
 (.cond (.t 59)
 (.seq
 (.region [] [] [0, 1, 3, 4, 22, 24, 6, 8, 9, 7, 59, 10, 11, 66, 5, 73, 2] [
 ⟨(some 2), (.move (.k (rB false))), none, none⟩])
 .ret)
 .skip))
 (.seq
 (.seq
 (.region [] [] [0, 1, 3, 4, 22, 24, 6, 8, 9, 7, 59, 10, 11, 66, 5, 73, 2] [
 ⟨(some 60), (.move (.t 7)), none, none⟩,
 ⟨(some 61), (.move (.t 60)), none, none⟩,
 ⟨(some 62), (.move (.t 10)), some (61, true), none⟩,
 ⟨(some 63), (.move (.t 11)), some (61, true), none⟩,
 ⟨(some 64), (.callp (.k (rF 34)) [(.t 62), (.t 63)]), some (61, true), none⟩,
 ⟨(some 65), (.bin .neq (.t 64) (.k (rI .i64 0))), some (61, true), none⟩,
 ⟨(some 66), (.pick (.t 61) (.t 65) (.k (rB false))), none, none⟩])
 (.cond (.t 66)
 (.seq
 (.region [] [] [0, 1, 3, 4, 22, 24, 6, 8, 9, 7, 59, 10, 11, 66, 5, 73, 2] [
 ⟨(some 2), (.move (.k (rB false))), none, none⟩])
 .ret)
 .skip))
 (.seq
 (.seq
 (.region [] [] [0, 1, 3, 4, 22, 24, 6, 8, 9, 7, 59, 10, 11, 66, 5, 73, 2] [
 ⟨(some 67), (.move (.t 3)), none, none⟩,
 ⟨(some 68), (.build [.nil] [(0, 1, (.t 67))]), none, none⟩,
 ⟨(some 69), (.move (.t 4)), none, none⟩,
 ⟨(some 70), (.load (some 2) (.t 5)), none, none⟩,
 ⟨(some 71), (.callp (.k (rF 36)) [(.t 68), (.t 69), (.t 70)]), none, none⟩,
 ⟨(some 72), (.build [(.c (.v (.int .i8 0))), (.c (.v (.int .i64 0))), (.c (.v (.int .i64 0)))] []), none, none⟩,
 ⟨(some 73), (.eqs true [.i .i8, .i .i64, .i .i64] (.t 71) (.t 72)), none, none⟩])
 (.cond (.t 73)
 (.seq
 (.region [] [] [0, 1, 3, 4, 22, 24, 6, 8, 9, 7, 59, 10, 11, 66, 5, 73, 2] [
 ⟨(some 2), (.move (.k (rB true))), none, none⟩])
 .ret)
 .skip))
 (.seq
 (.region [] [] [0, 1, 3, 4, 22, 24, 6, 8, 9, 7, 59, 10, 11, 66, 5, 73, 2] [
 ⟨(some 74), (.move (.t 7)), none, none⟩,
 ⟨(some 75), (.move (.t 74)), none, none⟩,
 ⟨(some 76), (.move (.t 10)), some (75, true), none⟩,
 ⟨(some 77), (.build [.nil] [(0, 1, (.t 76))]), some (75, true), none⟩,
 ⟨(some 78), (.move (.t 11)), some (75, true), none⟩,
 ⟨(some 79), (.load (some 2) (.t 5)), some (75, true), none⟩,
 ⟨(some 80), (.callp (.k (rF 36)) [(.t 77), (.t 78), (.t 79)]), some (75, true), none⟩,
 ⟨(some 81), (.build [(.c (.v (.int .i8 0))), (.c (.v (.int .i64 0))), (.c (.v (.int .i64 0)))] []), some (75, true), none⟩,
 ⟨(some 82), (.eqs false [.i .i8, .i .i64, .i .i64] (.t 80) (.t 81)), some (75, true), none⟩,
 ⟨(some 83), (.pick (.t 75) (.t 82) (.k (rB false))), none, none⟩,
 ⟨(some 84), (.move (.t 83)), none, none⟩,
 ⟨(some 85), (.move (.t 8)), some (84, true), none⟩,
 ⟨(some 86), (.build [.nil] [(0, 1, (.t 85))]), some (84, true), none⟩,
 ⟨(some 87), (.move (.t 9)), some (84, true), none⟩,
 ⟨(some 88), (.load (some 2) (.t 5)), some (84, true), none⟩,
 ⟨(some 89), (.callp (.k (rF 36)) [(.t 86), (.t 87), (.t 88)]), some (84, true), none⟩,
 ⟨(some 90), (.build [(.c (.v (.int .i8 0))), (.c (.v (.int .i64 0))), (.c (.v (.int .i64 0)))] []), some (84, true), none⟩,
 ⟨(some 91), (.eqs false [.i .i8, .i .i64, .i .i64] (.t 89) (.t 90)), some (84, true), none⟩,
 ⟨(some 92), (.pick (.t 84) (.t 91) (.k (rB false))), none, none⟩,
 ⟨(some 93), (.move (.t 92)), none, none⟩,
 ⟨(some 94), (.load (some 2) (.t 5)), some (93, true), none⟩,
 ⟨(some 95), (.callp (.k (rF 37)) [(.t 94)]), some (93, true), none⟩,
 ⟨(some 96), (.bin .eql (.t 95) (.k (rI .i64 0))), some (93, true), none⟩,
 ⟨(some 97), (.pick (.t 93) (.t 96) (.k (rB false))), none, none⟩,
 ⟨(some 2), (.move (.t 97)), none, none⟩])
 .ret)))))))))))
def ir3008 : List IRes := [.tmp 2]
theorem ie3008 : cmpFunc Go.Proofs.Try.prog ⟨[(13, (some [])), (15, (some [])), (17, (some [])), (19, (some [])), (32, none), (39, none)], [(13, .fz [1])]⟩ Go.Proofs.Try.f8 [0, 1, 3, 4, 22, 24, 6, 8, 9, 7, 59, 10, 11, 66, 5, 73, 2] = some ic3008 := by kernel_rfl
theorem ig3008 : cmpRes Go.Proofs.Try.prog Go.Proofs.Try.f8.results.toList = some ir3008 := by kernel_rfl

def ic3035l0 : IC :=
 (.seq
 (.seq
 (.region [] [] [0, 10, 16, 2, 26, 8, 1, 11, 38, 48, 9, 6, 7] [
 ⟨(some 15), (.move (.t 10)), none, none⟩,
 ⟨(some 16), (.bin .geq (.t 15) (.k (rI .i64 0))), none, none⟩])
 (.cond (.t 16)
 .skip
 (.exit 0)))
 (.seq
 (.block 1
 (.seq
 (.region [] [] [0, 10, 16, 2, 26, 8, 1, 11, 38, 48, 9, 6, 7] [
 ⟨(some 19), (.move (.t 2)), none, none⟩,
 ⟨(some 20), (.bin .leq (.t 19) (.k (rI .i64 0))), none, none⟩,
 ⟨(some 21), (.move (.t 20)), none, none⟩,
 ⟨(some 22), (.move (.t 10)), some (21, false), none⟩,
 ⟨(some 23), (.move (.t 2)), some (21, false), none⟩,
 ⟨(some 24), (.bin .rem (.t 22) (.t 23)), some (21, false), none⟩,
 ⟨(some 25), (.bin .neq (.t 24) (.k (rI .i64 0))), some (21, false), none⟩,
 ⟨(some 26), (.pick (.t 21) (.k (rB true)) (.t 25)), none, none⟩])
 (.cond (.t 26)
 (.region [32] [] [0, 10, 16, 2, 26, 8, 1, 11, 38, 48, 9, 6, 7] [
 ⟨(some 27), (.move (.t 8)), none, none⟩,
 ⟨(some 28), (.move (.t 0)), none, none⟩,
 ⟨(some 29), (.move (.t 10)), none, none⟩,
 ⟨(some 30), (.iaddr 3 (.t 28) (.t 29)), none, none⟩,
 ⟨(some 31), (.load (some 3) (.t 30)), none, none⟩,
 ⟨(some 32), (.row 186 3 [(.t 31)]), none, none⟩,
 ⟨(some 33), (.app 186 3 64 (.t 27) (.t 32)), none, none⟩,
 ⟨(some 8), (.move (.t 33)), none, none⟩])
 .skip)))
 (.region [] [] [0, 10, 16, 2, 26, 8, 1, 11, 38, 48, 9, 6, 7] [
 ⟨(some 17), (.move (.t 10)), none, none⟩,
 ⟨(some 18), (.bin .sub (.t 17) (.k (rI .i64 1))), none, none⟩,
 ⟨(some 10), (.move (.t 18)), none, none⟩])))

def ic3035l1 : IC :=
 (.seq
 (.seq
 (.region [] [] [0, 10, 16, 2, 26, 8, 1, 11, 38, 48, 9, 6, 7] [
 ⟨(some 37), (.move (.t 11)), none, none⟩,
 ⟨(some 38), (.bin .geq (.t 37) (.k (rI .i64 0))), none, none⟩])
 (.cond (.t 38)
 .skip
 (.exit 2)))
 (.seq
 (.block 3
 (.seq
 (.region [] [] [0, 10, 16, 2, 26, 8, 1, 11, 38, 48, 9, 6, 7] [
 ⟨(some 41), (.move (.t 2)), none, none⟩,
 ⟨(some 42), (.bin .leq (.t 41) (.k (rI .i64 0))), none, none⟩,
 ⟨(some 43), (.move (.t 42)), none, none⟩,
 ⟨(some 44), (.move (.t 11)), some (43, false), none⟩,
 ⟨(some 45), (.move (.t 2)), some (43, false), none⟩,
 ⟨(some 46), (.bin .rem (.t 44) (.t 45)), some (43, false), none⟩,
 ⟨(some 47), (.bin .neq (.t 46) (.k (rI .i64 0))), some (43, false), none⟩,
 ⟨(some 48), (.pick (.t 43) (.k (rB true)) (.t 47)), none, none⟩])
 (.cond (.t 48)
 (.region [54] [] [0, 10, 16, 2, 26, 8, 1, 11, 38, 48, 9, 6, 7] [
 ⟨(some 49), (.move (.t 9)), none, none⟩,
 ⟨(some 50), (.move (.t 1)), none, none⟩,
 ⟨(some 51), (.move (.t 11)), none, none⟩,
 ⟨(some 52), (.iaddr 2 (.t 50) (.t 51)), none, none⟩,
 ⟨(some 53), (.load (some 2) (.t 52)), none, none⟩,
 ⟨(some 54), (.row 201 2 [(.t 53)]), none, none⟩,
 ⟨(some 55), (.app 201 2 40 (.t 49) (.t 54)), none, none⟩,
 ⟨(some 9), (.move (.t 55)), none, none⟩])
 .skip)))
 (.region [] [] [0, 10, 16, 2, 26, 8, 1, 11, 38, 48, 9, 6, 7] [
 ⟨(some 39), (.move (.t 11)), none, none⟩,
 ⟨(some 40), (.bin .sub (.t 39) (.k (rI .i64 1))), none, none⟩,
 ⟨(some 11), (.move (.t 40)), none, none⟩])))

/-- pedigree/pedigreelaw07.fewer -/
def ic3035 : IC :=
 (.seq
 (.region [] [] [0, 10, 16, 2, 26, 8, 1, 11, 38, 48, 9, 6, 7] [
 ⟨(some 6), (.move (.k (.x (.one .nil)))), none, none⟩,
 ⟨(some 7), (.move (.k (.x (.one .nil)))), none, none⟩])
 (.seq
 (.region [] [] [0, 10, 16, 2, 26, 8, 1, 11, 38, 48, 9, 6, 7] [
 ⟨(some 8), (.move (.k (.x (.one .nil)))), none, none⟩])
 (.seq
 (.region [] [] [0, 10, 16, 2, 26, 8, 1, 11, 38, 48, 9, 6, 7] [
 ⟨(some 9), (.move (.k (.x (.one .nil)))), none, none⟩])
 (.seq
 (.seq
 (.region [] [] [0, 10, 16, 2, 26, 8, 1, 11, 38, 48, 9, 6, 7] [
 ⟨(some 12), (.move (.t 0)), none, none⟩,
 ⟨(some 13), (.len (.t 12)), none, none⟩,
 ⟨(some 14), (.bin .sub (.t 13) (.k (rI .i64 1))), none, none⟩,
 ⟨(some 10), (.move (.t 14)), none, none⟩])
 (.block 0
 (.loop ic3035l0)))
 (.seq
 (.seq
 (.region [] [] [0, 10, 16, 2, 26, 8, 1, 11, 38, 48, 9, 6, 7] [
 ⟨(some 34), (.move (.t 1)), none, none⟩,
 ⟨(some 35), (.len (.t 34)), none, none⟩,
 ⟨(some 36), (.bin .sub (.t 35) (.k (rI .i64 1))), none, none⟩,
 ⟨(some 11), (.move (.t 36)), none, none⟩])
 (.block 2
 (.loop ic3035l1)))
 (.seq
 (.region [] [] [0, 10, 16, 2, 26, 8, 1, 11, 38, 48, 9, 6, 7] [
 ⟨(some 56), (.move (.t 8)), none, none⟩,
 ⟨(some 57), (.move (.t 9)), none, none⟩,
 ⟨(some 6), (.move (.t 56)), none, none⟩,
 ⟨(some 7), (.move (.t 57)), none, none⟩])
 .ret))))))
def ir3035 : List IRes := [.tmp 6, .tmp 7]
theorem ie3035 : cmpFunc Go.Proofs.Try.prog ⟨[], []⟩ Go.Proofs.Try.f35 [0, 10, 16, 2, 26, 8, 1, 11, 38, 48, 9, 6, 7] = some ic3035 := by kernel_rfl
theorem ig3035 : cmpRes Go.Proofs.Try.prog Go.Proofs.Try.f35.results.toList = some ir3035 := by kernel_rfl

end Go.Proofs.Ytiomojlcnemnhaa

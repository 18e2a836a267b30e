/- Functions of the seat, as the small language has them. -/
import Derived.Test.YtiomojlcnemnhaaDoorTFxWb
import Derived.Test.YtiomojlcnemnhaaDoorProg
import Derived.KernelRfl
namespace Go.Proofs.YtiomojlcnemnhaaDoor
open Go.Fx
def ic13l0 : IC :=
 (.seq
 (.seq
 (.region [] [] [0, 1, 6, 26, 28, 9, 3, 32, 4, 10, 47, 7, 5, 69, 8, 97, 12, 105, 11, 14, 16, 13, 15, 2] [
 ⟨(some 29), (.move (.t 9)), none, none⟩,
 ⟨(some 30), (.move (.t 3)), none, none⟩,
 ⟨(some 31), (.len (.t 30)), none, none⟩,
 ⟨(some 32), (.bin .lss (.t 29) (.t 31)), none, none⟩])
 (.cond (.t 32)
 .skip
 (.exit 0)))
 (.seq
 (.block 1
 (.seq
 (.region [41, 10] [] [0, 1, 6, 26, 28, 9, 3, 32, 4, 10, 47, 7, 5, 69, 8, 97, 12, 105, 11, 14, 16, 13, 15, 2] [
 ⟨(some 35), (.move (.t 4)), none, none⟩,
 ⟨(some 36), (.move (.t 3)), none, none⟩,
 ⟨(some 37), (.move (.t 9)), none, none⟩,
 ⟨(some 38), (.iaddr 5 (.t 36) (.t 37)), none, none⟩,
 ⟨(some 39), (.faddr 1 (.t 38)), none, none⟩,
 ⟨(some 40), (.load (some 4) (.t 39)), none, none⟩,
 ⟨(some 41), (.row 41 4 [(.t 40)]), none, none⟩,
 ⟨(some 42), (.build [(.c (.v (.string (bs [])))), .nil] [(0, 1, (.k (rS (bs [112])))), (1, 1, (.t 41))]), none, none⟩,
 ⟨(some 43), (.callp (.k (rF 54)) [(.t 35), (.t 42)]), none, none⟩,
 ⟨(some 10), (.zero 24 [(.c (.v (.string (bs [])))), .nil]), none, none⟩,
 ⟨none, (.store (some 2) (.t 10) (.t 43)), none, none⟩])
 (.seq
 (.seq
 (.region [] [] [0, 1, 6, 26, 28, 9, 3, 32, 4, 10, 47, 7, 5, 69, 8, 97, 12, 105, 11, 14, 16, 13, 15, 2] [
 ⟨(some 44), (.faddr 1 (.t 10)), none, none⟩,
 ⟨(some 45), (.load none (.t 44)), none, none⟩,
 ⟨(some 46), (.len (.t 45)), none, none⟩,
 ⟨(some 47), (.bin .neq (.t 46) (.k (rI .i64 1))), none, none⟩])
 (.cond (.t 47)
 (.seq
 (.region [] [] [0, 1, 6, 26, 28, 9, 3, 32, 4, 10, 47, 7, 5, 69, 8, 97, 12, 105, 11, 14, 16, 13, 15, 2] [
 ⟨(some 2), (.move (.k (rB false))), none, none⟩])
 .ret)
 .skip))
 (.seq
 (.region [59] [] [0, 1, 6, 26, 28, 9, 3, 32, 4, 10, 47, 7, 5, 69, 8, 97, 12, 105, 11, 14, 16, 13, 15, 2] [
 ⟨(some 48), (.move (.t 7)), none, none⟩,
 ⟨(some 49), (.move (.t 3)), none, none⟩,
 ⟨(some 50), (.move (.t 9)), none, none⟩,
 ⟨(some 51), (.iaddr 5 (.t 49) (.t 50)), none, none⟩,
 ⟨(some 52), (.faddr 0 (.t 51)), none, none⟩,
 ⟨(some 53), (.load none (.t 52)), none, none⟩,
 ⟨(some 54), (.faddr 1 (.t 10)), none, none⟩,
 ⟨(some 55), (.load none (.t 54)), none, none⟩,
 ⟨(some 56), (.iaddr 4 (.t 55) (.k (rI .i64 0))), none, none⟩,
 ⟨(some 57), (.load (some 4) (.t 56)), none, none⟩,
 ⟨(some 58), (.build [(.c (.v (.string (bs [])))), (.c (.v (.string (bs [])))), (.c (.v (.int .i8 0))), (.c (.v (.int .i64 0))), (.c (.v (.string (bs []))))] [(0, 1, (.t 53)), (1, 4, (.t 57))]), none, none⟩,
 ⟨(some 59), (.row 65 5 [(.t 58)]), none, none⟩,
 ⟨(some 60), (.app 65 5 64 (.t 48) (.t 59)), none, none⟩,
 ⟨(some 7), (.move (.t 60)), none, none⟩])
 (.seq
 (.region [] [] [0, 1, 6, 26, 28, 9, 3, 32, 4, 10, 47, 7, 5, 69, 8, 97, 12, 105, 11, 14, 16, 13, 15, 2] [
 ⟨(some 61), (.move (.t 3)), none, none⟩,
 ⟨(some 62), (.move (.t 9)), none, none⟩,
 ⟨(some 63), (.iaddr 5 (.t 61) (.t 62)), none, none⟩,
 ⟨(some 64), (.faddr 0 (.t 63)), none, none⟩,
 ⟨(some 65), (.load none (.t 64)), none, none⟩,
 ⟨(some 66), (.load (some 2) (.t 5)), none, none⟩,
 ⟨(some 67), (.callp (.k (rF 47)) [(.t 66)]), none, none⟩,
 ⟨(some 68), (.callp (.k (rF 30)) [(.t 65), (.t 67)]), none, none⟩,
 ⟨(some 69), (.un .not (.t 68)), none, none⟩])
 (.cond (.t 69)
 (.region [75] [] [0, 1, 6, 26, 28, 9, 3, 32, 4, 10, 47, 7, 5, 69, 8, 97, 12, 105, 11, 14, 16, 13, 15, 2] [
 ⟨(some 70), (.move (.t 8)), none, none⟩,
 ⟨(some 71), (.move (.t 3)), none, none⟩,
 ⟨(some 72), (.move (.t 9)), none, none⟩,
 ⟨(some 73), (.iaddr 5 (.t 71) (.t 72)), none, none⟩,
 ⟨(some 74), (.load (some 5) (.t 73)), none, none⟩,
 ⟨(some 75), (.row 65 5 [(.t 74)]), none, none⟩,
 ⟨(some 76), (.app 65 5 64 (.t 70) (.t 75)), none, none⟩,
 ⟨(some 8), (.move (.t 76)), none, none⟩])
 .skip))))))
 (.region [] [] [0, 1, 6, 26, 28, 9, 3, 32, 4, 10, 47, 7, 5, 69, 8, 97, 12, 105, 11, 14, 16, 13, 15, 2] [
 ⟨(some 33), (.move (.t 9)), none, none⟩,
 ⟨(some 34), (.bin .add (.t 33) (.k (rI .i64 1))), none, none⟩,
 ⟨(some 9), (.move (.t 34)), none, none⟩])))

/-- pedigree/pedigreelaw04.TermTwice -/
def ic13 : IC :=
 (.seq
 (.region [1] [] [0, 1, 6, 26, 28, 9, 3, 32, 4, 10, 47, 7, 5, 69, 8, 97, 12, 105, 11, 14, 16, 13, 15, 2] [
 ⟨(some 1), (.box 105 (.t 0)), none, none⟩,
 ⟨(some 2), (.move (.k (rB false))), none, none⟩])
 (.seq
 (.region [5, 6] [.fz [1]] [0, 1, 6, 26, 28, 9, 3, 32, 4, 10, 47, 7, 5, 69, 8, 97, 12, 105, 11, 14, 16, 13, 15, 2] [
 ⟨(some 17), (.faddr 10 (.t 1)), none, none⟩,
 ⟨(some 18), (.load none (.t 17)), none, (some [])⟩,
 ⟨(some 19), (.faddr 11 (.t 1)), none, none⟩,
 ⟨(some 20), (.load none (.t 19)), none, (some [])⟩,
 ⟨(some 21), (.faddr 6 (.t 1)), none, none⟩,
 ⟨(some 22), (.load (some 2) (.t 21)), none, (some [])⟩,
 ⟨(some 23), (.faddr 0 (.t 1)), none, none⟩,
 ⟨(some 24), (.load (some 3) (.t 23)), none, (some [])⟩,
 ⟨(some 5), (.zero 24 [(.c (.v (.string (bs [])))), .nil]), none, none⟩,
 ⟨(some 6), (.zero 96 [(.c (.v (.string (bs [])))), .nil, .nil]), none, none⟩,
 ⟨(some 3), (.move (.t 18)), none, none⟩,
 ⟨(some 4), (.move (.t 20)), none, none⟩,
 ⟨none, (.store (some 2) (.t 5) (.t 22)), none, none⟩,
 ⟨none, (.store (some 3) (.t 6) (.t 24)), none, none⟩])
 (.seq
 (.seq
 (.region [] [] [0, 1, 6, 26, 28, 9, 3, 32, 4, 10, 47, 7, 5, 69, 8, 97, 12, 105, 11, 14, 16, 13, 15, 2] [
 ⟨(some 25), (.load (some 3) (.t 6)), none, none⟩,
 ⟨(some 26), (.callp (.k (rF 62)) [(.t 25)]), none, none⟩])
 (.cond (.t 26)
 (.seq
 (.region [] [] [0, 1, 6, 26, 28, 9, 3, 32, 4, 10, 47, 7, 5, 69, 8, 97, 12, 105, 11, 14, 16, 13, 15, 2] [
 ⟨(some 2), (.move (.k (rB true))), none, none⟩])
 .ret)
 .skip))
 (.seq
 (.seq
 (.region [] [] [0, 1, 6, 26, 28, 9, 3, 32, 4, 10, 47, 7, 5, 69, 8, 97, 12, 105, 11, 14, 16, 13, 15, 2] [
 ⟨(some 27), (.callp (.k (rF 19)) []), none, none⟩,
 ⟨(some 28), (.un .not (.t 27)), none, none⟩])
 (.cond (.t 28)
 (.seq
 (.region [] [] [0, 1, 6, 26, 28, 9, 3, 32, 4, 10, 47, 7, 5, 69, 8, 97, 12, 105, 11, 14, 16, 13, 15, 2] [
 ⟨(some 2), (.move (.k (rB false))), none, none⟩])
 .ret)
 .skip))
 (.seq
 (.region [] [] [0, 1, 6, 26, 28, 9, 3, 32, 4, 10, 47, 7, 5, 69, 8, 97, 12, 105, 11, 14, 16, 13, 15, 2] [
 ⟨(some 7), (.move (.k (.x (.one .nil)))), none, none⟩,
 ⟨(some 8), (.move (.k (.x (.one .nil)))), none, none⟩])
 (.seq
 (.seq
 (.region [] [] [0, 1, 6, 26, 28, 9, 3, 32, 4, 10, 47, 7, 5, 69, 8, 97, 12, 105, 11, 14, 16, 13, 15, 2] [
 ⟨(some 9), (.move (.k (rI .i64 0))), none, none⟩])
 (.block 0
 (.loop ic13l0)))
 (.seq
 (.region [] [] [0, 1, 6, 26, 28, 9, 3, 32, 4, 10, 47, 7, 5, 69, 8, 97, 12, 105, 11, 14, 16, 13, 15, 2] [
 ⟨(some 77), (.move (.t 7)), none, none⟩,
 ⟨(some 78), (.move (.t 4)), none, none⟩,
 ⟨(some 79), (.app 65 5 64 (.t 77) (.t 78)), none, none⟩,
 ⟨(some 7), (.move (.t 79)), none, none⟩])
 (.seq
 (.seq
 (.region [] [] [0, 1, 6, 26, 28, 9, 3, 32, 4, 10, 47, 7, 5, 69, 8, 97, 12, 105, 11, 14, 16, 13, 15, 2] [
 ⟨(some 80), (.move (.t 4)), none, none⟩,
 ⟨(some 81), (.move (.t 3)), none, none⟩,
 ⟨(some 82), (.load (some 2) (.t 5)), none, none⟩,
 ⟨(some 83), (.callp (.k (rF 54)) [(.t 81), (.t 82)]), none, none⟩,
 ⟨(some 84), (.callp (.k (rF 54)) [(.t 80), (.t 83)]), none, none⟩,
 ⟨(some 85), (.move (.t 7)), none, none⟩,
 ⟨(some 86), (.load (some 2) (.t 5)), none, none⟩,
 ⟨(some 87), (.callp (.k (rF 54)) [(.t 85), (.t 86)]), none, none⟩,
 ⟨(some 88), (.callp (.k (rF 55)) [(.t 84), (.t 87)]), none, none⟩,
 ⟨(some 89), (.un .not (.t 88)), none, none⟩,
 ⟨(some 90), (.move (.t 89)), none, none⟩,
 ⟨(some 91), (.move (.t 8)), some (90, false), none⟩,
 ⟨(some 92), (.load (some 2) (.t 5)), some (90, false), none⟩,
 ⟨(some 93), (.callp (.k (rF 54)) [(.t 91), (.t 92)]), some (90, false), none⟩,
 ⟨(some 94), (.load (some 2) (.t 5)), some (90, false), none⟩,
 ⟨(some 95), (.callp (.k (rF 55)) [(.t 93), (.t 94)]), some (90, false), none⟩,
 ⟨(some 96), (.un .not (.t 95)), some (90, false), none⟩,
 ⟨(some 97), (.pick (.t 90) (.k (rB true)) (.t 96)), none, none⟩])
 (.cond (.t 97)
 (.seq
 (.region [] [] [0, 1, 6, 26, 28, 9, 3, 32, 4, 10, 47, 7, 5, 69, 8, 97, 12, 105, 11, 14, 16, 13, 15, 2] [
 ⟨(some 2), (.move (.k (rB false))), none, none⟩])
 .ret)
 .skip))
 (.seq
 (.region [11] [] [0, 1, 6, 26, 28, 9, 3, 32, 4, 10, 47, 7, 5, 69, 8, 97, 12, 105, 11, 14, 16, 13, 15, 2] [
 ⟨(some 99), (.move (.t 3)), none, none⟩,
 ⟨(some 100), (.load (some 3) (.t 6)), none, none⟩,
 ⟨(some 101), (.callp (.k (rF 71)) [(.t 99), (.t 100)]), none, none⟩,
 ⟨(some 98), (.move (.t 101)), none, none⟩,
 ⟨(some 102), (.ext (.t 98) 0), none, none⟩,
 ⟨(some 103), (.ext (.t 98) 1), none, none⟩,
 ⟨(some 11), (.zero 96 [(.c (.v (.string (bs [])))), .nil, .nil]), none, none⟩,
 ⟨none, (.store (some 3) (.t 11) (.t 102)), none, none⟩,
 ⟨(some 12), (.move (.t 103)), none, none⟩])
 (.seq
 (.seq
 (.region [] [] [0, 1, 6, 26, 28, 9, 3, 32, 4, 10, 47, 7, 5, 69, 8, 97, 12, 105, 11, 14, 16, 13, 15, 2] [
 ⟨(some 104), (.move (.t 12)), none, none⟩,
 ⟨(some 105), (.bin .neq (.t 104) (.k (rI .i64 0))), none, none⟩])
 (.cond (.t 105)
 (.seq
 (.region [] [] [0, 1, 6, 26, 28, 9, 3, 32, 4, 10, 47, 7, 5, 69, 8, 97, 12, 105, 11, 14, 16, 13, 15, 2] [
 ⟨(some 106), (.faddr 0 (.t 11)), none, none⟩,
 ⟨(some 107), (.load none (.t 106)), none, none⟩,
 ⟨(some 108), (.slen (.t 107)), none, none⟩,
 ⟨(some 109), (.bin .eql (.t 108) (.k (rI .i64 0))), none, none⟩,
 ⟨(some 2), (.move (.t 109)), none, none⟩])
 .ret)
 .skip))
 (.seq
 (.region [13] [] [0, 1, 6, 26, 28, 9, 3, 32, 4, 10, 47, 7, 5, 69, 8, 97, 12, 105, 11, 14, 16, 13, 15, 2] [
 ⟨(some 111), (.move (.t 4)), none, none⟩,
 ⟨(some 112), (.load (some 3) (.t 11)), none, none⟩,
 ⟨(some 113), (.callp (.k (rF 71)) [(.t 111), (.t 112)]), none, none⟩,
 ⟨(some 110), (.move (.t 113)), none, none⟩,
 ⟨(some 114), (.ext (.t 110) 0), none, none⟩,
 ⟨(some 115), (.ext (.t 110) 1), none, none⟩,
 ⟨(some 13), (.zero 96 [(.c (.v (.string (bs [])))), .nil, .nil]), none, none⟩,
 ⟨none, (.store (some 3) (.t 13) (.t 114)), none, none⟩,
 ⟨(some 14), (.move (.t 115)), none, none⟩])
 (.seq
 (.region [15] [] [0, 1, 6, 26, 28, 9, 3, 32, 4, 10, 47, 7, 5, 69, 8, 97, 12, 105, 11, 14, 16, 13, 15, 2] [
 ⟨(some 117), (.move (.t 7)), none, none⟩,
 ⟨(some 118), (.load (some 3) (.t 6)), none, none⟩,
 ⟨(some 119), (.callp (.k (rF 71)) [(.t 117), (.t 118)]), none, none⟩,
 ⟨(some 116), (.move (.t 119)), none, none⟩,
 ⟨(some 120), (.ext (.t 116) 0), none, none⟩,
 ⟨(some 121), (.ext (.t 116) 1), none, none⟩,
 ⟨(some 15), (.zero 96 [(.c (.v (.string (bs [])))), .nil, .nil]), none, none⟩,
 ⟨none, (.store (some 3) (.t 15) (.t 120)), none, none⟩,
 ⟨(some 16), (.move (.t 121)), none, none⟩])
 (.seq
 (.region [] [] [0, 1, 6, 26, 28, 9, 3, 32, 4, 10, 47, 7, 5, 69, 8, 97, 12, 105, 11, 14, 16, 13, 15, 2] [
 ⟨(some 122), (.move (.t 14)), none, none⟩,
 ⟨(some 123), (.move (.t 16)), none, none⟩,
 ⟨(some 124), (.bin .eql (.t 122) (.t 123)), none, none⟩,
 ⟨(some 125), (.move (.t 124)), none, none⟩,
 ⟨(some 126), (.load (some 3) (.t 13)), some (125, true), none⟩,
 ⟨(some 127), (.load (some 3) (.t 15)), some (125, true), none⟩,
 ⟨(some 128), (.callp (.k (rF 72)) [(.t 126), (.t 127)]), some (125, true), none⟩,
 ⟨(some 129), (.pick (.t 125) (.t 128) (.k (rB false))), none, none⟩,
 ⟨(some 130), (.move (.t 129)), none, none⟩,
 ⟨(some 131), (.move (.t 14)), some (130, true), none⟩,
 ⟨(some 132), (.bin .neq (.t 131) (.k (rI .i64 0))), some (130, true), none⟩,
 ⟨(some 133), (.move (.t 132)), some (130, true), none⟩,
 ⟨(some 134), (.load (some 3) (.t 13)), some (133, false), none⟩,
 ⟨(some 135), (.callp (.k (rF 67)) [(.t 134)]), some (133, false), none⟩,
 ⟨(some 136), (.bin .eql (.t 135) (.k (rI .i64 0))), some (133, false), none⟩,
 ⟨(some 137), (.pick (.t 133) (.k (rB true)) (.t 136)), some (130, true), none⟩,
 ⟨(some 138), (.pick (.t 130) (.t 137) (.k (rB false))), none, none⟩,
 ⟨(some 2), (.move (.t 138)), none, none⟩])
 .ret)))))))))))))
def ir13 : List IRes := [.tmp 2]
theorem ie13 : cmpFunc Go.Proofs.Tryd.prog ⟨[(18, (some [])), (20, (some [])), (22, (some [])), (24, (some []))], [(18, .fz [1])]⟩ Go.Proofs.Tryd.f13 [0, 1, 6, 26, 28, 9, 3, 32, 4, 10, 47, 7, 5, 69, 8, 97, 12, 105, 11, 14, 16, 13, 15, 2] = some ic13 := by kernel_rfl
theorem ig13 : cmpRes Go.Proofs.Tryd.prog Go.Proofs.Tryd.f13.results.toList = some ir13 := by kernel_rfl


/-- pedigree/term.ApplyRule -/
def ic71 : IC :=
 (.seq
 (.region [3, 4] [] [1, 0, 3, 4, 5] [
 ⟨(some 3), (.box 96 (.t 1)), none, none⟩,
 ⟨(some 4), (.zero 96 [(.c (.v (.string (bs [])))), .nil, .nil]), none, none⟩,
 ⟨(some 5), (.move (.k (rI .i64 0))), none, none⟩])
 (.seq
 (.region [] [] [1, 0, 3, 4, 5] [
 ⟨(some 6), (.move (.t 0)), none, none⟩,
 ⟨(some 7), (.call (.k (rF 127)) [(.t 6)]), none, (some [8])⟩,
 ⟨(some 8), (.load (some 3) (.t 3)), none, (some [3])⟩,
 ⟨(some 9), (.call (.k (rF 138)) [(.t 7), (.t 8)]), none, (some [8])⟩,
 ⟨(some 10), (.ext (.t 9) 0), none, none⟩,
 ⟨(some 11), (.ext (.t 9) 1), none, none⟩,
 ⟨none, (.store (some 3) (.t 4) (.t 10)), none, none⟩,
 ⟨(some 5), (.move (.t 11)), none, none⟩])
 .ret))
def ir71 : List IRes := [.cell 4 (some 3), .tmp 5]
theorem ie71 : cmpFunc Go.Proofs.Tryd.prog ⟨[(7, (some [8])), (8, (some [3])), (9, (some [8])), (7, none), (9, none)], []⟩ Go.Proofs.Tryd.f71 [1, 0, 3, 4, 5] = some ic71 := by kernel_rfl
theorem ig71 : cmpRes Go.Proofs.Tryd.prog Go.Proofs.Tryd.f71.results.toList = some ir71 := by kernel_rfl


/-- pedigree/pedigreelaw01.SameRule -/
def ic72 : IC :=
 (.seq
 (.region [2, 3] [] [0, 1, 2, 3, 4] [
 ⟨(some 2), (.box 96 (.t 0)), none, none⟩,
 ⟨(some 3), (.box 96 (.t 1)), none, none⟩,
 ⟨(some 4), (.move (.k (rB false))), none, none⟩])
 (.seq
 (.region [] [] [0, 1, 2, 3, 4] [
 ⟨(some 5), (.faddr 0 (.t 2)), none, none⟩,
 ⟨(some 6), (.load none (.t 5)), none, none⟩,
 ⟨(some 7), (.faddr 0 (.t 3)), none, none⟩,
 ⟨(some 8), (.load none (.t 7)), none, none⟩,
 ⟨(some 9), (.bin .eql (.t 6) (.t 8)), none, none⟩,
 ⟨(some 10), (.move (.t 9)), none, none⟩,
 ⟨(some 11), (.faddr 1 (.t 2)), some (10, true), none⟩,
 ⟨(some 12), (.load none (.t 11)), some (10, true), none⟩,
 ⟨(some 13), (.faddr 1 (.t 3)), some (10, true), none⟩,
 ⟨(some 14), (.load none (.t 13)), some (10, true), none⟩,
 ⟨(some 15), (.callp (.k (rF 139)) [(.t 12), (.t 14)]), some (10, true), none⟩,
 ⟨(some 16), (.pick (.t 10) (.t 15) (.k (rB false))), none, none⟩,
 ⟨(some 17), (.move (.t 16)), none, none⟩,
 ⟨(some 18), (.faddr 2 (.t 2)), some (17, true), none⟩,
 ⟨(some 19), (.load none (.t 18)), some (17, true), none⟩,
 ⟨(some 20), (.faddr 2 (.t 3)), some (17, true), none⟩,
 ⟨(some 21), (.load none (.t 20)), some (17, true), none⟩,
 ⟨(some 22), (.callp (.k (rF 140)) [(.t 19), (.t 21)]), some (17, true), none⟩,
 ⟨(some 23), (.pick (.t 17) (.t 22) (.k (rB false))), none, none⟩,
 ⟨(some 4), (.move (.t 23)), none, none⟩])
 .ret))
def ir72 : List IRes := [.tmp 4]
theorem ie72 : cmpFunc Go.Proofs.Tryd.prog ⟨[], []⟩ Go.Proofs.Tryd.f72 [0, 1, 2, 3, 4] = some ic72 := by kernel_rfl
theorem ig72 : cmpRes Go.Proofs.Tryd.prog Go.Proofs.Tryd.f72.results.toList = some ir72 := by kernel_rfl

def ic140l0 : IC :=
 (.seq
 (.seq
 (.region [] [] [0, 1, 10, 5, 14, 26, 4] [
 ⟨(some 11), (.move (.t 5)), none, none⟩,
 ⟨(some 12), (.move (.t 0)), none, none⟩,
 ⟨(some 13), (.len (.t 12)), none, none⟩,
 ⟨(some 14), (.bin .lss (.t 11) (.t 13)), none, none⟩])
 (.cond (.t 14)
 .skip
 (.exit 0)))
 (.seq
 (.block 1
 (.seq
 (.region [] [] [0, 1, 10, 5, 14, 26, 4] [
 ⟨(some 17), (.move (.t 0)), none, none⟩,
 ⟨(some 18), (.move (.t 5)), none, none⟩,
 ⟨(some 19), (.iaddr 16 (.t 17) (.t 18)), none, none⟩,
 ⟨(some 20), (.load (some 16) (.t 19)), none, none⟩,
 ⟨(some 21), (.move (.t 1)), none, none⟩,
 ⟨(some 22), (.move (.t 5)), none, none⟩,
 ⟨(some 23), (.iaddr 16 (.t 21) (.t 22)), none, none⟩,
 ⟨(some 24), (.load (some 16) (.t 23)), none, none⟩,
 ⟨(some 25), (.callp (.k (rF 187)) [(.t 20), (.t 24)]), none, none⟩,
 ⟨(some 26), (.un .not (.t 25)), none, none⟩])
 (.cond (.t 26)
 (.seq
 (.region [] [] [0, 1, 10, 5, 14, 26, 4] [
 ⟨(some 4), (.move (.k (rB false))), none, none⟩])
 .ret)
 .skip)))
 (.region [] [] [0, 1, 10, 5, 14, 26, 4] [
 ⟨(some 15), (.move (.t 5)), none, none⟩,
 ⟨(some 16), (.bin .add (.t 15) (.k (rI .i64 1))), none, none⟩,
 ⟨(some 5), (.move (.t 16)), none, none⟩])))

/-- pedigree/pedigreelaw01.SameLiterals -/
def ic140 : IC :=
 (.seq
 (.region [] [] [0, 1, 10, 5, 14, 26, 4] [
 ⟨(some 4), (.move (.k (rB false))), none, none⟩])
 (.seq
 (.seq
 (.region [] [] [0, 1, 10, 5, 14, 26, 4] [
 ⟨(some 6), (.move (.t 0)), none, none⟩,
 ⟨(some 7), (.len (.t 6)), none, none⟩,
 ⟨(some 8), (.move (.t 1)), none, none⟩,
 ⟨(some 9), (.len (.t 8)), none, none⟩,
 ⟨(some 10), (.bin .neq (.t 7) (.t 9)), none, none⟩])
 (.cond (.t 10)
 (.seq
 (.region [] [] [0, 1, 10, 5, 14, 26, 4] [
 ⟨(some 4), (.move (.k (rB false))), none, none⟩])
 .ret)
 .skip))
 (.seq
 (.seq
 (.region [] [] [0, 1, 10, 5, 14, 26, 4] [
 ⟨(some 5), (.move (.k (rI .i64 0))), none, none⟩])
 (.block 0
 (.loop ic140l0)))
 (.seq
 (.region [] [] [0, 1, 10, 5, 14, 26, 4] [
 ⟨(some 4), (.move (.k (rB true))), none, none⟩])
 .ret))))
def ir140 : List IRes := [.tmp 4]
theorem ie140 : cmpFunc Go.Proofs.Tryd.prog ⟨[], []⟩ Go.Proofs.Tryd.f140 [0, 1, 10, 5, 14, 26, 4] = some ic140 := by kernel_rfl
theorem ig140 : cmpRes Go.Proofs.Tryd.prog Go.Proofs.Tryd.f140.results.toList = some ir140 := by kernel_rfl


/-- pedigree/pedigreelaw01.SameLiteral -/
def ic187 : IC :=
 (.seq
 (.region [2, 3] [] [0, 1, 2, 3, 4] [
 ⟨(some 2), (.box 88 (.t 0)), none, none⟩,
 ⟨(some 3), (.box 88 (.t 1)), none, none⟩,
 ⟨(some 4), (.move (.k (rB false))), none, none⟩])
 (.seq
 (.region [] [] [0, 1, 2, 3, 4] [
 ⟨(some 5), (.faddr 0 (.t 2)), none, none⟩,
 ⟨(some 6), (.load none (.t 5)), none, none⟩,
 ⟨(some 7), (.faddr 0 (.t 3)), none, none⟩,
 ⟨(some 8), (.load none (.t 7)), none, none⟩,
 ⟨(some 9), (.bin .eql (.t 6) (.t 8)), none, none⟩,
 ⟨(some 10), (.move (.t 9)), none, none⟩,
 ⟨(some 11), (.faddr 3 (.t 2)), some (10, true), none⟩,
 ⟨(some 12), (.load none (.t 11)), some (10, true), none⟩,
 ⟨(some 13), (.faddr 3 (.t 3)), some (10, true), none⟩,
 ⟨(some 14), (.load none (.t 13)), some (10, true), none⟩,
 ⟨(some 15), (.bin .eql (.t 12) (.t 14)), some (10, true), none⟩,
 ⟨(some 16), (.pick (.t 10) (.t 15) (.k (rB false))), none, none⟩,
 ⟨(some 17), (.move (.t 16)), none, none⟩,
 ⟨(some 18), (.faddr 1 (.t 2)), some (17, true), none⟩,
 ⟨(some 19), (.load (some 2) (.t 18)), some (17, true), none⟩,
 ⟨(some 20), (.faddr 1 (.t 3)), some (17, true), none⟩,
 ⟨(some 21), (.load (some 2) (.t 20)), some (17, true), none⟩,
 ⟨(some 22), (.callp (.k (rF 55)) [(.t 19), (.t 21)]), some (17, true), none⟩,
 ⟨(some 23), (.pick (.t 17) (.t 22) (.k (rB false))), none, none⟩,
 ⟨(some 24), (.move (.t 23)), none, none⟩,
 ⟨(some 25), (.faddr 4 (.t 2)), some (24, true), none⟩,
 ⟨(some 26), (.load (some 6) (.t 25)), some (24, true), none⟩,
 ⟨(some 27), (.faddr 4 (.t 3)), some (24, true), none⟩,
 ⟨(some 28), (.load (some 6) (.t 27)), some (24, true), none⟩,
 ⟨(some 29), (.callp (.k (rF 209)) [(.t 26), (.t 28)]), some (24, true), none⟩,
 ⟨(some 30), (.pick (.t 24) (.t 29) (.k (rB false))), none, none⟩,
 ⟨(some 31), (.move (.t 30)), none, none⟩,
 ⟨(some 32), (.faddr 10 (.t 2)), some (31, true), none⟩,
 ⟨(some 33), (.load (some 6) (.t 32)), some (31, true), none⟩,
 ⟨(some 34), (.faddr 10 (.t 3)), some (31, true), none⟩,
 ⟨(some 35), (.load (some 6) (.t 34)), some (31, true), none⟩,
 ⟨(some 36), (.callp (.k (rF 209)) [(.t 33), (.t 35)]), some (31, true), none⟩,
 ⟨(some 37), (.pick (.t 31) (.t 36) (.k (rB false))), none, none⟩,
 ⟨(some 4), (.move (.t 37)), none, none⟩])
 .ret))
def ir187 : List IRes := [.tmp 4]
theorem ie187 : cmpFunc Go.Proofs.Tryd.prog ⟨[], []⟩ Go.Proofs.Tryd.f187 [0, 1, 2, 3, 4] = some ic187 := by kernel_rfl
theorem ig187 : cmpRes Go.Proofs.Tryd.prog Go.Proofs.Tryd.f187.results.toList = some ir187 := by kernel_rfl


/-- pedigree/pedigreelaw01.SameExpr -/
def ic209 : IC :=
 (.seq
 (.region [2, 3] [] [0, 1, 2, 3, 4] [
 ⟨(some 2), (.box 47 (.t 0)), none, none⟩,
 ⟨(some 3), (.box 47 (.t 1)), none, none⟩,
 ⟨(some 4), (.move (.k (rB false))), none, none⟩])
 (.seq
 (.region [] [] [0, 1, 2, 3, 4] [
 ⟨(some 5), (.faddr 0 (.t 2)), none, none⟩,
 ⟨(some 6), (.load none (.t 5)), none, none⟩,
 ⟨(some 7), (.faddr 0 (.t 3)), none, none⟩,
 ⟨(some 8), (.load none (.t 7)), none, none⟩,
 ⟨(some 9), (.bin .eql (.t 6) (.t 8)), none, none⟩,
 ⟨(some 10), (.move (.t 9)), none, none⟩,
 ⟨(some 11), (.faddr 1 (.t 2)), some (10, true), none⟩,
 ⟨(some 12), (.load (some 4) (.t 11)), some (10, true), none⟩,
 ⟨(some 13), (.faddr 1 (.t 3)), some (10, true), none⟩,
 ⟨(some 14), (.load (some 4) (.t 13)), some (10, true), none⟩,
 ⟨(some 15), (.eqs false [.s, .i .i8, .i .i64, .s] (.t 12) (.t 14)), some (10, true), none⟩,
 ⟨(some 16), (.pick (.t 10) (.t 15) (.k (rB false))), none, none⟩,
 ⟨(some 17), (.move (.t 16)), none, none⟩,
 ⟨(some 18), (.faddr 5 (.t 2)), some (17, true), none⟩,
 ⟨(some 19), (.load none (.t 18)), some (17, true), none⟩,
 ⟨(some 20), (.faddr 5 (.t 3)), some (17, true), none⟩,
 ⟨(some 21), (.load none (.t 20)), some (17, true), none⟩,
 ⟨(some 22), (.callp (.k (rF 225)) [(.t 19), (.t 21)]), some (17, true), none⟩,
 ⟨(some 23), (.pick (.t 17) (.t 22) (.k (rB false))), none, none⟩,
 ⟨(some 4), (.move (.t 23)), none, none⟩])
 .ret))
def ir209 : List IRes := [.tmp 4]
theorem ie209 : cmpFunc Go.Proofs.Tryd.prog ⟨[], []⟩ Go.Proofs.Tryd.f209 [0, 1, 2, 3, 4] = some ic209 := by kernel_rfl
theorem ig209 : cmpRes Go.Proofs.Tryd.prog Go.Proofs.Tryd.f209.results.toList = some ir209 := by kernel_rfl

def ic225l0 : IC :=
 (.seq
 (.seq
 (.region [] [] [0, 1, 10, 5, 14, 26, 4] [
 ⟨(some 11), (.move (.t 5)), none, none⟩,
 ⟨(some 12), (.move (.t 0)), none, none⟩,
 ⟨(some 13), (.len (.t 12)), none, none⟩,
 ⟨(some 14), (.bin .lss (.t 11) (.t 13)), none, none⟩])
 (.cond (.t 14)
 .skip
 (.exit 0)))
 (.seq
 (.block 1
 (.seq
 (.region [] [] [0, 1, 10, 5, 14, 26, 4] [
 ⟨(some 17), (.move (.t 0)), none, none⟩,
 ⟨(some 18), (.move (.t 5)), none, none⟩,
 ⟨(some 19), (.iaddr 6 (.t 17) (.t 18)), none, none⟩,
 ⟨(some 20), (.load (some 6) (.t 19)), none, none⟩,
 ⟨(some 21), (.move (.t 1)), none, none⟩,
 ⟨(some 22), (.move (.t 5)), none, none⟩,
 ⟨(some 23), (.iaddr 6 (.t 21) (.t 22)), none, none⟩,
 ⟨(some 24), (.load (some 6) (.t 23)), none, none⟩,
 ⟨(some 25), (.callp (.k (rF 209)) [(.t 20), (.t 24)]), none, none⟩,
 ⟨(some 26), (.un .not (.t 25)), none, none⟩])
 (.cond (.t 26)
 (.seq
 (.region [] [] [0, 1, 10, 5, 14, 26, 4] [
 ⟨(some 4), (.move (.k (rB false))), none, none⟩])
 .ret)
 .skip)))
 (.region [] [] [0, 1, 10, 5, 14, 26, 4] [
 ⟨(some 15), (.move (.t 5)), none, none⟩,
 ⟨(some 16), (.bin .add (.t 15) (.k (rI .i64 1))), none, none⟩,
 ⟨(some 5), (.move (.t 16)), none, none⟩])))

/-- pedigree/pedigreelaw01.SameExprs -/
def ic225 : IC :=
 (.seq
 (.region [] [] [0, 1, 10, 5, 14, 26, 4] [
 ⟨(some 4), (.move (.k (rB false))), none, none⟩])
 (.seq
 (.seq
 (.region [] [] [0, 1, 10, 5, 14, 26, 4] [
 ⟨(some 6), (.move (.t 0)), none, none⟩,
 ⟨(some 7), (.len (.t 6)), none, none⟩,
 ⟨(some 8), (.move (.t 1)), none, none⟩,
 ⟨(some 9), (.len (.t 8)), none, none⟩,
 ⟨(some 10), (.bin .neq (.t 7) (.t 9)), none, none⟩])
 (.cond (.t 10)
 (.seq
 (.region [] [] [0, 1, 10, 5, 14, 26, 4] [
 ⟨(some 4), (.move (.k (rB false))), none, none⟩])
 .ret)
 .skip))
 (.seq
 (.seq
 (.region [] [] [0, 1, 10, 5, 14, 26, 4] [
 ⟨(some 5), (.move (.k (rI .i64 0))), none, none⟩])
 (.block 0
 (.loop ic225l0)))
 (.seq
 (.region [] [] [0, 1, 10, 5, 14, 26, 4] [
 ⟨(some 4), (.move (.k (rB true))), none, none⟩])
 .ret))))
def ir225 : List IRes := [.tmp 4]
theorem ie225 : cmpFunc Go.Proofs.Tryd.prog ⟨[], []⟩ Go.Proofs.Tryd.f225 [0, 1, 10, 5, 14, 26, 4] = some ic225 := by kernel_rfl
theorem ig225 : cmpRes Go.Proofs.Tryd.prog Go.Proofs.Tryd.f225.results.toList = some ir225 := by kernel_rfl

end Go.Proofs.YtiomojlcnemnhaaDoor

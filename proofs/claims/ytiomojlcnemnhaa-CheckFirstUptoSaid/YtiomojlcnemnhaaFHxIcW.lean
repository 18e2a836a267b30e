/- Functions of the seat, as the small language has them. -/
import Derived.Test.YtiomojlcnemnhaaFFxWb
import Derived.Test.YtiomojlcnemnhaaProg
import Derived.KernelRfl
namespace Go.Proofs.Ytiomojlcnemnhaa
open Go.Fx
def ic3009l0 : IC :=
 (.seq
 (.seq
 (.region [] [] [2, 0, 1, 18, 20, 5, 8, 29, 33, 50, 63, 7, 95, 9, 10, 11, 129, 146, 159, 12, 14, 219, 222, 15, 13, 226, 236, 6] [
 ⟨(some 223), (.move (.t 15)), none, none⟩,
 ⟨(some 224), (.move (.t 13)), none, none⟩,
 ⟨(some 225), (.len (.t 224)), none, none⟩,
 ⟨(some 226), (.bin .lss (.t 223) (.t 225)), none, none⟩])
 (.cond (.t 226)
 .skip
 (.exit 1)))
 (.seq
 (.block 2
 (.seq
 (.region [] [] [2, 0, 1, 18, 20, 5, 8, 29, 33, 50, 63, 7, 95, 9, 10, 11, 129, 146, 159, 12, 14, 219, 222, 15, 13, 226, 236, 6] [
 ⟨(some 229), (.move (.t 13)), none, none⟩,
 ⟨(some 230), (.move (.t 15)), none, none⟩,
 ⟨(some 231), (.iaddr 2 (.t 229) (.t 230)), none, none⟩,
 ⟨(some 232), (.faddr 0 (.t 231)), none, none⟩,
 ⟨(some 233), (.load none (.t 232)), none, none⟩,
 ⟨(some 234), (.faddr 0 (.t 5)), none, none⟩,
 ⟨(some 235), (.load none (.t 234)), none, none⟩,
 ⟨(some 236), (.bin .eql (.t 233) (.t 235)), none, none⟩])
 (.cond (.t 236)
 (.seq
 (.region [] [] [2, 0, 1, 18, 20, 5, 8, 29, 33, 50, 63, 7, 95, 9, 10, 11, 129, 146, 159, 12, 14, 219, 222, 15, 13, 226, 236, 6] [
 ⟨(some 237), (.move (.t 13)), none, none⟩,
 ⟨(some 238), (.move (.t 15)), none, none⟩,
 ⟨(some 239), (.iaddr 2 (.t 237) (.t 238)), none, none⟩,
 ⟨(some 240), (.faddr 1 (.t 239)), none, none⟩,
 ⟨(some 241), (.load none (.t 240)), none, none⟩,
 ⟨(some 242), (.faddr 1 (.t 5)), none, none⟩,
 ⟨(some 243), (.load none (.t 242)), none, none⟩,
 ⟨(some 244), (.len (.t 243)), none, none⟩,
 ⟨(some 245), (.bin .neq (.t 241) (.t 244)), none, none⟩,
 ⟨(some 6), (.move (.t 245)), none, none⟩])
 .ret)
 .skip)))
 (.region [] [] [2, 0, 1, 18, 20, 5, 8, 29, 33, 50, 63, 7, 95, 9, 10, 11, 129, 146, 159, 12, 14, 219, 222, 15, 13, 226, 236, 6] [
 ⟨(some 227), (.move (.t 15)), none, none⟩,
 ⟨(some 228), (.bin .add (.t 227) (.k (rI .i64 1))), none, none⟩,
 ⟨(some 15), (.move (.t 228)), none, none⟩])))

/-- pedigree/pedigreelaw07.CheckFirst -/
def ic3009 : IC :=
 (.seq
 (.region [5] [] [2, 0, 1, 18, 20, 5, 8, 29, 33, 50, 63, 7, 95, 9, 10, 11, 129, 146, 159, 12, 14, 219, 222, 15, 13, 226, 236, 6] [
 ⟨(some 5), (.box 122 (.t 2)), none, none⟩,
 ⟨(some 6), (.move (.k (rB false))), none, none⟩])
 (.seq
 (.seq
 (.region [] [] [2, 0, 1, 18, 20, 5, 8, 29, 33, 50, 63, 7, 95, 9, 10, 11, 129, 146, 159, 12, 14, 219, 222, 15, 13, 226, 236, 6] [
 ⟨(some 16), (.move (.t 0)), none, none⟩,
 ⟨(some 17), (.move (.t 1)), none, none⟩,
 ⟨(some 18), (.callp (.k (rF 33)) [(.t 16), (.t 17)]), none, none⟩])
 (.cond (.t 18)
 (.seq
 (.region [] [] [2, 0, 1, 18, 20, 5, 8, 29, 33, 50, 63, 7, 95, 9, 10, 11, 129, 146, 159, 12, 14, 219, 222, 15, 13, 226, 236, 6] [
 ⟨(some 6), (.move (.k (rB true))), none, none⟩])
 .ret)
 .skip))
 (.seq
 (.seq
 (.region [] [] [2, 0, 1, 18, 20, 5, 8, 29, 33, 50, 63, 7, 95, 9, 10, 11, 129, 146, 159, 12, 14, 219, 222, 15, 13, 226, 236, 6] [
 ⟨(some 19), (.callp (.k (rF 30)) []), none, none⟩,
 ⟨(some 20), (.un .not (.t 19)), none, none⟩])
 (.cond (.t 20)
 (.seq
 (.region [] [] [2, 0, 1, 18, 20, 5, 8, 29, 33, 50, 63, 7, 95, 9, 10, 11, 129, 146, 159, 12, 14, 219, 222, 15, 13, 226, 236, 6] [
 ⟨(some 6), (.move (.k (rB false))), none, none⟩])
 .ret)
 .skip))
 (.seq
 (.region [7] [] [2, 0, 1, 18, 20, 5, 8, 29, 33, 50, 63, 7, 95, 9, 10, 11, 129, 146, 159, 12, 14, 219, 222, 15, 13, 226, 236, 6] [
 ⟨(some 21), (.move (.t 0)), none, none⟩,
 ⟨(some 22), (.move (.t 1)), none, none⟩,
 ⟨(some 23), (.callp (.k (rF 38)) [(.t 21), (.t 22)]), none, none⟩,
 ⟨(some 7), (.zero 122 [(.c (.v (.string (bs [])))), .nil]), none, none⟩,
 ⟨none, (.store (some 2) (.t 7) (.t 23)), none, none⟩])
 (.seq
 (.region [8] [] [2, 0, 1, 18, 20, 5, 8, 29, 33, 50, 63, 7, 95, 9, 10, 11, 129, 146, 159, 12, 14, 219, 222, 15, 13, 226, 236, 6] [
 ⟨(some 24), (.move (.t 0)), none, none⟩,
 ⟨(some 25), (.build [.nil] [(0, 1, (.t 24))]), none, none⟩,
 ⟨(some 26), (.move (.t 1)), none, none⟩,
 ⟨(some 27), (.load (some 2) (.t 5)), none, none⟩,
 ⟨(some 28), (.callp (.k (rF 36)) [(.t 25), (.t 26), (.t 27)]), none, none⟩,
 ⟨(some 8), (.zero 142 [(.c (.v (.int .i8 0))), (.c (.v (.int .i64 0))), (.c (.v (.int .i64 0)))]), none, none⟩,
 ⟨none, (.store (some 3) (.t 8) (.t 28)), none, none⟩])
 (.seq
 (.block 0
 (.seq
 (.region [] [] [2, 0, 1, 18, 20, 5, 8, 29, 33, 50, 63, 7, 95, 9, 10, 11, 129, 146, 159, 12, 14, 219, 222, 15, 13, 226, 236, 6] [
 ⟨(some 30), (.load (some 3) (.t 8)), none, none⟩,
 ⟨(some 31), (.build [(.c (.v (.int .i8 0))), (.c (.v (.int .i64 0))), (.c (.v (.int .i64 0)))] []), none, none⟩,
 ⟨(some 32), (.eqs false [.i .i8, .i .i64, .i .i64] (.t 30) (.t 31)), none, none⟩,
 ⟨(some 29), (.move (.t 32)), none, none⟩])
 (.cond (.t 29)
 (.seq
 (.region [] [] [2, 0, 1, 18, 20, 5, 8, 29, 33, 50, 63, 7, 95, 9, 10, 11, 129, 146, 159, 12, 14, 219, 222, 15, 13, 226, 236, 6] [
 ⟨(some 6), (.move (.k (rB true))), none, none⟩])
 .ret)
 (.seq
 (.region [] [] [2, 0, 1, 18, 20, 5, 8, 29, 33, 50, 63, 7, 95, 9, 10, 11, 129, 146, 159, 12, 14, 219, 222, 15, 13, 226, 236, 6] [
 ⟨(some 34), (.faddr 0 (.t 8)), none, none⟩,
 ⟨(some 35), (.load none (.t 34)), none, none⟩,
 ⟨(some 36), (.bin .eql (.t 35) (.k (rI .i8 1))), none, none⟩,
 ⟨(some 37), (.move (.t 36)), none, none⟩,
 ⟨(some 38), (.move (.t 0)), some (37, true), none⟩,
 ⟨(some 39), (.len (.t 38)), some (37, true), none⟩,
 ⟨(some 40), (.bin .gtr (.t 39) (.k (rI .i64 500))), some (37, true), none⟩,
 ⟨(some 41), (.pick (.t 37) (.t 40) (.k (rB false))), none, none⟩,
 ⟨(some 33), (.move (.t 41)), none, none⟩])
 (.cond (.t 33)
 (.seq
 (.region [] [] [2, 0, 1, 18, 20, 5, 8, 29, 33, 50, 63, 7, 95, 9, 10, 11, 129, 146, 159, 12, 14, 219, 222, 15, 13, 226, 236, 6] [
 ⟨(some 42), (.faddr 2 (.t 8)), none, none⟩,
 ⟨(some 43), (.load none (.t 42)), none, none⟩,
 ⟨(some 44), (.bin .eql (.t 43) (.k (rI .i64 0))), none, none⟩,
 ⟨(some 45), (.move (.t 44)), none, none⟩,
 ⟨(some 46), (.faddr 1 (.t 8)), some (45, true), none⟩,
 ⟨(some 47), (.load none (.t 46)), some (45, true), none⟩,
 ⟨(some 48), (.bin .eql (.t 47) (.k (rI .i64 70))), some (45, true), none⟩,
 ⟨(some 49), (.pick (.t 45) (.t 48) (.k (rB false))), none, none⟩,
 ⟨(some 6), (.move (.t 49)), none, none⟩])
 .ret)
 (.seq
 (.region [] [] [2, 0, 1, 18, 20, 5, 8, 29, 33, 50, 63, 7, 95, 9, 10, 11, 129, 146, 159, 12, 14, 219, 222, 15, 13, 226, 236, 6] [
 ⟨(some 51), (.faddr 0 (.t 8)), none, none⟩,
 ⟨(some 52), (.load none (.t 51)), none, none⟩,
 ⟨(some 53), (.bin .eql (.t 52) (.k (rI .i8 1))), none, none⟩,
 ⟨(some 50), (.move (.t 53)), none, none⟩])
 (.cond (.t 50)
 (.seq
 (.seq
 (.region [] [] [2, 0, 1, 18, 20, 5, 8, 29, 33, 50, 63, 7, 95, 9, 10, 11, 129, 146, 159, 12, 14, 219, 222, 15, 13, 226, 236, 6] [
 ⟨(some 54), (.faddr 2 (.t 8)), none, none⟩,
 ⟨(some 55), (.load none (.t 54)), none, none⟩,
 ⟨(some 56), (.bin .lss (.t 55) (.k (rI .i64 0))), none, none⟩,
 ⟨(some 57), (.move (.t 56)), none, none⟩,
 ⟨(some 58), (.faddr 2 (.t 8)), some (57, false), none⟩,
 ⟨(some 59), (.load none (.t 58)), some (57, false), none⟩,
 ⟨(some 60), (.move (.t 0)), some (57, false), none⟩,
 ⟨(some 61), (.len (.t 60)), some (57, false), none⟩,
 ⟨(some 62), (.bin .geq (.t 59) (.t 61)), some (57, false), none⟩,
 ⟨(some 63), (.pick (.t 57) (.k (rB true)) (.t 62)), none, none⟩])
 (.cond (.t 63)
 (.seq
 (.region [] [] [2, 0, 1, 18, 20, 5, 8, 29, 33, 50, 63, 7, 95, 9, 10, 11, 129, 146, 159, 12, 14, 219, 222, 15, 13, 226, 236, 6] [
 ⟨(some 6), (.move (.k (rB false))), none, none⟩])
 .ret)
 .skip))
 (.seq
 (.region [9] [.fz [8]] [2, 0, 1, 18, 20, 5, 8, 29, 33, 50, 63, 7, 95, 9, 10, 11, 129, 146, 159, 12, 14, 219, 222, 15, 13, 226, 236, 6] [
 ⟨(some 64), (.move (.t 0)), none, none⟩,
 ⟨(some 65), (.faddr 2 (.t 8)), none, none⟩,
 ⟨(some 66), (.load none (.t 65)), none, (some [])⟩,
 ⟨(some 67), (.vsl 3 (.t 64) none (some (.t 66))), none, none⟩,
 ⟨(some 68), (.build [.nil] [(0, 1, (.t 67))]), none, none⟩,
 ⟨(some 69), (.move (.t 0)), none, none⟩,
 ⟨(some 70), (.faddr 2 (.t 8)), none, none⟩,
 ⟨(some 71), (.load none (.t 70)), none, (some [])⟩,
 ⟨(some 72), (.vsl 3 (.t 69) none (some (.t 71))), none, none⟩,
 ⟨(some 73), (.callp (.k (rF 38)) [(.t 72), (.k (.x (.one .nil)))]), none, none⟩,
 ⟨(some 74), (.callp (.k (rF 36)) [(.t 68), (.k (.x (.one .nil))), (.t 73)]), none, none⟩,
 ⟨(some 9), (.zero 142 [(.c (.v (.int .i8 0))), (.c (.v (.int .i64 0))), (.c (.v (.int .i64 0)))]), none, none⟩,
 ⟨none, (.store (some 3) (.t 9) (.t 74)), none, none⟩])
 (.seq
 (.region [10] [.fz [7]] [2, 0, 1, 18, 20, 5, 8, 29, 33, 50, 63, 7, 95, 9, 10, 11, 129, 146, 159, 12, 14, 219, 222, 15, 13, 226, 236, 6] [
 ⟨(some 75), (.move (.t 0)), none, none⟩,
 ⟨(some 76), (.faddr 2 (.t 8)), none, none⟩,
 ⟨(some 77), (.load none (.t 76)), none, (some [])⟩,
 ⟨(some 78), (.bin .add (.t 77) (.k (rI .i64 1))), none, none⟩,
 ⟨(some 79), (.vsl 3 (.t 75) none (some (.t 78))), none, none⟩,
 ⟨(some 80), (.build [.nil] [(0, 1, (.t 79))]), none, none⟩,
 ⟨(some 81), (.load (some 2) (.t 7)), none, (some [])⟩,
 ⟨(some 82), (.callp (.k (rF 36)) [(.t 80), (.k (.x (.one .nil))), (.t 81)]), none, none⟩,
 ⟨(some 10), (.zero 142 [(.c (.v (.int .i8 0))), (.c (.v (.int .i64 0))), (.c (.v (.int .i64 0)))]), none, none⟩,
 ⟨none, (.store (some 3) (.t 10) (.t 82)), none, none⟩])
 (.seq
 (.region [11] [] [2, 0, 1, 18, 20, 5, 8, 29, 33, 50, 63, 7, 95, 9, 10, 11, 129, 146, 159, 12, 14, 219, 222, 15, 13, 226, 236, 6] [
 ⟨(some 83), (.move (.t 0)), none, none⟩,
 ⟨(some 84), (.faddr 2 (.t 8)), none, none⟩,
 ⟨(some 85), (.load none (.t 84)), none, (some [])⟩,
 ⟨(some 86), (.faddr 2 (.t 8)), none, none⟩,
 ⟨(some 87), (.load none (.t 86)), none, (some [])⟩,
 ⟨(some 88), (.bin .add (.t 87) (.k (rI .i64 1))), none, none⟩,
 ⟨(some 89), (.vsl 3 (.t 83) (some (.t 85)) (some (.t 88))), none, none⟩,
 ⟨(some 90), (.build [.nil] [(0, 1, (.t 89))]), none, none⟩,
 ⟨(some 91), (.load (some 2) (.t 7)), none, (some [])⟩,
 ⟨(some 92), (.callp (.k (rF 36)) [(.t 90), (.k (.x (.one .nil))), (.t 91)]), none, none⟩,
 ⟨(some 11), (.zero 142 [(.c (.v (.int .i8 0))), (.c (.v (.int .i64 0))), (.c (.v (.int .i64 0)))]), none, none⟩,
 ⟨none, (.store (some 3) (.t 11) (.t 92)), none, none⟩])
 (.seq
 (.seq
 (.region [] [] [2, 0, 1, 18, 20, 5, 8, 29, 33, 50, 63, 7, 95, 9, 10, 11, 129, 146, 159, 12, 14, 219, 222, 15, 13, 226, 236, 6] [
 ⟨(some 93), (.faddr 1 (.t 8)), none, none⟩,
 ⟨(some 94), (.load none (.t 93)), none, none⟩,
 ⟨(some 95), (.bin .eql (.t 94) (.k (rI .i64 72))), none, none⟩])
 (.cond (.t 95)
 (.seq
 (.region [] [] [2, 0, 1, 18, 20, 5, 8, 29, 33, 50, 63, 7, 95, 9, 10, 11, 129, 146, 159, 12, 14, 219, 222, 15, 13, 226, 236, 6] [
 ⟨(some 96), (.load (some 3) (.t 9)), none, none⟩,
 ⟨(some 97), (.build [(.c (.v (.int .i8 0))), (.c (.v (.int .i64 0))), (.c (.v (.int .i64 0)))] []), none, none⟩,
 ⟨(some 98), (.eqs false [.i .i8, .i .i64, .i .i64] (.t 96) (.t 97)), none, none⟩,
 ⟨(some 99), (.move (.t 98)), none, none⟩,
 ⟨(some 100), (.load (some 3) (.t 10)), some (99, true), none⟩,
 ⟨(some 101), (.load (some 3) (.t 8)), some (99, true), none⟩,
 ⟨(some 102), (.eqs false [.i .i8, .i .i64, .i .i64] (.t 100) (.t 101)), some (99, true), none⟩,
 ⟨(some 103), (.pick (.t 99) (.t 102) (.k (rB false))), none, none⟩,
 ⟨(some 6), (.move (.t 103)), none, none⟩])
 .ret)
 .skip))
 (.seq
 (.region [] [] [2, 0, 1, 18, 20, 5, 8, 29, 33, 50, 63, 7, 95, 9, 10, 11, 129, 146, 159, 12, 14, 219, 222, 15, 13, 226, 236, 6] [
 ⟨(some 104), (.load (some 3) (.t 9)), none, none⟩,
 ⟨(some 105), (.build [(.c (.v (.int .i8 0))), (.c (.v (.int .i64 0))), (.c (.v (.int .i64 0)))] []), none, none⟩,
 ⟨(some 106), (.eqs false [.i .i8, .i .i64, .i .i64] (.t 104) (.t 105)), none, none⟩,
 ⟨(some 107), (.move (.t 106)), none, none⟩,
 ⟨(some 108), (.faddr 0 (.t 9)), some (107, false), none⟩,
 ⟨(some 109), (.load none (.t 108)), some (107, false), none⟩,
 ⟨(some 110), (.bin .eql (.t 109) (.k (rI .i8 1))), some (107, false), none⟩,
 ⟨(some 111), (.move (.t 110)), some (107, false), none⟩,
 ⟨(some 112), (.faddr 1 (.t 9)), some (111, true), none⟩,
 ⟨(some 113), (.load none (.t 112)), some (111, true), none⟩,
 ⟨(some 114), (.bin .eql (.t 113) (.k (rI .i64 72))), some (111, true), none⟩,
 ⟨(some 115), (.pick (.t 111) (.t 114) (.k (rB false))), some (107, false), none⟩,
 ⟨(some 116), (.pick (.t 107) (.k (rB true)) (.t 115)), none, none⟩,
 ⟨(some 117), (.move (.t 116)), none, none⟩,
 ⟨(some 118), (.load (some 3) (.t 10)), some (117, true), none⟩,
 ⟨(some 119), (.load (some 3) (.t 8)), some (117, true), none⟩,
 ⟨(some 120), (.eqs false [.i .i8, .i .i64, .i .i64] (.t 118) (.t 119)), some (117, true), none⟩,
 ⟨(some 121), (.pick (.t 117) (.t 120) (.k (rB false))), none, none⟩,
 ⟨(some 122), (.move (.t 121)), none, none⟩,
 ⟨(some 123), (.load (some 3) (.t 11)), some (122, true), none⟩,
 ⟨(some 124), (.faddr 1 (.t 8)), some (122, true), none⟩,
 ⟨(some 125), (.load none (.t 124)), some (122, true), none⟩,
 ⟨(some 126), (.build [(.c (.v (.int .i8 0))), (.c (.v (.int .i64 0))), (.c (.v (.int .i64 0)))] [(0, 1, (.k (rI .i8 1))), (1, 1, (.t 125))]), some (122, true), none⟩,
 ⟨(some 127), (.eqs false [.i .i8, .i .i64, .i .i64] (.t 123) (.t 126)), some (122, true), none⟩,
 ⟨(some 128), (.pick (.t 122) (.t 127) (.k (rB false))), none, none⟩,
 ⟨(some 6), (.move (.t 128)), none, none⟩])
 .ret))))))
 (.seq
 (.region [] [] [2, 0, 1, 18, 20, 5, 8, 29, 33, 50, 63, 7, 95, 9, 10, 11, 129, 146, 159, 12, 14, 219, 222, 15, 13, 226, 236, 6] [
 ⟨(some 130), (.faddr 0 (.t 8)), none, none⟩,
 ⟨(some 131), (.load none (.t 130)), none, none⟩,
 ⟨(some 132), (.bin .eql (.t 131) (.k (rI .i8 2))), none, none⟩,
 ⟨(some 133), (.move (.t 132)), none, none⟩,
 ⟨(some 134), (.move (.t 1)), some (133, true), none⟩,
 ⟨(some 135), (.len (.t 134)), some (133, true), none⟩,
 ⟨(some 136), (.bin .gtr (.t 135) (.k (rI .i64 65536))), some (133, true), none⟩,
 ⟨(some 137), (.pick (.t 133) (.t 136) (.k (rB false))), none, none⟩,
 ⟨(some 129), (.move (.t 137)), none, none⟩])
 (.cond (.t 129)
 (.seq
 (.region [] [] [2, 0, 1, 18, 20, 5, 8, 29, 33, 50, 63, 7, 95, 9, 10, 11, 129, 146, 159, 12, 14, 219, 222, 15, 13, 226, 236, 6] [
 ⟨(some 138), (.faddr 2 (.t 8)), none, none⟩,
 ⟨(some 139), (.load none (.t 138)), none, none⟩,
 ⟨(some 140), (.bin .eql (.t 139) (.k (rI .i64 0))), none, none⟩,
 ⟨(some 141), (.move (.t 140)), none, none⟩,
 ⟨(some 142), (.faddr 1 (.t 8)), some (141, true), none⟩,
 ⟨(some 143), (.load none (.t 142)), some (141, true), none⟩,
 ⟨(some 144), (.bin .eql (.t 143) (.k (rI .i64 70))), some (141, true), none⟩,
 ⟨(some 145), (.pick (.t 141) (.t 144) (.k (rB false))), none, none⟩,
 ⟨(some 6), (.move (.t 145)), none, none⟩])
 .ret)
 (.seq
 (.region [] [] [2, 0, 1, 18, 20, 5, 8, 29, 33, 50, 63, 7, 95, 9, 10, 11, 129, 146, 159, 12, 14, 219, 222, 15, 13, 226, 236, 6] [
 ⟨(some 147), (.faddr 0 (.t 8)), none, none⟩,
 ⟨(some 148), (.load none (.t 147)), none, none⟩,
 ⟨(some 149), (.bin .eql (.t 148) (.k (rI .i8 2))), none, none⟩,
 ⟨(some 146), (.move (.t 149)), none, none⟩])
 (.cond (.t 146)
 (.seq
 (.seq
 (.region [] [] [2, 0, 1, 18, 20, 5, 8, 29, 33, 50, 63, 7, 95, 9, 10, 11, 129, 146, 159, 12, 14, 219, 222, 15, 13, 226, 236, 6] [
 ⟨(some 150), (.faddr 2 (.t 8)), none, none⟩,
 ⟨(some 151), (.load none (.t 150)), none, none⟩,
 ⟨(some 152), (.bin .lss (.t 151) (.k (rI .i64 0))), none, none⟩,
 ⟨(some 153), (.move (.t 152)), none, none⟩,
 ⟨(some 154), (.faddr 2 (.t 8)), some (153, false), none⟩,
 ⟨(some 155), (.load none (.t 154)), some (153, false), none⟩,
 ⟨(some 156), (.move (.t 1)), some (153, false), none⟩,
 ⟨(some 157), (.len (.t 156)), some (153, false), none⟩,
 ⟨(some 158), (.bin .geq (.t 155) (.t 157)), some (153, false), none⟩,
 ⟨(some 159), (.pick (.t 153) (.k (rB true)) (.t 158)), none, none⟩])
 (.cond (.t 159)
 (.seq
 (.region [] [] [2, 0, 1, 18, 20, 5, 8, 29, 33, 50, 63, 7, 95, 9, 10, 11, 129, 146, 159, 12, 14, 219, 222, 15, 13, 226, 236, 6] [
 ⟨(some 6), (.move (.k (rB false))), none, none⟩])
 .ret)
 .skip))
 (.seq
 (.region [12] [] [2, 0, 1, 18, 20, 5, 8, 29, 33, 50, 63, 7, 95, 9, 10, 11, 129, 146, 159, 12, 14, 219, 222, 15, 13, 226, 236, 6] [
 ⟨(some 160), (.move (.t 0)), none, none⟩,
 ⟨(some 161), (.build [.nil] [(0, 1, (.t 160))]), none, none⟩,
 ⟨(some 12), (.zero 145 [.nil]), none, none⟩,
 ⟨none, (.store (some 1) (.t 12) (.t 161)), none, none⟩])
 (.seq
 (.region [] [] [2, 0, 1, 18, 20, 5, 8, 29, 33, 50, 63, 7, 95, 9, 10, 11, 129, 146, 159, 12, 14, 219, 222, 15, 13, 226, 236, 6] [
 ⟨(some 162), (.load (some 1) (.t 12)), none, none⟩,
 ⟨(some 163), (.move (.t 0)), none, none⟩,
 ⟨(some 164), (.callp (.k (rF 38)) [(.t 163), (.k (.x (.one .nil)))]), none, none⟩,
 ⟨(some 165), (.callp (.k (rF 36)) [(.t 162), (.k (.x (.one .nil))), (.t 164)]), none, none⟩,
 ⟨(some 166), (.build [(.c (.v (.int .i8 0))), (.c (.v (.int .i64 0))), (.c (.v (.int .i64 0)))] []), none, none⟩,
 ⟨(some 167), (.eqs false [.i .i8, .i .i64, .i .i64] (.t 165) (.t 166)), none, none⟩,
 ⟨(some 168), (.move (.t 167)), none, none⟩,
 ⟨(some 169), (.load (some 1) (.t 12)), some (168, true), none⟩,
 ⟨(some 170), (.move (.t 1)), some (168, true), none⟩,
 ⟨(some 171), (.faddr 2 (.t 8)), some (168, true), none⟩,
 ⟨(some 172), (.load none (.t 171)), some (168, true), none⟩,
 ⟨(some 173), (.vsl 2 (.t 170) none (some (.t 172))), some (168, true), none⟩,
 ⟨(some 174), (.move (.t 0)), some (168, true), none⟩,
 ⟨(some 175), (.move (.t 1)), some (168, true), none⟩,
 ⟨(some 176), (.faddr 2 (.t 8)), some (168, true), none⟩,
 ⟨(some 177), (.load none (.t 176)), some (168, true), none⟩,
 ⟨(some 178), (.vsl 2 (.t 175) none (some (.t 177))), some (168, true), none⟩,
 ⟨(some 179), (.callp (.k (rF 38)) [(.t 174), (.t 178)]), some (168, true), none⟩,
 ⟨(some 180), (.callp (.k (rF 36)) [(.t 169), (.t 173), (.t 179)]), some (168, true), none⟩,
 ⟨(some 181), (.build [(.c (.v (.int .i8 0))), (.c (.v (.int .i64 0))), (.c (.v (.int .i64 0)))] []), some (168, true), none⟩,
 ⟨(some 182), (.eqs false [.i .i8, .i .i64, .i .i64] (.t 180) (.t 181)), some (168, true), none⟩,
 ⟨(some 183), (.pick (.t 168) (.t 182) (.k (rB false))), none, none⟩,
 ⟨(some 184), (.move (.t 183)), none, none⟩,
 ⟨(some 185), (.load (some 1) (.t 12)), some (184, true), none⟩,
 ⟨(some 186), (.move (.t 1)), some (184, true), none⟩,
 ⟨(some 187), (.faddr 2 (.t 8)), some (184, true), none⟩,
 ⟨(some 188), (.load none (.t 187)), some (184, true), none⟩,
 ⟨(some 189), (.bin .add (.t 188) (.k (rI .i64 1))), some (184, true), none⟩,
 ⟨(some 190), (.vsl 2 (.t 186) none (some (.t 189))), some (184, true), none⟩,
 ⟨(some 191), (.load (some 2) (.t 7)), some (184, true), none⟩,
 ⟨(some 192), (.callp (.k (rF 36)) [(.t 185), (.t 190), (.t 191)]), some (184, true), none⟩,
 ⟨(some 193), (.load (some 3) (.t 8)), some (184, true), none⟩,
 ⟨(some 194), (.eqs false [.i .i8, .i .i64, .i .i64] (.t 192) (.t 193)), some (184, true), none⟩,
 ⟨(some 195), (.pick (.t 184) (.t 194) (.k (rB false))), none, none⟩,
 ⟨(some 6), (.move (.t 195)), none, none⟩])
 .ret)))
 .skip)))))))))))
 (.seq
 (.region [] [] [2, 0, 1, 18, 20, 5, 8, 29, 33, 50, 63, 7, 95, 9, 10, 11, 129, 146, 159, 12, 14, 219, 222, 15, 13, 226, 236, 6] [
 ⟨(some 197), (.move (.t 0)), none, none⟩,
 ⟨(some 198), (.build [.nil] [(0, 1, (.t 197))]), none, none⟩,
 ⟨(some 199), (.move (.t 1)), none, none⟩,
 ⟨(some 200), (.callp (.k (rF 39)) [(.t 198), (.t 199)]), none, none⟩,
 ⟨(some 196), (.move (.t 200)), none, none⟩,
 ⟨(some 201), (.ext (.t 196) 0), none, none⟩,
 ⟨(some 202), (.ext (.t 196) 1), none, none⟩,
 ⟨(some 13), (.move (.t 201)), none, none⟩,
 ⟨(some 14), (.move (.t 202)), none, none⟩])
 (.seq
 (.seq
 (.region [] [] [2, 0, 1, 18, 20, 5, 8, 29, 33, 50, 63, 7, 95, 9, 10, 11, 129, 146, 159, 12, 14, 219, 222, 15, 13, 226, 236, 6] [
 ⟨(some 203), (.faddr 0 (.t 8)), none, none⟩,
 ⟨(some 204), (.load none (.t 203)), none, none⟩,
 ⟨(some 205), (.bin .neq (.t 204) (.k (rI .i8 3))), none, none⟩,
 ⟨(some 206), (.move (.t 205)), none, none⟩,
 ⟨(some 207), (.faddr 2 (.t 8)), some (206, false), none⟩,
 ⟨(some 208), (.load none (.t 207)), some (206, false), none⟩,
 ⟨(some 209), (.bin .neq (.t 208) (.k (rI .i64 0))), some (206, false), none⟩,
 ⟨(some 210), (.pick (.t 206) (.k (rB true)) (.t 209)), none, none⟩,
 ⟨(some 211), (.move (.t 210)), none, none⟩,
 ⟨(some 212), (.move (.t 14)), some (211, false), none⟩,
 ⟨(some 213), (.bin .neq (.t 212) (.k (rI .i64 0))), some (211, false), none⟩,
 ⟨(some 214), (.pick (.t 211) (.k (rB true)) (.t 213)), none, none⟩,
 ⟨(some 215), (.move (.t 214)), none, none⟩,
 ⟨(some 216), (.faddr 1 (.t 8)), some (215, false), none⟩,
 ⟨(some 217), (.load none (.t 216)), some (215, false), none⟩,
 ⟨(some 218), (.bin .eql (.t 217) (.k (rI .i64 0))), some (215, false), none⟩,
 ⟨(some 219), (.pick (.t 215) (.k (rB true)) (.t 218)), none, none⟩])
 (.cond (.t 219)
 (.seq
 (.region [] [] [2, 0, 1, 18, 20, 5, 8, 29, 33, 50, 63, 7, 95, 9, 10, 11, 129, 146, 159, 12, 14, 219, 222, 15, 13, 226, 236, 6] [
 ⟨(some 6), (.move (.k (rB false))), none, none⟩])
 .ret)
 .skip))
 (.seq
 (.seq
 (.region [] [] [2, 0, 1, 18, 20, 5, 8, 29, 33, 50, 63, 7, 95, 9, 10, 11, 129, 146, 159, 12, 14, 219, 222, 15, 13, 226, 236, 6] [
 ⟨(some 220), (.faddr 1 (.t 8)), none, none⟩,
 ⟨(some 221), (.load none (.t 220)), none, none⟩,
 ⟨(some 222), (.bin .eql (.t 221) (.k (rI .i64 72))), none, none⟩])
 (.cond (.t 222)
 (.seq
 (.seq
 (.region [] [] [2, 0, 1, 18, 20, 5, 8, 29, 33, 50, 63, 7, 95, 9, 10, 11, 129, 146, 159, 12, 14, 219, 222, 15, 13, 226, 236, 6] [
 ⟨(some 15), (.move (.k (rI .i64 0))), none, none⟩])
 (.block 1
 (.loop ic3009l0)))
 (.seq
 (.region [] [] [2, 0, 1, 18, 20, 5, 8, 29, 33, 50, 63, 7, 95, 9, 10, 11, 129, 146, 159, 12, 14, 219, 222, 15, 13, 226, 236, 6] [
 ⟨(some 6), (.move (.k (rB false))), none, none⟩])
 .ret))
 .skip))
 (.seq
 (.region [] [] [2, 0, 1, 18, 20, 5, 8, 29, 33, 50, 63, 7, 95, 9, 10, 11, 129, 146, 159, 12, 14, 219, 222, 15, 13, 226, 236, 6] [
 ⟨(some 246), (.build [.nil] []), none, none⟩,
 ⟨(some 247), (.load (some 2) (.t 5)), none, none⟩,
 ⟨(some 248), (.callp (.k (rF 36)) [(.t 246), (.k (.x (.one .nil))), (.t 247)]), none, none⟩,
 ⟨(some 249), (.load (some 3) (.t 8)), none, none⟩,
 ⟨(some 250), (.eqs false [.i .i8, .i .i64, .i .i64] (.t 248) (.t 249)), none, none⟩,
 ⟨(some 251), (.move (.t 250)), none, none⟩,
 ⟨(some 252), (.move (.t 0)), some (251, true), none⟩,
 ⟨(some 253), (.build [.nil] [(0, 1, (.t 252))]), some (251, true), none⟩,
 ⟨(some 254), (.move (.t 1)), some (251, true), none⟩,
 ⟨(some 255), (.load (some 2) (.t 7)), some (251, true), none⟩,
 ⟨(some 256), (.callp (.k (rF 36)) [(.t 253), (.t 254), (.t 255)]), some (251, true), none⟩,
 ⟨(some 257), (.build [(.c (.v (.int .i8 0))), (.c (.v (.int .i64 0))), (.c (.v (.int .i64 0)))] []), some (251, true), none⟩,
 ⟨(some 258), (.eqs false [.i .i8, .i .i64, .i .i64] (.t 256) (.t 257)), some (251, true), none⟩,
 ⟨(some 259), (.pick (.t 251) (.t 258) (.k (rB false))), none, none⟩,
 ⟨(some 6), (.move (.t 259)), none, none⟩])
 .ret))))))))))
def ir3009 : List IRes := [.tmp 6]
theorem ie3009 : cmpFunc Go.Proofs.Try.prog ⟨[(66, (some [])), (71, (some [])), (77, (some [])), (81, (some [])), (85, (some [])), (87, (some [])), (91, (some []))], [(66, .fz [8]), (81, .fz [7])]⟩ Go.Proofs.Try.f9 [2, 0, 1, 18, 20, 5, 8, 29, 33, 50, 63, 7, 95, 9, 10, 11, 129, 146, 159, 12, 14, 219, 222, 15, 13, 226, 236, 6] = some ic3009 := by kernel_rfl
theorem ig3009 : cmpRes Go.Proofs.Try.prog Go.Proofs.Try.f9.results.toList = some ir3009 := by kernel_rfl

def ic3038l0 : IC :=
 (.seq
 (.seq
 (.region [] [] [0, 11, 5, 1, 24, 7, 6, 37, 4] [
 ⟨(some 35), (.move (.t 7)), none, none⟩,
 ⟨(some 36), (.move (.t 6)), none, none⟩,
 ⟨(some 37), (.bin .lss (.t 35) (.t 36)), none, none⟩])
 (.cond (.t 37)
 .skip
 (.exit 0)))
 (.seq
 (.block 1
 (.region [43] [] [0, 11, 5, 1, 24, 7, 6, 37, 4] [
 ⟨(some 40), (.faddr 1 (.t 5)), none, none⟩,
 ⟨(some 41), (.load none (.t 40)), none, none⟩,
 ⟨(some 42), (.build [(.c (.v (.string (bs [])))), (.c (.v (.int .i8 0))), (.c (.v (.int .i64 0))), (.c (.v (.string (bs []))))] [(0, 1, (.k (rS (bs [95]))))]), none, none⟩,
 ⟨(some 43), (.row 27 4 [(.t 42)]), none, none⟩,
 ⟨(some 44), (.app 27 4 48 (.t 41) (.t 43)), none, none⟩,
 ⟨(some 45), (.faddr 1 (.t 5)), none, none⟩,
 ⟨none, (.store (some 1) (.t 45) (.t 44)), none, none⟩]))
 (.region [] [] [0, 11, 5, 1, 24, 7, 6, 37, 4] [
 ⟨(some 38), (.move (.t 7)), none, none⟩,
 ⟨(some 39), (.bin .add (.t 38) (.k (rI .i64 1))), none, none⟩,
 ⟨(some 7), (.move (.t 39)), none, none⟩])))

/-- pedigree/pedigreelaw07.blank -/
def ic3038 : IC :=
 (.seq
 (.region [4] [] [0, 11, 5, 1, 24, 7, 6, 37, 4] [
 ⟨(some 4), (.zero 122 [(.c (.v (.string (bs [])))), .nil]), none, none⟩])
 (.seq
 (.region [5] [] [0, 11, 5, 1, 24, 7, 6, 37, 4] [
 ⟨(some 8), (.build [(.c (.v (.string (bs [])))), .nil] [(0, 1, (.k (rS (bs [112]))))]), none, none⟩,
 ⟨(some 5), (.zero 122 [(.c (.v (.string (bs [])))), .nil]), none, none⟩,
 ⟨none, (.store (some 2) (.t 5) (.t 8)), none, none⟩])
 (.seq
 (.region [] [] [0, 11, 5, 1, 24, 7, 6, 37, 4] [
 ⟨(some 6), (.move (.k (rI .i64 0))), none, none⟩])
 (.seq
 (.seq
 (.region [] [] [0, 11, 5, 1, 24, 7, 6, 37, 4] [
 ⟨(some 9), (.move (.t 0)), none, none⟩,
 ⟨(some 10), (.len (.t 9)), none, none⟩,
 ⟨(some 11), (.bin .gtr (.t 10) (.k (rI .i64 0))), none, none⟩])
 (.cond (.t 11)
 (.seq
 (.region [] [] [0, 11, 5, 1, 24, 7, 6, 37, 4] [
 ⟨(some 12), (.move (.t 0)), none, none⟩,
 ⟨(some 13), (.iaddr 3 (.t 12) (.k (rI .i64 0))), none, none⟩,
 ⟨(some 14), (.faddr 0 (.t 13)), none, none⟩,
 ⟨(some 15), (.load none (.t 14)), none, none⟩,
 ⟨(some 16), (.faddr 0 (.t 5)), none, none⟩,
 ⟨none, (.store (some 1) (.t 16) (.t 15)), none, none⟩])
 (.region [] [] [0, 11, 5, 1, 24, 7, 6, 37, 4] [
 ⟨(some 17), (.move (.t 0)), none, none⟩,
 ⟨(some 18), (.iaddr 3 (.t 17) (.k (rI .i64 0))), none, none⟩,
 ⟨(some 19), (.faddr 1 (.t 18)), none, none⟩,
 ⟨(some 20), (.load none (.t 19)), none, none⟩,
 ⟨(some 21), (.len (.t 20)), none, none⟩,
 ⟨(some 6), (.move (.t 21)), none, none⟩]))
 (.seq
 (.region [] [] [0, 11, 5, 1, 24, 7, 6, 37, 4] [
 ⟨(some 22), (.move (.t 1)), none, none⟩,
 ⟨(some 23), (.len (.t 22)), none, none⟩,
 ⟨(some 24), (.bin .gtr (.t 23) (.k (rI .i64 0))), none, none⟩])
 (.cond (.t 24)
 (.seq
 (.region [] [] [0, 11, 5, 1, 24, 7, 6, 37, 4] [
 ⟨(some 25), (.move (.t 1)), none, none⟩,
 ⟨(some 26), (.iaddr 2 (.t 25) (.k (rI .i64 0))), none, none⟩,
 ⟨(some 27), (.faddr 0 (.t 26)), none, none⟩,
 ⟨(some 28), (.load none (.t 27)), none, none⟩,
 ⟨(some 29), (.faddr 0 (.t 5)), none, none⟩,
 ⟨none, (.store (some 1) (.t 29) (.t 28)), none, none⟩])
 (.region [] [] [0, 11, 5, 1, 24, 7, 6, 37, 4] [
 ⟨(some 30), (.move (.t 1)), none, none⟩,
 ⟨(some 31), (.iaddr 2 (.t 30) (.k (rI .i64 0))), none, none⟩,
 ⟨(some 32), (.faddr 1 (.t 31)), none, none⟩,
 ⟨(some 33), (.load none (.t 32)), none, none⟩,
 ⟨(some 34), (.len (.t 33)), none, none⟩,
 ⟨(some 6), (.move (.t 34)), none, none⟩]))
 .skip))))
 (.seq
 (.seq
 (.region [] [] [0, 11, 5, 1, 24, 7, 6, 37, 4] [
 ⟨(some 7), (.move (.k (rI .i64 0))), none, none⟩])
 (.block 0
 (.loop ic3038l0)))
 (.seq
 (.region [] [] [0, 11, 5, 1, 24, 7, 6, 37, 4] [
 ⟨(some 46), (.load (some 2) (.t 5)), none, none⟩,
 ⟨none, (.store (some 2) (.t 4) (.t 46)), none, none⟩])
 .ret))))))
def ir3038 : List IRes := [.cell 4 (some 2)]
theorem ie3038 : cmpFunc Go.Proofs.Try.prog ⟨[], []⟩ Go.Proofs.Try.f38 [0, 11, 5, 1, 24, 7, 6, 37, 4] = some ic3038 := by kernel_rfl
theorem ig3038 : cmpRes Go.Proofs.Try.prog Go.Proofs.Try.f38.results.toList = some ir3038 := by kernel_rfl

end Go.Proofs.Ytiomojlcnemnhaa

/- Functions of the seat, as the small language has them. -/
import Derived.Test.YtiomojlcnemnhaaDoorKFxWb
import Derived.Test.YtiomojlcnemnhaaDoorProg
import Derived.KernelRfl
namespace Go.Proofs.YtiomojlcnemnhaaDoor
open Go.Fx
def ic4c0 : IC :=
 (.seq
 (.region [] [] [0, 3, 29, 31, 1, 40, 8, 7, 12, 9, 53, 14, 13, 63, 75, 10, 11, 15, 16, 117, 17, 2, 121, 133, 148, 18, 19, 169, 170, 20, 21, 186, 189, 23, 208, 25, 222, 22, 24, 27, 26, 6] [
 ⟨(some 41), (.move (.t 8)), none, none⟩,
 ⟨(some 42), (.un .not (.t 41)), none, none⟩,
 ⟨(some 43), (.move (.t 42)), none, none⟩,
 ⟨(some 44), (.load (some 3) (.t 7)), some (43, true), none⟩,
 ⟨(some 45), (.build [(.c (.v (.int .i8 0))), (.c (.v (.int .i64 0))), (.c (.v (.string (bs []))))] []), some (43, true), none⟩,
 ⟨(some 46), (.eqs false [.i .i8, .i .i64, .s] (.t 44) (.t 45)), some (43, true), none⟩,
 ⟨(some 47), (.pick (.t 43) (.t 46) (.k (rB false))), none, none⟩,
 ⟨(some 6), (.move (.t 47)), none, none⟩])
 .ret)

def ic4c1 : IC :=
 (.seq
 (.region [] [] [0, 3, 29, 31, 1, 40, 8, 7, 12, 9, 53, 14, 13, 63, 75, 10, 11, 15, 16, 117, 17, 2, 121, 133, 148, 18, 19, 169, 170, 20, 21, 186, 189, 23, 208, 25, 222, 22, 24, 27, 26, 6] [
 ⟨(some 13), (.move (.k (rB true))), none, none⟩])
 (.seq
 (.region [81] [] [0, 3, 29, 31, 1, 40, 8, 7, 12, 9, 53, 14, 13, 63, 75, 10, 11, 15, 16, 117, 17, 2, 121, 133, 148, 18, 19, 169, 170, 20, 21, 186, 189, 23, 208, 25, 222, 22, 24, 27, 26, 6] [
 ⟨(some 76), (.move (.t 10)), none, none⟩,
 ⟨(some 77), (.move (.t 1)), none, none⟩,
 ⟨(some 78), (.move (.t 14)), none, none⟩,
 ⟨(some 79), (.iaddr 4 (.t 77) (.t 78)), none, none⟩,
 ⟨(some 80), (.load (some 4) (.t 79)), none, none⟩,
 ⟨(some 81), (.row 54 4 [(.t 80)]), none, none⟩,
 ⟨(some 82), (.app 54 4 48 (.t 76) (.t 81)), none, none⟩,
 ⟨(some 10), (.move (.t 82)), none, none⟩])
 (.region [] [] [0, 3, 29, 31, 1, 40, 8, 7, 12, 9, 53, 14, 13, 63, 75, 10, 11, 15, 16, 117, 17, 2, 121, 133, 148, 18, 19, 169, 170, 20, 21, 186, 189, 23, 208, 25, 222, 22, 24, 27, 26, 6] [
 ⟨(some 83), (.move (.t 11)), none, none⟩,
 ⟨(some 84), (.move (.t 83)), none, none⟩,
 ⟨(some 85), (.move (.t 1)), some (84, true), none⟩,
 ⟨(some 86), (.move (.t 14)), some (84, true), none⟩,
 ⟨(some 87), (.iaddr 4 (.t 85) (.t 86)), some (84, true), none⟩,
 ⟨(some 88), (.faddr 1 (.t 87)), some (84, true), none⟩,
 ⟨(some 89), (.load (some 3) (.t 88)), some (84, true), none⟩,
 ⟨(some 90), (.callp (.k (rF 29)) [(.t 89)]), some (84, true), none⟩,
 ⟨(some 91), (.bin .eql (.t 90) (.k (rI .i64 0))), some (84, true), none⟩,
 ⟨(some 92), (.pick (.t 84) (.t 91) (.k (rB false))), none, none⟩,
 ⟨(some 11), (.move (.t 92)), none, none⟩])))

def ic4l2 : IC :=
 (.seq
 (.seq
 (.region [] [] [0, 3, 29, 31, 1, 40, 8, 7, 12, 9, 53, 14, 13, 63, 75, 10, 11, 15, 16, 117, 17, 2, 121, 133, 148, 18, 19, 169, 170, 20, 21, 186, 189, 23, 208, 25, 222, 22, 24, 27, 26, 6] [
 ⟨(some 56), (.move (.t 14)), none, none⟩,
 ⟨(some 57), (.move (.t 1)), none, none⟩,
 ⟨(some 58), (.len (.t 57)), none, none⟩,
 ⟨(some 59), (.bin .lss (.t 56) (.t 58)), none, none⟩,
 ⟨(some 60), (.move (.t 59)), none, none⟩,
 ⟨(some 61), (.move (.t 13)), some (60, true), none⟩,
 ⟨(some 62), (.un .not (.t 61)), some (60, true), none⟩,
 ⟨(some 63), (.pick (.t 60) (.t 62) (.k (rB false))), none, none⟩])
 (.cond (.t 63)
 .skip
 (.exit 2)))
 (.seq
 (.block 3
 (.seq
 (.region [] [] [0, 3, 29, 31, 1, 40, 8, 7, 12, 9, 53, 14, 13, 63, 75, 10, 11, 15, 16, 117, 17, 2, 121, 133, 148, 18, 19, 169, 170, 20, 21, 186, 189, 23, 208, 25, 222, 22, 24, 27, 26, 6] [
 ⟨(some 66), (.move (.t 1)), none, none⟩,
 ⟨(some 67), (.move (.t 14)), none, none⟩,
 ⟨(some 68), (.iaddr 4 (.t 66) (.t 67)), none, none⟩,
 ⟨(some 69), (.faddr 0 (.t 68)), none, none⟩,
 ⟨(some 70), (.load none (.t 69)), none, none⟩,
 ⟨(some 71), (.move (.t 9)), none, none⟩,
 ⟨(some 72), (.move (.t 12)), none, none⟩,
 ⟨(some 73), (.iaddr 1 (.t 71) (.t 72)), none, none⟩,
 ⟨(some 74), (.load none (.t 73)), none, none⟩,
 ⟨(some 75), (.bin .eql (.t 70) (.t 74)), none, none⟩])
 (.cond (.t 75)
 ic4c1
 .skip)))
 (.region [] [] [0, 3, 29, 31, 1, 40, 8, 7, 12, 9, 53, 14, 13, 63, 75, 10, 11, 15, 16, 117, 17, 2, 121, 133, 148, 18, 19, 169, 170, 20, 21, 186, 189, 23, 208, 25, 222, 22, 24, 27, 26, 6] [
 ⟨(some 64), (.move (.t 14)), none, none⟩,
 ⟨(some 65), (.bin .add (.t 64) (.k (rI .i64 1))), none, none⟩,
 ⟨(some 14), (.move (.t 65)), none, none⟩])))

def ic4l3 : IC :=
 (.seq
 (.seq
 (.region [] [] [0, 3, 29, 31, 1, 40, 8, 7, 12, 9, 53, 14, 13, 63, 75, 10, 11, 15, 16, 117, 17, 2, 121, 133, 148, 18, 19, 169, 170, 20, 21, 186, 189, 23, 208, 25, 222, 22, 24, 27, 26, 6] [
 ⟨(some 50), (.move (.t 12)), none, none⟩,
 ⟨(some 51), (.move (.t 9)), none, none⟩,
 ⟨(some 52), (.len (.t 51)), none, none⟩,
 ⟨(some 53), (.bin .lss (.t 50) (.t 52)), none, none⟩])
 (.cond (.t 53)
 .skip
 (.exit 0)))
 (.seq
 (.block 1
 (.seq
 (.region [] [] [0, 3, 29, 31, 1, 40, 8, 7, 12, 9, 53, 14, 13, 63, 75, 10, 11, 15, 16, 117, 17, 2, 121, 133, 148, 18, 19, 169, 170, 20, 21, 186, 189, 23, 208, 25, 222, 22, 24, 27, 26, 6] [
 ⟨(some 13), (.move (.k (rB false))), none, none⟩])
 (.seq
 (.seq
 (.region [] [] [0, 3, 29, 31, 1, 40, 8, 7, 12, 9, 53, 14, 13, 63, 75, 10, 11, 15, 16, 117, 17, 2, 121, 133, 148, 18, 19, 169, 170, 20, 21, 186, 189, 23, 208, 25, 222, 22, 24, 27, 26, 6] [
 ⟨(some 14), (.move (.k (rI .i64 0))), none, none⟩])
 (.block 2
 (.loop ic4l2)))
 (.region [] [] [0, 3, 29, 31, 1, 40, 8, 7, 12, 9, 53, 14, 13, 63, 75, 10, 11, 15, 16, 117, 17, 2, 121, 133, 148, 18, 19, 169, 170, 20, 21, 186, 189, 23, 208, 25, 222, 22, 24, 27, 26, 6] [
 ⟨(some 93), (.move (.t 11)), none, none⟩,
 ⟨(some 94), (.move (.t 93)), none, none⟩,
 ⟨(some 95), (.move (.t 13)), some (94, true), none⟩,
 ⟨(some 96), (.pick (.t 94) (.t 95) (.k (rB false))), none, none⟩,
 ⟨(some 11), (.move (.t 96)), none, none⟩]))))
 (.region [] [] [0, 3, 29, 31, 1, 40, 8, 7, 12, 9, 53, 14, 13, 63, 75, 10, 11, 15, 16, 117, 17, 2, 121, 133, 148, 18, 19, 169, 170, 20, 21, 186, 189, 23, 208, 25, 222, 22, 24, 27, 26, 6] [
 ⟨(some 54), (.move (.t 12)), none, none⟩,
 ⟨(some 55), (.bin .add (.t 54) (.k (rI .i64 1))), none, none⟩,
 ⟨(some 12), (.move (.t 55)), none, none⟩])))

def ic4c4 : IC :=
 (.region [139] [] [0, 3, 29, 31, 1, 40, 8, 7, 12, 9, 53, 14, 13, 63, 75, 10, 11, 15, 16, 117, 17, 2, 121, 133, 148, 18, 19, 169, 170, 20, 21, 186, 189, 23, 208, 25, 222, 22, 24, 27, 26, 6] [
 ⟨(some 134), (.move (.t 10)), none, none⟩,
 ⟨(some 135), (.move (.t 2)), none, none⟩,
 ⟨(some 136), (.move (.t 17)), none, none⟩,
 ⟨(some 137), (.iaddr 4 (.t 135) (.t 136)), none, none⟩,
 ⟨(some 138), (.load (some 4) (.t 137)), none, none⟩,
 ⟨(some 139), (.row 54 4 [(.t 138)]), none, none⟩,
 ⟨(some 140), (.app 54 4 48 (.t 134) (.t 139)), none, none⟩,
 ⟨(some 10), (.move (.t 140)), none, none⟩])

def ic4c5 : IC :=
 (.region [153] [] [0, 3, 29, 31, 1, 40, 8, 7, 12, 9, 53, 14, 13, 63, 75, 10, 11, 15, 16, 117, 17, 2, 121, 133, 148, 18, 19, 169, 170, 20, 21, 186, 189, 23, 208, 25, 222, 22, 24, 27, 26, 6] [
 ⟨(some 149), (.move (.t 2)), none, none⟩,
 ⟨(some 150), (.move (.t 17)), none, none⟩,
 ⟨(some 151), (.iaddr 4 (.t 149) (.t 150)), none, none⟩,
 ⟨(some 152), (.load (some 4) (.t 151)), none, none⟩,
 ⟨(some 153), (.row 54 4 [(.t 152)]), none, none⟩,
 ⟨(some 154), (.move (.t 10)), none, none⟩,
 ⟨(some 155), (.app 54 4 48 (.t 153) (.t 154)), none, none⟩,
 ⟨(some 10), (.move (.t 155)), none, none⟩])

def ic4c6 : IC :=
 (.seq
 (.region [] [] [0, 3, 29, 31, 1, 40, 8, 7, 12, 9, 53, 14, 13, 63, 75, 10, 11, 15, 16, 117, 17, 2, 121, 133, 148, 18, 19, 169, 170, 20, 21, 186, 189, 23, 208, 25, 222, 22, 24, 27, 26, 6] [
 ⟨(some 141), (.move (.t 2)), none, none⟩,
 ⟨(some 142), (.move (.t 17)), none, none⟩,
 ⟨(some 143), (.iaddr 4 (.t 141) (.t 142)), none, none⟩,
 ⟨(some 144), (.faddr 0 (.t 143)), none, none⟩,
 ⟨(some 145), (.load none (.t 144)), none, none⟩,
 ⟨(some 146), (.move (.t 9)), none, none⟩,
 ⟨(some 147), (.callp (.k (rF 30)) [(.t 145), (.t 146)]), none, none⟩,
 ⟨(some 148), (.un .not (.t 147)), none, none⟩])
 (.cond (.t 148)
 ic4c5
 .skip))

def ic4l7 : IC :=
 (.seq
 (.seq
 (.region [] [] [0, 3, 29, 31, 1, 40, 8, 7, 12, 9, 53, 14, 13, 63, 75, 10, 11, 15, 16, 117, 17, 2, 121, 133, 148, 18, 19, 169, 170, 20, 21, 186, 189, 23, 208, 25, 222, 22, 24, 27, 26, 6] [
 ⟨(some 118), (.move (.t 17)), none, none⟩,
 ⟨(some 119), (.move (.t 2)), none, none⟩,
 ⟨(some 120), (.len (.t 119)), none, none⟩,
 ⟨(some 121), (.bin .lss (.t 118) (.t 120)), none, none⟩])
 (.cond (.t 121)
 .skip
 (.exit 4)))
 (.seq
 (.block 5
 (.seq
 (.region [] [] [0, 3, 29, 31, 1, 40, 8, 7, 12, 9, 53, 14, 13, 63, 75, 10, 11, 15, 16, 117, 17, 2, 121, 133, 148, 18, 19, 169, 170, 20, 21, 186, 189, 23, 208, 25, 222, 22, 24, 27, 26, 6] [
 ⟨(some 124), (.move (.t 2)), none, none⟩,
 ⟨(some 125), (.move (.t 17)), none, none⟩,
 ⟨(some 126), (.iaddr 4 (.t 124) (.t 125)), none, none⟩,
 ⟨(some 127), (.faddr 0 (.t 126)), none, none⟩,
 ⟨(some 128), (.load none (.t 127)), none, none⟩,
 ⟨(some 129), (.move (.t 9)), none, none⟩,
 ⟨(some 130), (.callp (.k (rF 30)) [(.t 128), (.t 129)]), none, none⟩,
 ⟨(some 131), (.move (.t 130)), none, none⟩,
 ⟨(some 132), (.move (.t 11)), some (131, true), none⟩,
 ⟨(some 133), (.pick (.t 131) (.t 132) (.k (rB false))), none, none⟩])
 (.cond (.t 133)
 ic4c4
 ic4c6)))
 (.region [] [] [0, 3, 29, 31, 1, 40, 8, 7, 12, 9, 53, 14, 13, 63, 75, 10, 11, 15, 16, 117, 17, 2, 121, 133, 148, 18, 19, 169, 170, 20, 21, 186, 189, 23, 208, 25, 222, 22, 24, 27, 26, 6] [
 ⟨(some 122), (.move (.t 17)), none, none⟩,
 ⟨(some 123), (.bin .add (.t 122) (.k (rI .i64 1))), none, none⟩,
 ⟨(some 17), (.move (.t 123)), none, none⟩])))

def ic4c8 : IC :=
 (.seq
 (.region [20] [] [0, 3, 29, 31, 1, 40, 8, 7, 12, 9, 53, 14, 13, 63, 75, 10, 11, 15, 16, 117, 17, 2, 121, 133, 148, 18, 19, 169, 170, 20, 21, 186, 189, 23, 208, 25, 222, 22, 24, 27, 26, 6] [
 ⟨(some 172), (.move (.t 10)), none, none⟩,
 ⟨(some 173), (.callp (.k (rF 32)) [(.t 172)]), none, none⟩,
 ⟨(some 174), (.load (some 6) (.t 3)), none, (some [3])⟩,
 ⟨(some 175), (.callp (.k (rF 31)) [(.t 173), (.t 174)]), none, none⟩,
 ⟨(some 176), (.callp (.k (rF 26)) [(.t 175), (.k (.x (.one .nil)))]), none, none⟩,
 ⟨(some 171), (.move (.t 176)), none, none⟩,
 ⟨(some 177), (.ext (.t 171) 0), none, none⟩,
 ⟨(some 178), (.ext (.t 171) 1), none, none⟩,
 ⟨(some 20), (.zero 39 [(.c (.v (.int .i8 0))), (.c (.v (.int .i64 0))), (.c (.v (.string (bs []))))]), none, none⟩,
 ⟨none, (.store (some 3) (.t 20) (.t 177)), none, none⟩,
 ⟨(some 21), (.move (.t 178)), none, none⟩])
 (.seq
 (.region [] [] [0, 3, 29, 31, 1, 40, 8, 7, 12, 9, 53, 14, 13, 63, 75, 10, 11, 15, 16, 117, 17, 2, 121, 133, 148, 18, 19, 169, 170, 20, 21, 186, 189, 23, 208, 25, 222, 22, 24, 27, 26, 6] [
 ⟨(some 179), (.load (some 3) (.t 20)), none, none⟩,
 ⟨(some 180), (.load (some 3) (.t 7)), none, none⟩,
 ⟨(some 181), (.eqs true [.i .i8, .i .i64, .s] (.t 179) (.t 180)), none, none⟩,
 ⟨(some 182), (.move (.t 181)), none, none⟩,
 ⟨(some 183), (.move (.t 21)), some (182, false), none⟩,
 ⟨(some 184), (.move (.t 8)), some (182, false), none⟩,
 ⟨(some 185), (.eqb true (.t 183) (.t 184)), some (182, false), none⟩,
 ⟨(some 186), (.pick (.t 182) (.k (rB true)) (.t 185)), none, none⟩])
 (.cond (.t 186)
 (.seq
 (.region [] [] [0, 3, 29, 31, 1, 40, 8, 7, 12, 9, 53, 14, 13, 63, 75, 10, 11, 15, 16, 117, 17, 2, 121, 133, 148, 18, 19, 169, 170, 20, 21, 186, 189, 23, 208, 25, 222, 22, 24, 27, 26, 6] [
 ⟨(some 6), (.move (.k (rB false))), none, none⟩])
 .ret)
 .skip)))

def ic4c9 : IC :=
 (.seq
 (.region [] [] [0, 3, 29, 31, 1, 40, 8, 7, 12, 9, 53, 14, 13, 63, 75, 10, 11, 15, 16, 117, 17, 2, 121, 133, 148, 18, 19, 169, 170, 20, 21, 186, 189, 23, 208, 25, 222, 22, 24, 27, 26, 6] [
 ⟨(some 190), (.faddr 1 (.t 3)), none, none⟩,
 ⟨(some 191), (.faddr 0 (.t 190)), none, none⟩,
 ⟨(some 192), (.load none (.t 191)), none, none⟩,
 ⟨(some 193), (.bin .neq (.t 192) (.k (rS (bs [])))), none, none⟩,
 ⟨(some 194), (.move (.t 193)), none, none⟩,
 ⟨(some 195), (.move (.t 8)), some (194, false), none⟩,
 ⟨(some 196), (.move (.t 195)), some (194, false), none⟩,
 ⟨(some 197), (.load (some 3) (.t 7)), some (196, true), none⟩,
 ⟨(some 198), (.faddr 1 (.t 3)), some (196, true), none⟩,
 ⟨(some 199), (.faddr 1 (.t 198)), some (196, true), none⟩,
 ⟨(some 200), (.load (some 3) (.t 199)), some (196, true), none⟩,
 ⟨(some 201), (.eqs false [.i .i8, .i .i64, .s] (.t 197) (.t 200)), some (196, true), none⟩,
 ⟨(some 202), (.pick (.t 196) (.t 201) (.k (rB false))), some (194, false), none⟩,
 ⟨(some 203), (.pick (.t 194) (.k (rB true)) (.t 202)), none, none⟩,
 ⟨(some 6), (.move (.t 203)), none, none⟩])
 .ret)

def ic4l10 : IC :=
 (.seq
 (.seq
 (.region [] [] [0, 3, 29, 31, 1, 40, 8, 7, 12, 9, 53, 14, 13, 63, 75, 10, 11, 15, 16, 117, 17, 2, 121, 133, 148, 18, 19, 169, 170, 20, 21, 186, 189, 23, 208, 25, 222, 22, 24, 27, 26, 6] [
 ⟨(some 204), (.move (.t 23)), none, none⟩,
 ⟨(some 205), (.faddr 5 (.t 3)), none, none⟩,
 ⟨(some 206), (.load none (.t 205)), none, none⟩,
 ⟨(some 207), (.len (.t 206)), none, none⟩,
 ⟨(some 208), (.bin .lss (.t 204) (.t 207)), none, none⟩])
 (.cond (.t 208)
 .skip
 (.exit 6)))
 (.seq
 (.block 7
 (.seq
 (.region [24] [] [0, 3, 29, 31, 1, 40, 8, 7, 12, 9, 53, 14, 13, 63, 75, 10, 11, 15, 16, 117, 17, 2, 121, 133, 148, 18, 19, 169, 170, 20, 21, 186, 189, 23, 208, 25, 222, 22, 24, 27, 26, 6] [
 ⟨(some 212), (.faddr 5 (.t 3)), none, none⟩,
 ⟨(some 213), (.load none (.t 212)), none, none⟩,
 ⟨(some 214), (.move (.t 23)), none, none⟩,
 ⟨(some 215), (.iaddr 6 (.t 213) (.t 214)), none, none⟩,
 ⟨(some 216), (.load (some 6) (.t 215)), none, none⟩,
 ⟨(some 217), (.move (.t 1)), none, none⟩,
 ⟨(some 218), (.callp (.k (rF 26)) [(.t 216), (.t 217)]), none, none⟩,
 ⟨(some 211), (.move (.t 218)), none, none⟩,
 ⟨(some 219), (.ext (.t 211) 0), none, none⟩,
 ⟨(some 220), (.ext (.t 211) 1), none, none⟩,
 ⟨(some 24), (.zero 39 [(.c (.v (.int .i8 0))), (.c (.v (.int .i64 0))), (.c (.v (.string (bs []))))]), none, none⟩,
 ⟨none, (.store (some 3) (.t 24) (.t 219)), none, none⟩,
 ⟨(some 25), (.move (.t 220)), none, none⟩])
 (.seq
 (.seq
 (.region [] [] [0, 3, 29, 31, 1, 40, 8, 7, 12, 9, 53, 14, 13, 63, 75, 10, 11, 15, 16, 117, 17, 2, 121, 133, 148, 18, 19, 169, 170, 20, 21, 186, 189, 23, 208, 25, 222, 22, 24, 27, 26, 6] [
 ⟨(some 221), (.move (.t 25)), none, none⟩,
 ⟨(some 222), (.un .not (.t 221)), none, none⟩])
 (.cond (.t 222)
 (.seq
 (.region [] [] [0, 3, 29, 31, 1, 40, 8, 7, 12, 9, 53, 14, 13, 63, 75, 10, 11, 15, 16, 117, 17, 2, 121, 133, 148, 18, 19, 169, 170, 20, 21, 186, 189, 23, 208, 25, 222, 22, 24, 27, 26, 6] [
 ⟨(some 223), (.move (.t 8)), none, none⟩,
 ⟨(some 224), (.un .not (.t 223)), none, none⟩,
 ⟨(some 6), (.move (.t 224)), none, none⟩])
 .ret)
 .skip))
 (.region [227] [] [0, 3, 29, 31, 1, 40, 8, 7, 12, 9, 53, 14, 13, 63, 75, 10, 11, 15, 16, 117, 17, 2, 121, 133, 148, 18, 19, 169, 170, 20, 21, 186, 189, 23, 208, 25, 222, 22, 24, 27, 26, 6] [
 ⟨(some 225), (.move (.t 22)), none, none⟩,
 ⟨(some 226), (.load (some 3) (.t 24)), none, none⟩,
 ⟨(some 227), (.row 39 3 [(.t 226)]), none, none⟩,
 ⟨(some 228), (.app 39 3 32 (.t 225) (.t 227)), none, none⟩,
 ⟨(some 22), (.move (.t 228)), none, none⟩]))))
 (.region [] [] [0, 3, 29, 31, 1, 40, 8, 7, 12, 9, 53, 14, 13, 63, 75, 10, 11, 15, 16, 117, 17, 2, 121, 133, 148, 18, 19, 169, 170, 20, 21, 186, 189, 23, 208, 25, 222, 22, 24, 27, 26, 6] [
 ⟨(some 209), (.move (.t 23)), none, none⟩,
 ⟨(some 210), (.bin .add (.t 209) (.k (rI .i64 1))), none, none⟩,
 ⟨(some 23), (.move (.t 210)), none, none⟩])))

/-- pedigree/pedigreelaw04.TermMeans -/
def ic4 : IC :=
 (.seq
 (.region [3] [] [0, 3, 29, 31, 1, 40, 8, 7, 12, 9, 53, 14, 13, 63, 75, 10, 11, 15, 16, 117, 17, 2, 121, 133, 148, 18, 19, 169, 170, 20, 21, 186, 189, 23, 208, 25, 222, 22, 24, 27, 26, 6] [
 ⟨(some 3), (.box 47 (.t 0)), none, none⟩,
 ⟨(some 6), (.move (.k (rB false))), none, none⟩])
 (.seq
 (.seq
 (.region [] [] [0, 3, 29, 31, 1, 40, 8, 7, 12, 9, 53, 14, 13, 63, 75, 10, 11, 15, 16, 117, 17, 2, 121, 133, 148, 18, 19, 169, 170, 20, 21, 186, 189, 23, 208, 25, 222, 22, 24, 27, 26, 6] [
 ⟨(some 28), (.load (some 6) (.t 3)), none, none⟩,
 ⟨(some 29), (.callp (.k (rF 25)) [(.t 28)]), none, none⟩])
 (.cond (.t 29)
 (.seq
 (.region [] [] [0, 3, 29, 31, 1, 40, 8, 7, 12, 9, 53, 14, 13, 63, 75, 10, 11, 15, 16, 117, 17, 2, 121, 133, 148, 18, 19, 169, 170, 20, 21, 186, 189, 23, 208, 25, 222, 22, 24, 27, 26, 6] [
 ⟨(some 6), (.move (.k (rB true))), none, none⟩])
 .ret)
 .skip))
 (.seq
 (.seq
 (.region [] [] [0, 3, 29, 31, 1, 40, 8, 7, 12, 9, 53, 14, 13, 63, 75, 10, 11, 15, 16, 117, 17, 2, 121, 133, 148, 18, 19, 169, 170, 20, 21, 186, 189, 23, 208, 25, 222, 22, 24, 27, 26, 6] [
 ⟨(some 30), (.callp (.k (rF 19)) []), none, none⟩,
 ⟨(some 31), (.un .not (.t 30)), none, none⟩])
 (.cond (.t 31)
 (.seq
 (.region [] [] [0, 3, 29, 31, 1, 40, 8, 7, 12, 9, 53, 14, 13, 63, 75, 10, 11, 15, 16, 117, 17, 2, 121, 133, 148, 18, 19, 169, 170, 20, 21, 186, 189, 23, 208, 25, 222, 22, 24, 27, 26, 6] [
 ⟨(some 6), (.move (.k (rB false))), none, none⟩])
 .ret)
 .skip))
 (.seq
 (.region [7] [] [0, 3, 29, 31, 1, 40, 8, 7, 12, 9, 53, 14, 13, 63, 75, 10, 11, 15, 16, 117, 17, 2, 121, 133, 148, 18, 19, 169, 170, 20, 21, 186, 189, 23, 208, 25, 222, 22, 24, 27, 26, 6] [
 ⟨(some 33), (.load (some 6) (.t 3)), none, none⟩,
 ⟨(some 34), (.move (.t 1)), none, none⟩,
 ⟨(some 35), (.callp (.k (rF 26)) [(.t 33), (.t 34)]), none, none⟩,
 ⟨(some 32), (.move (.t 35)), none, none⟩,
 ⟨(some 36), (.ext (.t 32) 0), none, none⟩,
 ⟨(some 37), (.ext (.t 32) 1), none, none⟩,
 ⟨(some 7), (.zero 39 [(.c (.v (.int .i8 0))), (.c (.v (.int .i64 0))), (.c (.v (.string (bs []))))]), none, none⟩,
 ⟨none, (.store (some 3) (.t 7) (.t 36)), none, none⟩,
 ⟨(some 8), (.move (.t 37)), none, none⟩])
 (.seq
 (.seq
 (.region [] [] [0, 3, 29, 31, 1, 40, 8, 7, 12, 9, 53, 14, 13, 63, 75, 10, 11, 15, 16, 117, 17, 2, 121, 133, 148, 18, 19, 169, 170, 20, 21, 186, 189, 23, 208, 25, 222, 22, 24, 27, 26, 6] [
 ⟨(some 38), (.load (some 6) (.t 3)), none, none⟩,
 ⟨(some 39), (.callp (.k (rF 27)) [(.t 38)]), none, none⟩,
 ⟨(some 40), (.bin .neq (.t 39) (.k (rI .i64 0))), none, none⟩])
 (.cond (.t 40)
 ic4c0
 .skip))
 (.seq
 (.region [] [] [0, 3, 29, 31, 1, 40, 8, 7, 12, 9, 53, 14, 13, 63, 75, 10, 11, 15, 16, 117, 17, 2, 121, 133, 148, 18, 19, 169, 170, 20, 21, 186, 189, 23, 208, 25, 222, 22, 24, 27, 26, 6] [
 ⟨(some 48), (.load (some 6) (.t 3)), none, none⟩,
 ⟨(some 49), (.callp (.k (rF 28)) [(.t 48)]), none, none⟩,
 ⟨(some 9), (.move (.t 49)), none, none⟩])
 (.seq
 (.region [] [] [0, 3, 29, 31, 1, 40, 8, 7, 12, 9, 53, 14, 13, 63, 75, 10, 11, 15, 16, 117, 17, 2, 121, 133, 148, 18, 19, 169, 170, 20, 21, 186, 189, 23, 208, 25, 222, 22, 24, 27, 26, 6] [
 ⟨(some 10), (.move (.k (.x (.one .nil)))), none, none⟩])
 (.seq
 (.region [] [] [0, 3, 29, 31, 1, 40, 8, 7, 12, 9, 53, 14, 13, 63, 75, 10, 11, 15, 16, 117, 17, 2, 121, 133, 148, 18, 19, 169, 170, 20, 21, 186, 189, 23, 208, 25, 222, 22, 24, 27, 26, 6] [
 ⟨(some 11), (.move (.k (rB true))), none, none⟩])
 (.seq
 (.seq
 (.region [] [] [0, 3, 29, 31, 1, 40, 8, 7, 12, 9, 53, 14, 13, 63, 75, 10, 11, 15, 16, 117, 17, 2, 121, 133, 148, 18, 19, 169, 170, 20, 21, 186, 189, 23, 208, 25, 222, 22, 24, 27, 26, 6] [
 ⟨(some 12), (.move (.k (rI .i64 0))), none, none⟩])
 (.block 0
 (.loop ic4l3)))
 (.seq
 (.region [15] [] [0, 3, 29, 31, 1, 40, 8, 7, 12, 9, 53, 14, 13, 63, 75, 10, 11, 15, 16, 117, 17, 2, 121, 133, 148, 18, 19, 169, 170, 20, 21, 186, 189, 23, 208, 25, 222, 22, 24, 27, 26, 6] [
 ⟨(some 98), (.load (some 6) (.t 3)), none, none⟩,
 ⟨(some 99), (.move (.t 10)), none, none⟩,
 ⟨(some 100), (.callp (.k (rF 26)) [(.t 98), (.t 99)]), none, none⟩,
 ⟨(some 97), (.move (.t 100)), none, none⟩,
 ⟨(some 101), (.ext (.t 97) 0), none, none⟩,
 ⟨(some 102), (.ext (.t 97) 1), none, none⟩,
 ⟨(some 15), (.zero 39 [(.c (.v (.int .i8 0))), (.c (.v (.int .i64 0))), (.c (.v (.string (bs []))))]), none, none⟩,
 ⟨none, (.store (some 3) (.t 15) (.t 101)), none, none⟩,
 ⟨(some 16), (.move (.t 102)), none, none⟩])
 (.seq
 (.seq
 (.region [] [] [0, 3, 29, 31, 1, 40, 8, 7, 12, 9, 53, 14, 13, 63, 75, 10, 11, 15, 16, 117, 17, 2, 121, 133, 148, 18, 19, 169, 170, 20, 21, 186, 189, 23, 208, 25, 222, 22, 24, 27, 26, 6] [
 ⟨(some 103), (.load (some 3) (.t 7)), none, none⟩,
 ⟨(some 104), (.load (some 3) (.t 15)), none, none⟩,
 ⟨(some 105), (.eqs true [.i .i8, .i .i64, .s] (.t 103) (.t 104)), none, none⟩,
 ⟨(some 106), (.move (.t 105)), none, none⟩,
 ⟨(some 107), (.move (.t 8)), some (106, false), none⟩,
 ⟨(some 108), (.move (.t 16)), some (106, false), none⟩,
 ⟨(some 109), (.eqb true (.t 107) (.t 108)), some (106, false), none⟩,
 ⟨(some 110), (.pick (.t 106) (.k (rB true)) (.t 109)), none, none⟩,
 ⟨(some 111), (.move (.t 110)), none, none⟩,
 ⟨(some 112), (.move (.t 11)), some (111, false), none⟩,
 ⟨(some 113), (.un .not (.t 112)), some (111, false), none⟩,
 ⟨(some 114), (.move (.t 113)), some (111, false), none⟩,
 ⟨(some 115), (.move (.t 8)), some (114, true), none⟩,
 ⟨(some 116), (.pick (.t 114) (.t 115) (.k (rB false))), some (111, false), none⟩,
 ⟨(some 117), (.pick (.t 111) (.k (rB true)) (.t 116)), none, none⟩])
 (.cond (.t 117)
 (.seq
 (.region [] [] [0, 3, 29, 31, 1, 40, 8, 7, 12, 9, 53, 14, 13, 63, 75, 10, 11, 15, 16, 117, 17, 2, 121, 133, 148, 18, 19, 169, 170, 20, 21, 186, 189, 23, 208, 25, 222, 22, 24, 27, 26, 6] [
 ⟨(some 6), (.move (.k (rB false))), none, none⟩])
 .ret)
 .skip))
 (.seq
 (.seq
 (.region [] [] [0, 3, 29, 31, 1, 40, 8, 7, 12, 9, 53, 14, 13, 63, 75, 10, 11, 15, 16, 117, 17, 2, 121, 133, 148, 18, 19, 169, 170, 20, 21, 186, 189, 23, 208, 25, 222, 22, 24, 27, 26, 6] [
 ⟨(some 17), (.move (.k (rI .i64 0))), none, none⟩])
 (.block 4
 (.loop ic4l7)))
 (.seq
 (.seq
 (.region [18] [] [0, 3, 29, 31, 1, 40, 8, 7, 12, 9, 53, 14, 13, 63, 75, 10, 11, 15, 16, 117, 17, 2, 121, 133, 148, 18, 19, 169, 170, 20, 21, 186, 189, 23, 208, 25, 222, 22, 24, 27, 26, 6] [
 ⟨(some 157), (.load (some 6) (.t 3)), none, none⟩,
 ⟨(some 158), (.move (.t 10)), none, none⟩,
 ⟨(some 159), (.callp (.k (rF 26)) [(.t 157), (.t 158)]), none, none⟩,
 ⟨(some 156), (.move (.t 159)), none, none⟩,
 ⟨(some 160), (.ext (.t 156) 0), none, none⟩,
 ⟨(some 161), (.ext (.t 156) 1), none, none⟩,
 ⟨(some 18), (.zero 39 [(.c (.v (.int .i8 0))), (.c (.v (.int .i64 0))), (.c (.v (.string (bs []))))]), none, none⟩,
 ⟨none, (.store (some 3) (.t 18) (.t 160)), none, none⟩,
 ⟨(some 19), (.move (.t 161)), none, none⟩])
 (.seq
 (.region [] [] [0, 3, 29, 31, 1, 40, 8, 7, 12, 9, 53, 14, 13, 63, 75, 10, 11, 15, 16, 117, 17, 2, 121, 133, 148, 18, 19, 169, 170, 20, 21, 186, 189, 23, 208, 25, 222, 22, 24, 27, 26, 6] [
 ⟨(some 162), (.load (some 3) (.t 18)), none, none⟩,
 ⟨(some 163), (.load (some 3) (.t 7)), none, none⟩,
 ⟨(some 164), (.eqs true [.i .i8, .i .i64, .s] (.t 162) (.t 163)), none, none⟩,
 ⟨(some 165), (.move (.t 164)), none, none⟩,
 ⟨(some 166), (.move (.t 19)), some (165, false), none⟩,
 ⟨(some 167), (.move (.t 8)), some (165, false), none⟩,
 ⟨(some 168), (.eqb true (.t 166) (.t 167)), some (165, false), none⟩,
 ⟨(some 169), (.pick (.t 165) (.k (rB true)) (.t 168)), none, none⟩])
 (.cond (.t 169)
 (.seq
 (.region [] [] [0, 3, 29, 31, 1, 40, 8, 7, 12, 9, 53, 14, 13, 63, 75, 10, 11, 15, 16, 117, 17, 2, 121, 133, 148, 18, 19, 169, 170, 20, 21, 186, 189, 23, 208, 25, 222, 22, 24, 27, 26, 6] [
 ⟨(some 6), (.move (.k (rB false))), none, none⟩])
 .ret)
 .skip)))
 (.seq
 (.seq
 (.region [] [] [0, 3, 29, 31, 1, 40, 8, 7, 12, 9, 53, 14, 13, 63, 75, 10, 11, 15, 16, 117, 17, 2, 121, 133, 148, 18, 19, 169, 170, 20, 21, 186, 189, 23, 208, 25, 222, 22, 24, 27, 26, 6] [
 ⟨(some 170), (.move (.t 11)), none, none⟩])
 (.cond (.t 170)
 ic4c8
 .skip))
 (.seq
 (.seq
 (.region [] [] [0, 3, 29, 31, 1, 40, 8, 7, 12, 9, 53, 14, 13, 63, 75, 10, 11, 15, 16, 117, 17, 2, 121, 133, 148, 18, 19, 169, 170, 20, 21, 186, 189, 23, 208, 25, 222, 22, 24, 27, 26, 6] [
 ⟨(some 187), (.faddr 0 (.t 3)), none, none⟩,
 ⟨(some 188), (.load none (.t 187)), none, none⟩,
 ⟨(some 189), (.bin .eql (.t 188) (.k (rI .i8 0))), none, none⟩])
 (.cond (.t 189)
 ic4c9
 .skip))
 (.seq
 (.region [] [] [0, 3, 29, 31, 1, 40, 8, 7, 12, 9, 53, 14, 13, 63, 75, 10, 11, 15, 16, 117, 17, 2, 121, 133, 148, 18, 19, 169, 170, 20, 21, 186, 189, 23, 208, 25, 222, 22, 24, 27, 26, 6] [
 ⟨(some 22), (.move (.k (.x (.one .nil)))), none, none⟩])
 (.seq
 (.seq
 (.region [] [] [0, 3, 29, 31, 1, 40, 8, 7, 12, 9, 53, 14, 13, 63, 75, 10, 11, 15, 16, 117, 17, 2, 121, 133, 148, 18, 19, 169, 170, 20, 21, 186, 189, 23, 208, 25, 222, 22, 24, 27, 26, 6] [
 ⟨(some 23), (.move (.k (rI .i64 0))), none, none⟩])
 (.block 6
 (.loop ic4l10)))
 (.seq
 (.region [26] [] [0, 3, 29, 31, 1, 40, 8, 7, 12, 9, 53, 14, 13, 63, 75, 10, 11, 15, 16, 117, 17, 2, 121, 133, 148, 18, 19, 169, 170, 20, 21, 186, 189, 23, 208, 25, 222, 22, 24, 27, 26, 6] [
 ⟨(some 230), (.faddr 0 (.t 3)), none, none⟩,
 ⟨(some 231), (.load none (.t 230)), none, none⟩,
 ⟨(some 232), (.move (.t 22)), none, none⟩,
 ⟨(some 233), (.callp (.k (rF 33)) [(.t 231), (.t 232)]), none, none⟩,
 ⟨(some 229), (.move (.t 233)), none, none⟩,
 ⟨(some 234), (.ext (.t 229) 0), none, none⟩,
 ⟨(some 235), (.ext (.t 229) 1), none, none⟩,
 ⟨(some 26), (.zero 39 [(.c (.v (.int .i8 0))), (.c (.v (.int .i64 0))), (.c (.v (.string (bs []))))]), none, none⟩,
 ⟨none, (.store (some 3) (.t 26) (.t 234)), none, none⟩,
 ⟨(some 27), (.move (.t 235)), none, none⟩])
 (.seq
 (.region [] [] [0, 3, 29, 31, 1, 40, 8, 7, 12, 9, 53, 14, 13, 63, 75, 10, 11, 15, 16, 117, 17, 2, 121, 133, 148, 18, 19, 169, 170, 20, 21, 186, 189, 23, 208, 25, 222, 22, 24, 27, 26, 6] [
 ⟨(some 236), (.move (.t 8)), none, none⟩,
 ⟨(some 237), (.move (.t 27)), none, none⟩,
 ⟨(some 238), (.eqb false (.t 236) (.t 237)), none, none⟩,
 ⟨(some 239), (.move (.t 238)), none, none⟩,
 ⟨(some 240), (.move (.t 8)), some (239, true), none⟩,
 ⟨(some 241), (.un .not (.t 240)), some (239, true), none⟩,
 ⟨(some 242), (.move (.t 241)), some (239, true), none⟩,
 ⟨(some 243), (.load (some 3) (.t 7)), some (242, false), none⟩,
 ⟨(some 244), (.load (some 3) (.t 26)), some (242, false), none⟩,
 ⟨(some 245), (.eqs false [.i .i8, .i .i64, .s] (.t 243) (.t 244)), some (242, false), none⟩,
 ⟨(some 246), (.pick (.t 242) (.k (rB true)) (.t 245)), some (239, true), none⟩,
 ⟨(some 247), (.pick (.t 239) (.t 246) (.k (rB false))), none, none⟩,
 ⟨(some 6), (.move (.t 247)), none, none⟩])
 .ret)))))))))))))))))))
def ir4 : List IRes := [.tmp 6]
theorem ie4 : cmpFunc Go.Proofs.Tryd.prog ⟨[(174, (some [3]))], []⟩ Go.Proofs.Tryd.f4 [0, 3, 29, 31, 1, 40, 8, 7, 12, 9, 53, 14, 13, 63, 75, 10, 11, 15, 16, 117, 17, 2, 121, 133, 148, 18, 19, 169, 170, 20, 21, 186, 189, 23, 208, 25, 222, 22, 24, 27, 26, 6] = some ic4 := by kernel_rfl
theorem ig4 : cmpRes Go.Proofs.Tryd.prog Go.Proofs.Tryd.f4.results.toList = some ir4 := by kernel_rfl


/-- pedigree/pedigreeref04.CheckExpr -/
def ic27 : IC :=
 (.seq
 (.region [1] [] [0, 1, 2] [
 ⟨(some 1), (.box 47 (.t 0)), none, none⟩,
 ⟨(some 2), (.move (.k (rI .i64 0))), none, none⟩])
 (.seq
 (.region [] [] [0, 1, 2] [
 ⟨(some 3), (.load (some 6) (.t 1)), none, none⟩,
 ⟨(some 4), (.callp (.k (rF 97)) [(.t 3), (.k (rI .i64 8))]), none, none⟩,
 ⟨(some 5), (.callp (.k (rF 90)) [(.t 4)]), none, none⟩,
 ⟨(some 2), (.move (.t 5)), none, none⟩])
 .ret))
def ir27 : List IRes := [.tmp 2]
theorem ie27 : cmpFunc Go.Proofs.Tryd.prog ⟨[], []⟩ Go.Proofs.Tryd.f27 [0, 1, 2] = some ic27 := by kernel_rfl
theorem ig27 : cmpRes Go.Proofs.Tryd.prog Go.Proofs.Tryd.f27.results.toList = some ir27 := by kernel_rfl

end Go.Proofs.YtiomojlcnemnhaaDoor

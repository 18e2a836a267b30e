/- Functions of the seat, as the small language has them. -/
import Derived.Test.YtiomojlcnemnhaaDoorKFxWb
import Derived.Test.YtiomojlcnemnhaaDoorProg
import Derived.KernelRfl
namespace Go.Proofs.YtiomojlcnemnhaaDoor
open Go.Fx
def ic10l0 : IC :=
 (.seq
 (.seq
 (.region [] [] [0, 1, 17, 2, 3, 6, 8, 32, 40, 10, 57, 59, 5, 11, 12, 114, 13, 119, 150, 14, 154, 179, 15, 183, 215, 4] [
 ⟨(some 115), (.move (.t 13)), none, none⟩,
 ⟨(some 116), (.faddr 1 (.t 11)), none, none⟩,
 ⟨(some 117), (.load none (.t 116)), none, none⟩,
 ⟨(some 118), (.len (.t 117)), none, none⟩,
 ⟨(some 119), (.bin .lss (.t 115) (.t 118)), none, none⟩])
 (.cond (.t 119)
 .skip
 (.exit 0)))
 (.seq
 (.block 1
 (.seq
 (.region [] [] [0, 1, 17, 2, 3, 6, 8, 32, 40, 10, 57, 59, 5, 11, 12, 114, 13, 119, 150, 14, 154, 179, 15, 183, 215, 4] [
 ⟨(some 122), (.faddr 1 (.t 2)), none, none⟩,
 ⟨(some 123), (.load none (.t 122)), none, none⟩,
 ⟨(some 124), (.move (.t 13)), none, none⟩,
 ⟨(some 125), (.iaddr 4 (.t 123) (.t 124)), none, none⟩,
 ⟨(some 126), (.faddr 0 (.t 125)), none, none⟩,
 ⟨(some 127), (.load none (.t 126)), none, none⟩,
 ⟨(some 128), (.bin .neq (.t 127) (.k (rS (bs [95])))), none, none⟩,
 ⟨(some 129), (.move (.t 128)), none, none⟩,
 ⟨(some 130), (.faddr 1 (.t 3)), some (129, true), none⟩,
 ⟨(some 131), (.load none (.t 130)), some (129, true), none⟩,
 ⟨(some 132), (.move (.t 13)), some (129, true), none⟩,
 ⟨(some 133), (.iaddr 4 (.t 131) (.t 132)), some (129, true), none⟩,
 ⟨(some 134), (.faddr 0 (.t 133)), some (129, true), none⟩,
 ⟨(some 135), (.load none (.t 134)), some (129, true), none⟩,
 ⟨(some 136), (.bin .neq (.t 135) (.k (rS (bs [95])))), some (129, true), none⟩,
 ⟨(some 137), (.pick (.t 129) (.t 136) (.k (rB false))), none, none⟩,
 ⟨(some 138), (.move (.t 137)), none, none⟩,
 ⟨(some 139), (.faddr 1 (.t 11)), some (138, true), none⟩,
 ⟨(some 140), (.load none (.t 139)), some (138, true), none⟩,
 ⟨(some 141), (.move (.t 13)), some (138, true), none⟩,
 ⟨(some 142), (.iaddr 4 (.t 140) (.t 141)), some (138, true), none⟩,
 ⟨(some 143), (.load (some 4) (.t 142)), some (138, true), none⟩,
 ⟨(some 144), (.faddr 1 (.t 12)), some (138, true), none⟩,
 ⟨(some 145), (.load none (.t 144)), some (138, true), none⟩,
 ⟨(some 146), (.move (.t 13)), some (138, true), none⟩,
 ⟨(some 147), (.iaddr 4 (.t 145) (.t 146)), some (138, true), none⟩,
 ⟨(some 148), (.load (some 4) (.t 147)), some (138, true), none⟩,
 ⟨(some 149), (.eqs true [.s, .i .i8, .i .i64, .s] (.t 143) (.t 148)), some (138, true), none⟩,
 ⟨(some 150), (.pick (.t 138) (.t 149) (.k (rB false))), none, none⟩])
 (.cond (.t 150)
 (.seq
 (.region [] [] [0, 1, 17, 2, 3, 6, 8, 32, 40, 10, 57, 59, 5, 11, 12, 114, 13, 119, 150, 14, 154, 179, 15, 183, 215, 4] [
 ⟨(some 4), (.move (.k (rB false))), none, none⟩])
 .ret)
 .skip)))
 (.region [] [] [0, 1, 17, 2, 3, 6, 8, 32, 40, 10, 57, 59, 5, 11, 12, 114, 13, 119, 150, 14, 154, 179, 15, 183, 215, 4] [
 ⟨(some 120), (.move (.t 13)), none, none⟩,
 ⟨(some 121), (.bin .add (.t 120) (.k (rI .i64 1))), none, none⟩,
 ⟨(some 13), (.move (.t 121)), none, none⟩])))

def ic10l1 : IC :=
 (.seq
 (.seq
 (.region [] [] [0, 1, 17, 2, 3, 6, 8, 32, 40, 10, 57, 59, 5, 11, 12, 114, 13, 119, 150, 14, 154, 179, 15, 183, 215, 4] [
 ⟨(some 180), (.move (.t 15)), none, none⟩,
 ⟨(some 181), (.move (.t 5)), none, none⟩,
 ⟨(some 182), (.len (.t 181)), none, none⟩,
 ⟨(some 183), (.bin .lss (.t 180) (.t 182)), none, none⟩])
 (.cond (.t 183)
 .skip
 (.exit 4)))
 (.seq
 (.block 5
 (.seq
 (.region [] [] [0, 1, 17, 2, 3, 6, 8, 32, 40, 10, 57, 59, 5, 11, 12, 114, 13, 119, 150, 14, 154, 179, 15, 183, 215, 4] [
 ⟨(some 186), (.move (.t 5)), none, none⟩,
 ⟨(some 187), (.move (.t 15)), none, none⟩,
 ⟨(some 188), (.iaddr 5 (.t 186) (.t 187)), none, none⟩,
 ⟨(some 189), (.faddr 1 (.t 188)), none, none⟩,
 ⟨(some 190), (.faddr 0 (.t 189)), none, none⟩,
 ⟨(some 191), (.load none (.t 190)), none, none⟩,
 ⟨(some 192), (.move (.t 5)), none, none⟩,
 ⟨(some 193), (.move (.t 14)), none, none⟩,
 ⟨(some 194), (.iaddr 5 (.t 192) (.t 193)), none, none⟩,
 ⟨(some 195), (.faddr 0 (.t 194)), none, none⟩,
 ⟨(some 196), (.load none (.t 195)), none, none⟩,
 ⟨(some 197), (.bin .eql (.t 191) (.t 196)), none, none⟩,
 ⟨(some 198), (.move (.t 197)), none, none⟩,
 ⟨(some 199), (.move (.t 15)), some (198, false), none⟩,
 ⟨(some 200), (.move (.t 14)), some (198, false), none⟩,
 ⟨(some 201), (.bin .neq (.t 199) (.t 200)), some (198, false), none⟩,
 ⟨(some 202), (.move (.t 201)), some (198, false), none⟩,
 ⟨(some 203), (.move (.t 5)), some (202, true), none⟩,
 ⟨(some 204), (.move (.t 15)), some (202, true), none⟩,
 ⟨(some 205), (.iaddr 5 (.t 203) (.t 204)), some (202, true), none⟩,
 ⟨(some 206), (.faddr 0 (.t 205)), some (202, true), none⟩,
 ⟨(some 207), (.load none (.t 206)), some (202, true), none⟩,
 ⟨(some 208), (.move (.t 5)), some (202, true), none⟩,
 ⟨(some 209), (.move (.t 14)), some (202, true), none⟩,
 ⟨(some 210), (.iaddr 5 (.t 208) (.t 209)), some (202, true), none⟩,
 ⟨(some 211), (.faddr 0 (.t 210)), some (202, true), none⟩,
 ⟨(some 212), (.load none (.t 211)), some (202, true), none⟩,
 ⟨(some 213), (.bin .eql (.t 207) (.t 212)), some (202, true), none⟩,
 ⟨(some 214), (.pick (.t 202) (.t 213) (.k (rB false))), some (198, false), none⟩,
 ⟨(some 215), (.pick (.t 198) (.k (rB true)) (.t 214)), none, none⟩])
 (.cond (.t 215)
 (.seq
 (.region [] [] [0, 1, 17, 2, 3, 6, 8, 32, 40, 10, 57, 59, 5, 11, 12, 114, 13, 119, 150, 14, 154, 179, 15, 183, 215, 4] [
 ⟨(some 4), (.move (.k (rB false))), none, none⟩])
 .ret)
 .skip)))
 (.region [] [] [0, 1, 17, 2, 3, 6, 8, 32, 40, 10, 57, 59, 5, 11, 12, 114, 13, 119, 150, 14, 154, 179, 15, 183, 215, 4] [
 ⟨(some 184), (.move (.t 15)), none, none⟩,
 ⟨(some 185), (.bin .add (.t 184) (.k (rI .i64 1))), none, none⟩,
 ⟨(some 15), (.move (.t 185)), none, none⟩])))

def ic10l2 : IC :=
 (.seq
 (.seq
 (.region [] [] [0, 1, 17, 2, 3, 6, 8, 32, 40, 10, 57, 59, 5, 11, 12, 114, 13, 119, 150, 14, 154, 179, 15, 183, 215, 4] [
 ⟨(some 151), (.move (.t 14)), none, none⟩,
 ⟨(some 152), (.move (.t 5)), none, none⟩,
 ⟨(some 153), (.len (.t 152)), none, none⟩,
 ⟨(some 154), (.bin .lss (.t 151) (.t 153)), none, none⟩])
 (.cond (.t 154)
 .skip
 (.exit 2)))
 (.seq
 (.block 3
 (.seq
 (.seq
 (.region [] [] [0, 1, 17, 2, 3, 6, 8, 32, 40, 10, 57, 59, 5, 11, 12, 114, 13, 119, 150, 14, 154, 179, 15, 183, 215, 4] [
 ⟨(some 157), (.move (.t 5)), none, none⟩,
 ⟨(some 158), (.move (.t 14)), none, none⟩,
 ⟨(some 159), (.iaddr 5 (.t 157) (.t 158)), none, none⟩,
 ⟨(some 160), (.faddr 0 (.t 159)), none, none⟩,
 ⟨(some 161), (.load none (.t 160)), none, none⟩,
 ⟨(some 162), (.bin .eql (.t 161) (.k (rS (bs [])))), none, none⟩,
 ⟨(some 163), (.move (.t 162)), none, none⟩,
 ⟨(some 164), (.move (.t 5)), some (163, false), none⟩,
 ⟨(some 165), (.move (.t 14)), some (163, false), none⟩,
 ⟨(some 166), (.iaddr 5 (.t 164) (.t 165)), some (163, false), none⟩,
 ⟨(some 167), (.faddr 0 (.t 166)), some (163, false), none⟩,
 ⟨(some 168), (.load none (.t 167)), some (163, false), none⟩,
 ⟨(some 169), (.bin .eql (.t 168) (.k (rS (bs [95])))), some (163, false), none⟩,
 ⟨(some 170), (.pick (.t 163) (.k (rB true)) (.t 169)), none, none⟩,
 ⟨(some 171), (.move (.t 170)), none, none⟩,
 ⟨(some 172), (.move (.t 5)), some (171, false), none⟩,
 ⟨(some 173), (.move (.t 14)), some (171, false), none⟩,
 ⟨(some 174), (.iaddr 5 (.t 172) (.t 173)), some (171, false), none⟩,
 ⟨(some 175), (.faddr 1 (.t 174)), some (171, false), none⟩,
 ⟨(some 176), (.faddr 0 (.t 175)), some (171, false), none⟩,
 ⟨(some 177), (.load none (.t 176)), some (171, false), none⟩,
 ⟨(some 178), (.bin .eql (.t 177) (.k (rS (bs [95])))), some (171, false), none⟩,
 ⟨(some 179), (.pick (.t 171) (.k (rB true)) (.t 178)), none, none⟩])
 (.cond (.t 179)
 (.seq
 (.region [] [] [0, 1, 17, 2, 3, 6, 8, 32, 40, 10, 57, 59, 5, 11, 12, 114, 13, 119, 150, 14, 154, 179, 15, 183, 215, 4] [
 ⟨(some 4), (.move (.k (rB false))), none, none⟩])
 .ret)
 .skip))
 (.seq
 (.region [] [] [0, 1, 17, 2, 3, 6, 8, 32, 40, 10, 57, 59, 5, 11, 12, 114, 13, 119, 150, 14, 154, 179, 15, 183, 215, 4] [
 ⟨(some 15), (.move (.k (rI .i64 0))), none, none⟩])
 (.block 4
 (.loop ic10l1)))))
 (.region [] [] [0, 1, 17, 2, 3, 6, 8, 32, 40, 10, 57, 59, 5, 11, 12, 114, 13, 119, 150, 14, 154, 179, 15, 183, 215, 4] [
 ⟨(some 155), (.move (.t 14)), none, none⟩,
 ⟨(some 156), (.bin .add (.t 155) (.k (rI .i64 1))), none, none⟩,
 ⟨(some 14), (.move (.t 156)), none, none⟩])))

/-- pedigree/pedigreelaw04.TermOne -/
def ic10 : IC :=
 (.seq
 (.region [2, 3] [] [0, 1, 17, 2, 3, 6, 8, 32, 40, 10, 57, 59, 5, 11, 12, 114, 13, 119, 150, 14, 154, 179, 15, 183, 215, 4] [
 ⟨(some 2), (.box 24 (.t 0)), none, none⟩,
 ⟨(some 3), (.box 24 (.t 1)), none, none⟩,
 ⟨(some 4), (.move (.k (rB false))), none, none⟩])
 (.seq
 (.seq
 (.region [] [] [0, 1, 17, 2, 3, 6, 8, 32, 40, 10, 57, 59, 5, 11, 12, 114, 13, 119, 150, 14, 154, 179, 15, 183, 215, 4] [
 ⟨(some 16), (.callp (.k (rF 19)) []), none, none⟩,
 ⟨(some 17), (.un .not (.t 16)), none, none⟩])
 (.cond (.t 17)
 (.seq
 (.region [] [] [0, 1, 17, 2, 3, 6, 8, 32, 40, 10, 57, 59, 5, 11, 12, 114, 13, 119, 150, 14, 154, 179, 15, 183, 215, 4] [
 ⟨(some 4), (.move (.k (rB false))), none, none⟩])
 .ret)
 .skip))
 (.seq
 (.region [] [] [0, 1, 17, 2, 3, 6, 8, 32, 40, 10, 57, 59, 5, 11, 12, 114, 13, 119, 150, 14, 154, 179, 15, 183, 215, 4] [
 ⟨(some 19), (.load (some 2) (.t 2)), none, none⟩,
 ⟨(some 20), (.load (some 2) (.t 3)), none, none⟩,
 ⟨(some 21), (.callp (.k (rF 34)) [(.t 19), (.t 20)]), none, none⟩,
 ⟨(some 18), (.move (.t 21)), none, none⟩,
 ⟨(some 22), (.ext (.t 18) 0), none, none⟩,
 ⟨(some 23), (.ext (.t 18) 1), none, none⟩,
 ⟨(some 5), (.move (.t 22)), none, none⟩,
 ⟨(some 6), (.move (.t 23)), none, none⟩])
 (.seq
 (.region [] [] [0, 1, 17, 2, 3, 6, 8, 32, 40, 10, 57, 59, 5, 11, 12, 114, 13, 119, 150, 14, 154, 179, 15, 183, 215, 4] [
 ⟨(some 25), (.load (some 2) (.t 3)), none, none⟩,
 ⟨(some 26), (.load (some 2) (.t 2)), none, none⟩,
 ⟨(some 27), (.callp (.k (rF 34)) [(.t 25), (.t 26)]), none, none⟩,
 ⟨(some 24), (.move (.t 27)), none, none⟩,
 ⟨(some 28), (.ext (.t 24) 0), none, none⟩,
 ⟨(some 29), (.ext (.t 24) 1), none, none⟩,
 ⟨(some 7), (.move (.t 28)), none, none⟩,
 ⟨(some 8), (.move (.t 29)), none, none⟩])
 (.seq
 (.seq
 (.region [] [] [0, 1, 17, 2, 3, 6, 8, 32, 40, 10, 57, 59, 5, 11, 12, 114, 13, 119, 150, 14, 154, 179, 15, 183, 215, 4] [
 ⟨(some 30), (.move (.t 6)), none, none⟩,
 ⟨(some 31), (.move (.t 8)), none, none⟩,
 ⟨(some 32), (.eqb true (.t 30) (.t 31)), none, none⟩])
 (.cond (.t 32)
 (.seq
 (.region [] [] [0, 1, 17, 2, 3, 6, 8, 32, 40, 10, 57, 59, 5, 11, 12, 114, 13, 119, 150, 14, 154, 179, 15, 183, 215, 4] [
 ⟨(some 4), (.move (.k (rB false))), none, none⟩])
 .ret)
 .skip))
 (.seq
 (.seq
 (.region [] [] [0, 1, 17, 2, 3, 6, 8, 32, 40, 10, 57, 59, 5, 11, 12, 114, 13, 119, 150, 14, 154, 179, 15, 183, 215, 4] [
 ⟨(some 33), (.load (some 2) (.t 2)), none, none⟩,
 ⟨(some 34), (.callp (.k (rF 20)) [(.t 33)]), none, none⟩,
 ⟨(some 35), (.bin .neq (.t 34) (.k (rI .i64 0))), none, none⟩,
 ⟨(some 36), (.move (.t 35)), none, none⟩,
 ⟨(some 37), (.load (some 2) (.t 3)), some (36, false), none⟩,
 ⟨(some 38), (.callp (.k (rF 20)) [(.t 37)]), some (36, false), none⟩,
 ⟨(some 39), (.bin .neq (.t 38) (.k (rI .i64 0))), some (36, false), none⟩,
 ⟨(some 40), (.pick (.t 36) (.k (rB true)) (.t 39)), none, none⟩])
 (.cond (.t 40)
 (.seq
 (.region [] [] [0, 1, 17, 2, 3, 6, 8, 32, 40, 10, 57, 59, 5, 11, 12, 114, 13, 119, 150, 14, 154, 179, 15, 183, 215, 4] [
 ⟨(some 41), (.move (.t 6)), none, none⟩,
 ⟨(some 42), (.un .not (.t 41)), none, none⟩,
 ⟨(some 4), (.move (.t 42)), none, none⟩])
 .ret)
 .skip))
 (.seq
 (.seq
 (.region [] [] [0, 1, 17, 2, 3, 6, 8, 32, 40, 10, 57, 59, 5, 11, 12, 114, 13, 119, 150, 14, 154, 179, 15, 183, 215, 4] [
 ⟨(some 44), (.load (some 2) (.t 2)), none, none⟩,
 ⟨(some 45), (.load (some 2) (.t 2)), none, none⟩,
 ⟨(some 46), (.load (some 2) (.t 3)), none, none⟩,
 ⟨(some 47), (.callp (.k (rF 53)) [(.t 44), (.t 45), (.t 46), (.k (rS (bs [65])))]), none, none⟩,
 ⟨(some 48), (.load (some 2) (.t 3)), none, none⟩,
 ⟨(some 49), (.load (some 2) (.t 2)), none, none⟩,
 ⟨(some 50), (.load (some 2) (.t 3)), none, none⟩,
 ⟨(some 51), (.callp (.k (rF 53)) [(.t 48), (.t 49), (.t 50), (.k (rS (bs [66])))]), none, none⟩,
 ⟨(some 52), (.callp (.k (rF 34)) [(.t 47), (.t 51)]), none, none⟩,
 ⟨(some 43), (.move (.t 52)), none, none⟩,
 ⟨(some 53), (.ext (.t 43) 0), none, none⟩,
 ⟨(some 54), (.ext (.t 43) 1), none, none⟩,
 ⟨(some 9), (.move (.t 53)), none, none⟩,
 ⟨(some 10), (.move (.t 54)), none, none⟩])
 (.seq
 (.region [] [] [0, 1, 17, 2, 3, 6, 8, 32, 40, 10, 57, 59, 5, 11, 12, 114, 13, 119, 150, 14, 154, 179, 15, 183, 215, 4] [
 ⟨(some 55), (.move (.t 10)), none, none⟩,
 ⟨(some 56), (.move (.t 6)), none, none⟩,
 ⟨(some 57), (.eqb true (.t 55) (.t 56)), none, none⟩])
 (.cond (.t 57)
 (.seq
 (.region [] [] [0, 1, 17, 2, 3, 6, 8, 32, 40, 10, 57, 59, 5, 11, 12, 114, 13, 119, 150, 14, 154, 179, 15, 183, 215, 4] [
 ⟨(some 4), (.move (.k (rB false))), none, none⟩])
 .ret)
 .skip)))
 (.seq
 (.seq
 (.region [] [] [0, 1, 17, 2, 3, 6, 8, 32, 40, 10, 57, 59, 5, 11, 12, 114, 13, 119, 150, 14, 154, 179, 15, 183, 215, 4] [
 ⟨(some 58), (.move (.t 6)), none, none⟩,
 ⟨(some 59), (.un .not (.t 58)), none, none⟩])
 (.cond (.t 59)
 (.seq
 (.region [] [] [0, 1, 17, 2, 3, 6, 8, 32, 40, 10, 57, 59, 5, 11, 12, 114, 13, 119, 150, 14, 154, 179, 15, 183, 215, 4] [
 ⟨(some 60), (.move (.t 5)), none, none⟩,
 ⟨(some 61), (.len (.t 60)), none, none⟩,
 ⟨(some 62), (.bin .eql (.t 61) (.k (rI .i64 0))), none, none⟩,
 ⟨(some 4), (.move (.t 62)), none, none⟩])
 .ret)
 .skip))
 (.seq
 (.region [11] [] [0, 1, 17, 2, 3, 6, 8, 32, 40, 10, 57, 59, 5, 11, 12, 114, 13, 119, 150, 14, 154, 179, 15, 183, 215, 4] [
 ⟨(some 63), (.move (.t 5)), none, none⟩,
 ⟨(some 64), (.load (some 2) (.t 2)), none, none⟩,
 ⟨(some 65), (.callp (.k (rF 54)) [(.t 63), (.t 64)]), none, none⟩,
 ⟨(some 11), (.zero 24 [(.c (.v (.string (bs [])))), .nil]), none, none⟩,
 ⟨none, (.store (some 2) (.t 11) (.t 65)), none, none⟩])
 (.seq
 (.region [12] [] [0, 1, 17, 2, 3, 6, 8, 32, 40, 10, 57, 59, 5, 11, 12, 114, 13, 119, 150, 14, 154, 179, 15, 183, 215, 4] [
 ⟨(some 66), (.move (.t 5)), none, none⟩,
 ⟨(some 67), (.load (some 2) (.t 3)), none, none⟩,
 ⟨(some 68), (.callp (.k (rF 54)) [(.t 66), (.t 67)]), none, none⟩,
 ⟨(some 12), (.zero 24 [(.c (.v (.string (bs [])))), .nil]), none, none⟩,
 ⟨none, (.store (some 2) (.t 12) (.t 68)), none, none⟩])
 (.seq
 (.seq
 (.region [] [] [0, 1, 17, 2, 3, 6, 8, 32, 40, 10, 57, 59, 5, 11, 12, 114, 13, 119, 150, 14, 154, 179, 15, 183, 215, 4] [
 ⟨(some 69), (.faddr 0 (.t 2)), none, none⟩,
 ⟨(some 70), (.load none (.t 69)), none, none⟩,
 ⟨(some 71), (.faddr 0 (.t 3)), none, none⟩,
 ⟨(some 72), (.load none (.t 71)), none, none⟩,
 ⟨(some 73), (.bin .neq (.t 70) (.t 72)), none, none⟩,
 ⟨(some 74), (.move (.t 73)), none, none⟩,
 ⟨(some 75), (.faddr 0 (.t 11)), some (74, false), none⟩,
 ⟨(some 76), (.load none (.t 75)), some (74, false), none⟩,
 ⟨(some 77), (.faddr 0 (.t 2)), some (74, false), none⟩,
 ⟨(some 78), (.load none (.t 77)), some (74, false), none⟩,
 ⟨(some 79), (.bin .neq (.t 76) (.t 78)), some (74, false), none⟩,
 ⟨(some 80), (.pick (.t 74) (.k (rB true)) (.t 79)), none, none⟩,
 ⟨(some 81), (.move (.t 80)), none, none⟩,
 ⟨(some 82), (.faddr 0 (.t 12)), some (81, false), none⟩,
 ⟨(some 83), (.load none (.t 82)), some (81, false), none⟩,
 ⟨(some 84), (.faddr 0 (.t 2)), some (81, false), none⟩,
 ⟨(some 85), (.load none (.t 84)), some (81, false), none⟩,
 ⟨(some 86), (.bin .neq (.t 83) (.t 85)), some (81, false), none⟩,
 ⟨(some 87), (.pick (.t 81) (.k (rB true)) (.t 86)), none, none⟩,
 ⟨(some 88), (.move (.t 87)), none, none⟩,
 ⟨(some 89), (.faddr 1 (.t 11)), some (88, false), none⟩,
 ⟨(some 90), (.load none (.t 89)), some (88, false), none⟩,
 ⟨(some 91), (.len (.t 90)), some (88, false), none⟩,
 ⟨(some 92), (.faddr 1 (.t 2)), some (88, false), none⟩,
 ⟨(some 93), (.load none (.t 92)), some (88, false), none⟩,
 ⟨(some 94), (.len (.t 93)), some (88, false), none⟩,
 ⟨(some 95), (.bin .neq (.t 91) (.t 94)), some (88, false), none⟩,
 ⟨(some 96), (.pick (.t 88) (.k (rB true)) (.t 95)), none, none⟩,
 ⟨(some 97), (.move (.t 96)), none, none⟩,
 ⟨(some 98), (.faddr 1 (.t 12)), some (97, false), none⟩,
 ⟨(some 99), (.load none (.t 98)), some (97, false), none⟩,
 ⟨(some 100), (.len (.t 99)), some (97, false), none⟩,
 ⟨(some 101), (.faddr 1 (.t 3)), some (97, false), none⟩,
 ⟨(some 102), (.load none (.t 101)), some (97, false), none⟩,
 ⟨(some 103), (.len (.t 102)), some (97, false), none⟩,
 ⟨(some 104), (.bin .neq (.t 100) (.t 103)), some (97, false), none⟩,
 ⟨(some 105), (.pick (.t 97) (.k (rB true)) (.t 104)), none, none⟩,
 ⟨(some 106), (.move (.t 105)), none, none⟩,
 ⟨(some 107), (.faddr 1 (.t 11)), some (106, false), none⟩,
 ⟨(some 108), (.load none (.t 107)), some (106, false), none⟩,
 ⟨(some 109), (.len (.t 108)), some (106, false), none⟩,
 ⟨(some 110), (.faddr 1 (.t 12)), some (106, false), none⟩,
 ⟨(some 111), (.load none (.t 110)), some (106, false), none⟩,
 ⟨(some 112), (.len (.t 111)), some (106, false), none⟩,
 ⟨(some 113), (.bin .neq (.t 109) (.t 112)), some (106, false), none⟩,
 ⟨(some 114), (.pick (.t 106) (.k (rB true)) (.t 113)), none, none⟩])
 (.cond (.t 114)
 (.seq
 (.region [] [] [0, 1, 17, 2, 3, 6, 8, 32, 40, 10, 57, 59, 5, 11, 12, 114, 13, 119, 150, 14, 154, 179, 15, 183, 215, 4] [
 ⟨(some 4), (.move (.k (rB false))), none, none⟩])
 .ret)
 .skip))
 (.seq
 (.seq
 (.region [] [] [0, 1, 17, 2, 3, 6, 8, 32, 40, 10, 57, 59, 5, 11, 12, 114, 13, 119, 150, 14, 154, 179, 15, 183, 215, 4] [
 ⟨(some 13), (.move (.k (rI .i64 0))), none, none⟩])
 (.block 0
 (.loop ic10l0)))
 (.seq
 (.seq
 (.region [] [] [0, 1, 17, 2, 3, 6, 8, 32, 40, 10, 57, 59, 5, 11, 12, 114, 13, 119, 150, 14, 154, 179, 15, 183, 215, 4] [
 ⟨(some 14), (.move (.k (rI .i64 0))), none, none⟩])
 (.block 2
 (.loop ic10l2)))
 (.seq
 (.region [] [] [0, 1, 17, 2, 3, 6, 8, 32, 40, 10, 57, 59, 5, 11, 12, 114, 13, 119, 150, 14, 154, 179, 15, 183, 215, 4] [
 ⟨(some 216), (.move (.t 5)), none, none⟩,
 ⟨(some 217), (.load (some 2) (.t 11)), none, none⟩,
 ⟨(some 218), (.callp (.k (rF 54)) [(.t 216), (.t 217)]), none, none⟩,
 ⟨(some 219), (.load (some 2) (.t 11)), none, none⟩,
 ⟨(some 220), (.callp (.k (rF 55)) [(.t 218), (.t 219)]), none, none⟩,
 ⟨(some 221), (.move (.t 220)), none, none⟩,
 ⟨(some 222), (.move (.t 5)), some (221, true), none⟩,
 ⟨(some 223), (.load (some 2) (.t 12)), some (221, true), none⟩,
 ⟨(some 224), (.callp (.k (rF 54)) [(.t 222), (.t 223)]), some (221, true), none⟩,
 ⟨(some 225), (.load (some 2) (.t 12)), some (221, true), none⟩,
 ⟨(some 226), (.callp (.k (rF 55)) [(.t 224), (.t 225)]), some (221, true), none⟩,
 ⟨(some 227), (.pick (.t 221) (.t 226) (.k (rB false))), none, none⟩,
 ⟨(some 4), (.move (.t 227)), none, none⟩])
 .ret))))))))))))))
def ir10 : List IRes := [.tmp 4]
theorem ie10 : cmpFunc Go.Proofs.Tryd.prog ⟨[], []⟩ Go.Proofs.Tryd.f10 [0, 1, 17, 2, 3, 6, 8, 32, 40, 10, 57, 59, 5, 11, 12, 114, 13, 119, 150, 14, 154, 179, 15, 183, 215, 4] = some ic10 := by kernel_rfl
theorem ig10 : cmpRes Go.Proofs.Tryd.prog Go.Proofs.Tryd.f10.results.toList = some ir10 := by kernel_rfl

def ic53l0 : IC :=
 (.seq
 (.seq
 (.region [] [] [0, 1, 2, 4, 3, 11, 21, 12, 31, 10, 5, 6, 43, 9, 8] [
 ⟨(some 34), (.move (.t 10)), none, none⟩,
 ⟨(some 35), (.load (some 2) (.t 5)), none, none⟩,
 ⟨(some 36), (.callp (.k (rF 47)) [(.t 35)]), none, none⟩,
 ⟨(some 37), (.callp (.k (rF 30)) [(.t 34), (.t 36)]), none, none⟩,
 ⟨(some 38), (.move (.t 37)), none, none⟩,
 ⟨(some 39), (.move (.t 10)), some (38, false), none⟩,
 ⟨(some 40), (.load (some 2) (.t 6)), some (38, false), none⟩,
 ⟨(some 41), (.callp (.k (rF 47)) [(.t 40)]), some (38, false), none⟩,
 ⟨(some 42), (.callp (.k (rF 30)) [(.t 39), (.t 41)]), some (38, false), none⟩,
 ⟨(some 43), (.pick (.t 38) (.k (rB true)) (.t 42)), none, none⟩])
 (.cond (.t 43)
 .skip
 (.exit 2)))
 (.block 3
 (.region [] [] [0, 1, 2, 4, 3, 11, 21, 12, 31, 10, 5, 6, 43, 9, 8] [
 ⟨(some 44), (.move (.t 10)), none, none⟩,
 ⟨(some 45), (.bin .add (.t 44) (.k (rS (bs [95])))), none, none⟩,
 ⟨(some 10), (.move (.t 45)), none, none⟩])))

def ic53l1 : IC :=
 (.seq
 (.seq
 (.region [] [] [0, 1, 2, 4, 3, 11, 21, 12, 31, 10, 5, 6, 43, 9, 8] [
 ⟨(some 17), (.move (.t 11)), none, none⟩,
 ⟨(some 18), (.faddr 1 (.t 4)), none, none⟩,
 ⟨(some 19), (.load none (.t 18)), none, none⟩,
 ⟨(some 20), (.len (.t 19)), none, none⟩,
 ⟨(some 21), (.bin .lss (.t 17) (.t 20)), none, none⟩])
 (.cond (.t 21)
 .skip
 (.exit 0)))
 (.seq
 (.block 1
 (.seq
 (.region [12] [] [0, 1, 2, 4, 3, 11, 21, 12, 31, 10, 5, 6, 43, 9, 8] [
 ⟨(some 24), (.faddr 1 (.t 4)), none, none⟩,
 ⟨(some 25), (.load none (.t 24)), none, none⟩,
 ⟨(some 26), (.move (.t 11)), none, none⟩,
 ⟨(some 27), (.iaddr 4 (.t 25) (.t 26)), none, none⟩,
 ⟨(some 28), (.load (some 4) (.t 27)), none, none⟩,
 ⟨(some 12), (.zero 41 [(.c (.v (.string (bs [])))), (.c (.v (.int .i8 0))), (.c (.v (.int .i64 0))), (.c (.v (.string (bs []))))]), none, none⟩,
 ⟨none, (.store (some 4) (.t 12) (.t 28)), none, none⟩])
 (.seq
 (.seq
 (.region [] [] [0, 1, 2, 4, 3, 11, 21, 12, 31, 10, 5, 6, 43, 9, 8] [
 ⟨(some 29), (.faddr 0 (.t 12)), none, none⟩,
 ⟨(some 30), (.load none (.t 29)), none, none⟩,
 ⟨(some 31), (.bin .eql (.t 30) (.k (rS (bs [95])))), none, none⟩])
 (.cond (.t 31)
 (.seq
 (.region [] [] [0, 1, 2, 4, 3, 11, 21, 12, 31, 10, 5, 6, 43, 9, 8] [
 ⟨(some 32), (.move (.t 10)), none, none⟩,
 ⟨(some 33), (.bin .add (.t 32) (.k (rS (bs [95])))), none, none⟩,
 ⟨(some 10), (.move (.t 33)), none, none⟩])
 (.seq
 (.block 2
 (.loop ic53l0))
 (.region [] [] [0, 1, 2, 4, 3, 11, 21, 12, 31, 10, 5, 6, 43, 9, 8] [
 ⟨(some 46), (.move (.t 10)), none, none⟩,
 ⟨(some 47), (.callp (.k (rF 87)) [(.t 46)]), none, none⟩,
 ⟨none, (.store (some 4) (.t 12) (.t 47)), none, none⟩])))
 .skip))
 (.region [51] [] [0, 1, 2, 4, 3, 11, 21, 12, 31, 10, 5, 6, 43, 9, 8] [
 ⟨(some 48), (.faddr 1 (.t 9)), none, none⟩,
 ⟨(some 49), (.load none (.t 48)), none, none⟩,
 ⟨(some 50), (.load (some 4) (.t 12)), none, none⟩,
 ⟨(some 51), (.row 41 4 [(.t 50)]), none, none⟩,
 ⟨(some 52), (.app 41 4 48 (.t 49) (.t 51)), none, none⟩,
 ⟨(some 53), (.faddr 1 (.t 9)), none, none⟩,
 ⟨none, (.store (some 1) (.t 53) (.t 52)), none, none⟩]))))
 (.region [] [] [0, 1, 2, 4, 3, 11, 21, 12, 31, 10, 5, 6, 43, 9, 8] [
 ⟨(some 22), (.move (.t 11)), none, none⟩,
 ⟨(some 23), (.bin .add (.t 22) (.k (rI .i64 1))), none, none⟩,
 ⟨(some 11), (.move (.t 23)), none, none⟩])))

/-- pedigree/pedigreelaw04.mute -/
def ic53 : IC :=
 (.seq
 (.region [4, 5, 6, 8] [] [0, 1, 2, 4, 3, 11, 21, 12, 31, 10, 5, 6, 43, 9, 8] [
 ⟨(some 4), (.box 24 (.t 0)), none, none⟩,
 ⟨(some 5), (.box 24 (.t 1)), none, none⟩,
 ⟨(some 6), (.box 24 (.t 2)), none, none⟩,
 ⟨(some 8), (.zero 24 [(.c (.v (.string (bs [])))), .nil]), none, none⟩])
 (.seq
 (.region [9] [] [0, 1, 2, 4, 3, 11, 21, 12, 31, 10, 5, 6, 43, 9, 8] [
 ⟨(some 13), (.faddr 0 (.t 4)), none, none⟩,
 ⟨(some 14), (.load none (.t 13)), none, none⟩,
 ⟨(some 15), (.build [(.c (.v (.string (bs [])))), .nil] [(0, 1, (.t 14))]), none, none⟩,
 ⟨(some 9), (.zero 24 [(.c (.v (.string (bs [])))), .nil]), none, none⟩,
 ⟨none, (.store (some 2) (.t 9) (.t 15)), none, none⟩])
 (.seq
 (.region [] [] [0, 1, 2, 4, 3, 11, 21, 12, 31, 10, 5, 6, 43, 9, 8] [
 ⟨(some 16), (.move (.t 3)), none, none⟩,
 ⟨(some 10), (.move (.t 16)), none, none⟩])
 (.seq
 (.seq
 (.region [] [] [0, 1, 2, 4, 3, 11, 21, 12, 31, 10, 5, 6, 43, 9, 8] [
 ⟨(some 11), (.move (.k (rI .i64 0))), none, none⟩])
 (.block 0
 (.loop ic53l1)))
 (.seq
 (.region [] [] [0, 1, 2, 4, 3, 11, 21, 12, 31, 10, 5, 6, 43, 9, 8] [
 ⟨(some 54), (.load (some 2) (.t 9)), none, none⟩,
 ⟨none, (.store (some 2) (.t 8) (.t 54)), none, none⟩])
 .ret)))))
def ir53 : List IRes := [.cell 8 (some 2)]
theorem ie53 : cmpFunc Go.Proofs.Tryd.prog ⟨[], []⟩ Go.Proofs.Tryd.f53 [0, 1, 2, 4, 3, 11, 21, 12, 31, 10, 5, 6, 43, 9, 8] = some ic53 := by kernel_rfl
theorem ig53 : cmpRes Go.Proofs.Tryd.prog Go.Proofs.Tryd.f53.results.toList = some ir53 := by kernel_rfl


/-- pedigree/term.Apply -/
def ic54 : IC :=
 (.seq
 (.region [3, 4] [] [1, 3, 0, 4] [
 ⟨(some 3), (.box 24 (.t 1)), none, none⟩,
 ⟨(some 4), (.zero 24 [(.c (.v (.string (bs [])))), .nil]), none, none⟩])
 (.seq
 (.region [] [] [1, 3, 0, 4] [
 ⟨(some 5), (.faddr 1 (.t 3)), none, none⟩,
 ⟨(some 6), (.load none (.t 5)), none, none⟩,
 ⟨(some 7), (.call (.k (rF 125)) [(.t 6)]), none, none⟩,
 ⟨(some 8), (.faddr 1 (.t 3)), none, none⟩,
 ⟨none, (.store (some 1) (.t 8) (.t 7)), none, none⟩])
 (.seq
 (.region [] [] [1, 3, 0, 4] [
 ⟨(some 9), (.mki 169 (.t 3)), none, none⟩,
 ⟨(some 10), (.move (.t 0)), none, none⟩,
 ⟨(some 11), (.call (.k (rF 127)) [(.t 10)]), none, none⟩,
 ⟨(some 12), (.clo 128 [(.t 11)] []), none, none⟩,
 ⟨(some 13), (.call (.k (rF 126)) [(.t 9), (.t 12)]), none, none⟩])
 (.seq
 (.region [] [] [1, 3, 0, 4] [
 ⟨(some 14), (.load (some 2) (.t 3)), none, none⟩,
 ⟨none, (.store (some 2) (.t 4) (.t 14)), none, none⟩])
 .ret))))
def ir54 : List IRes := [.cell 4 (some 2)]
theorem ie54 : cmpFunc Go.Proofs.Tryd.prog ⟨[(7, none), (11, none), (13, none)], []⟩ Go.Proofs.Tryd.f54 [1, 3, 0, 4] = some ic54 := by kernel_rfl
theorem ig54 : cmpRes Go.Proofs.Tryd.prog Go.Proofs.Tryd.f54.results.toList = some ir54 := by kernel_rfl

def ic127l0 : IC :=
 (.seq
 (.region [] [] [0, 11, 10, 12, 9, 3, 5, 7, 33, 2] [
 ⟨(some 12), (.bin .lss (.t 11) (.t 10)), none, none⟩])
 (.seq
 (.cond (.t 12)
 .skip
 (.exit 0))
 (.seq
 (.block 1
 (.seq
 (.region [5] [] [0, 11, 10, 12, 9, 3, 5, 7, 33, 2] [
 ⟨(some 13), (.iaddr 5 (.t 9) (.t 11)), none, none⟩,
 ⟨(some 14), (.load (some 5) (.t 13)), none, none⟩,
 ⟨(some 5), (.zero 65 [(.c (.v (.string (bs [])))), (.c (.v (.string (bs [])))), (.c (.v (.int .i8 0))), (.c (.v (.int .i64 0))), (.c (.v (.string (bs []))))]), none, none⟩,
 ⟨none, (.store (some 5) (.t 5) (.t 14)), none, none⟩])
 (.seq
 (.region [6] [] [0, 11, 10, 12, 9, 3, 5, 7, 33, 2] [
 ⟨(some 16), (.move (.t 3)), none, none⟩,
 ⟨(some 17), (.faddr 0 (.t 5)), none, none⟩,
 ⟨(some 18), (.load none (.t 17)), none, none⟩,
 ⟨(some 19), (.mlook .string false true [(.c (.v (.string (bs [])))), (.c (.v (.int .i8 0))), (.c (.v (.int .i64 0))), (.c (.v (.string (bs []))))] (.t 16) (.t 18)), none, none⟩,
 ⟨(some 15), (.move (.t 19)), none, none⟩,
 ⟨(some 20), (.ext (.t 15) 0), none, none⟩,
 ⟨(some 21), (.ext (.t 15) 1), none, none⟩,
 ⟨(some 6), (.zero 41 [(.c (.v (.string (bs [])))), (.c (.v (.int .i8 0))), (.c (.v (.int .i64 0))), (.c (.v (.string (bs []))))]), none, none⟩,
 ⟨none, (.store (some 4) (.t 6) (.t 20)), none, none⟩,
 ⟨(some 7), (.move (.t 21)), none, none⟩])
 (.seq
 (.region [] [] [0, 11, 10, 12, 9, 3, 5, 7, 33, 2] [
 ⟨(some 22), (.move (.t 7)), none, none⟩,
 ⟨(some 23), (.un .not (.t 22)), none, none⟩,
 ⟨(some 24), (.move (.t 23)), none, none⟩,
 ⟨(some 25), (.faddr 0 (.t 5)), some (24, true), none⟩,
 ⟨(some 26), (.load none (.t 25)), some (24, true), none⟩,
 ⟨(some 27), (.bin .neq (.t 26) (.k (rS (bs [])))), some (24, true), none⟩,
 ⟨(some 28), (.pick (.t 24) (.t 27) (.k (rB false))), none, none⟩,
 ⟨(some 29), (.move (.t 28)), none, none⟩,
 ⟨(some 30), (.faddr 0 (.t 5)), some (29, true), none⟩,
 ⟨(some 31), (.load none (.t 30)), some (29, true), none⟩,
 ⟨(some 32), (.bin .neq (.t 31) (.k (rS (bs [95])))), some (29, true), none⟩,
 ⟨(some 33), (.pick (.t 29) (.t 32) (.k (rB false))), none, none⟩])
 (.cond (.t 33)
 (.region [] [] [0, 11, 10, 12, 9, 3, 5, 7, 33, 2] [
 ⟨(some 34), (.move (.t 3)), none, none⟩,
 ⟨(some 35), (.faddr 0 (.t 5)), none, none⟩,
 ⟨(some 36), (.load none (.t 35)), none, none⟩,
 ⟨(some 37), (.faddr 1 (.t 5)), none, none⟩,
 ⟨(some 38), (.load (some 4) (.t 37)), none, none⟩,
 ⟨none, (.mapup .string false (.t 34) (.t 36) (.t 38)), none, none⟩])
 .skip)))))
 (.region [] [] [0, 11, 10, 12, 9, 3, 5, 7, 33, 2] [
 ⟨(some 39), (.bin .add (.t 11) (.k (rI .i64 1))), none, none⟩,
 ⟨(some 11), (.move (.t 39)), none, none⟩]))))

/-- pedigree/term.pairs -/
def ic127 : IC :=
 (.seq
 (.region [] [] [0, 11, 10, 12, 9, 3, 5, 7, 33, 2] [
 ⟨(some 2), (.move (.k (.x (.one (.c (.v (.map none))))))), none, none⟩])
 (.seq
 (.region [8] [] [0, 11, 10, 12, 9, 3, 5, 7, 33, 2] [
 ⟨(some 8), (.mkmap .string 5 false), none, none⟩,
 ⟨(some 3), (.move (.t 8)), none, none⟩])
 (.seq
 (.seq
 (.region [] [] [0, 11, 10, 12, 9, 3, 5, 7, 33, 2] [
 ⟨(some 9), (.move (.t 0)), none, none⟩,
 ⟨(some 10), (.len (.t 9)), none, none⟩,
 ⟨(some 11), (.move (.k (rI .i64 0))), none, none⟩])
 (.block 0
 (.loop ic127l0)))
 (.seq
 (.region [] [] [0, 11, 10, 12, 9, 3, 5, 7, 33, 2] [
 ⟨(some 40), (.move (.t 3)), none, none⟩,
 ⟨(some 2), (.move (.t 40)), none, none⟩])
 .ret))))
def ir127 : List IRes := [.tmp 2]
theorem ie127 : cmpFunc Go.Proofs.Tryd.prog ⟨[], []⟩ Go.Proofs.Tryd.f127 [0, 11, 10, 12, 9, 3, 5, 7, 33, 2] = some ic127 := by kernel_rfl
theorem ig127 : cmpRes Go.Proofs.Tryd.prog Go.Proofs.Tryd.f127.results.toList = some ir127 := by kernel_rfl


/-- (pedigree/term.swap).put -/
def ic128 : IC :=
 (.seq
 (.region [4] [] [0, 1, 5, 15, 4] [
 ⟨(some 7), (.move (.t 0)), none, none⟩,
 ⟨(some 8), (.move (.t 1)), none, none⟩,
 ⟨(some 9), (.nilchk (.t 8)), none, none⟩,
 ⟨(some 10), (.faddr 0 (.t 9)), none, none⟩,
 ⟨(some 11), (.load none (.t 10)), none, none⟩,
 ⟨(some 12), (.mlook .string false true [(.c (.v (.string (bs [])))), (.c (.v (.int .i8 0))), (.c (.v (.int .i64 0))), (.c (.v (.string (bs []))))] (.t 7) (.t 11)), none, none⟩,
 ⟨(some 6), (.move (.t 12)), none, none⟩,
 ⟨(some 13), (.ext (.t 6) 0), none, none⟩,
 ⟨(some 14), (.ext (.t 6) 1), none, none⟩,
 ⟨(some 4), (.zero 41 [(.c (.v (.string (bs [])))), (.c (.v (.int .i8 0))), (.c (.v (.int .i64 0))), (.c (.v (.string (bs []))))]), none, none⟩,
 ⟨none, (.store (some 4) (.t 4) (.t 13)), none, none⟩,
 ⟨(some 5), (.move (.t 14)), none, none⟩])
 (.seq
 (.region [] [] [0, 1, 5, 15, 4] [
 ⟨(some 15), (.move (.t 5)), none, none⟩])
 (.cond (.t 15)
 (.region [] [] [0, 1, 5, 15, 4] [
 ⟨(some 16), (.move (.t 1)), none, none⟩,
 ⟨(some 17), (.load (some 4) (.t 4)), none, none⟩,
 ⟨(some 18), (.nilchk (.t 16)), none, none⟩,
 ⟨none, (.store (some 4) (.t 18) (.t 17)), none, none⟩])
 .skip)))
def ir128 : List IRes := []
theorem ie128 : cmpFunc Go.Proofs.Tryd.prog ⟨[], []⟩ Go.Proofs.Tryd.f128 [0, 1, 5, 15, 4] = some ic128 := by kernel_rfl
theorem ig128 : cmpRes Go.Proofs.Tryd.prog Go.Proofs.Tryd.f128.results.toList = some ir128 := by kernel_rfl

end Go.Proofs.YtiomojlcnemnhaaDoor

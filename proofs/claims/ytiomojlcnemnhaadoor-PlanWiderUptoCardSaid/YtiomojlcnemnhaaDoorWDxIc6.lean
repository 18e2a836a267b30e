import Derived.Test.YtiomojlcnemnhaaDoorWFxZ
import Derived.Test.YtiomojlcnemnhaaDoorProg
import Derived.KernelRfl
namespace Go.Proofs.YtiomojlcnemnhaaDoor
open Go.Fx
def ic78l0 : IC :=
 (.seq
 (.region [] [] [0, 2, 1, 15, 29, 28, 30, 27, 8, 6, 52, 5, 10, 9, 83, 4] [⟨some 30, (.bin .lss (.t 29) (.t 28)), none, none⟩])
 (.seq
 (.cond (.t 30)
 .skip
 (.exit 0))
 (.seq
 (.block 1
 (.seq
 (.region [8] [] [0, 2, 1, 15, 29, 28, 30, 27, 8, 6, 52, 5, 10, 9, 83, 4] [⟨some 31, (.iaddr 4 (.t 27) (.t 29)), none, none⟩,⟨some 32, (.load (some 4) (.t 31)), none, none⟩,⟨some 8, (.zero 121 [(.c (.v (.int .i8 0))), (.c (.v (.int .i64 0))), (.c (.v (.int .u32 0))), .nil]), none, none⟩,⟨none, (.store (some 4) (.t 8) (.t 32)), none, none⟩])
 (.seq
 (.seq
 (.region [] [] [0, 2, 1, 15, 29, 28, 30, 27, 8, 6, 52, 5, 10, 9, 83, 4] [⟨some 33, (.faddr 1 (.t 8)), none, none⟩,⟨some 34, (.load none (.t 33)), none, none⟩,⟨some 35, (.bin .lss (.t 34) (.k (rI .i64 0))), none, none⟩,⟨some 36, (.move (.t 35)), none, none⟩,⟨some 37, (.faddr 1 (.t 8)), some (36, false), none⟩,⟨some 38, (.load none (.t 37)), some (36, false), none⟩,⟨some 39, (.faddr 0 (.t 2)), some (36, false), none⟩,⟨some 40, (.faddr 2 (.t 39)), some (36, false), none⟩,⟨some 41, (.load none (.t 40)), some (36, false), none⟩,⟨some 42, (.len (.t 41)), some (36, false), none⟩,⟨some 43, (.bin .geq (.t 38) (.t 42)), some (36, false), none⟩,⟨some 44, (.pick (.t 36) (.k (rB true)) (.t 43)), none, none⟩,⟨some 45, (.move (.t 44)), none, none⟩,⟨some 46, (.move (.t 6)), some (45, false), none⟩,⟨some 47, (.faddr 1 (.t 8)), some (45, false), none⟩,⟨some 48, (.load none (.t 47)), some (45, false), none⟩,⟨some 49, (.bin .shl (.k (rI .u32 1)) (.t 48)), some (45, false), none⟩,⟨some 50, (.bin .and (.t 46) (.t 49)), some (45, false), none⟩,⟨some 51, (.bin .eql (.t 50) (.k (rI .u32 0))), some (45, false), none⟩,⟨some 52, (.pick (.t 45) (.k (rB true)) (.t 51)), none, none⟩])
 (.cond (.t 52)
 (.seq
 (.region [] [] [0, 2, 1, 15, 29, 28, 30, 27, 8, 6, 52, 5, 10, 9, 83, 4] [⟨some 4, (.move (.k (rB false))), none, none⟩])
 .ret)
 .skip))
 (.seq
 (.region [9] [] [0, 2, 1, 15, 29, 28, 30, 27, 8, 6, 52, 5, 10, 9, 83, 4] [⟨some 54, (.move (.t 5)), none, none⟩,⟨some 55, (.faddr 1 (.t 8)), none, none⟩,⟨some 56, (.load none (.t 55)), none, none⟩,⟨some 57, (.call (.k (rF 149)) [(.t 54), (.t 56)]), none, none⟩,⟨some 53, (.move (.t 57)), none, none⟩,⟨some 58, (.ext (.t 53) 0), none, none⟩,⟨some 59, (.ext (.t 53) 1), none, none⟩,⟨some 9, (.zero 121 [(.c (.v (.int .i8 0))), (.c (.v (.int .i64 0))), (.c (.v (.int .u32 0))), .nil]), none, none⟩,⟨none, (.store (some 4) (.t 9) (.t 58)), none, none⟩,⟨some 10, (.move (.t 59)), none, none⟩])
 (.seq
 (.seq
 (.region [] [] [0, 2, 1, 15, 29, 28, 30, 27, 8, 6, 52, 5, 10, 9, 83, 4] [⟨some 60, (.move (.t 10)), none, none⟩,⟨some 61, (.un .not (.t 60)), none, none⟩,⟨some 62, (.move (.t 61)), none, none⟩,⟨some 63, (.faddr 0 (.t 8)), some (62, false), none⟩,⟨some 64, (.load none (.t 63)), some (62, false), none⟩,⟨some 65, (.faddr 0 (.t 9)), some (62, false), none⟩,⟨some 66, (.load none (.t 65)), some (62, false), none⟩,⟨some 67, (.bin .neq (.t 64) (.t 66)), some (62, false), none⟩,⟨some 68, (.pick (.t 62) (.k (rB true)) (.t 67)), none, none⟩,⟨some 69, (.move (.t 68)), none, none⟩,⟨some 70, (.faddr 2 (.t 8)), some (69, false), none⟩,⟨some 71, (.load none (.t 70)), some (69, false), none⟩,⟨some 72, (.faddr 2 (.t 9)), some (69, false), none⟩,⟨some 73, (.load none (.t 72)), some (69, false), none⟩,⟨some 74, (.bin .neq (.t 71) (.t 73)), some (69, false), none⟩,⟨some 75, (.pick (.t 69) (.k (rB true)) (.t 74)), none, none⟩,⟨some 76, (.move (.t 75)), none, none⟩,⟨some 77, (.faddr 3 (.t 8)), some (76, false), none⟩,⟨some 78, (.load none (.t 77)), some (76, false), none⟩,⟨some 79, (.faddr 3 (.t 9)), some (76, false), none⟩,⟨some 80, (.load none (.t 79)), some (76, false), none⟩,⟨some 81, (.callp (.k (rF 150)) [(.t 78), (.t 80)]), some (76, false), none⟩,⟨some 82, (.un .not (.t 81)), some (76, false), none⟩,⟨some 83, (.pick (.t 76) (.k (rB true)) (.t 82)), none, none⟩])
 (.cond (.t 83)
 (.seq
 (.region [] [] [0, 2, 1, 15, 29, 28, 30, 27, 8, 6, 52, 5, 10, 9, 83, 4] [⟨some 4, (.move (.k (rB false))), none, none⟩])
 .ret)
 .skip))
 (.seq
 (.region [] [] [0, 2, 1, 15, 29, 28, 30, 27, 8, 6, 52, 5, 10, 9, 83, 4] [⟨some 84, (.move (.t 5)), none, none⟩,⟨some 85, (.faddr 3 (.t 9)), none, none⟩,⟨some 86, (.load none (.t 85)), none, none⟩,⟨some 87, (.call (.k (rF 151)) [(.t 84), (.t 86)]), none, none⟩])
 (.region [] [] [0, 2, 1, 15, 29, 28, 30, 27, 8, 6, 52, 5, 10, 9, 83, 4] [⟨some 88, (.move (.t 6)), none, none⟩,⟨some 89, (.faddr 1 (.t 8)), none, none⟩,⟨some 90, (.load none (.t 89)), none, none⟩,⟨some 91, (.bin .shl (.k (rI .u32 1)) (.t 90)), none, none⟩,⟨some 92, (.bin .andNot (.t 88) (.t 91)), none, none⟩,⟨some 6, (.move (.t 92)), none, none⟩])))))))
 (.region [] [] [0, 2, 1, 15, 29, 28, 30, 27, 8, 6, 52, 5, 10, 9, 83, 4] [⟨some 93, (.bin .add (.t 29) (.k (rI .i64 1))), none, none⟩,⟨some 29, (.move (.t 93)), none, none⟩]))))
def ic78 : IC :=
 (.seq
 (.region [2] [] [0, 2, 1, 15, 29, 28, 30, 27, 8, 6, 52, 5, 10, 9, 83, 4] [⟨some 2, (.box 115 (.t 0)), none, none⟩,⟨some 4, (.move (.k (rB false))), none, none⟩])
 (.seq
 (.seq
 (.region [] [] [0, 2, 1, 15, 29, 28, 30, 27, 8, 6, 52, 5, 10, 9, 83, 4] [⟨some 11, (.faddr 0 (.t 2)), none, none⟩,⟨some 12, (.load (some 3) (.t 11)), none, none⟩,⟨some 13, (.move (.t 1)), none, none⟩,⟨some 14, (.callp (.k (rF 146)) [(.t 12), (.t 13)]), none, none⟩,⟨some 15, (.bin .neq (.t 14) (.k (rI .i64 0))), none, none⟩])
 (.cond (.t 15)
 (.seq
 (.region [] [] [0, 2, 1, 15, 29, 28, 30, 27, 8, 6, 52, 5, 10, 9, 83, 4] [⟨some 4, (.move (.k (rB false))), none, none⟩])
 .ret)
 .skip))
 (.seq
 (.region [] [] [0, 2, 1, 15, 29, 28, 30, 27, 8, 6, 52, 5, 10, 9, 83, 4] [⟨some 16, (.faddr 0 (.t 2)), none, none⟩,⟨some 17, (.faddr 2 (.t 16)), none, none⟩,⟨some 18, (.load none (.t 17)), none, none⟩,⟨some 19, (.move (.t 1)), none, none⟩,⟨some 20, (.call (.k (rF 147)) [(.t 18), (.t 19)]), none, none⟩,⟨some 5, (.move (.t 20)), none, none⟩])
 (.seq
 (.region [] [] [0, 2, 1, 15, 29, 28, 30, 27, 8, 6, 52, 5, 10, 9, 83, 4] [⟨some 21, (.faddr 0 (.t 2)), none, none⟩,⟨some 22, (.faddr 2 (.t 21)), none, none⟩,⟨some 23, (.load none (.t 22)), none, none⟩,⟨some 24, (.len (.t 23)), none, none⟩,⟨some 25, (.callp (.k (rF 148)) [(.t 24)]), none, none⟩,⟨some 6, (.move (.t 25)), none, none⟩])
 (.seq
 (.seq
 (.region [] [] [0, 2, 1, 15, 29, 28, 30, 27, 8, 6, 52, 5, 10, 9, 83, 4] [⟨some 26, (.faddr 3 (.t 2)), none, none⟩,⟨some 27, (.load none (.t 26)), none, none⟩,⟨some 28, (.len (.t 27)), none, none⟩,⟨some 29, (.move (.k (rI .i64 0))), none, none⟩])
 (.block 0
 (.loop ic78l0)))
 (.seq
 (.region [] [] [0, 2, 1, 15, 29, 28, 30, 27, 8, 6, 52, 5, 10, 9, 83, 4] [⟨some 94, (.move (.t 6)), none, none⟩,⟨some 95, (.bin .eql (.t 94) (.k (rI .u32 0))), none, none⟩,⟨some 4, (.move (.t 95)), none, none⟩])
 .ret))))))
def ir78 : List IRes := [.tmp 4]
theorem ie78 : cmpFunc Go.Proofs.Tryd.prog ⟨[(20, none), (57, none), (87, none)], []⟩ Go.Proofs.Tryd.f78 [0, 2, 1, 15, 29, 28, 30, 27, 8, 6, 52, 5, 10, 9, 83, 4] = some ic78 := by kernel_rfl
theorem ig78 : cmpRes Go.Proofs.Tryd.prog Go.Proofs.Tryd.f78.results.toList = some ir78 := by kernel_rfl
def ic79 : IC :=
 (.seq
 (.region [] [] [2, 1, 0] [⟨some 0, (.move (.k (rB false))), none, none⟩])
 (.seq
 (.region [5, 1] [] [2, 1, 0] [⟨some 4, (.callp (.k (rF 152)) []), none, none⟩,⟨some 5, (.row 9 1 [(.k (rS (bs [88])))]), none, none⟩,⟨some 6, (.callp (.k (rF 82)) [(.t 4), (.t 5), (.k (rI .i64 (-1)))]), none, none⟩,⟨some 3, (.move (.t 6)), none, none⟩,⟨some 7, (.ext (.t 3) 0), none, none⟩,⟨some 8, (.ext (.t 3) 1), none, none⟩,⟨some 1, (.zero 115 [(.c (.v (.string (bs [])))), .nil, .nil, .nil]), none, none⟩,⟨none, (.store (some 4) (.t 1) (.t 7)), none, none⟩,⟨some 2, (.move (.t 8)), none, none⟩])
 (.seq
 (.region [70] [] [2, 1, 0] [⟨some 9, (.move (.t 2)), none, none⟩,⟨some 10, (.bin .eql (.t 9) (.k (rI .i64 0))), none, none⟩,⟨some 11, (.move (.t 10)), none, none⟩,⟨some 12, (.faddr 3 (.t 1)), some (11, true), none⟩,⟨some 13, (.load none (.t 12)), some (11, true), none⟩,⟨some 14, (.len (.t 13)), some (11, true), none⟩,⟨some 15, (.bin .eql (.t 14) (.k (rI .i64 2))), some (11, true), none⟩,⟨some 16, (.pick (.t 11) (.t 15) (.k (rB false))), none, none⟩,⟨some 17, (.move (.t 16)), none, none⟩,⟨some 18, (.faddr 3 (.t 1)), some (17, true), none⟩,⟨some 19, (.load none (.t 18)), some (17, true), none⟩,⟨some 20, (.iaddr 4 (.t 19) (.k (rI .i64 0))), some (17, true), none⟩,⟨some 21, (.faddr 0 (.t 20)), some (17, true), none⟩,⟨some 22, (.load none (.t 21)), some (17, true), none⟩,⟨some 23, (.bin .eql (.t 22) (.k (rI .i8 2))), some (17, true), none⟩,⟨some 24, (.pick (.t 17) (.t 23) (.k (rB false))), none, none⟩,⟨some 25, (.move (.t 24)), none, none⟩,⟨some 26, (.faddr 3 (.t 1)), some (25, true), none⟩,⟨some 27, (.load none (.t 26)), some (25, true), none⟩,⟨some 28, (.iaddr 4 (.t 27) (.k (rI .i64 0))), some (25, true), none⟩,⟨some 29, (.faddr 1 (.t 28)), some (25, true), none⟩,⟨some 30, (.load none (.t 29)), some (25, true), none⟩,⟨some 31, (.bin .eql (.t 30) (.k (rI .i64 1))), some (25, true), none⟩,⟨some 32, (.pick (.t 25) (.t 31) (.k (rB false))), none, none⟩,⟨some 33, (.move (.t 32)), none, none⟩,⟨some 34, (.faddr 3 (.t 1)), some (33, true), none⟩,⟨some 35, (.load none (.t 34)), some (33, true), none⟩,⟨some 36, (.iaddr 4 (.t 35) (.k (rI .i64 0))), some (33, true), none⟩,⟨some 37, (.faddr 2 (.t 36)), some (33, true), none⟩,⟨some 38, (.load none (.t 37)), some (33, true), none⟩,⟨some 39, (.bin .eql (.t 38) (.k (rI .u32 1))), some (33, true), none⟩,⟨some 40, (.pick (.t 33) (.t 39) (.k (rB false))), none, none⟩,⟨some 41, (.move (.t 40)), none, none⟩,⟨some 42, (.faddr 3 (.t 1)), some (41, true), none⟩,⟨some 43, (.load none (.t 42)), some (41, true), none⟩,⟨some 44, (.iaddr 4 (.t 43) (.k (rI .i64 0))), some (41, true), none⟩,⟨some 45, (.faddr 3 (.t 44)), some (41, true), none⟩,⟨some 46, (.load none (.t 45)), some (41, true), none⟩,⟨some 47, (.len (.t 46)), some (41, true), none⟩,⟨some 48, (.bin .eql (.t 47) (.k (rI .i64 1))), some (41, true), none⟩,⟨some 49, (.pick (.t 41) (.t 48) (.k (rB false))), none, none⟩,⟨some 50, (.move (.t 49)), none, none⟩,⟨some 51, (.faddr 3 (.t 1)), some (50, true), none⟩,⟨some 52, (.load none (.t 51)), some (50, true), none⟩,⟨some 53, (.iaddr 4 (.t 52) (.k (rI .i64 0))), some (50, true), none⟩,⟨some 54, (.faddr 3 (.t 53)), some (50, true), none⟩,⟨some 55, (.load none (.t 54)), some (50, true), none⟩,⟨some 56, (.iaddr 1 (.t 55) (.k (rI .i64 0))), some (50, true), none⟩,⟨some 57, (.load none (.t 56)), some (50, true), none⟩,⟨some 58, (.bin .eql (.t 57) (.k (rS (bs [77])))), some (50, true), none⟩,⟨some 59, (.pick (.t 50) (.t 58) (.k (rB false))), none, none⟩,⟨some 60, (.move (.t 59)), none, none⟩,⟨some 61, (.faddr 3 (.t 1)), some (60, true), none⟩,⟨some 62, (.load none (.t 61)), some (60, true), none⟩,⟨some 63, (.iaddr 4 (.t 62) (.k (rI .i64 1))), some (60, true), none⟩,⟨some 64, (.faddr 0 (.t 63)), some (60, true), none⟩,⟨some 65, (.load none (.t 64)), some (60, true), none⟩,⟨some 66, (.bin .eql (.t 65) (.k (rI .i8 6))), some (60, true), none⟩,⟨some 67, (.pick (.t 60) (.t 66) (.k (rB false))), none, none⟩,⟨some 68, (.move (.t 67)), none, none⟩,⟨some 69, (.load (some 4) (.t 1)), some (68, true), none⟩,⟨some 70, (.row 9 1 [(.k (rS (bs [88])))]), some (68, true), none⟩,⟨some 71, (.callp (.k (rF 78)) [(.t 69), (.t 70)]), some (68, true), none⟩,⟨some 72, (.pick (.t 68) (.t 71) (.k (rB false))), none, none⟩,⟨some 73, (.move (.t 72)), none, none⟩,⟨some 74, (.load (some 4) (.t 1)), some (73, true), none⟩,⟨some 75, (.callp (.k (rF 78)) [(.t 74), (.k (.x (.one .nil)))]), some (73, true), none⟩,⟨some 76, (.un .not (.t 75)), some (73, true), none⟩,⟨some 77, (.pick (.t 73) (.t 76) (.k (rB false))), none, none⟩,⟨some 0, (.move (.t 77)), none, none⟩])
 .ret)))
def ir79 : List IRes := [.tmp 0]
theorem ie79 : cmpFunc Go.Proofs.Tryd.prog ⟨[], []⟩ Go.Proofs.Tryd.f79 [2, 1, 0] = some ic79 := by kernel_rfl
theorem ig79 : cmpRes Go.Proofs.Tryd.prog Go.Proofs.Tryd.f79.results.toList = some ir79 := by kernel_rfl
def ic82l0 : IC :=
 (.seq
 (.seq
 (.region [] [] [0, 3, 1, 8, 19, 6, 2, 43, 9, 11, 58, 68, 10, 12, 13, 7] [⟨some 57, (.move (.t 11)), none, none⟩,⟨some 58, (.bin .neq (.t 57) (.k (rI .u32 0))), none, none⟩])
 (.cond (.t 58)
 .skip
 (.exit 0)))
 (.block 1
 (.seq
 (.region [] [] [0, 3, 1, 8, 19, 6, 2, 43, 9, 11, 58, 68, 10, 12, 13, 7] [⟨some 59, (.move (.t 2)), none, none⟩,⟨some 12, (.move (.t 59)), none, none⟩])
 (.seq
 (.seq
 (.region [] [] [0, 3, 1, 8, 19, 6, 2, 43, 9, 11, 58, 68, 10, 12, 13, 7] [⟨some 60, (.move (.t 2)), none, none⟩,⟨some 61, (.bin .lss (.t 60) (.k (rI .i64 0))), none, none⟩,⟨some 62, (.move (.t 61)), none, none⟩,⟨some 63, (.move (.t 11)), some (62, false), none⟩,⟨some 64, (.move (.t 2)), some (62, false), none⟩,⟨some 65, (.bin .shl (.k (rI .u32 1)) (.t 64)), some (62, false), none⟩,⟨some 66, (.bin .and (.t 63) (.t 65)), some (62, false), none⟩,⟨some 67, (.bin .eql (.t 66) (.k (rI .u32 0))), some (62, false), none⟩,⟨some 68, (.pick (.t 62) (.k (rB true)) (.t 67)), none, none⟩])
 (.cond (.t 68)
 (.region [] [] [0, 3, 1, 8, 19, 6, 2, 43, 9, 11, 58, 68, 10, 12, 13, 7] [⟨some 69, (.move (.t 10)), none, none⟩,⟨some 70, (.move (.t 11)), none, none⟩,⟨some 71, (.call (.k (rF 154)) [(.t 69), (.t 70)]), none, none⟩,⟨some 12, (.move (.t 71)), none, none⟩])
 .skip))
 (.seq
 (.region [13] [] [0, 3, 1, 8, 19, 6, 2, 43, 9, 11, 58, 68, 10, 12, 13, 7] [⟨some 73, (.move (.t 10)), none, none⟩,⟨some 74, (.move (.t 12)), none, none⟩,⟨some 75, (.call (.k (rF 149)) [(.t 73), (.t 74)]), none, none⟩,⟨some 72, (.move (.t 75)), none, none⟩,⟨some 76, (.ext (.t 72) 0), none, none⟩,⟨some 77, (.ext (.t 72) 1), none, none⟩,⟨some 13, (.zero 121 [(.c (.v (.int .i8 0))), (.c (.v (.int .i64 0))), (.c (.v (.int .u32 0))), .nil]), none, none⟩,⟨none, (.store (some 4) (.t 13) (.t 76)), none, none⟩,⟨some 14, (.move (.t 77)), none, none⟩])
 (.seq
 (.region [81] [] [0, 3, 1, 8, 19, 6, 2, 43, 9, 11, 58, 68, 10, 12, 13, 7] [⟨some 78, (.faddr 3 (.t 9)), none, none⟩,⟨some 79, (.load none (.t 78)), none, none⟩,⟨some 80, (.load (some 4) (.t 13)), none, none⟩,⟨some 81, (.row 121 4 [(.t 80)]), none, none⟩,⟨some 82, (.app 121 4 48 (.t 79) (.t 81)), none, none⟩,⟨some 83, (.faddr 3 (.t 9)), none, none⟩,⟨none, (.store (some 1) (.t 83) (.t 82)), none, none⟩])
 (.seq
 (.region [] [] [0, 3, 1, 8, 19, 6, 2, 43, 9, 11, 58, 68, 10, 12, 13, 7] [⟨some 84, (.move (.t 10)), none, none⟩,⟨some 85, (.faddr 3 (.t 13)), none, none⟩,⟨some 86, (.load none (.t 85)), none, none⟩,⟨some 87, (.call (.k (rF 151)) [(.t 84), (.t 86)]), none, none⟩])
 (.region [] [] [0, 3, 1, 8, 19, 6, 2, 43, 9, 11, 58, 68, 10, 12, 13, 7] [⟨some 88, (.move (.t 11)), none, none⟩,⟨some 89, (.move (.t 12)), none, none⟩,⟨some 90, (.bin .shl (.k (rI .u32 1)) (.t 89)), none, none⟩,⟨some 91, (.bin .andNot (.t 88) (.t 90)), none, none⟩,⟨some 11, (.move (.t 91)), none, none⟩]))))))))
def ic82 : IC :=
 (.seq
 (.region [3, 6] [] [0, 3, 1, 8, 19, 6, 2, 43, 9, 11, 58, 68, 10, 12, 13, 7] [⟨some 3, (.box 96 (.t 0)), none, none⟩,⟨some 6, (.zero 115 [(.c (.v (.string (bs [])))), .nil, .nil, .nil]), none, none⟩,⟨some 7, (.move (.k (rI .i64 0))), none, none⟩])
 (.seq
 (.seq
 (.region [] [] [0, 3, 1, 8, 19, 6, 2, 43, 9, 11, 58, 68, 10, 12, 13, 7] [⟨some 15, (.load (some 3) (.t 3)), none, none⟩,⟨some 16, (.move (.t 1)), none, none⟩,⟨some 17, (.callp (.k (rF 146)) [(.t 15), (.t 16)]), none, none⟩,⟨some 8, (.move (.t 17)), none, none⟩])
 (.seq
 (.region [] [] [0, 3, 1, 8, 19, 6, 2, 43, 9, 11, 58, 68, 10, 12, 13, 7] [⟨some 18, (.move (.t 8)), none, none⟩,⟨some 19, (.bin .neq (.t 18) (.k (rI .i64 0))), none, none⟩])
 (.cond (.t 19)
 (.seq
 (.region [] [] [0, 3, 1, 8, 19, 6, 2, 43, 9, 11, 58, 68, 10, 12, 13, 7] [⟨some 20, (.build [(.c (.v (.string (bs [])))), .nil, .nil, .nil] []), none, none⟩,⟨some 21, (.move (.t 8)), none, none⟩,⟨none, (.store (some 4) (.t 6) (.t 20)), none, none⟩,⟨some 7, (.move (.t 21)), none, none⟩])
 .ret)
 .skip)))
 (.seq
 (.seq
 (.region [] [] [0, 3, 1, 8, 19, 6, 2, 43, 9, 11, 58, 68, 10, 12, 13, 7] [⟨some 22, (.move (.t 2)), none, none⟩,⟨some 23, (.bin .lss (.t 22) (.k (rI .i64 (-1)))), none, none⟩,⟨some 24, (.move (.t 23)), none, none⟩,⟨some 25, (.move (.t 2)), some (24, false), none⟩,⟨some 26, (.faddr 2 (.t 3)), some (24, false), none⟩,⟨some 27, (.load none (.t 26)), some (24, false), none⟩,⟨some 28, (.len (.t 27)), some (24, false), none⟩,⟨some 29, (.bin .geq (.t 25) (.t 28)), some (24, false), none⟩,⟨some 30, (.pick (.t 24) (.k (rB true)) (.t 29)), none, none⟩,⟨some 31, (.move (.t 30)), none, none⟩,⟨some 32, (.move (.t 2)), some (31, false), none⟩,⟨some 33, (.bin .geq (.t 32) (.k (rI .i64 0))), some (31, false), none⟩,⟨some 34, (.move (.t 33)), some (31, false), none⟩,⟨some 35, (.faddr 2 (.t 3)), some (34, true), none⟩,⟨some 36, (.load none (.t 35)), some (34, true), none⟩,⟨some 37, (.move (.t 2)), some (34, true), none⟩,⟨some 38, (.iaddr 16 (.t 36) (.t 37)), some (34, true), none⟩,⟨some 39, (.faddr 0 (.t 38)), some (34, true), none⟩,⟨some 40, (.load none (.t 39)), some (34, true), none⟩,⟨some 41, (.bin .neq (.t 40) (.k (rI .i8 1))), some (34, true), none⟩,⟨some 42, (.pick (.t 34) (.t 41) (.k (rB false))), some (31, false), none⟩,⟨some 43, (.pick (.t 31) (.k (rB true)) (.t 42)), none, none⟩])
 (.cond (.t 43)
 (.seq
 (.region [] [] [0, 3, 1, 8, 19, 6, 2, 43, 9, 11, 58, 68, 10, 12, 13, 7] [⟨some 44, (.build [(.c (.v (.string (bs [])))), .nil, .nil, .nil] []), none, none⟩,⟨none, (.store (some 4) (.t 6) (.t 44)), none, none⟩,⟨some 7, (.move (.k (rI .i64 120))), none, none⟩])
 .ret)
 .skip))
 (.seq
 (.region [9] [] [0, 3, 1, 8, 19, 6, 2, 43, 9, 11, 58, 68, 10, 12, 13, 7] [⟨some 45, (.load (some 3) (.t 3)), none, none⟩,⟨some 46, (.callp (.k (rF 153)) [(.t 45)]), none, none⟩,⟨some 47, (.build [(.c (.v (.string (bs [])))), .nil, .nil, .nil] [(0, 3, (.t 46))]), none, none⟩,⟨some 9, (.zero 115 [(.c (.v (.string (bs [])))), .nil, .nil, .nil]), none, none⟩,⟨none, (.store (some 4) (.t 9) (.t 47)), none, none⟩])
 (.seq
 (.region [] [] [0, 3, 1, 8, 19, 6, 2, 43, 9, 11, 58, 68, 10, 12, 13, 7] [⟨some 48, (.faddr 0 (.t 9)), none, none⟩,⟨some 49, (.faddr 2 (.t 48)), none, none⟩,⟨some 50, (.load none (.t 49)), none, none⟩,⟨some 51, (.move (.t 1)), none, none⟩,⟨some 52, (.call (.k (rF 147)) [(.t 50), (.t 51)]), none, none⟩,⟨some 10, (.move (.t 52)), none, none⟩])
 (.seq
 (.region [] [] [0, 3, 1, 8, 19, 6, 2, 43, 9, 11, 58, 68, 10, 12, 13, 7] [⟨some 53, (.faddr 2 (.t 3)), none, none⟩,⟨some 54, (.load none (.t 53)), none, none⟩,⟨some 55, (.len (.t 54)), none, none⟩,⟨some 56, (.callp (.k (rF 148)) [(.t 55)]), none, none⟩,⟨some 11, (.move (.t 56)), none, none⟩])
 (.seq
 (.block 0
 (.loop ic82l0))
 (.seq
 (.region [] [] [0, 3, 1, 8, 19, 6, 2, 43, 9, 11, 58, 68, 10, 12, 13, 7] [⟨some 92, (.load (some 4) (.t 9)), none, none⟩,⟨none, (.store (some 4) (.t 6) (.t 92)), none, none⟩,⟨some 7, (.move (.k (rI .i64 0))), none, none⟩])
 .ret))))))))
def ir82 : List IRes := [.cell 6 (some 4), .tmp 7]
theorem ie82 : cmpFunc Go.Proofs.Tryd.prog ⟨[(52, none), (71, none), (75, none), (87, none)], []⟩ Go.Proofs.Tryd.f82 [0, 3, 1, 8, 19, 6, 2, 43, 9, 11, 58, 68, 10, 12, 13, 7] = some ic82 := by kernel_rfl
theorem ig82 : cmpRes Go.Proofs.Tryd.prog Go.Proofs.Tryd.f82.results.toList = some ir82 := by kernel_rfl
def ic146l0 : IC :=
 (.seq
 (.region [] [] [0, 2, 15, 1, 18, 17, 19, 16, 6, 5, 32, 39, 38, 40, 37, 7, 9, 57, 56, 58, 55, 10, 12, 64, 4] [⟨some 19, (.bin .lss (.t 18) (.t 17)), none, none⟩])
 (.seq
 (.cond (.t 19)
 .skip
 (.exit 0))
 (.seq
 (.block 1
 (.seq
 (.region [] [] [0, 2, 15, 1, 18, 17, 19, 16, 6, 5, 32, 39, 38, 40, 37, 7, 9, 57, 56, 58, 55, 10, 12, 64, 4] [⟨some 20, (.move (.t 18)), none, none⟩,⟨some 21, (.iaddr 1 (.t 16) (.t 18)), none, none⟩,⟨some 22, (.load none (.t 21)), none, none⟩,⟨some 5, (.move (.t 20)), none, none⟩,⟨some 6, (.move (.t 22)), none, none⟩])
 (.seq
 (.region [] [] [0, 2, 15, 1, 18, 17, 19, 16, 6, 5, 32, 39, 38, 40, 37, 7, 9, 57, 56, 58, 55, 10, 12, 64, 4] [⟨some 23, (.move (.t 6)), none, none⟩,⟨some 24, (.callp (.k (rF 191)) [(.t 23)]), none, none⟩,⟨some 25, (.un .not (.t 24)), none, none⟩,⟨some 26, (.move (.t 25)), none, none⟩,⟨some 27, (.move (.t 1)), some (26, false), none⟩,⟨some 28, (.move (.t 5)), some (26, false), none⟩,⟨some 29, (.vsl 1 (.t 27) none (some (.t 28))), some (26, false), none⟩,⟨some 30, (.move (.t 6)), some (26, false), none⟩,⟨some 31, (.callp (.k (rF 192)) [(.t 29), (.t 30)]), some (26, false), none⟩,⟨some 32, (.pick (.t 26) (.k (rB true)) (.t 31)), none, none⟩])
 (.cond (.t 32)
 (.seq
 (.region [] [] [0, 2, 15, 1, 18, 17, 19, 16, 6, 5, 32, 39, 38, 40, 37, 7, 9, 57, 56, 58, 55, 10, 12, 64, 4] [⟨some 4, (.move (.k (rI .i64 1))), none, none⟩])
 .ret)
 .skip))))
 (.region [] [] [0, 2, 15, 1, 18, 17, 19, 16, 6, 5, 32, 39, 38, 40, 37, 7, 9, 57, 56, 58, 55, 10, 12, 64, 4] [⟨some 33, (.bin .add (.t 18) (.k (rI .i64 1))), none, none⟩,⟨some 18, (.move (.t 33)), none, none⟩]))))
def ic146l1 : IC :=
 (.seq
 (.region [] [] [0, 2, 15, 1, 18, 17, 19, 16, 6, 5, 32, 39, 38, 40, 37, 7, 9, 57, 56, 58, 55, 10, 12, 64, 4] [⟨some 40, (.bin .lss (.t 39) (.t 38)), none, none⟩])
 (.seq
 (.cond (.t 40)
 .skip
 (.exit 2))
 (.seq
 (.block 3
 (.seq
 (.region [] [] [0, 2, 15, 1, 18, 17, 19, 16, 6, 5, 32, 39, 38, 40, 37, 7, 9, 57, 56, 58, 55, 10, 12, 64, 4] [⟨some 41, (.iaddr 1 (.t 37) (.t 39)), none, none⟩,⟨some 42, (.load none (.t 41)), none, none⟩,⟨some 9, (.move (.t 42)), none, none⟩])
 (.region [46, 49] [] [0, 2, 15, 1, 18, 17, 19, 16, 6, 5, 32, 39, 38, 40, 37, 7, 9, 57, 56, 58, 55, 10, 12, 64, 4] [⟨some 43, (.move (.t 7)), none, none⟩,⟨some 44, (.move (.t 9)), none, none⟩,⟨some 45, (.build [(.c (.v (.string (bs [])))), (.c (.v (.int .i8 0))), (.c (.v (.int .i64 0))), (.c (.v (.string (bs []))))] [(0, 1, (.t 44))]), none, none⟩,⟨some 46, (.row 41 4 [(.t 45)]), none, none⟩,⟨some 47, (.build [(.c (.v (.string (bs [])))), .nil] [(0, 1, (.k (rS (bs [107])))), (1, 1, (.t 46))]), none, none⟩,⟨some 48, (.build [(.c (.v (.int .i8 0))), (.c (.v (.string (bs [])))), .nil, (.c (.v (.int .i8 0))), (.c (.v (.int .i8 0))), (.c (.v (.string (bs [])))), (.c (.v (.int .i8 0))), (.c (.v (.int .i64 0))), (.c (.v (.string (bs [])))), .nil, (.c (.v (.int .i8 0))), (.c (.v (.string (bs [])))), (.c (.v (.int .i8 0))), (.c (.v (.int .i64 0))), (.c (.v (.string (bs [])))), .nil] [(0, 1, (.k (rI .i8 1))), (1, 2, (.t 47))]), none, none⟩,⟨some 49, (.row 88 16 [(.t 48)]), none, none⟩,⟨some 50, (.app 88 16 216 (.t 43) (.t 49)), none, none⟩,⟨some 7, (.move (.t 50)), none, none⟩])))
 (.region [] [] [0, 2, 15, 1, 18, 17, 19, 16, 6, 5, 32, 39, 38, 40, 37, 7, 9, 57, 56, 58, 55, 10, 12, 64, 4] [⟨some 51, (.bin .add (.t 39) (.k (rI .i64 1))), none, none⟩,⟨some 39, (.move (.t 51)), none, none⟩]))))
def ic146l2 : IC :=
 (.seq
 (.region [] [] [0, 2, 15, 1, 18, 17, 19, 16, 6, 5, 32, 39, 38, 40, 37, 7, 9, 57, 56, 58, 55, 10, 12, 64, 4] [⟨some 58, (.bin .lss (.t 57) (.t 56)), none, none⟩])
 (.seq
 (.cond (.t 58)
 .skip
 (.exit 4))
 (.seq
 (.block 5
 (.seq
 (.region [] [] [0, 2, 15, 1, 18, 17, 19, 16, 6, 5, 32, 39, 38, 40, 37, 7, 9, 57, 56, 58, 55, 10, 12, 64, 4] [⟨some 59, (.iaddr 1 (.t 55) (.t 57)), none, none⟩,⟨some 60, (.load none (.t 59)), none, none⟩,⟨some 12, (.move (.t 60)), none, none⟩])
 (.seq
 (.region [] [] [0, 2, 15, 1, 18, 17, 19, 16, 6, 5, 32, 39, 38, 40, 37, 7, 9, 57, 56, 58, 55, 10, 12, 64, 4] [⟨some 61, (.move (.t 10)), none, none⟩,⟨some 62, (.move (.t 12)), none, none⟩,⟨some 63, (.callp (.k (rF 192)) [(.t 61), (.t 62)]), none, none⟩,⟨some 64, (.un .not (.t 63)), none, none⟩])
 (.cond (.t 64)
 (.seq
 (.region [] [] [0, 2, 15, 1, 18, 17, 19, 16, 6, 5, 32, 39, 38, 40, 37, 7, 9, 57, 56, 58, 55, 10, 12, 64, 4] [⟨some 4, (.move (.k (rI .i64 73))), none, none⟩])
 .ret)
 .skip))))
 (.region [] [] [0, 2, 15, 1, 18, 17, 19, 16, 6, 5, 32, 39, 38, 40, 37, 7, 9, 57, 56, 58, 55, 10, 12, 64, 4] [⟨some 65, (.bin .add (.t 57) (.k (rI .i64 1))), none, none⟩,⟨some 57, (.move (.t 65)), none, none⟩]))))
def ic146 : IC :=
 (.seq
 (.region [2] [] [0, 2, 15, 1, 18, 17, 19, 16, 6, 5, 32, 39, 38, 40, 37, 7, 9, 57, 56, 58, 55, 10, 12, 64, 4] [⟨some 2, (.box 96 (.t 0)), none, none⟩,⟨some 4, (.move (.k (rI .i64 0))), none, none⟩])
 (.seq
 (.seq
 (.region [] [] [0, 2, 15, 1, 18, 17, 19, 16, 6, 5, 32, 39, 38, 40, 37, 7, 9, 57, 56, 58, 55, 10, 12, 64, 4] [⟨some 13, (.load (some 3) (.t 2)), none, none⟩,⟨some 14, (.callp (.k (rF 66)) [(.t 13)]), none, none⟩,⟨some 15, (.bin .neq (.t 14) (.k (rI .i64 0))), none, none⟩])
 (.cond (.t 15)
 (.seq
 (.region [] [] [0, 2, 15, 1, 18, 17, 19, 16, 6, 5, 32, 39, 38, 40, 37, 7, 9, 57, 56, 58, 55, 10, 12, 64, 4] [⟨some 4, (.move (.k (rI .i64 40))), none, none⟩])
 .ret)
 .skip))
 (.seq
 (.seq
 (.region [] [] [0, 2, 15, 1, 18, 17, 19, 16, 6, 5, 32, 39, 38, 40, 37, 7, 9, 57, 56, 58, 55, 10, 12, 64, 4] [⟨some 16, (.move (.t 1)), none, none⟩,⟨some 17, (.len (.t 16)), none, none⟩,⟨some 18, (.move (.k (rI .i64 0))), none, none⟩])
 (.block 0
 (.loop ic146l0)))
 (.seq
 (.region [] [] [0, 2, 15, 1, 18, 17, 19, 16, 6, 5, 32, 39, 38, 40, 37, 7, 9, 57, 56, 58, 55, 10, 12, 64, 4] [⟨some 34, (.faddr 2 (.t 2)), none, none⟩,⟨some 35, (.load none (.t 34)), none, none⟩,⟨some 36, (.call (.k (rF 193)) [(.t 35)]), none, none⟩,⟨some 7, (.move (.t 36)), none, none⟩])
 (.seq
 (.seq
 (.region [] [] [0, 2, 15, 1, 18, 17, 19, 16, 6, 5, 32, 39, 38, 40, 37, 7, 9, 57, 56, 58, 55, 10, 12, 64, 4] [⟨some 37, (.move (.t 1)), none, none⟩,⟨some 38, (.len (.t 37)), none, none⟩,⟨some 39, (.move (.k (rI .i64 0))), none, none⟩])
 (.block 2
 (.loop ic146l1)))
 (.seq
 (.region [] [] [0, 2, 15, 1, 18, 17, 19, 16, 6, 5, 32, 39, 38, 40, 37, 7, 9, 57, 56, 58, 55, 10, 12, 64, 4] [⟨some 52, (.move (.t 7)), none, none⟩,⟨some 53, (.callp (.k (rF 50)) [(.t 52)]), none, none⟩,⟨some 10, (.move (.t 53)), none, none⟩])
 (.seq
 (.seq
 (.region [] [] [0, 2, 15, 1, 18, 17, 19, 16, 6, 5, 32, 39, 38, 40, 37, 7, 9, 57, 56, 58, 55, 10, 12, 64, 4] [⟨some 54, (.load (some 3) (.t 2)), none, none⟩,⟨some 55, (.callp (.k (rF 68)) [(.t 54)]), none, none⟩,⟨some 56, (.len (.t 55)), none, none⟩,⟨some 57, (.move (.k (rI .i64 0))), none, none⟩])
 (.block 4
 (.loop ic146l2)))
 (.seq
 (.region [] [] [0, 2, 15, 1, 18, 17, 19, 16, 6, 5, 32, 39, 38, 40, 37, 7, 9, 57, 56, 58, 55, 10, 12, 64, 4] [⟨some 4, (.move (.k (rI .i64 0))), none, none⟩])
 .ret))))))))
def ir146 : List IRes := [.tmp 4]
theorem ie146 : cmpFunc Go.Proofs.Tryd.prog ⟨[(36, none)], []⟩ Go.Proofs.Tryd.f146 [0, 2, 15, 1, 18, 17, 19, 16, 6, 5, 32, 39, 38, 40, 37, 7, 9, 57, 56, 58, 55, 10, 12, 64, 4] = some ic146 := by kernel_rfl
theorem ig146 : cmpRes Go.Proofs.Tryd.prog Go.Proofs.Tryd.f146.results.toList = some ir146 := by kernel_rfl
def ic152 : IC :=
 (.seq
 (.region [0] [] [2, 3, 4, 1, 5, 0] [⟨some 0, (.zero 96 [(.c (.v (.string (bs [])))), .nil, .nil]), none, none⟩])
 (.seq
 (.region [1, 2, 3] [] [2, 3, 4, 1, 5, 0] [⟨some 6, (.build [(.c (.v (.string (bs [])))), (.c (.v (.int .i8 0))), (.c (.v (.int .i64 0))), (.c (.v (.string (bs []))))] [(0, 1, (.k (rS (bs [88]))))]), none, none⟩,⟨some 7, (.build [(.c (.v (.string (bs [])))), (.c (.v (.int .i8 0))), (.c (.v (.int .i64 0))), (.c (.v (.string (bs []))))] [(0, 1, (.k (rS (bs [78]))))]), none, none⟩,⟨some 8, (.build [(.c (.v (.string (bs [])))), (.c (.v (.int .i8 0))), (.c (.v (.int .i64 0))), (.c (.v (.string (bs []))))] [(0, 1, (.k (rS (bs [77]))))]), none, none⟩,⟨some 1, (.zero 41 [(.c (.v (.string (bs [])))), (.c (.v (.int .i8 0))), (.c (.v (.int .i64 0))), (.c (.v (.string (bs []))))]), none, none⟩,⟨some 2, (.zero 41 [(.c (.v (.string (bs [])))), (.c (.v (.int .i8 0))), (.c (.v (.int .i64 0))), (.c (.v (.string (bs []))))]), none, none⟩,⟨some 3, (.zero 41 [(.c (.v (.string (bs [])))), (.c (.v (.int .i8 0))), (.c (.v (.int .i64 0))), (.c (.v (.string (bs []))))]), none, none⟩,⟨none, (.store (some 4) (.t 1) (.t 6)), none, none⟩,⟨none, (.store (some 4) (.t 2) (.t 7)), none, none⟩,⟨none, (.store (some 4) (.t 3) (.t 8)), none, none⟩])
 (.seq
 (.region [4] [] [2, 3, 4, 1, 5, 0] [⟨some 9, (.build [(.c (.v (.int .i8 0))), (.c (.v (.int .i64 0))), (.c (.v (.string (bs []))))] [(0, 1, (.k (rI .i8 1))), (1, 1, (.k (rI .i64 1)))]), none, none⟩,⟨some 10, (.build [(.c (.v (.string (bs [])))), (.c (.v (.int .i8 0))), (.c (.v (.int .i64 0))), (.c (.v (.string (bs []))))] [(1, 3, (.t 9))]), none, none⟩,⟨some 11, (.build [(.c (.v (.int .i8 0))), (.c (.v (.string (bs [])))), (.c (.v (.int .i8 0))), (.c (.v (.int .i64 0))), (.c (.v (.string (bs [])))), .nil] [(1, 4, (.t 10))]), none, none⟩,⟨some 4, (.zero 47 [(.c (.v (.int .i8 0))), (.c (.v (.string (bs [])))), (.c (.v (.int .i8 0))), (.c (.v (.int .i64 0))), (.c (.v (.string (bs [])))), .nil]), none, none⟩,⟨none, (.store (some 6) (.t 4) (.t 11)), none, none⟩])
 (.seq
 (.region [17, 5] [] [2, 3, 4, 1, 5, 0] [⟨some 12, (.load (some 4) (.t 2)), none, none⟩,⟨some 13, (.build [(.c (.v (.int .i8 0))), (.c (.v (.string (bs [])))), (.c (.v (.int .i8 0))), (.c (.v (.int .i64 0))), (.c (.v (.string (bs [])))), .nil] [(1, 4, (.t 12))]), none, none⟩,⟨some 14, (.load (some 4) (.t 3)), none, none⟩,⟨some 15, (.build [(.c (.v (.int .i8 0))), (.c (.v (.string (bs [])))), (.c (.v (.int .i8 0))), (.c (.v (.int .i64 0))), (.c (.v (.string (bs [])))), .nil] [(1, 4, (.t 14))]), none, none⟩,⟨some 16, (.load (some 6) (.t 4)), none, none⟩,⟨some 17, (.row 47 6 [(.t 15), (.t 16)]), none, none⟩,⟨some 18, (.build [(.c (.v (.int .i8 0))), (.c (.v (.string (bs [])))), (.c (.v (.int .i8 0))), (.c (.v (.int .i64 0))), (.c (.v (.string (bs [])))), .nil] [(0, 1, (.k (rI .i8 2))), (5, 1, (.t 17))]), none, none⟩,⟨some 19, (.build [(.c (.v (.int .i8 0))), (.c (.v (.string (bs [])))), .nil, (.c (.v (.int .i8 0))), (.c (.v (.int .i8 0))), (.c (.v (.string (bs [])))), (.c (.v (.int .i8 0))), (.c (.v (.int .i64 0))), (.c (.v (.string (bs [])))), .nil, (.c (.v (.int .i8 0))), (.c (.v (.string (bs [])))), (.c (.v (.int .i8 0))), (.c (.v (.int .i64 0))), (.c (.v (.string (bs [])))), .nil] [(0, 1, (.k (rI .i8 3))), (3, 1, (.k (rI .i8 1))), (4, 6, (.t 13)), (10, 6, (.t 18))]), none, none⟩,⟨some 5, (.zero 88 [(.c (.v (.int .i8 0))), (.c (.v (.string (bs [])))), .nil, (.c (.v (.int .i8 0))), (.c (.v (.int .i8 0))), (.c (.v (.string (bs [])))), (.c (.v (.int .i8 0))), (.c (.v (.int .i64 0))), (.c (.v (.string (bs [])))), .nil, (.c (.v (.int .i8 0))), (.c (.v (.string (bs [])))), (.c (.v (.int .i8 0))), (.c (.v (.int .i64 0))), (.c (.v (.string (bs [])))), .nil]), none, none⟩,⟨none, (.store (some 16) (.t 5) (.t 19)), none, none⟩])
 (.seq
 (.region [24, 28, 31] [] [2, 3, 4, 1, 5, 0] [⟨some 20, (.load (some 4) (.t 1)), none, none⟩,⟨some 21, (.build [(.c (.v (.int .i8 0))), (.c (.v (.string (bs [])))), (.c (.v (.int .i8 0))), (.c (.v (.int .i64 0))), (.c (.v (.string (bs []))))] [(1, 4, (.t 20))]), none, none⟩,⟨some 22, (.load (some 4) (.t 2)), none, none⟩,⟨some 23, (.build [(.c (.v (.int .i8 0))), (.c (.v (.string (bs [])))), (.c (.v (.int .i8 0))), (.c (.v (.int .i64 0))), (.c (.v (.string (bs []))))] [(1, 4, (.t 22))]), none, none⟩,⟨some 24, (.row 189 5 [(.t 21), (.t 23)]), none, none⟩,⟨some 25, (.load (some 16) (.t 5)), none, none⟩,⟨some 26, (.load (some 4) (.t 1)), none, none⟩,⟨some 27, (.load (some 4) (.t 3)), none, none⟩,⟨some 28, (.row 41 4 [(.t 26), (.t 27)]), none, none⟩,⟨some 29, (.build [(.c (.v (.string (bs [])))), .nil] [(0, 1, (.k (rS (bs [101])))), (1, 1, (.t 28))]), none, none⟩,⟨some 30, (.build [(.c (.v (.int .i8 0))), (.c (.v (.string (bs [])))), .nil, (.c (.v (.int .i8 0))), (.c (.v (.int .i8 0))), (.c (.v (.string (bs [])))), (.c (.v (.int .i8 0))), (.c (.v (.int .i64 0))), (.c (.v (.string (bs [])))), .nil, (.c (.v (.int .i8 0))), (.c (.v (.string (bs [])))), (.c (.v (.int .i8 0))), (.c (.v (.int .i64 0))), (.c (.v (.string (bs [])))), .nil] [(0, 1, (.k (rI .i8 1))), (1, 2, (.t 29))]), none, none⟩,⟨some 31, (.row 88 16 [(.t 25), (.t 30)]), none, none⟩,⟨some 32, (.build [(.c (.v (.string (bs [])))), .nil, .nil] [(0, 1, (.k (rS (bs [112])))), (1, 1, (.t 24)), (2, 1, (.t 31))]), none, none⟩,⟨none, (.store (some 3) (.t 0) (.t 32)), none, none⟩])
 .ret)))))
def ir152 : List IRes := [.cell 0 (some 3)]
theorem ie152 : cmpFunc Go.Proofs.Tryd.prog ⟨[], []⟩ Go.Proofs.Tryd.f152 [2, 3, 4, 1, 5, 0] = some ic152 := by kernel_rfl
theorem ig152 : cmpRes Go.Proofs.Tryd.prog Go.Proofs.Tryd.f152.results.toList = some ir152 := by kernel_rfl
def ic154a0 : IC :=
 (.region [] [] [0, 1, 10, 11, 2, 6, 20, 5, 22, 8, 30, 4] [⟨some 6, (.move (.t 11)), none, none⟩])
def ic154l0 : IC :=
 (.block 1
 (.seq
 (.region [] [] [0, 1, 10, 11, 2, 6, 20, 5, 22, 8, 30, 4] [⟨some 12, (.load none (.t 2)), none, none⟩,⟨some 13, (.nilchk (.t 12)), none, none⟩,⟨some 14, (.faddr 0 (.t 13)), none, none⟩,⟨some 15, (.load none (.t 14)), none, none⟩,⟨some 16, (.move (.t 6)), none, none⟩,⟨some 17, (.iaddr 16 (.t 15) (.t 16)), none, none⟩,⟨some 18, (.faddr 0 (.t 17)), none, none⟩,⟨some 19, (.load none (.t 18)), none, none⟩,⟨some 20, (.bin .eql (.t 19) (.k (rI .i8 1))), none, none⟩])
 (.cond (.t 20)
 (.seq
 (.region [] [] [0, 1, 10, 11, 2, 6, 20, 5, 22, 8, 30, 4] [⟨some 21, (.load none (.t 5)), none, none⟩,⟨some 22, (.bin .lss (.t 21) (.k (rI .i64 0))), none, none⟩])
 (.cond (.t 22)
 (.region [] [] [0, 1, 10, 11, 2, 6, 20, 5, 22, 8, 30, 4] [⟨some 23, (.move (.t 6)), none, none⟩,⟨none, (.store (some 1) (.t 5) (.t 23)), none, none⟩])
 .skip))
 (.seq
 (.region [7] [] [0, 1, 10, 11, 2, 6, 20, 5, 22, 8, 30, 4] [⟨some 25, (.load none (.t 2)), none, none⟩,⟨some 26, (.move (.t 6)), none, none⟩,⟨some 27, (.call (.k (rF 149)) [(.t 25), (.t 26)]), none, none⟩,⟨some 24, (.move (.t 27)), none, none⟩,⟨some 28, (.ext (.t 24) 0), none, none⟩,⟨some 29, (.ext (.t 24) 1), none, none⟩,⟨some 7, (.zero 121 [(.c (.v (.int .i8 0))), (.c (.v (.int .i64 0))), (.c (.v (.int .u32 0))), .nil]), none, none⟩,⟨none, (.store (some 4) (.t 7) (.t 28)), none, none⟩,⟨some 8, (.move (.t 29)), none, none⟩])
 (.seq
 (.region [] [] [0, 1, 10, 11, 2, 6, 20, 5, 22, 8, 30, 4] [⟨some 30, (.move (.t 8)), none, none⟩])
 (.cond (.t 30)
 (.seq
 (.region [] [] [0, 1, 10, 11, 2, 6, 20, 5, 22, 8, 30, 4] [⟨some 31, (.move (.t 6)), none, none⟩,⟨none, (.store (some 1) (.t 4) (.t 31)), none, none⟩])
 .ret)
 .skip))))))
def ic154 : IC :=
 (.seq
 (.region [2, 4] [] [0, 1, 10, 11, 2, 6, 20, 5, 22, 8, 30, 4] [⟨some 2, (.box 200 (.t 0)), none, none⟩,⟨some 4, (.zero 3 [(.c (.v (.int .i64 0)))]), none, none⟩])
 (.seq
 (.region [5] [] [0, 1, 10, 11, 2, 6, 20, 5, 22, 8, 30, 4] [⟨some 5, (.zero 3 [(.c (.v (.int .i64 0)))]), none, none⟩,⟨none, (.store (some 1) (.t 5) (.k (rI .i64 (-1)))), none, none⟩])
 (.seq
 (.seq
 (.region [] [] [0, 1, 10, 11, 2, 6, 20, 5, 22, 8, 30, 4] [⟨some 9, (.move (.t 1)), none, none⟩,⟨some 10, (.call (.k (rF 199)) [(.t 9)]), none, none⟩])
 (.block 0
 (.rangeF (.t 10) [11] ic154a0 ic154l0)))
 (.seq
 (.region [] [] [0, 1, 10, 11, 2, 6, 20, 5, 22, 8, 30, 4] [⟨some 32, (.load none (.t 5)), none, none⟩,⟨none, (.store (some 1) (.t 4) (.t 32)), none, none⟩])
 .ret))))
def ir154 : List IRes := [.cell 4 none]
theorem ie154 : cmpFunc Go.Proofs.Tryd.prog ⟨[(10, none), (27, none)], []⟩ Go.Proofs.Tryd.f154 [0, 1, 10, 11, 2, 6, 20, 5, 22, 8, 30, 4] = some ic154 := by kernel_rfl
theorem ig154 : cmpRes Go.Proofs.Tryd.prog Go.Proofs.Tryd.f154.results.toList = some ir154 := by kernel_rfl
def ic199 : IC :=
 (.seq
 (.region [1] [] [0, 1, 2] [⟨some 1, (.box 202 (.t 0)), none, none⟩,⟨some 2, (.move (.k (.x (.one (.c (.v .nilFunc)))))), none, none⟩])
 (.seq
 (.region [] [] [0, 1, 2] [⟨some 3, (.clo 220 [] [(.t 1)]), none, none⟩,⟨some 2, (.move (.t 3)), none, none⟩])
 .ret))
def ir199 : List IRes := [.tmp 2]
theorem ie199 : cmpFunc Go.Proofs.Tryd.prog ⟨[], []⟩ Go.Proofs.Tryd.f199 [0, 1, 2] = some ic199 := by kernel_rfl
theorem ig199 : cmpRes Go.Proofs.Tryd.prog Go.Proofs.Tryd.f199.results.toList = some ir199 := by kernel_rfl
def ic220l0 : IC :=
 (.seq
 (.seq
 (.region [] [] [1, 5, 0, 3, 11] [⟨some 4, (.load none (.t 1)), none, none⟩,⟨some 5, (.bin .neq (.t 4) (.k (rI .u32 0))), none, none⟩])
 (.cond (.t 5)
 .skip
 (.exit 0)))
 (.block 1
 (.seq
 (.region [] [] [1, 5, 0, 3, 11] [⟨some 6, (.load none (.t 1)), none, none⟩,⟨some 7, (.callp (.k (rF 221)) [(.t 6)]), none, none⟩,⟨some 3, (.move (.t 7)), none, none⟩])
 (.seq
 (.seq
 (.region [] [] [1, 5, 0, 3, 11] [⟨some 8, (.move (.t 0)), none, none⟩,⟨some 9, (.move (.t 3)), none, none⟩,⟨some 10, (.call (.t 8) [(.t 9)]), none, none⟩,⟨some 11, (.un .not (.t 10)), none, none⟩])
 (.cond (.t 11)
 .ret
 .skip))
 (.region [] [] [1, 5, 0, 3, 11] [⟨some 12, (.load none (.t 1)), none, none⟩,⟨some 13, (.move (.t 3)), none, none⟩,⟨some 14, (.bin .shl (.k (rI .u32 1)) (.t 13)), none, none⟩,⟨some 15, (.bin .andNot (.t 12) (.t 14)), none, none⟩,⟨none, (.store (some 1) (.t 1) (.t 15)), none, none⟩])))))
def ic220 : IC :=
 (.block 0
 (.loop ic220l0))
def ir220 : List IRes := []
theorem ie220 : cmpFunc Go.Proofs.Tryd.prog ⟨[(10, none)], []⟩ Go.Proofs.Tryd.f220 [1, 5, 0, 3, 11] = some ic220 := by kernel_rfl
theorem ig220 : cmpRes Go.Proofs.Tryd.prog Go.Proofs.Tryd.f220.results.toList = some ir220 := by kernel_rfl
def ic221 : IC :=
 (.seq
 (.region [] [] [0, 4, 2] [⟨some 2, (.move (.k (rI .i64 0))), none, none⟩])
 (.seq
 (.seq
 (.region [] [] [0, 4, 2] [⟨some 3, (.move (.t 0)), none, none⟩,⟨some 4, (.bin .eql (.t 3) (.k (rI .u32 0))), none, none⟩])
 (.cond (.t 4)
 (.seq
 (.region [] [] [0, 4, 2] [⟨some 2, (.move (.k (rI .i64 32))), none, none⟩])
 .ret)
 .skip))
 (.seq
 (.region [] [] [0, 4, 2] [⟨some 5, (.move (.t 0)), none, none⟩,⟨some 6, (.move (.t 0)), none, none⟩,⟨some 7, (.un .neg (.t 6)), none, none⟩,⟨some 8, (.bin .and (.t 5) (.t 7)), none, none⟩,⟨some 9, (.bin .mul (.t 8) (.k (rI .u32 125613361))), none, none⟩,⟨some 10, (.bin .shr (.t 9) (.k (rI .u64 27))), none, none⟩,⟨some 11, (.gidx 32 1 1 (.t 10)), none, none⟩,⟨some 12, (.gload (.t 11)), none, (some [88888])⟩,⟨some 13, (.conv .i64 (.t 12)), none, none⟩,⟨some 2, (.move (.t 13)), none, none⟩])
 .ret)))
def ir221 : List IRes := [.tmp 2]
theorem ie221 : cmpFunc Go.Proofs.Tryd.prog ⟨[(12, (some [88888]))], []⟩ Go.Proofs.Tryd.f221 [0, 4, 2] = some ic221 := by kernel_rfl
theorem ig221 : cmpRes Go.Proofs.Tryd.prog Go.Proofs.Tryd.f221.results.toList = some ir221 := by kernel_rfl
end Go.Proofs.YtiomojlcnemnhaaDoor

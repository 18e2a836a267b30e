import Derived.Test.YtiomojlcnemnhaaDoorSFxZ
import Derived.Test.YtiomojlcnemnhaaDoorProg
import Derived.KernelRfl
namespace Go.Proofs.YtiomojlcnemnhaaDoor
open Go.Fx
def ic18l0 : IC :=
 (.seq
 (.seq
 (.region [] [] [0, 3, 16, 1, 2, 10, 34, 8, 36, 38, 49, 11, 7, 107, 13, 112, 14, 12, 118, 131, 6] [⟨some 115, (.move (.t 14)), none, none⟩,⟨some 116, (.move (.t 12)), none, none⟩,⟨some 117, (.len (.t 116)), none, none⟩,⟨some 118, (.bin .lss (.t 115) (.t 117)), none, none⟩])
 (.cond (.t 118)
 .skip
 (.exit 2)))
 (.seq
 (.block 3
 (.seq
 (.region [] [] [0, 3, 16, 1, 2, 10, 34, 8, 36, 38, 49, 11, 7, 107, 13, 112, 14, 12, 118, 131, 6] [⟨some 121, (.move (.t 12)), none, none⟩,⟨some 122, (.move (.t 14)), none, none⟩,⟨some 123, (.iaddr 1 (.t 121) (.t 122)), none, none⟩,⟨some 124, (.load none (.t 123)), none, none⟩,⟨some 125, (.faddr 3 (.t 7)), none, none⟩,⟨some 126, (.load none (.t 125)), none, none⟩,⟨some 127, (.move (.t 13)), none, none⟩,⟨some 128, (.iaddr 4 (.t 126) (.t 127)), none, none⟩,⟨some 129, (.faddr 1 (.t 128)), none, none⟩,⟨some 130, (.load none (.t 129)), none, none⟩,⟨some 131, (.bin .eql (.t 124) (.t 130)), none, none⟩])
 (.cond (.t 131)
 (.seq
 (.region [] [] [0, 3, 16, 1, 2, 10, 34, 8, 36, 38, 49, 11, 7, 107, 13, 112, 14, 12, 118, 131, 6] [⟨some 6, (.move (.k (rB false))), none, none⟩])
 .ret)
 .skip)))
 (.region [] [] [0, 3, 16, 1, 2, 10, 34, 8, 36, 38, 49, 11, 7, 107, 13, 112, 14, 12, 118, 131, 6] [⟨some 119, (.move (.t 14)), none, none⟩,⟨some 120, (.bin .add (.t 119) (.k (rI .i64 1))), none, none⟩,⟨some 14, (.move (.t 120)), none, none⟩])))
def ic18l1 : IC :=
 (.seq
 (.seq
 (.region [] [] [0, 3, 16, 1, 2, 10, 34, 8, 36, 38, 49, 11, 7, 107, 13, 112, 14, 12, 118, 131, 6] [⟨some 108, (.move (.t 13)), none, none⟩,⟨some 109, (.faddr 3 (.t 7)), none, none⟩,⟨some 110, (.load none (.t 109)), none, none⟩,⟨some 111, (.len (.t 110)), none, none⟩,⟨some 112, (.bin .lss (.t 108) (.t 111)), none, none⟩])
 (.cond (.t 112)
 .skip
 (.exit 0)))
 (.seq
 (.block 1
 (.seq
 (.seq
 (.region [] [] [0, 3, 16, 1, 2, 10, 34, 8, 36, 38, 49, 11, 7, 107, 13, 112, 14, 12, 118, 131, 6] [⟨some 14, (.move (.k (rI .i64 0))), none, none⟩])
 (.block 2
 (.loop ic18l0)))
 (.region [139] [] [0, 3, 16, 1, 2, 10, 34, 8, 36, 38, 49, 11, 7, 107, 13, 112, 14, 12, 118, 131, 6] [⟨some 132, (.move (.t 12)), none, none⟩,⟨some 133, (.faddr 3 (.t 7)), none, none⟩,⟨some 134, (.load none (.t 133)), none, none⟩,⟨some 135, (.move (.t 13)), none, none⟩,⟨some 136, (.iaddr 4 (.t 134) (.t 135)), none, none⟩,⟨some 137, (.faddr 1 (.t 136)), none, none⟩,⟨some 138, (.load none (.t 137)), none, none⟩,⟨some 139, (.row 3 1 [(.t 138)]), none, none⟩,⟨some 140, (.app 3 1 8 (.t 132) (.t 139)), none, none⟩,⟨some 12, (.move (.t 140)), none, none⟩])))
 (.region [] [] [0, 3, 16, 1, 2, 10, 34, 8, 36, 38, 49, 11, 7, 107, 13, 112, 14, 12, 118, 131, 6] [⟨some 113, (.move (.t 13)), none, none⟩,⟨some 114, (.bin .add (.t 113) (.k (rI .i64 1))), none, none⟩,⟨some 13, (.move (.t 114)), none, none⟩])))
def ic18 : IC :=
 (.seq
 (.region [3] [] [0, 3, 16, 1, 2, 10, 34, 8, 36, 38, 49, 11, 7, 107, 13, 112, 14, 12, 118, 131, 6] [⟨some 3, (.box 96 (.t 0)), none, none⟩,⟨some 6, (.move (.k (rB false))), none, none⟩])
 (.seq
 (.seq
 (.region [] [] [0, 3, 16, 1, 2, 10, 34, 8, 36, 38, 49, 11, 7, 107, 13, 112, 14, 12, 118, 131, 6] [⟨some 15, (.load (some 3) (.t 3)), none, none⟩,⟨some 16, (.callp (.k (rF 62)) [(.t 15)]), none, none⟩])
 (.cond (.t 16)
 (.seq
 (.region [] [] [0, 3, 16, 1, 2, 10, 34, 8, 36, 38, 49, 11, 7, 107, 13, 112, 14, 12, 118, 131, 6] [⟨some 6, (.move (.k (rB true))), none, none⟩])
 .ret)
 .skip))
 (.seq
 (.region [7] [] [0, 3, 16, 1, 2, 10, 34, 8, 36, 38, 49, 11, 7, 107, 13, 112, 14, 12, 118, 131, 6] [⟨some 18, (.load (some 3) (.t 3)), none, none⟩,⟨some 19, (.move (.t 1)), none, none⟩,⟨some 20, (.move (.t 2)), none, none⟩,⟨some 21, (.callp (.k (rF 82)) [(.t 18), (.t 19), (.t 20)]), none, none⟩,⟨some 17, (.move (.t 21)), none, none⟩,⟨some 22, (.ext (.t 17) 0), none, none⟩,⟨some 23, (.ext (.t 17) 1), none, none⟩,⟨some 7, (.zero 115 [(.c (.v (.string (bs [])))), .nil, .nil, .nil]), none, none⟩,⟨none, (.store (some 4) (.t 7) (.t 22)), none, none⟩,⟨some 8, (.move (.t 23)), none, none⟩])
 (.seq
 (.region [9] [] [0, 3, 16, 1, 2, 10, 34, 8, 36, 38, 49, 11, 7, 107, 13, 112, 14, 12, 118, 131, 6] [⟨some 25, (.load (some 3) (.t 3)), none, none⟩,⟨some 26, (.callp (.k (rF 82)) [(.t 25), (.k (.x (.one .nil))), (.k (rI .i64 (-1)))]), none, none⟩,⟨some 24, (.move (.t 26)), none, none⟩,⟨some 27, (.ext (.t 24) 0), none, none⟩,⟨some 28, (.ext (.t 24) 1), none, none⟩,⟨some 9, (.zero 115 [(.c (.v (.string (bs [])))), .nil, .nil, .nil]), none, none⟩,⟨none, (.store (some 4) (.t 9) (.t 27)), none, none⟩,⟨some 10, (.move (.t 28)), none, none⟩])
 (.seq
 (.seq
 (.region [] [] [0, 3, 16, 1, 2, 10, 34, 8, 36, 38, 49, 11, 7, 107, 13, 112, 14, 12, 118, 131, 6] [⟨some 29, (.move (.t 10)), none, none⟩,⟨some 30, (.bin .eql (.t 29) (.k (rI .i64 0))), none, none⟩,⟨some 31, (.load (some 3) (.t 3)), none, none⟩,⟨some 32, (.callp (.k (rF 85)) [(.t 31)]), none, none⟩,⟨some 33, (.bin .eql (.t 32) (.k (rI .i64 0))), none, none⟩,⟨some 34, (.eqb true (.t 30) (.t 33)), none, none⟩])
 (.cond (.t 34)
 (.seq
 (.region [] [] [0, 3, 16, 1, 2, 10, 34, 8, 36, 38, 49, 11, 7, 107, 13, 112, 14, 12, 118, 131, 6] [⟨some 6, (.move (.k (rB false))), none, none⟩])
 .ret)
 .skip))
 (.seq
 (.seq
 (.region [] [] [0, 3, 16, 1, 2, 10, 34, 8, 36, 38, 49, 11, 7, 107, 13, 112, 14, 12, 118, 131, 6] [⟨some 35, (.move (.t 8)), none, none⟩,⟨some 36, (.bin .neq (.t 35) (.k (rI .i64 0))), none, none⟩])
 (.cond (.t 36)
 (.seq
 (.seq
 (.region [] [] [0, 3, 16, 1, 2, 10, 34, 8, 36, 38, 49, 11, 7, 107, 13, 112, 14, 12, 118, 131, 6] [⟨some 37, (.move (.t 8)), none, none⟩,⟨some 38, (.bin .eql (.t 37) (.k (rI .i64 40))), none, none⟩])
 (.cond (.t 38)
 (.seq
 (.region [] [] [0, 3, 16, 1, 2, 10, 34, 8, 36, 38, 49, 11, 7, 107, 13, 112, 14, 12, 118, 131, 6] [⟨some 39, (.load (some 3) (.t 3)), none, none⟩,⟨some 40, (.callp (.k (rF 85)) [(.t 39)]), none, none⟩,⟨some 41, (.bin .eql (.t 40) (.k (rI .i64 40))), none, none⟩,⟨some 42, (.move (.t 41)), none, none⟩,⟨some 43, (.callp (.k (rF 79)) []), some (42, true), none⟩,⟨some 44, (.pick (.t 42) (.t 43) (.k (rB false))), none, none⟩,⟨some 6, (.move (.t 44)), none, none⟩])
 .ret)
 .skip))
 (.seq
 (.seq
 (.region [] [] [0, 3, 16, 1, 2, 10, 34, 8, 36, 38, 49, 11, 7, 107, 13, 112, 14, 12, 118, 131, 6] [⟨some 45, (.move (.t 8)), none, none⟩,⟨some 46, (.bin .eql (.t 45) (.k (rI .i64 1))), none, none⟩,⟨some 47, (.move (.t 1)), none, none⟩,⟨some 48, (.callp (.k (rF 86)) [(.t 47)]), none, none⟩,⟨some 49, (.eqb true (.t 46) (.t 48)), none, none⟩])
 (.cond (.t 49)
 (.seq
 (.region [] [] [0, 3, 16, 1, 2, 10, 34, 8, 36, 38, 49, 11, 7, 107, 13, 112, 14, 12, 118, 131, 6] [⟨some 6, (.move (.k (rB false))), none, none⟩])
 .ret)
 .skip))
 (.seq
 (.region [] [] [0, 3, 16, 1, 2, 10, 34, 8, 36, 38, 49, 11, 7, 107, 13, 112, 14, 12, 118, 131, 6] [⟨some 50, (.move (.t 2)), none, none⟩,⟨some 51, (.bin .lss (.t 50) (.k (rI .i64 (-1)))), none, none⟩,⟨some 52, (.move (.t 51)), none, none⟩,⟨some 53, (.move (.t 2)), some (52, false), none⟩,⟨some 54, (.faddr 2 (.t 3)), some (52, false), none⟩,⟨some 55, (.load none (.t 54)), some (52, false), none⟩,⟨some 56, (.len (.t 55)), some (52, false), none⟩,⟨some 57, (.bin .geq (.t 53) (.t 56)), some (52, false), none⟩,⟨some 58, (.pick (.t 52) (.k (rB true)) (.t 57)), none, none⟩,⟨some 59, (.move (.t 58)), none, none⟩,⟨some 60, (.move (.t 2)), some (59, false), none⟩,⟨some 61, (.bin .geq (.t 60) (.k (rI .i64 0))), some (59, false), none⟩,⟨some 62, (.move (.t 61)), some (59, false), none⟩,⟨some 63, (.faddr 2 (.t 3)), some (62, true), none⟩,⟨some 64, (.load none (.t 63)), some (62, true), none⟩,⟨some 65, (.move (.t 2)), some (62, true), none⟩,⟨some 66, (.iaddr 16 (.t 64) (.t 65)), some (62, true), none⟩,⟨some 67, (.faddr 0 (.t 66)), some (62, true), none⟩,⟨some 68, (.load none (.t 67)), some (62, true), none⟩,⟨some 69, (.bin .neq (.t 68) (.k (rI .i8 1))), some (62, true), none⟩,⟨some 70, (.pick (.t 62) (.t 69) (.k (rB false))), some (59, false), none⟩,⟨some 71, (.pick (.t 59) (.k (rB true)) (.t 70)), none, none⟩,⟨some 11, (.move (.t 71)), none, none⟩])
 (.seq
 (.region [] [] [0, 3, 16, 1, 2, 10, 34, 8, 36, 38, 49, 11, 7, 107, 13, 112, 14, 12, 118, 131, 6] [⟨some 72, (.move (.t 8)), none, none⟩,⟨some 73, (.bin .neq (.t 72) (.k (rI .i64 73))), none, none⟩,⟨some 74, (.move (.t 73)), none, none⟩,⟨some 75, (.move (.t 10)), some (74, false), none⟩,⟨some 76, (.bin .eql (.t 75) (.k (rI .i64 73))), some (74, false), none⟩,⟨some 77, (.pick (.t 74) (.k (rB true)) (.t 76)), none, none⟩,⟨some 78, (.move (.t 77)), none, none⟩,⟨some 79, (.move (.t 8)), some (78, true), none⟩,⟨some 80, (.bin .neq (.t 79) (.k (rI .i64 120))), some (78, true), none⟩,⟨some 81, (.move (.t 80)), some (78, true), none⟩,⟨some 82, (.move (.t 11)), some (81, false), none⟩,⟨some 83, (.pick (.t 81) (.k (rB true)) (.t 82)), some (78, true), none⟩,⟨some 84, (.pick (.t 78) (.t 83) (.k (rB false))), none, none⟩,⟨some 85, (.move (.t 84)), none, none⟩,⟨some 86, (.callp (.k (rF 79)) []), some (85, true), none⟩,⟨some 87, (.pick (.t 85) (.t 86) (.k (rB false))), none, none⟩,⟨some 6, (.move (.t 87)), none, none⟩])
 .ret))))
 .skip))
 (.seq
 (.seq
 (.region [] [] [0, 3, 16, 1, 2, 10, 34, 8, 36, 38, 49, 11, 7, 107, 13, 112, 14, 12, 118, 131, 6] [⟨some 88, (.load (some 4) (.t 7)), none, none⟩,⟨some 89, (.move (.t 1)), none, none⟩,⟨some 90, (.callp (.k (rF 78)) [(.t 88), (.t 89)]), none, none⟩,⟨some 91, (.un .not (.t 90)), none, none⟩,⟨some 92, (.move (.t 91)), none, none⟩,⟨some 93, (.faddr 3 (.t 7)), some (92, false), none⟩,⟨some 94, (.load none (.t 93)), some (92, false), none⟩,⟨some 95, (.len (.t 94)), some (92, false), none⟩,⟨some 96, (.faddr 2 (.t 3)), some (92, false), none⟩,⟨some 97, (.load none (.t 96)), some (92, false), none⟩,⟨some 98, (.len (.t 97)), some (92, false), none⟩,⟨some 99, (.bin .neq (.t 95) (.t 98)), some (92, false), none⟩,⟨some 100, (.pick (.t 92) (.k (rB true)) (.t 99)), none, none⟩,⟨some 101, (.move (.t 100)), none, none⟩,⟨some 102, (.faddr 0 (.t 7)), some (101, false), none⟩,⟨some 103, (.load (some 3) (.t 102)), some (101, false), none⟩,⟨some 104, (.load (some 3) (.t 3)), some (101, false), none⟩,⟨some 105, (.callp (.k (rF 72)) [(.t 103), (.t 104)]), some (101, false), none⟩,⟨some 106, (.un .not (.t 105)), some (101, false), none⟩,⟨some 107, (.pick (.t 101) (.k (rB true)) (.t 106)), none, none⟩])
 (.cond (.t 107)
 (.seq
 (.region [] [] [0, 3, 16, 1, 2, 10, 34, 8, 36, 38, 49, 11, 7, 107, 13, 112, 14, 12, 118, 131, 6] [⟨some 6, (.move (.k (rB false))), none, none⟩])
 .ret)
 .skip))
 (.seq
 (.region [] [] [0, 3, 16, 1, 2, 10, 34, 8, 36, 38, 49, 11, 7, 107, 13, 112, 14, 12, 118, 131, 6] [⟨some 12, (.move (.k (.x (.one .nil)))), none, none⟩])
 (.seq
 (.seq
 (.region [] [] [0, 3, 16, 1, 2, 10, 34, 8, 36, 38, 49, 11, 7, 107, 13, 112, 14, 12, 118, 131, 6] [⟨some 13, (.move (.k (rI .i64 0))), none, none⟩])
 (.block 0
 (.loop ic18l1)))
 (.seq
 (.region [] [] [0, 3, 16, 1, 2, 10, 34, 8, 36, 38, 49, 11, 7, 107, 13, 112, 14, 12, 118, 131, 6] [⟨some 141, (.move (.t 2)), none, none⟩,⟨some 142, (.bin .lss (.t 141) (.k (rI .i64 0))), none, none⟩,⟨some 143, (.move (.t 142)), none, none⟩,⟨some 144, (.move (.t 12)), some (143, false), none⟩,⟨some 145, (.len (.t 144)), some (143, false), none⟩,⟨some 146, (.bin .gtr (.t 145) (.k (rI .i64 0))), some (143, false), none⟩,⟨some 147, (.move (.t 146)), some (143, false), none⟩,⟨some 148, (.move (.t 12)), some (147, true), none⟩,⟨some 149, (.iaddr 1 (.t 148) (.k (rI .i64 0))), some (147, true), none⟩,⟨some 150, (.load none (.t 149)), some (147, true), none⟩,⟨some 151, (.move (.t 2)), some (147, true), none⟩,⟨some 152, (.bin .eql (.t 150) (.t 151)), some (147, true), none⟩,⟨some 153, (.pick (.t 147) (.t 152) (.k (rB false))), some (143, false), none⟩,⟨some 154, (.pick (.t 143) (.k (rB true)) (.t 153)), none, none⟩,⟨some 155, (.move (.t 154)), none, none⟩,⟨some 156, (.callp (.k (rF 79)) []), some (155, true), none⟩,⟨some 157, (.pick (.t 155) (.t 156) (.k (rB false))), none, none⟩,⟨some 6, (.move (.t 157)), none, none⟩])
 .ret))))))))))
def ir18 : List IRes := [.tmp 6]
theorem ie18 : cmpFunc Go.Proofs.Tryd.prog ⟨[], []⟩ Go.Proofs.Tryd.f18 [0, 3, 16, 1, 2, 10, 34, 8, 36, 38, 49, 11, 7, 107, 13, 112, 14, 12, 118, 131, 6] = some ic18 := by kernel_rfl
theorem ig18 : cmpRes Go.Proofs.Tryd.prog Go.Proofs.Tryd.f18.results.toList = some ir18 := by kernel_rfl
def ic86l0 : IC :=
 (.seq
 (.seq
 (.region [] [] [3, 0, 7, 40, 2] [⟨some 4, (.move (.t 3)), none, none⟩,⟨some 5, (.move (.t 0)), none, none⟩,⟨some 6, (.len (.t 5)), none, none⟩,⟨some 7, (.bin .lss (.t 4) (.t 6)), none, none⟩])
 (.cond (.t 7)
 .skip
 (.exit 0)))
 (.seq
 (.block 1
 (.seq
 (.region [] [] [3, 0, 7, 40, 2] [⟨some 10, (.move (.t 0)), none, none⟩,⟨some 11, (.move (.t 3)), none, none⟩,⟨some 12, (.vsl 1 (.t 10) none (some (.t 11))), none, none⟩,⟨some 13, (.move (.t 0)), none, none⟩,⟨some 14, (.move (.t 3)), none, none⟩,⟨some 15, (.iaddr 1 (.t 13) (.t 14)), none, none⟩,⟨some 16, (.load none (.t 15)), none, none⟩,⟨some 17, (.callp (.k (rF 80)) [(.t 12), (.t 16)]), none, none⟩,⟨some 18, (.move (.t 17)), none, none⟩,⟨some 19, (.move (.t 0)), some (18, false), none⟩,⟨some 20, (.move (.t 3)), some (18, false), none⟩,⟨some 21, (.iaddr 1 (.t 19) (.t 20)), some (18, false), none⟩,⟨some 22, (.load none (.t 21)), some (18, false), none⟩,⟨some 23, (.build [(.c (.v (.string (bs [])))), (.c (.v (.int .i8 0))), (.c (.v (.int .i64 0))), (.c (.v (.string (bs []))))] [(0, 1, (.t 22))]), some (18, false), none⟩,⟨some 24, (.callp (.k (rF 117)) [(.t 23)]), some (18, false), none⟩,⟨some 25, (.bin .neq (.t 24) (.k (rI .i64 0))), some (18, false), none⟩,⟨some 26, (.pick (.t 18) (.k (rB true)) (.t 25)), none, none⟩,⟨some 27, (.move (.t 26)), none, none⟩,⟨some 28, (.move (.t 0)), some (27, false), none⟩,⟨some 29, (.move (.t 3)), some (27, false), none⟩,⟨some 30, (.iaddr 1 (.t 28) (.t 29)), some (27, false), none⟩,⟨some 31, (.load none (.t 30)), some (27, false), none⟩,⟨some 32, (.bin .eql (.t 31) (.k (rS (bs [])))), some (27, false), none⟩,⟨some 33, (.pick (.t 27) (.k (rB true)) (.t 32)), none, none⟩,⟨some 34, (.move (.t 33)), none, none⟩,⟨some 35, (.move (.t 0)), some (34, false), none⟩,⟨some 36, (.move (.t 3)), some (34, false), none⟩,⟨some 37, (.iaddr 1 (.t 35) (.t 36)), some (34, false), none⟩,⟨some 38, (.load none (.t 37)), some (34, false), none⟩,⟨some 39, (.bin .eql (.t 38) (.k (rS (bs [95])))), some (34, false), none⟩,⟨some 40, (.pick (.t 34) (.k (rB true)) (.t 39)), none, none⟩])
 (.cond (.t 40)
 (.seq
 (.region [] [] [3, 0, 7, 40, 2] [⟨some 2, (.move (.k (rB true))), none, none⟩])
 .ret)
 .skip)))
 (.region [] [] [3, 0, 7, 40, 2] [⟨some 8, (.move (.t 3)), none, none⟩,⟨some 9, (.bin .add (.t 8) (.k (rI .i64 1))), none, none⟩,⟨some 3, (.move (.t 9)), none, none⟩])))
def ic86 : IC :=
 (.seq
 (.region [] [] [3, 0, 7, 40, 2] [⟨some 2, (.move (.k (rB false))), none, none⟩])
 (.seq
 (.seq
 (.region [] [] [3, 0, 7, 40, 2] [⟨some 3, (.move (.k (rI .i64 0))), none, none⟩])
 (.block 0
 (.loop ic86l0)))
 (.seq
 (.region [] [] [3, 0, 7, 40, 2] [⟨some 2, (.move (.k (rB false))), none, none⟩])
 .ret)))
def ir86 : List IRes := [.tmp 2]
theorem ie86 : cmpFunc Go.Proofs.Tryd.prog ⟨[], []⟩ Go.Proofs.Tryd.f86 [3, 0, 7, 40, 2] = some ic86 := by kernel_rfl
theorem ig86 : cmpRes Go.Proofs.Tryd.prog Go.Proofs.Tryd.f86.results.toList = some ir86 := by kernel_rfl
end Go.Proofs.YtiomojlcnemnhaaDoor

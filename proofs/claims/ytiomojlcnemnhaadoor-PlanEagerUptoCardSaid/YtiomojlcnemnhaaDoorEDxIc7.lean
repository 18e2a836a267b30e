import Derived.Test.YtiomojlcnemnhaaDoorEFxZ
import Derived.Test.YtiomojlcnemnhaaDoorProg
import Derived.KernelRfl
namespace Go.Proofs.YtiomojlcnemnhaaDoor
open Go.Fx
def ic16l0 : IC :=
 (.seq
 (.seq
 (.region [] [] [0, 3, 15, 1, 2, 8, 24, 7, 10, 36, 57, 75, 11, 76, 9, 84, 12, 97, 13, 114, 142, 6] [⟨some 93, (.move (.t 12)), none, none⟩,⟨some 94, (.faddr 3 (.t 7)), none, none⟩,⟨some 95, (.load none (.t 94)), none, none⟩,⟨some 96, (.len (.t 95)), none, none⟩,⟨some 97, (.bin .lss (.t 93) (.t 96)), none, none⟩])
 (.cond (.t 97)
 .skip
 (.exit 2)))
 (.seq
 (.block 3
 (.seq
 (.region [] [] [0, 3, 15, 1, 2, 8, 24, 7, 10, 36, 57, 75, 11, 76, 9, 84, 12, 97, 13, 114, 142, 6] [⟨some 100, (.faddr 3 (.t 7)), none, none⟩,⟨some 101, (.load none (.t 100)), none, none⟩,⟨some 102, (.move (.t 12)), none, none⟩,⟨some 103, (.iaddr 4 (.t 101) (.t 102)), none, none⟩,⟨some 104, (.faddr 1 (.t 103)), none, none⟩,⟨some 105, (.load none (.t 104)), none, none⟩,⟨some 13, (.move (.t 105)), none, none⟩])
 (.seq
 (.seq
 (.region [] [] [0, 3, 15, 1, 2, 8, 24, 7, 10, 36, 57, 75, 11, 76, 9, 84, 12, 97, 13, 114, 142, 6] [⟨some 106, (.move (.t 13)), none, none⟩,⟨some 107, (.bin .lss (.t 106) (.k (rI .i64 0))), none, none⟩,⟨some 108, (.move (.t 107)), none, none⟩,⟨some 109, (.move (.t 13)), some (108, false), none⟩,⟨some 110, (.faddr 2 (.t 3)), some (108, false), none⟩,⟨some 111, (.load none (.t 110)), some (108, false), none⟩,⟨some 112, (.len (.t 111)), some (108, false), none⟩,⟨some 113, (.bin .geq (.t 109) (.t 112)), some (108, false), none⟩,⟨some 114, (.pick (.t 108) (.k (rB true)) (.t 113)), none, none⟩])
 (.cond (.t 114)
 (.seq
 (.region [] [] [0, 3, 15, 1, 2, 8, 24, 7, 10, 36, 57, 75, 11, 76, 9, 84, 12, 97, 13, 114, 142, 6] [⟨some 6, (.move (.k (rB false))), none, none⟩])
 .ret)
 .skip))
 (.seq
 (.region [] [] [0, 3, 15, 1, 2, 8, 24, 7, 10, 36, 57, 75, 11, 76, 9, 84, 12, 97, 13, 114, 142, 6] [⟨some 115, (.faddr 2 (.t 3)), none, none⟩,⟨some 116, (.load none (.t 115)), none, none⟩,⟨some 117, (.move (.t 13)), none, none⟩,⟨some 118, (.iaddr 16 (.t 116) (.t 117)), none, none⟩,⟨some 119, (.faddr 0 (.t 118)), none, none⟩,⟨some 120, (.load none (.t 119)), none, none⟩,⟨some 121, (.bin .neq (.t 120) (.k (rI .i8 1))), none, none⟩,⟨some 122, (.move (.t 121)), none, none⟩,⟨some 123, (.move (.t 11)), some (122, true), none⟩,⟨some 124, (.move (.t 123)), some (122, true), none⟩,⟨some 125, (.move (.t 13)), some (124, false), none⟩,⟨some 126, (.faddr 3 (.t 7)), some (124, false), none⟩,⟨some 127, (.load none (.t 126)), some (124, false), none⟩,⟨some 128, (.move (.t 10)), some (124, false), none⟩,⟨some 129, (.iaddr 4 (.t 127) (.t 128)), some (124, false), none⟩,⟨some 130, (.faddr 1 (.t 129)), some (124, false), none⟩,⟨some 131, (.load none (.t 130)), some (124, false), none⟩,⟨some 132, (.bin .lss (.t 125) (.t 131)), some (124, false), none⟩,⟨some 133, (.pick (.t 124) (.k (rB true)) (.t 132)), some (122, true), none⟩,⟨some 134, (.pick (.t 122) (.t 133) (.k (rB false))), none, none⟩,⟨some 135, (.move (.t 134)), none, none⟩,⟨some 136, (.load (some 4) (.t 7)), some (135, true), none⟩,⟨some 137, (.move (.t 12)), some (135, true), none⟩,⟨some 138, (.move (.t 10)), some (135, true), none⟩,⟨some 139, (.callp (.k (rF 83)) [(.t 136), (.t 137), (.t 138)]), some (135, true), none⟩,⟨some 140, (.move (.t 1)), some (135, true), none⟩,⟨some 141, (.callp (.k (rF 78)) [(.t 139), (.t 140)]), some (135, true), none⟩,⟨some 142, (.pick (.t 135) (.t 141) (.k (rB false))), none, none⟩])
 (.cond (.t 142)
 (.seq
 (.region [] [] [0, 3, 15, 1, 2, 8, 24, 7, 10, 36, 57, 75, 11, 76, 9, 84, 12, 97, 13, 114, 142, 6] [⟨some 6, (.move (.k (rB false))), none, none⟩])
 .ret)
 .skip)))))
 (.region [] [] [0, 3, 15, 1, 2, 8, 24, 7, 10, 36, 57, 75, 11, 76, 9, 84, 12, 97, 13, 114, 142, 6] [⟨some 98, (.move (.t 12)), none, none⟩,⟨some 99, (.bin .add (.t 98) (.k (rI .i64 1))), none, none⟩,⟨some 12, (.move (.t 99)), none, none⟩])))
def ic16l1 : IC :=
 (.seq
 (.seq
 (.region [] [] [0, 3, 15, 1, 2, 8, 24, 7, 10, 36, 57, 75, 11, 76, 9, 84, 12, 97, 13, 114, 142, 6] [⟨some 32, (.move (.t 10)), none, none⟩,⟨some 33, (.faddr 3 (.t 7)), none, none⟩,⟨some 34, (.load none (.t 33)), none, none⟩,⟨some 35, (.len (.t 34)), none, none⟩,⟨some 36, (.bin .lss (.t 32) (.t 35)), none, none⟩])
 (.cond (.t 36)
 .skip
 (.exit 0)))
 (.seq
 (.block 1
 (.seq
 (.seq
 (.region [] [] [0, 3, 15, 1, 2, 8, 24, 7, 10, 36, 57, 75, 11, 76, 9, 84, 12, 97, 13, 114, 142, 6] [⟨some 39, (.faddr 3 (.t 7)), none, none⟩,⟨some 40, (.load none (.t 39)), none, none⟩,⟨some 41, (.move (.t 10)), none, none⟩,⟨some 42, (.iaddr 4 (.t 40) (.t 41)), none, none⟩,⟨some 43, (.faddr 1 (.t 42)), none, none⟩,⟨some 44, (.load none (.t 43)), none, none⟩,⟨some 45, (.bin .lss (.t 44) (.k (rI .i64 0))), none, none⟩,⟨some 46, (.move (.t 45)), none, none⟩,⟨some 47, (.faddr 3 (.t 7)), some (46, false), none⟩,⟨some 48, (.load none (.t 47)), some (46, false), none⟩,⟨some 49, (.move (.t 10)), some (46, false), none⟩,⟨some 50, (.iaddr 4 (.t 48) (.t 49)), some (46, false), none⟩,⟨some 51, (.faddr 1 (.t 50)), some (46, false), none⟩,⟨some 52, (.load none (.t 51)), some (46, false), none⟩,⟨some 53, (.faddr 2 (.t 3)), some (46, false), none⟩,⟨some 54, (.load none (.t 53)), some (46, false), none⟩,⟨some 55, (.len (.t 54)), some (46, false), none⟩,⟨some 56, (.bin .geq (.t 52) (.t 55)), some (46, false), none⟩,⟨some 57, (.pick (.t 46) (.k (rB true)) (.t 56)), none, none⟩])
 (.cond (.t 57)
 (.seq
 (.region [] [] [0, 3, 15, 1, 2, 8, 24, 7, 10, 36, 57, 75, 11, 76, 9, 84, 12, 97, 13, 114, 142, 6] [⟨some 6, (.move (.k (rB false))), none, none⟩])
 .ret)
 .skip))
 (.seq
 (.region [] [] [0, 3, 15, 1, 2, 8, 24, 7, 10, 36, 57, 75, 11, 76, 9, 84, 12, 97, 13, 114, 142, 6] [⟨some 58, (.faddr 2 (.t 3)), none, none⟩,⟨some 59, (.load none (.t 58)), none, none⟩,⟨some 60, (.faddr 3 (.t 7)), none, none⟩,⟨some 61, (.load none (.t 60)), none, none⟩,⟨some 62, (.move (.t 10)), none, none⟩,⟨some 63, (.iaddr 4 (.t 61) (.t 62)), none, none⟩,⟨some 64, (.faddr 1 (.t 63)), none, none⟩,⟨some 65, (.load none (.t 64)), none, none⟩,⟨some 66, (.iaddr 16 (.t 59) (.t 65)), none, none⟩,⟨some 67, (.faddr 0 (.t 66)), none, none⟩,⟨some 68, (.load none (.t 67)), none, none⟩,⟨some 69, (.bin .eql (.t 68) (.k (rI .i8 1))), none, none⟩,⟨some 11, (.move (.t 69)), none, none⟩])
 (.seq
 (.seq
 (.region [] [] [0, 3, 15, 1, 2, 8, 24, 7, 10, 36, 57, 75, 11, 76, 9, 84, 12, 97, 13, 114, 142, 6] [⟨some 70, (.move (.t 10)), none, none⟩,⟨some 71, (.bin .eql (.t 70) (.k (rI .i64 0))), none, none⟩,⟨some 72, (.move (.t 71)), none, none⟩,⟨some 73, (.move (.t 2)), some (72, true), none⟩,⟨some 74, (.bin .geq (.t 73) (.k (rI .i64 0))), some (72, true), none⟩,⟨some 75, (.pick (.t 72) (.t 74) (.k (rB false))), none, none⟩])
 (.cond (.t 75)
 (.exit 1)
 .skip))
 (.seq
 (.seq
 (.region [] [] [0, 3, 15, 1, 2, 8, 24, 7, 10, 36, 57, 75, 11, 76, 9, 84, 12, 97, 13, 114, 142, 6] [⟨some 76, (.move (.t 11)), none, none⟩])
 (.cond (.t 76)
 (.seq
 (.seq
 (.region [] [] [0, 3, 15, 1, 2, 8, 24, 7, 10, 36, 57, 75, 11, 76, 9, 84, 12, 97, 13, 114, 142, 6] [⟨some 77, (.faddr 3 (.t 7)), none, none⟩,⟨some 78, (.load none (.t 77)), none, none⟩,⟨some 79, (.move (.t 10)), none, none⟩,⟨some 80, (.iaddr 4 (.t 78) (.t 79)), none, none⟩,⟨some 81, (.faddr 1 (.t 80)), none, none⟩,⟨some 82, (.load none (.t 81)), none, none⟩,⟨some 83, (.move (.t 9)), none, none⟩,⟨some 84, (.bin .leq (.t 82) (.t 83)), none, none⟩])
 (.cond (.t 84)
 (.seq
 (.region [] [] [0, 3, 15, 1, 2, 8, 24, 7, 10, 36, 57, 75, 11, 76, 9, 84, 12, 97, 13, 114, 142, 6] [⟨some 6, (.move (.k (rB false))), none, none⟩])
 .ret)
 .skip))
 (.region [] [] [0, 3, 15, 1, 2, 8, 24, 7, 10, 36, 57, 75, 11, 76, 9, 84, 12, 97, 13, 114, 142, 6] [⟨some 85, (.faddr 3 (.t 7)), none, none⟩,⟨some 86, (.load none (.t 85)), none, none⟩,⟨some 87, (.move (.t 10)), none, none⟩,⟨some 88, (.iaddr 4 (.t 86) (.t 87)), none, none⟩,⟨some 89, (.faddr 1 (.t 88)), none, none⟩,⟨some 90, (.load none (.t 89)), none, none⟩,⟨some 9, (.move (.t 90)), none, none⟩]))
 .skip))
 (.seq
 (.region [] [] [0, 3, 15, 1, 2, 8, 24, 7, 10, 36, 57, 75, 11, 76, 9, 84, 12, 97, 13, 114, 142, 6] [⟨some 91, (.move (.t 10)), none, none⟩,⟨some 92, (.bin .add (.t 91) (.k (rI .i64 1))), none, none⟩,⟨some 12, (.move (.t 92)), none, none⟩])
 (.block 2
 (.loop ic16l0))))))))
 (.region [] [] [0, 3, 15, 1, 2, 8, 24, 7, 10, 36, 57, 75, 11, 76, 9, 84, 12, 97, 13, 114, 142, 6] [⟨some 37, (.move (.t 10)), none, none⟩,⟨some 38, (.bin .add (.t 37) (.k (rI .i64 1))), none, none⟩,⟨some 10, (.move (.t 38)), none, none⟩])))
def ic16 : IC :=
 (.seq
 (.region [3] [] [0, 3, 15, 1, 2, 8, 24, 7, 10, 36, 57, 75, 11, 76, 9, 84, 12, 97, 13, 114, 142, 6] [⟨some 3, (.box 96 (.t 0)), none, none⟩,⟨some 6, (.move (.k (rB false))), none, none⟩])
 (.seq
 (.seq
 (.region [] [] [0, 3, 15, 1, 2, 8, 24, 7, 10, 36, 57, 75, 11, 76, 9, 84, 12, 97, 13, 114, 142, 6] [⟨some 14, (.load (some 3) (.t 3)), none, none⟩,⟨some 15, (.callp (.k (rF 62)) [(.t 14)]), none, none⟩])
 (.cond (.t 15)
 (.seq
 (.region [] [] [0, 3, 15, 1, 2, 8, 24, 7, 10, 36, 57, 75, 11, 76, 9, 84, 12, 97, 13, 114, 142, 6] [⟨some 6, (.move (.k (rB true))), none, none⟩])
 .ret)
 .skip))
 (.seq
 (.region [7] [] [0, 3, 15, 1, 2, 8, 24, 7, 10, 36, 57, 75, 11, 76, 9, 84, 12, 97, 13, 114, 142, 6] [⟨some 17, (.load (some 3) (.t 3)), none, none⟩,⟨some 18, (.move (.t 1)), none, none⟩,⟨some 19, (.move (.t 2)), none, none⟩,⟨some 20, (.callp (.k (rF 82)) [(.t 17), (.t 18), (.t 19)]), none, none⟩,⟨some 16, (.move (.t 20)), none, none⟩,⟨some 21, (.ext (.t 16) 0), none, none⟩,⟨some 22, (.ext (.t 16) 1), none, none⟩,⟨some 7, (.zero 115 [(.c (.v (.string (bs [])))), .nil, .nil, .nil]), none, none⟩,⟨none, (.store (some 4) (.t 7) (.t 21)), none, none⟩,⟨some 8, (.move (.t 22)), none, none⟩])
 (.seq
 (.seq
 (.region [] [] [0, 3, 15, 1, 2, 8, 24, 7, 10, 36, 57, 75, 11, 76, 9, 84, 12, 97, 13, 114, 142, 6] [⟨some 23, (.move (.t 8)), none, none⟩,⟨some 24, (.bin .neq (.t 23) (.k (rI .i64 0))), none, none⟩])
 (.cond (.t 24)
 (.seq
 (.region [] [] [0, 3, 15, 1, 2, 8, 24, 7, 10, 36, 57, 75, 11, 76, 9, 84, 12, 97, 13, 114, 142, 6] [⟨some 25, (.faddr 3 (.t 7)), none, none⟩,⟨some 26, (.load none (.t 25)), none, none⟩,⟨some 27, (.len (.t 26)), none, none⟩,⟨some 28, (.bin .eql (.t 27) (.k (rI .i64 0))), none, none⟩,⟨some 29, (.move (.t 28)), none, none⟩,⟨some 30, (.callp (.k (rF 79)) []), some (29, true), none⟩,⟨some 31, (.pick (.t 29) (.t 30) (.k (rB false))), none, none⟩,⟨some 6, (.move (.t 31)), none, none⟩])
 .ret)
 .skip))
 (.seq
 (.region [] [] [0, 3, 15, 1, 2, 8, 24, 7, 10, 36, 57, 75, 11, 76, 9, 84, 12, 97, 13, 114, 142, 6] [⟨some 9, (.move (.k (rI .i64 (-1)))), none, none⟩])
 (.seq
 (.seq
 (.region [] [] [0, 3, 15, 1, 2, 8, 24, 7, 10, 36, 57, 75, 11, 76, 9, 84, 12, 97, 13, 114, 142, 6] [⟨some 10, (.move (.k (rI .i64 0))), none, none⟩])
 (.block 0
 (.loop ic16l1)))
 (.seq
 (.region [] [] [0, 3, 15, 1, 2, 8, 24, 7, 10, 36, 57, 75, 11, 76, 9, 84, 12, 97, 13, 114, 142, 6] [⟨some 143, (.callp (.k (rF 79)) []), none, none⟩,⟨some 6, (.move (.t 143)), none, none⟩])
 .ret)))))))
def ir16 : List IRes := [.tmp 6]
theorem ie16 : cmpFunc Go.Proofs.Tryd.prog ⟨[], []⟩ Go.Proofs.Tryd.f16 [0, 3, 15, 1, 2, 8, 24, 7, 10, 36, 57, 75, 11, 76, 9, 84, 12, 97, 13, 114, 142, 6] = some ic16 := by kernel_rfl
theorem ig16 : cmpRes Go.Proofs.Tryd.prog Go.Proofs.Tryd.f16.results.toList = some ir16 := by kernel_rfl
def ic83l0 : IC :=
 (.seq
 (.seq
 (.region [] [] [0, 8, 3, 13, 2, 18, 7, 1, 29, 6] [⟨some 9, (.move (.t 8)), none, none⟩,⟨some 10, (.faddr 3 (.t 3)), none, none⟩,⟨some 11, (.load none (.t 10)), none, none⟩,⟨some 12, (.len (.t 11)), none, none⟩,⟨some 13, (.bin .lss (.t 9) (.t 12)), none, none⟩])
 (.cond (.t 13)
 .skip
 (.exit 0)))
 (.seq
 (.block 1
 (.seq
 (.seq
 (.region [] [] [0, 8, 3, 13, 2, 18, 7, 1, 29, 6] [⟨some 16, (.move (.t 8)), none, none⟩,⟨some 17, (.move (.t 2)), none, none⟩,⟨some 18, (.bin .eql (.t 16) (.t 17)), none, none⟩])
 (.cond (.t 18)
 (.region [25] [] [0, 8, 3, 13, 2, 18, 7, 1, 29, 6] [⟨some 19, (.move (.t 7)), none, none⟩,⟨some 20, (.faddr 3 (.t 3)), none, none⟩,⟨some 21, (.load none (.t 20)), none, none⟩,⟨some 22, (.move (.t 1)), none, none⟩,⟨some 23, (.iaddr 4 (.t 21) (.t 22)), none, none⟩,⟨some 24, (.load (some 4) (.t 23)), none, none⟩,⟨some 25, (.row 121 4 [(.t 24)]), none, none⟩,⟨some 26, (.app 121 4 48 (.t 19) (.t 25)), none, none⟩,⟨some 7, (.move (.t 26)), none, none⟩])
 .skip))
 (.seq
 (.region [] [] [0, 8, 3, 13, 2, 18, 7, 1, 29, 6] [⟨some 27, (.move (.t 8)), none, none⟩,⟨some 28, (.move (.t 1)), none, none⟩,⟨some 29, (.bin .neq (.t 27) (.t 28)), none, none⟩])
 (.cond (.t 29)
 (.region [36] [] [0, 8, 3, 13, 2, 18, 7, 1, 29, 6] [⟨some 30, (.move (.t 7)), none, none⟩,⟨some 31, (.faddr 3 (.t 3)), none, none⟩,⟨some 32, (.load none (.t 31)), none, none⟩,⟨some 33, (.move (.t 8)), none, none⟩,⟨some 34, (.iaddr 4 (.t 32) (.t 33)), none, none⟩,⟨some 35, (.load (some 4) (.t 34)), none, none⟩,⟨some 36, (.row 121 4 [(.t 35)]), none, none⟩,⟨some 37, (.app 121 4 48 (.t 30) (.t 36)), none, none⟩,⟨some 7, (.move (.t 37)), none, none⟩])
 .skip))))
 (.region [] [] [0, 8, 3, 13, 2, 18, 7, 1, 29, 6] [⟨some 14, (.move (.t 8)), none, none⟩,⟨some 15, (.bin .add (.t 14) (.k (rI .i64 1))), none, none⟩,⟨some 8, (.move (.t 15)), none, none⟩])))
def ic83 : IC :=
 (.seq
 (.region [3, 6] [] [0, 8, 3, 13, 2, 18, 7, 1, 29, 6] [⟨some 3, (.box 115 (.t 0)), none, none⟩,⟨some 6, (.zero 115 [(.c (.v (.string (bs [])))), .nil, .nil, .nil]), none, none⟩])
 (.seq
 (.region [] [] [0, 8, 3, 13, 2, 18, 7, 1, 29, 6] [⟨some 7, (.move (.k (.x (.one .nil)))), none, none⟩])
 (.seq
 (.seq
 (.region [] [] [0, 8, 3, 13, 2, 18, 7, 1, 29, 6] [⟨some 8, (.move (.k (rI .i64 0))), none, none⟩])
 (.block 0
 (.loop ic83l0)))
 (.seq
 (.region [] [] [0, 8, 3, 13, 2, 18, 7, 1, 29, 6] [⟨some 38, (.faddr 0 (.t 3)), none, none⟩,⟨some 39, (.load (some 3) (.t 38)), none, none⟩,⟨some 40, (.move (.t 7)), none, none⟩,⟨some 41, (.build [(.c (.v (.string (bs [])))), .nil, .nil, .nil] [(0, 3, (.t 39)), (3, 1, (.t 40))]), none, none⟩,⟨none, (.store (some 4) (.t 6) (.t 41)), none, none⟩])
 .ret))))
def ir83 : List IRes := [.cell 6 (some 4)]
theorem ie83 : cmpFunc Go.Proofs.Tryd.prog ⟨[], []⟩ Go.Proofs.Tryd.f83 [0, 8, 3, 13, 2, 18, 7, 1, 29, 6] = some ic83 := by kernel_rfl
theorem ig83 : cmpRes Go.Proofs.Tryd.prog Go.Proofs.Tryd.f83.results.toList = some ir83 := by kernel_rfl
end Go.Proofs.YtiomojlcnemnhaaDoor

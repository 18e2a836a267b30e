import Derived.Test.YtiomojlcnemnhaaDoorWFxZ
import Derived.Test.YtiomojlcnemnhaaDoorProg
import Derived.KernelRfl
namespace Go.Proofs.YtiomojlcnemnhaaDoor
open Go.Fx
def ic50 : IC :=
 (.seq
 (.region [] [] [0, 2] [⟨some 2, (.move (.k (.x (.one .nil)))), none, none⟩])
 (.seq
 (.region [] [] [0, 2] [⟨some 3, (.move (.t 0)), none, none⟩,⟨some 4, (.call (.k (rF 121)) [(.t 3)]), none, none⟩,⟨some 5, (.nilchk (.t 4)), none, none⟩,⟨some 6, (.faddr 0 (.t 5)), none, none⟩,⟨some 7, (.load none (.t 6)), none, none⟩,⟨some 2, (.move (.t 7)), none, none⟩])
 .ret))
def ir50 : List IRes := [.tmp 2]
theorem ie50 : cmpFunc Go.Proofs.Tryd.prog ⟨[(4, none)], []⟩ Go.Proofs.Tryd.f50 [0, 2] = some ic50 := by kernel_rfl
theorem ig50 : cmpRes Go.Proofs.Tryd.prog Go.Proofs.Tryd.f50.results.toList = some ir50 := by kernel_rfl
def ic121l0 : IC :=
 (.seq
 (.region [] [] [0, 12, 11, 13, 10, 6, 16, 3, 25, 4, 55, 2] [⟨some 13, (.bin .lss (.t 12) (.t 11)), none, none⟩])
 (.seq
 (.cond (.t 13)
 .skip
 (.exit 0))
 (.seq
 (.block 1
 (.seq
 (.region [6] [] [0, 12, 11, 13, 10, 6, 16, 3, 25, 4, 55, 2] [⟨some 14, (.iaddr 16 (.t 10) (.t 12)), none, none⟩,⟨some 15, (.load (some 16) (.t 14)), none, none⟩,⟨some 6, (.zero 88 [(.c (.v (.int .i8 0))), (.c (.v (.string (bs [])))), .nil, (.c (.v (.int .i8 0))), (.c (.v (.int .i8 0))), (.c (.v (.string (bs [])))), (.c (.v (.int .i8 0))), (.c (.v (.int .i64 0))), (.c (.v (.string (bs [])))), .nil, (.c (.v (.int .i8 0))), (.c (.v (.string (bs [])))), (.c (.v (.int .i8 0))), (.c (.v (.int .i64 0))), (.c (.v (.string (bs [])))), .nil]), none, none⟩,⟨none, (.store (some 16) (.t 6) (.t 15)), none, none⟩])
 (.block 2
 (.seq
 (.region [] [] [0, 12, 11, 13, 10, 6, 16, 3, 25, 4, 55, 2] [⟨some 17, (.faddr 0 (.t 6)), none, none⟩,⟨some 18, (.load none (.t 17)), none, none⟩,⟨some 19, (.bin .eql (.t 18) (.k (rI .i8 1))), none, none⟩,⟨some 16, (.move (.t 19)), none, none⟩])
 (.cond (.t 16)
 (.region [] [] [0, 12, 11, 13, 10, 6, 16, 3, 25, 4, 55, 2] [⟨some 20, (.move (.t 3)), none, none⟩,⟨some 21, (.faddr 1 (.t 6)), none, none⟩,⟨some 22, (.load (some 2) (.t 21)), none, none⟩,⟨some 23, (.callp (.k (rF 46)) [(.t 22)]), none, none⟩,⟨some 24, (.call (.k (rF 173)) [(.t 20), (.t 23)]), none, none⟩])
 (.seq
 (.region [] [] [0, 12, 11, 13, 10, 6, 16, 3, 25, 4, 55, 2] [⟨some 26, (.faddr 0 (.t 6)), none, none⟩,⟨some 27, (.load none (.t 26)), none, none⟩,⟨some 28, (.bin .eql (.t 27) (.k (rI .i8 3))), none, none⟩,⟨some 29, (.move (.t 28)), none, none⟩,⟨some 30, (.faddr 3 (.t 6)), some (29, true), none⟩,⟨some 31, (.load none (.t 30)), some (29, true), none⟩,⟨some 32, (.bin .eql (.t 31) (.k (rI .i8 1))), some (29, true), none⟩,⟨some 33, (.pick (.t 29) (.t 32) (.k (rB false))), none, none⟩,⟨some 25, (.move (.t 33)), none, none⟩])
 (.cond (.t 25)
 (.region [49] [] [0, 12, 11, 13, 10, 6, 16, 3, 25, 4, 55, 2] [⟨some 34, (.faddr 0 (.t 4)), none, none⟩,⟨some 35, (.load none (.t 34)), none, none⟩,⟨some 36, (.faddr 4 (.t 6)), none, none⟩,⟨some 37, (.load (some 6) (.t 36)), none, none⟩,⟨some 38, (.callp (.k (rF 174)) [(.t 37)]), none, none⟩,⟨some 39, (.faddr 10 (.t 6)), none, none⟩,⟨some 40, (.load (some 6) (.t 39)), none, none⟩,⟨some 41, (.callp (.k (rF 174)) [(.t 40)]), none, none⟩,⟨some 42, (.faddr 4 (.t 6)), none, none⟩,⟨some 43, (.load (some 6) (.t 42)), none, none⟩,⟨some 44, (.callp (.k (rF 175)) [(.t 43)]), none, none⟩,⟨some 45, (.faddr 10 (.t 6)), none, none⟩,⟨some 46, (.load (some 6) (.t 45)), none, none⟩,⟨some 47, (.callp (.k (rF 175)) [(.t 46)]), none, none⟩,⟨some 48, (.build [(.c (.v (.string (bs [])))), (.c (.v (.string (bs [])))), .nil, .nil] [(0, 1, (.t 38)), (1, 1, (.t 41)), (2, 1, (.t 44)), (3, 1, (.t 47))]), none, none⟩,⟨some 49, (.row 228 4 [(.t 48)]), none, none⟩,⟨some 50, (.app 228 4 80 (.t 35) (.t 49)), none, none⟩,⟨some 51, (.faddr 0 (.t 4)), none, none⟩,⟨none, (.store (some 1) (.t 51) (.t 50)), none, none⟩])
 .skip)))))))
 (.region [] [] [0, 12, 11, 13, 10, 6, 16, 3, 25, 4, 55, 2] [⟨some 52, (.bin .add (.t 12) (.k (rI .i64 1))), none, none⟩,⟨some 12, (.move (.t 52)), none, none⟩]))))
def ic121l1 : IC :=
 (.seq
 (.seq
 (.region [] [] [0, 12, 11, 13, 10, 6, 16, 3, 25, 4, 55, 2] [⟨some 53, (.move (.t 3)), none, none⟩,⟨some 54, (.clo 177 [(.t 53)] []), none, none⟩,⟨some 55, (.call (.k (rF 176)) [(.t 4), (.t 54)]), none, none⟩])
 (.cond (.t 55)
 .skip
 (.exit 3)))
 (.block 4
 .skip))
def ic121 : IC :=
 (.seq
 (.region [] [] [0, 12, 11, 13, 10, 6, 16, 3, 25, 4, 55, 2] [⟨some 2, (.move (.k (.x (.one (.c (.v (.pointer none))))))), none, none⟩])
 (.seq
 (.region [7, 9] [] [0, 12, 11, 13, 10, 6, 16, 3, 25, 4, 55, 2] [⟨some 7, (.mkmap .string 2 true), none, none⟩,⟨some 8, (.build [.nil, (.c (.v (.map none)))] [(1, 1, (.t 7))]), none, none⟩,⟨some 9, (.box 174 (.t 8)), none, none⟩,⟨some 3, (.move (.t 9)), none, none⟩])
 (.seq
 (.region [4] [] [0, 12, 11, 13, 10, 6, 16, 3, 25, 4, 55, 2] [⟨some 4, (.zero 224 [.nil]), none, none⟩])
 (.seq
 (.seq
 (.region [] [] [0, 12, 11, 13, 10, 6, 16, 3, 25, 4, 55, 2] [⟨some 10, (.move (.t 0)), none, none⟩,⟨some 11, (.len (.t 10)), none, none⟩,⟨some 12, (.move (.k (rI .i64 0))), none, none⟩])
 (.block 0
 (.loop ic121l0)))
 (.seq
 (.block 3
 (.loop ic121l1))
 (.seq
 (.region [] [] [0, 12, 11, 13, 10, 6, 16, 3, 25, 4, 55, 2] [⟨some 56, (.move (.t 3)), none, none⟩,⟨some 2, (.move (.t 56)), none, none⟩])
 .ret))))))
def ir121 : List IRes := [.tmp 2]
theorem ie121 : cmpFunc Go.Proofs.Tryd.prog ⟨[(24, none), (55, none)], []⟩ Go.Proofs.Tryd.f121 [0, 12, 11, 13, 10, 6, 16, 3, 25, 4, 55, 2] = some ic121 := by kernel_rfl
theorem ig121 : cmpRes Go.Proofs.Tryd.prog Go.Proofs.Tryd.f121.results.toList = some ir121 := by kernel_rfl
def ic155l0 : IC :=
 (.seq
 (.region [] [] [1, 9, 8, 10, 7, 0, 6, 16, 4] [⟨some 10, (.bin .lss (.t 9) (.t 8)), none, none⟩])
 (.seq
 (.cond (.t 10)
 .skip
 (.exit 0))
 (.seq
 (.block 1
 (.seq
 (.region [] [] [1, 9, 8, 10, 7, 0, 6, 16, 4] [⟨some 11, (.iaddr 1 (.t 7) (.t 9)), none, none⟩,⟨some 12, (.load none (.t 11)), none, none⟩,⟨some 6, (.move (.t 12)), none, none⟩])
 (.seq
 (.region [] [] [1, 9, 8, 10, 7, 0, 6, 16, 4] [⟨some 13, (.move (.t 0)), none, none⟩,⟨some 14, (.move (.t 6)), none, none⟩,⟨some 15, (.call (.k (rF 200)) [(.t 13), (.t 14)]), none, none⟩,⟨some 16, (.un .not (.t 15)), none, none⟩])
 (.cond (.t 16)
 (.seq
 (.region [] [] [1, 9, 8, 10, 7, 0, 6, 16, 4] [⟨some 4, (.move (.k (rB false))), none, none⟩])
 .ret)
 .skip))))
 (.region [] [] [1, 9, 8, 10, 7, 0, 6, 16, 4] [⟨some 17, (.bin .add (.t 9) (.k (rI .i64 1))), none, none⟩,⟨some 9, (.move (.t 17)), none, none⟩]))))
def ic155 : IC :=
 (.seq
 (.region [] [] [1, 9, 8, 10, 7, 0, 6, 16, 4] [⟨some 4, (.move (.k (rB false))), none, none⟩])
 (.seq
 (.seq
 (.region [] [] [1, 9, 8, 10, 7, 0, 6, 16, 4] [⟨some 7, (.move (.t 1)), none, none⟩,⟨some 8, (.len (.t 7)), none, none⟩,⟨some 9, (.move (.k (rI .i64 0))), none, none⟩])
 (.block 0
 (.loop ic155l0)))
 (.seq
 (.region [] [] [1, 9, 8, 10, 7, 0, 6, 16, 4] [⟨some 4, (.move (.k (rB true))), none, none⟩])
 .ret)))
def ir155 : List IRes := [.tmp 4]
theorem ie155 : cmpFunc Go.Proofs.Tryd.prog ⟨[(15, none)], []⟩ Go.Proofs.Tryd.f155 [1, 9, 8, 10, 7, 0, 6, 16, 4] = some ic155 := by kernel_rfl
theorem ig155 : cmpRes Go.Proofs.Tryd.prog Go.Proofs.Tryd.f155.results.toList = some ir155 := by kernel_rfl
def ic173l0 : IC :=
 (.seq
 (.region [] [] [1, 8, 7, 9, 6, 0, 5, 15] [⟨some 9, (.bin .lss (.t 8) (.t 7)), none, none⟩])
 (.seq
 (.cond (.t 9)
 .skip
 (.exit 0))
 (.seq
 (.block 1
 (.seq
 (.region [] [] [1, 8, 7, 9, 6, 0, 5, 15] [⟨some 10, (.iaddr 1 (.t 6) (.t 8)), none, none⟩,⟨some 11, (.load none (.t 10)), none, none⟩,⟨some 5, (.move (.t 11)), none, none⟩])
 (.seq
 (.region [] [] [1, 8, 7, 9, 6, 0, 5, 15] [⟨some 12, (.move (.t 0)), none, none⟩,⟨some 13, (.move (.t 5)), none, none⟩,⟨some 14, (.call (.k (rF 200)) [(.t 12), (.t 13)]), none, none⟩,⟨some 15, (.un .not (.t 14)), none, none⟩])
 (.cond (.t 15)
 (.seq
 (.region [22] [] [1, 8, 7, 9, 6, 0, 5, 15] [⟨some 16, (.move (.t 0)), none, none⟩,⟨some 17, (.move (.t 0)), none, none⟩,⟨some 18, (.nilchk (.t 17)), none, none⟩,⟨some 19, (.faddr 0 (.t 18)), none, none⟩,⟨some 20, (.load none (.t 19)), none, none⟩,⟨some 21, (.move (.t 5)), none, none⟩,⟨some 22, (.row 9 1 [(.t 21)]), none, none⟩,⟨some 23, (.app 9 1 16 (.t 20) (.t 22)), none, none⟩,⟨some 24, (.nilchk (.t 16)), none, none⟩,⟨some 25, (.faddr 0 (.t 24)), none, none⟩,⟨none, (.store (some 1) (.t 25) (.t 23)), none, none⟩])
 (.region [] [] [1, 8, 7, 9, 6, 0, 5, 15] [⟨some 26, (.move (.t 0)), none, none⟩,⟨some 27, (.nilchk (.t 26)), none, none⟩,⟨some 28, (.faddr 1 (.t 27)), none, none⟩,⟨some 29, (.load none (.t 28)), none, none⟩,⟨some 30, (.move (.t 5)), none, none⟩,⟨some 31, (.move (.t 0)), none, none⟩,⟨some 32, (.nilchk (.t 31)), none, none⟩,⟨some 33, (.faddr 0 (.t 32)), none, none⟩,⟨some 34, (.load none (.t 33)), none, none⟩,⟨some 35, (.len (.t 34)), none, none⟩,⟨none, (.mapup .string true (.t 29) (.t 30) (.t 35)), none, none⟩]))
 .skip))))
 (.region [] [] [1, 8, 7, 9, 6, 0, 5, 15] [⟨some 36, (.bin .add (.t 8) (.k (rI .i64 1))), none, none⟩,⟨some 8, (.move (.t 36)), none, none⟩]))))
def ic173 : IC :=
 (.seq
 (.region [] [] [1, 8, 7, 9, 6, 0, 5, 15] [⟨some 6, (.move (.t 1)), none, none⟩,⟨some 7, (.len (.t 6)), none, none⟩,⟨some 8, (.move (.k (rI .i64 0))), none, none⟩])
 (.block 0
 (.loop ic173l0)))
def ir173 : List IRes := []
theorem ie173 : cmpFunc Go.Proofs.Tryd.prog ⟨[(14, none)], []⟩ Go.Proofs.Tryd.f173 [1, 8, 7, 9, 6, 0, 5, 15] = some ic173 := by kernel_rfl
theorem ig173 : cmpRes Go.Proofs.Tryd.prog Go.Proofs.Tryd.f173.results.toList = some ir173 := by kernel_rfl
def ic174 : IC :=
 (.seq
 (.region [1] [] [0, 1, 17, 2] [⟨some 1, (.box 47 (.t 0)), none, none⟩,⟨some 2, (.move (.k (rS (bs [])))), none, none⟩])
 (.seq
 (.seq
 (.region [] [] [0, 1, 17, 2] [⟨some 3, (.faddr 0 (.t 1)), none, none⟩,⟨some 4, (.load none (.t 3)), none, none⟩,⟨some 5, (.bin .neq (.t 4) (.k (rI .i8 0))), none, none⟩,⟨some 6, (.move (.t 5)), none, none⟩,⟨some 7, (.faddr 5 (.t 1)), some (6, false), none⟩,⟨some 8, (.load none (.t 7)), some (6, false), none⟩,⟨some 9, (.len (.t 8)), some (6, false), none⟩,⟨some 10, (.bin .gtr (.t 9) (.k (rI .i64 0))), some (6, false), none⟩,⟨some 11, (.pick (.t 6) (.k (rB true)) (.t 10)), none, none⟩,⟨some 12, (.move (.t 11)), none, none⟩,⟨some 13, (.faddr 1 (.t 1)), some (12, false), none⟩,⟨some 14, (.faddr 0 (.t 13)), some (12, false), none⟩,⟨some 15, (.load none (.t 14)), some (12, false), none⟩,⟨some 16, (.bin .eql (.t 15) (.k (rS (bs [95])))), some (12, false), none⟩,⟨some 17, (.pick (.t 12) (.k (rB true)) (.t 16)), none, none⟩])
 (.cond (.t 17)
 (.seq
 (.region [] [] [0, 1, 17, 2] [⟨some 2, (.move (.k (rS (bs [])))), none, none⟩])
 .ret)
 .skip))
 (.seq
 (.region [] [] [0, 1, 17, 2] [⟨some 18, (.faddr 1 (.t 1)), none, none⟩,⟨some 19, (.faddr 0 (.t 18)), none, none⟩,⟨some 20, (.load none (.t 19)), none, none⟩,⟨some 2, (.move (.t 20)), none, none⟩])
 .ret)))
def ir174 : List IRes := [.tmp 2]
theorem ie174 : cmpFunc Go.Proofs.Tryd.prog ⟨[], []⟩ Go.Proofs.Tryd.f174 [0, 1, 17, 2] = some ic174 := by kernel_rfl
theorem ig174 : cmpRes Go.Proofs.Tryd.prog Go.Proofs.Tryd.f174.results.toList = some ir174 := by kernel_rfl
def ic175 : IC :=
 (.seq
 (.region [1] [] [0, 1, 2] [⟨some 1, (.box 47 (.t 0)), none, none⟩,⟨some 2, (.move (.k (.x (.one .nil)))), none, none⟩])
 (.seq
 (.region [] [.fz [1]] [0, 1, 2] [⟨some 3, (.mki 232 (.t 1)), none, none⟩,⟨some 4, (.call (.k (rF 118)) [(.t 3)]), none, none⟩,⟨some 2, (.move (.t 4)), none, none⟩])
 .ret))
def ir175 : List IRes := [.tmp 2]
theorem ie175 : cmpFunc Go.Proofs.Tryd.prog ⟨[(4, none)], [(3, .fz [1])]⟩ Go.Proofs.Tryd.f175 [0, 1, 2] = some ic175 := by kernel_rfl
theorem ig175 : cmpRes Go.Proofs.Tryd.prog Go.Proofs.Tryd.f175.results.toList = some ir175 := by kernel_rfl
def ic176l0 : IC :=
 (.seq
 (.region [] [] [0, 19, 18, 20, 17, 1, 8, 26, 6, 5, 4] [⟨some 20, (.bin .lss (.t 19) (.t 18)), none, none⟩])
 (.seq
 (.cond (.t 20)
 .skip
 (.exit 0))
 (.seq
 (.block 1
 (.seq
 (.region [8] [] [0, 19, 18, 20, 17, 1, 8, 26, 6, 5, 4] [⟨some 21, (.iaddr 4 (.t 17) (.t 19)), none, none⟩,⟨some 22, (.load (some 4) (.t 21)), none, none⟩,⟨some 8, (.zero 228 [(.c (.v (.string (bs [])))), (.c (.v (.string (bs [])))), .nil, .nil]), none, none⟩,⟨none, (.store (some 4) (.t 8) (.t 22)), none, none⟩])
 (.seq
 (.region [] [] [0, 19, 18, 20, 17, 1, 8, 26, 6, 5, 4] [⟨some 23, (.move (.t 1)), none, none⟩,⟨some 24, (.load (some 4) (.t 8)), none, none⟩,⟨some 25, (.call (.t 23) [(.t 24)]), none, none⟩,⟨some 26, (.un .not (.t 25)), none, none⟩])
 (.cond (.t 26)
 (.region [29] [] [0, 19, 18, 20, 17, 1, 8, 26, 6, 5, 4] [⟨some 27, (.move (.t 6)), none, none⟩,⟨some 28, (.load (some 4) (.t 8)), none, none⟩,⟨some 29, (.row 228 4 [(.t 28)]), none, none⟩,⟨some 30, (.app 228 4 80 (.t 27) (.t 29)), none, none⟩,⟨some 6, (.move (.t 30)), none, none⟩])
 .skip))))
 (.region [] [] [0, 19, 18, 20, 17, 1, 8, 26, 6, 5, 4] [⟨some 31, (.bin .add (.t 19) (.k (rI .i64 1))), none, none⟩,⟨some 19, (.move (.t 31)), none, none⟩]))))
def ic176 : IC :=
 (.seq
 (.region [] [] [0, 19, 18, 20, 17, 1, 8, 26, 6, 5, 4] [⟨some 4, (.move (.k (rB false))), none, none⟩])
 (.seq
 (.region [] [] [0, 19, 18, 20, 17, 1, 8, 26, 6, 5, 4] [⟨some 9, (.move (.t 0)), none, none⟩,⟨some 10, (.nilchk (.t 9)), none, none⟩,⟨some 11, (.faddr 0 (.t 10)), none, none⟩,⟨some 12, (.load none (.t 11)), none, none⟩,⟨some 13, (.len (.t 12)), none, none⟩,⟨some 5, (.move (.t 13)), none, none⟩])
 (.seq
 (.region [] [] [0, 19, 18, 20, 17, 1, 8, 26, 6, 5, 4] [⟨some 6, (.move (.k (.x (.one .nil)))), none, none⟩])
 (.seq
 (.seq
 (.region [] [] [0, 19, 18, 20, 17, 1, 8, 26, 6, 5, 4] [⟨some 14, (.move (.t 0)), none, none⟩,⟨some 15, (.nilchk (.t 14)), none, none⟩,⟨some 16, (.faddr 0 (.t 15)), none, none⟩,⟨some 17, (.load none (.t 16)), none, none⟩,⟨some 18, (.len (.t 17)), none, none⟩,⟨some 19, (.move (.k (rI .i64 0))), none, none⟩])
 (.block 0
 (.loop ic176l0)))
 (.seq
 (.region [] [] [0, 19, 18, 20, 17, 1, 8, 26, 6, 5, 4] [⟨some 32, (.move (.t 0)), none, none⟩,⟨some 33, (.move (.t 6)), none, none⟩,⟨some 34, (.nilchk (.t 32)), none, none⟩,⟨some 35, (.faddr 0 (.t 34)), none, none⟩,⟨none, (.store (some 1) (.t 35) (.t 33)), none, none⟩])
 (.seq
 (.region [] [] [0, 19, 18, 20, 17, 1, 8, 26, 6, 5, 4] [⟨some 36, (.move (.t 6)), none, none⟩,⟨some 37, (.len (.t 36)), none, none⟩,⟨some 38, (.move (.t 5)), none, none⟩,⟨some 39, (.bin .lss (.t 37) (.t 38)), none, none⟩,⟨some 4, (.move (.t 39)), none, none⟩])
 .ret))))))
def ir176 : List IRes := [.tmp 4]
theorem ie176 : cmpFunc Go.Proofs.Tryd.prog ⟨[(25, none)], []⟩ Go.Proofs.Tryd.f176 [0, 19, 18, 20, 17, 1, 8, 26, 6, 5, 4] = some ic176 := by kernel_rfl
theorem ig176 : cmpRes Go.Proofs.Tryd.prog Go.Proofs.Tryd.f176.results.toList = some ir176 := by kernel_rfl
def ic177 : IC :=
 (.seq
 (.region [3] [] [1, 3, 0, 5, 27, 4] [⟨some 3, (.box 228 (.t 1)), none, none⟩,⟨some 4, (.move (.k (rB false))), none, none⟩])
 (.seq
 (.block 0
 (.seq
 (.region [] [] [1, 3, 0, 5, 27, 4] [⟨some 6, (.faddr 0 (.t 3)), none, none⟩,⟨some 7, (.load none (.t 6)), none, none⟩,⟨some 8, (.bin .neq (.t 7) (.k (rS (bs [])))), none, none⟩,⟨some 9, (.move (.t 8)), none, none⟩,⟨some 10, (.move (.t 0)), some (9, true), none⟩,⟨some 11, (.faddr 0 (.t 3)), some (9, true), none⟩,⟨some 12, (.load none (.t 11)), some (9, true), none⟩,⟨some 13, (.call (.k (rF 200)) [(.t 10), (.t 12)]), some (9, true), none⟩,⟨some 14, (.un .not (.t 13)), some (9, true), none⟩,⟨some 15, (.pick (.t 9) (.t 14) (.k (rB false))), none, none⟩,⟨some 16, (.move (.t 15)), none, none⟩,⟨some 17, (.move (.t 0)), some (16, true), none⟩,⟨some 18, (.faddr 3 (.t 3)), some (16, true), none⟩,⟨some 19, (.load none (.t 18)), some (16, true), none⟩,⟨some 20, (.call (.k (rF 155)) [(.t 17), (.t 19)]), some (16, true), none⟩,⟨some 21, (.pick (.t 16) (.t 20) (.k (rB false))), none, none⟩,⟨some 5, (.move (.t 21)), none, none⟩])
 (.cond (.t 5)
 (.region [25] [] [1, 3, 0, 5, 27, 4] [⟨some 22, (.move (.t 0)), none, none⟩,⟨some 23, (.faddr 0 (.t 3)), none, none⟩,⟨some 24, (.load none (.t 23)), none, none⟩,⟨some 25, (.row 9 1 [(.t 24)]), none, none⟩,⟨some 26, (.call (.k (rF 173)) [(.t 22), (.t 25)]), none, none⟩])
 (.seq
 (.region [] [] [1, 3, 0, 5, 27, 4] [⟨some 28, (.faddr 1 (.t 3)), none, none⟩,⟨some 29, (.load none (.t 28)), none, none⟩,⟨some 30, (.bin .neq (.t 29) (.k (rS (bs [])))), none, none⟩,⟨some 31, (.move (.t 30)), none, none⟩,⟨some 32, (.move (.t 0)), some (31, true), none⟩,⟨some 33, (.faddr 1 (.t 3)), some (31, true), none⟩,⟨some 34, (.load none (.t 33)), some (31, true), none⟩,⟨some 35, (.call (.k (rF 200)) [(.t 32), (.t 34)]), some (31, true), none⟩,⟨some 36, (.un .not (.t 35)), some (31, true), none⟩,⟨some 37, (.pick (.t 31) (.t 36) (.k (rB false))), none, none⟩,⟨some 38, (.move (.t 37)), none, none⟩,⟨some 39, (.move (.t 0)), some (38, true), none⟩,⟨some 40, (.faddr 2 (.t 3)), some (38, true), none⟩,⟨some 41, (.load none (.t 40)), some (38, true), none⟩,⟨some 42, (.call (.k (rF 155)) [(.t 39), (.t 41)]), some (38, true), none⟩,⟨some 43, (.pick (.t 38) (.t 42) (.k (rB false))), none, none⟩,⟨some 27, (.move (.t 43)), none, none⟩])
 (.cond (.t 27)
 (.region [47] [] [1, 3, 0, 5, 27, 4] [⟨some 44, (.move (.t 0)), none, none⟩,⟨some 45, (.faddr 1 (.t 3)), none, none⟩,⟨some 46, (.load none (.t 45)), none, none⟩,⟨some 47, (.row 9 1 [(.t 46)]), none, none⟩,⟨some 48, (.call (.k (rF 173)) [(.t 44), (.t 47)]), none, none⟩])
 (.seq
 (.region [] [] [1, 3, 0, 5, 27, 4] [⟨some 4, (.move (.k (rB false))), none, none⟩])
 .ret))))))
 (.seq
 (.region [] [] [1, 3, 0, 5, 27, 4] [⟨some 4, (.move (.k (rB true))), none, none⟩])
 .ret)))
def ir177 : List IRes := [.tmp 4]
theorem ie177 : cmpFunc Go.Proofs.Tryd.prog ⟨[(13, none), (20, none), (26, none), (35, none), (42, none), (48, none)], []⟩ Go.Proofs.Tryd.f177 [1, 3, 0, 5, 27, 4] = some ic177 := by kernel_rfl
theorem ig177 : cmpRes Go.Proofs.Tryd.prog Go.Proofs.Tryd.f177.results.toList = some ir177 := by kernel_rfl
def ic200 : IC :=
 (.seq
 (.region [] [] [0, 1, 4] [⟨some 4, (.move (.k (rB false))), none, none⟩])
 (.seq
 (.region [] [] [0, 1, 4] [⟨some 5, (.move (.t 0)), none, none⟩,⟨some 6, (.nilchk (.t 5)), none, none⟩,⟨some 7, (.faddr 1 (.t 6)), none, none⟩,⟨some 8, (.load none (.t 7)), none, none⟩,⟨some 9, (.move (.t 1)), none, none⟩,⟨some 10, (.mlook .string true false [(.c (.v (.int .i64 0)))] (.t 8) (.t 9)), none, none⟩,⟨some 11, (.bin .gtr (.t 10) (.k (rI .i64 0))), none, none⟩,⟨some 4, (.move (.t 11)), none, none⟩])
 .ret))
def ir200 : List IRes := [.tmp 4]
theorem ie200 : cmpFunc Go.Proofs.Tryd.prog ⟨[], []⟩ Go.Proofs.Tryd.f200 [0, 1, 4] = some ic200 := by kernel_rfl
theorem ig200 : cmpRes Go.Proofs.Tryd.prog Go.Proofs.Tryd.f200.results.toList = some ir200 := by kernel_rfl
end Go.Proofs.YtiomojlcnemnhaaDoor

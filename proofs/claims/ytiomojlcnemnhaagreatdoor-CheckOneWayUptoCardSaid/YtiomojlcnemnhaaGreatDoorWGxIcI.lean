/- Functions of the seat, as the small language has them. -/
import Derived.Test.YtiomojlcnemnhaaGreatDoorWFxWb
import Derived.Test.YtiomojlcnemnhaaGreatDoorProg
import Derived.KernelRfl
namespace Go.Proofs.YtiomojlcnemnhaaGreatDoor
open Go.Fx

/-- pedigree/check.Limited -/
def ic50 : IC :=
 (.seq
 (.region [] [] [0, 2] [
 ⟨(some 2), (.move (.k (.x (.one .nil)))), none, none⟩])
 (.seq
 (.region [] [] [0, 2] [
 ⟨(some 3), (.move (.t 0)), none, none⟩,
 ⟨(some 4), (.call (.k (rF 94)) [(.t 3)]), none, none⟩,
 ⟨(some 5), (.nilchk (.t 4)), none, none⟩,
 ⟨(some 6), (.faddr 0 (.t 5)), none, none⟩,
 ⟨(some 7), (.load none (.t 6)), none, none⟩,
 ⟨(some 2), (.move (.t 7)), none, none⟩])
 .ret))
def ir50 : List IRes := [.tmp 2]
theorem ie50 : cmpFunc Go.Proofs.Tryz.prog ⟨[(4, none)], []⟩ Go.Proofs.Tryz.f63 [0, 2] = some ic50 := by kernel_rfl
theorem ig50 : cmpRes Go.Proofs.Tryz.prog Go.Proofs.Tryz.f63.results.toList = some ir50 := by kernel_rfl

def ic122l0 : IC :=
 (.seq
 (.seq
 (.region [] [] [4, 0, 10, 18, 6, 5, 28, 3, 37, 2] [
 ⟨(some 25), (.move (.t 6)), none, none⟩,
 ⟨(some 26), (.move (.t 5)), none, none⟩,
 ⟨(some 27), (.len (.t 26)), none, none⟩,
 ⟨(some 28), (.bin .lss (.t 25) (.t 27)), none, none⟩])
 (.cond (.t 28)
 .skip
 (.exit 2)))
 (.seq
 (.block 3
 (.seq
 (.region [] [] [4, 0, 10, 18, 6, 5, 28, 3, 37, 2] [
 ⟨(some 31), (.move (.t 5)), none, none⟩,
 ⟨(some 32), (.move (.t 6)), none, none⟩,
 ⟨(some 33), (.iaddr 1 (.t 31) (.t 32)), none, none⟩,
 ⟨(some 34), (.load none (.t 33)), none, none⟩,
 ⟨(some 35), (.move (.t 3)), none, none⟩,
 ⟨(some 36), (.callp (.k (rF 67)) [(.t 34), (.t 35)]), none, none⟩,
 ⟨(some 37), (.un .not (.t 36)), none, none⟩])
 (.cond (.t 37)
 (.region [43] [] [4, 0, 10, 18, 6, 5, 28, 3, 37, 2] [
 ⟨(some 38), (.move (.t 3)), none, none⟩,
 ⟨(some 39), (.move (.t 5)), none, none⟩,
 ⟨(some 40), (.move (.t 6)), none, none⟩,
 ⟨(some 41), (.iaddr 1 (.t 39) (.t 40)), none, none⟩,
 ⟨(some 42), (.load none (.t 41)), none, none⟩,
 ⟨(some 43), (.row 9 1 [(.t 42)]), none, none⟩,
 ⟨(some 44), (.app 9 1 16 (.t 38) (.t 43)), none, none⟩,
 ⟨(some 3), (.move (.t 44)), none, none⟩])
 .skip)))
 (.region [] [] [4, 0, 10, 18, 6, 5, 28, 3, 37, 2] [
 ⟨(some 29), (.move (.t 6)), none, none⟩,
 ⟨(some 30), (.bin .add (.t 29) (.k (rI .i64 1))), none, none⟩,
 ⟨(some 6), (.move (.t 30)), none, none⟩])))

def ic122l1 : IC :=
 (.seq
 (.seq
 (.region [] [] [4, 0, 10, 18, 6, 5, 28, 3, 37, 2] [
 ⟨(some 7), (.move (.t 4)), none, none⟩,
 ⟨(some 8), (.move (.t 0)), none, none⟩,
 ⟨(some 9), (.len (.t 8)), none, none⟩,
 ⟨(some 10), (.bin .lss (.t 7) (.t 9)), none, none⟩])
 (.cond (.t 10)
 .skip
 (.exit 0)))
 (.seq
 (.block 1
 (.seq
 (.seq
 (.region [] [] [4, 0, 10, 18, 6, 5, 28, 3, 37, 2] [
 ⟨(some 13), (.move (.t 0)), none, none⟩,
 ⟨(some 14), (.move (.t 4)), none, none⟩,
 ⟨(some 15), (.iaddr 16 (.t 13) (.t 14)), none, none⟩,
 ⟨(some 16), (.faddr 0 (.t 15)), none, none⟩,
 ⟨(some 17), (.load none (.t 16)), none, none⟩,
 ⟨(some 18), (.bin .neq (.t 17) (.k (rI .i8 1))), none, none⟩])
 (.cond (.t 18)
 (.exit 1)
 .skip))
 (.seq
 (.region [] [] [4, 0, 10, 18, 6, 5, 28, 3, 37, 2] [
 ⟨(some 19), (.move (.t 0)), none, none⟩,
 ⟨(some 20), (.move (.t 4)), none, none⟩,
 ⟨(some 21), (.iaddr 16 (.t 19) (.t 20)), none, none⟩,
 ⟨(some 22), (.faddr 1 (.t 21)), none, none⟩,
 ⟨(some 23), (.load (some 2) (.t 22)), none, none⟩,
 ⟨(some 24), (.callp (.k (rF 164)) [(.t 23)]), none, none⟩,
 ⟨(some 5), (.move (.t 24)), none, none⟩])
 (.seq
 (.region [] [] [4, 0, 10, 18, 6, 5, 28, 3, 37, 2] [
 ⟨(some 6), (.move (.k (rI .i64 0))), none, none⟩])
 (.block 2
 (.loop ic122l0))))))
 (.region [] [] [4, 0, 10, 18, 6, 5, 28, 3, 37, 2] [
 ⟨(some 11), (.move (.t 4)), none, none⟩,
 ⟨(some 12), (.bin .add (.t 11) (.k (rI .i64 1))), none, none⟩,
 ⟨(some 4), (.move (.t 12)), none, none⟩])))

/-- pedigree/pedigreeref07.Atoms -/
def ic122 : IC :=
 (.seq
 (.region [] [] [4, 0, 10, 18, 6, 5, 28, 3, 37, 2] [
 ⟨(some 2), (.move (.k (.x (.one .nil)))), none, none⟩])
 (.seq
 (.region [] [] [4, 0, 10, 18, 6, 5, 28, 3, 37, 2] [
 ⟨(some 3), (.move (.k (.x (.one .nil)))), none, none⟩])
 (.seq
 (.seq
 (.region [] [] [4, 0, 10, 18, 6, 5, 28, 3, 37, 2] [
 ⟨(some 4), (.move (.k (rI .i64 0))), none, none⟩])
 (.block 0
 (.loop ic122l1)))
 (.seq
 (.region [] [] [4, 0, 10, 18, 6, 5, 28, 3, 37, 2] [
 ⟨(some 45), (.move (.t 3)), none, none⟩,
 ⟨(some 2), (.move (.t 45)), none, none⟩])
 .ret))))
def ir122 : List IRes := [.tmp 2]
theorem ie122 : cmpFunc Go.Proofs.Tryz.prog ⟨[], []⟩ Go.Proofs.Tryz.f65 [4, 0, 10, 18, 6, 5, 28, 3, 37, 2] = some ic122 := by kernel_rfl
theorem ig122 : cmpRes Go.Proofs.Tryz.prog Go.Proofs.Tryz.f65.results.toList = some ir122 := by kernel_rfl

def ic121l0 : IC :=
 (.seq
 (.region [] [] [0, 12, 11, 13, 10, 6, 16, 3, 25, 4, 55, 2] [
 ⟨(some 13), (.bin .lss (.t 12) (.t 11)), none, none⟩])
 (.seq
 (.cond (.t 13)
 .skip
 (.exit 0))
 (.seq
 (.block 1
 (.seq
 (.region [6] [] [0, 12, 11, 13, 10, 6, 16, 3, 25, 4, 55, 2] [
 ⟨(some 14), (.iaddr 16 (.t 10) (.t 12)), none, none⟩,
 ⟨(some 15), (.load (some 16) (.t 14)), none, none⟩,
 ⟨(some 6), (.zero 107 [(.c (.v (.int .i8 0))), (.c (.v (.string (bs [])))), .nil, (.c (.v (.int .i8 0))), (.c (.v (.int .i8 0))), (.c (.v (.string (bs [])))), (.c (.v (.int .i8 0))), (.c (.v (.int .i64 0))), (.c (.v (.string (bs [])))), .nil, (.c (.v (.int .i8 0))), (.c (.v (.string (bs [])))), (.c (.v (.int .i8 0))), (.c (.v (.int .i64 0))), (.c (.v (.string (bs [])))), .nil]), none, none⟩,
 ⟨none, (.store (some 16) (.t 6) (.t 15)), none, none⟩])
 (.block 2
 (.seq
 (.region [] [] [0, 12, 11, 13, 10, 6, 16, 3, 25, 4, 55, 2] [
 ⟨(some 17), (.faddr 0 (.t 6)), none, none⟩,
 ⟨(some 18), (.load none (.t 17)), none, none⟩,
 ⟨(some 19), (.bin .eql (.t 18) (.k (rI .i8 1))), none, none⟩,
 ⟨(some 16), (.move (.t 19)), none, none⟩])
 (.cond (.t 16)
 (.region [] [] [0, 12, 11, 13, 10, 6, 16, 3, 25, 4, 55, 2] [
 ⟨(some 20), (.move (.t 3)), none, none⟩,
 ⟨(some 21), (.faddr 1 (.t 6)), none, none⟩,
 ⟨(some 22), (.load (some 2) (.t 21)), none, none⟩,
 ⟨(some 23), (.callp (.k (rF 123)) [(.t 22)]), none, none⟩,
 ⟨(some 24), (.call (.k (rF 188)) [(.t 20), (.t 23)]), none, none⟩])
 (.seq
 (.region [] [] [0, 12, 11, 13, 10, 6, 16, 3, 25, 4, 55, 2] [
 ⟨(some 26), (.faddr 0 (.t 6)), none, none⟩,
 ⟨(some 27), (.load none (.t 26)), none, none⟩,
 ⟨(some 28), (.bin .eql (.t 27) (.k (rI .i8 3))), none, none⟩,
 ⟨(some 29), (.move (.t 28)), none, none⟩,
 ⟨(some 30), (.faddr 3 (.t 6)), some (29, true), none⟩,
 ⟨(some 31), (.load none (.t 30)), some (29, true), none⟩,
 ⟨(some 32), (.bin .eql (.t 31) (.k (rI .i8 1))), some (29, true), none⟩,
 ⟨(some 33), (.pick (.t 29) (.t 32) (.k (rB false))), none, none⟩,
 ⟨(some 25), (.move (.t 33)), none, none⟩])
 (.cond (.t 25)
 (.region [49] [] [0, 12, 11, 13, 10, 6, 16, 3, 25, 4, 55, 2] [
 ⟨(some 34), (.faddr 0 (.t 4)), none, none⟩,
 ⟨(some 35), (.load none (.t 34)), none, none⟩,
 ⟨(some 36), (.faddr 4 (.t 6)), none, none⟩,
 ⟨(some 37), (.load (some 6) (.t 36)), none, none⟩,
 ⟨(some 38), (.callp (.k (rF 189)) [(.t 37)]), none, none⟩,
 ⟨(some 39), (.faddr 10 (.t 6)), none, none⟩,
 ⟨(some 40), (.load (some 6) (.t 39)), none, none⟩,
 ⟨(some 41), (.callp (.k (rF 189)) [(.t 40)]), none, none⟩,
 ⟨(some 42), (.faddr 4 (.t 6)), none, none⟩,
 ⟨(some 43), (.load (some 6) (.t 42)), none, none⟩,
 ⟨(some 44), (.callp (.k (rF 190)) [(.t 43)]), none, none⟩,
 ⟨(some 45), (.faddr 10 (.t 6)), none, none⟩,
 ⟨(some 46), (.load (some 6) (.t 45)), none, none⟩,
 ⟨(some 47), (.callp (.k (rF 190)) [(.t 46)]), none, none⟩,
 ⟨(some 48), (.build [(.c (.v (.string (bs [])))), (.c (.v (.string (bs [])))), .nil, .nil] [(0, 1, (.t 38)), (1, 1, (.t 41)), (2, 1, (.t 44)), (3, 1, (.t 47))]), none, none⟩,
 ⟨(some 49), (.row 234 4 [(.t 48)]), none, none⟩,
 ⟨(some 50), (.app 234 4 80 (.t 35) (.t 49)), none, none⟩,
 ⟨(some 51), (.faddr 0 (.t 4)), none, none⟩,
 ⟨none, (.store (some 1) (.t 51) (.t 50)), none, none⟩])
 .skip)))))))
 (.region [] [] [0, 12, 11, 13, 10, 6, 16, 3, 25, 4, 55, 2] [
 ⟨(some 52), (.bin .add (.t 12) (.k (rI .i64 1))), none, none⟩,
 ⟨(some 12), (.move (.t 52)), none, none⟩]))))

def ic121l1 : IC :=
 (.seq
 (.seq
 (.region [] [] [0, 12, 11, 13, 10, 6, 16, 3, 25, 4, 55, 2] [
 ⟨(some 53), (.move (.t 3)), none, none⟩,
 ⟨(some 54), (.clo 192 [(.t 53)] []), none, none⟩,
 ⟨(some 55), (.call (.k (rF 191)) [(.t 4), (.t 54)]), none, none⟩])
 (.cond (.t 55)
 .skip
 (.exit 3)))
 (.block 4
 .skip))

/-- pedigree/check.limits -/
def ic121 : IC :=
 (.seq
 (.region [] [] [0, 12, 11, 13, 10, 6, 16, 3, 25, 4, 55, 2] [
 ⟨(some 2), (.move (.k (.x (.one (.c (.v (.pointer none))))))), none, none⟩])
 (.seq
 (.region [7, 9] [] [0, 12, 11, 13, 10, 6, 16, 3, 25, 4, 55, 2] [
 ⟨(some 7), (.mkmap .string 2 true), none, none⟩,
 ⟨(some 8), (.build [.nil, (.c (.v (.map none)))] [(1, 1, (.t 7))]), none, none⟩,
 ⟨(some 9), (.box 203 (.t 8)), none, none⟩,
 ⟨(some 3), (.move (.t 9)), none, none⟩])
 (.seq
 (.region [4] [] [0, 12, 11, 13, 10, 6, 16, 3, 25, 4, 55, 2] [
 ⟨(some 4), (.zero 230 [.nil]), none, none⟩])
 (.seq
 (.seq
 (.region [] [] [0, 12, 11, 13, 10, 6, 16, 3, 25, 4, 55, 2] [
 ⟨(some 10), (.move (.t 0)), none, none⟩,
 ⟨(some 11), (.len (.t 10)), none, none⟩,
 ⟨(some 12), (.move (.k (rI .i64 0))), none, none⟩])
 (.block 0
 (.loop ic121l0)))
 (.seq
 (.block 3
 (.loop ic121l1))
 (.seq
 (.region [] [] [0, 12, 11, 13, 10, 6, 16, 3, 25, 4, 55, 2] [
 ⟨(some 56), (.move (.t 3)), none, none⟩,
 ⟨(some 2), (.move (.t 56)), none, none⟩])
 .ret))))))
def ir121 : List IRes := [.tmp 2]
theorem ie121 : cmpFunc Go.Proofs.Tryz.prog ⟨[(24, none), (55, none)], []⟩ Go.Proofs.Tryz.f94 [0, 12, 11, 13, 10, 6, 16, 3, 25, 4, 55, 2] = some ic121 := by kernel_rfl
theorem ig121 : cmpRes Go.Proofs.Tryz.prog Go.Proofs.Tryz.f94.results.toList = some ir121 := by kernel_rfl

def ic155l0 : IC :=
 (.seq
 (.region [] [] [1, 9, 8, 10, 7, 0, 6, 16, 4] [
 ⟨(some 10), (.bin .lss (.t 9) (.t 8)), none, none⟩])
 (.seq
 (.cond (.t 10)
 .skip
 (.exit 0))
 (.seq
 (.block 1
 (.seq
 (.region [] [] [1, 9, 8, 10, 7, 0, 6, 16, 4] [
 ⟨(some 11), (.iaddr 1 (.t 7) (.t 9)), none, none⟩,
 ⟨(some 12), (.load none (.t 11)), none, none⟩,
 ⟨(some 6), (.move (.t 12)), none, none⟩])
 (.seq
 (.region [] [] [1, 9, 8, 10, 7, 0, 6, 16, 4] [
 ⟨(some 13), (.move (.t 0)), none, none⟩,
 ⟨(some 14), (.move (.t 6)), none, none⟩,
 ⟨(some 15), (.call (.k (rF 193)) [(.t 13), (.t 14)]), none, none⟩,
 ⟨(some 16), (.un .not (.t 15)), none, none⟩])
 (.cond (.t 16)
 (.seq
 (.region [] [] [1, 9, 8, 10, 7, 0, 6, 16, 4] [
 ⟨(some 4), (.move (.k (rB false))), none, none⟩])
 .ret)
 .skip))))
 (.region [] [] [1, 9, 8, 10, 7, 0, 6, 16, 4] [
 ⟨(some 17), (.bin .add (.t 9) (.k (rI .i64 1))), none, none⟩,
 ⟨(some 9), (.move (.t 17)), none, none⟩]))))

/-- (*pedigree/check.found).all -/
def ic155 : IC :=
 (.seq
 (.region [] [] [1, 9, 8, 10, 7, 0, 6, 16, 4] [
 ⟨(some 4), (.move (.k (rB false))), none, none⟩])
 (.seq
 (.seq
 (.region [] [] [1, 9, 8, 10, 7, 0, 6, 16, 4] [
 ⟨(some 7), (.move (.t 1)), none, none⟩,
 ⟨(some 8), (.len (.t 7)), none, none⟩,
 ⟨(some 9), (.move (.k (rI .i64 0))), none, none⟩])
 (.block 0
 (.loop ic155l0)))
 (.seq
 (.region [] [] [1, 9, 8, 10, 7, 0, 6, 16, 4] [
 ⟨(some 4), (.move (.k (rB true))), none, none⟩])
 .ret)))
def ir155 : List IRes := [.tmp 4]
theorem ie155 : cmpFunc Go.Proofs.Tryz.prog ⟨[(15, none)], []⟩ Go.Proofs.Tryz.f95 [1, 9, 8, 10, 7, 0, 6, 16, 4] = some ic155 := by kernel_rfl
theorem ig155 : cmpRes Go.Proofs.Tryz.prog Go.Proofs.Tryz.f95.results.toList = some ir155 := by kernel_rfl

/-- pedigree/pedigreeref07.Lone -/
def ic178 : IC :=
 (.seq
 (.region [1] [] [0, 1, 24, 2, 3] [
 ⟨(some 1), (.box 105 (.t 0)), none, none⟩,
 ⟨(some 2), (.move (.k (rS (bs [])))), none, none⟩,
 ⟨(some 3), (.move (.k (rB false))), none, none⟩])
 (.seq
 (.seq
 (.region [] [] [0, 1, 24, 2, 3] [
 ⟨(some 4), (.faddr 0 (.t 1)), none, none⟩,
 ⟨(some 5), (.load none (.t 4)), none, none⟩,
 ⟨(some 6), (.bin .neq (.t 5) (.k (rI .i8 0))), none, none⟩,
 ⟨(some 7), (.move (.t 6)), none, none⟩,
 ⟨(some 8), (.faddr 5 (.t 1)), some (7, false), none⟩,
 ⟨(some 9), (.load none (.t 8)), some (7, false), none⟩,
 ⟨(some 10), (.len (.t 9)), some (7, false), none⟩,
 ⟨(some 11), (.bin .neq (.t 10) (.k (rI .i64 0))), some (7, false), none⟩,
 ⟨(some 12), (.pick (.t 7) (.k (rB true)) (.t 11)), none, none⟩,
 ⟨(some 13), (.move (.t 12)), none, none⟩,
 ⟨(some 14), (.faddr 1 (.t 1)), some (13, false), none⟩,
 ⟨(some 15), (.faddr 0 (.t 14)), some (13, false), none⟩,
 ⟨(some 16), (.load none (.t 15)), some (13, false), none⟩,
 ⟨(some 17), (.bin .eql (.t 16) (.k (rS (bs [])))), some (13, false), none⟩,
 ⟨(some 18), (.pick (.t 13) (.k (rB true)) (.t 17)), none, none⟩,
 ⟨(some 19), (.move (.t 18)), none, none⟩,
 ⟨(some 20), (.faddr 1 (.t 1)), some (19, false), none⟩,
 ⟨(some 21), (.faddr 0 (.t 20)), some (19, false), none⟩,
 ⟨(some 22), (.load none (.t 21)), some (19, false), none⟩,
 ⟨(some 23), (.bin .eql (.t 22) (.k (rS (bs [95])))), some (19, false), none⟩,
 ⟨(some 24), (.pick (.t 19) (.k (rB true)) (.t 23)), none, none⟩])
 (.cond (.t 24)
 (.seq
 (.region [] [] [0, 1, 24, 2, 3] [
 ⟨(some 2), (.move (.k (rS (bs [])))), none, none⟩,
 ⟨(some 3), (.move (.k (rB false))), none, none⟩])
 .ret)
 .skip))
 (.seq
 (.region [] [] [0, 1, 24, 2, 3] [
 ⟨(some 25), (.faddr 1 (.t 1)), none, none⟩,
 ⟨(some 26), (.faddr 0 (.t 25)), none, none⟩,
 ⟨(some 27), (.load none (.t 26)), none, none⟩,
 ⟨(some 2), (.move (.t 27)), none, none⟩,
 ⟨(some 3), (.move (.k (rB true))), none, none⟩])
 .ret)))
def ir178 : List IRes := [.tmp 2, .tmp 3]
theorem ie178 : cmpFunc Go.Proofs.Tryz.prog ⟨[], []⟩ Go.Proofs.Tryz.f165 [0, 1, 24, 2, 3] = some ic178 := by kernel_rfl
theorem ig178 : cmpRes Go.Proofs.Tryz.prog Go.Proofs.Tryz.f165.results.toList = some ir178 := by kernel_rfl


def ic173l0 : IC :=
 (.seq
 (.region [] [] [1, 8, 7, 9, 6, 0, 5, 15] [
 ⟨(some 9), (.bin .lss (.t 8) (.t 7)), none, none⟩])
 (.seq
 (.cond (.t 9)
 .skip
 (.exit 0))
 (.seq
 (.block 1
 (.seq
 (.region [] [] [1, 8, 7, 9, 6, 0, 5, 15] [
 ⟨(some 10), (.iaddr 1 (.t 6) (.t 8)), none, none⟩,
 ⟨(some 11), (.load none (.t 10)), none, none⟩,
 ⟨(some 5), (.move (.t 11)), none, none⟩])
 (.seq
 (.region [] [] [1, 8, 7, 9, 6, 0, 5, 15] [
 ⟨(some 12), (.move (.t 0)), none, none⟩,
 ⟨(some 13), (.move (.t 5)), none, none⟩,
 ⟨(some 14), (.call (.k (rF 193)) [(.t 12), (.t 13)]), none, none⟩,
 ⟨(some 15), (.un .not (.t 14)), none, none⟩])
 (.cond (.t 15)
 (.seq
 (.region [22] [] [1, 8, 7, 9, 6, 0, 5, 15] [
 ⟨(some 16), (.move (.t 0)), none, none⟩,
 ⟨(some 17), (.move (.t 0)), none, none⟩,
 ⟨(some 18), (.nilchk (.t 17)), none, none⟩,
 ⟨(some 19), (.faddr 0 (.t 18)), none, none⟩,
 ⟨(some 20), (.load none (.t 19)), none, none⟩,
 ⟨(some 21), (.move (.t 5)), none, none⟩,
 ⟨(some 22), (.row 9 1 [(.t 21)]), none, none⟩,
 ⟨(some 23), (.app 9 1 16 (.t 20) (.t 22)), none, none⟩,
 ⟨(some 24), (.nilchk (.t 16)), none, none⟩,
 ⟨(some 25), (.faddr 0 (.t 24)), none, none⟩,
 ⟨none, (.store (some 1) (.t 25) (.t 23)), none, none⟩])
 (.region [] [] [1, 8, 7, 9, 6, 0, 5, 15] [
 ⟨(some 26), (.move (.t 0)), none, none⟩,
 ⟨(some 27), (.nilchk (.t 26)), none, none⟩,
 ⟨(some 28), (.faddr 1 (.t 27)), none, none⟩,
 ⟨(some 29), (.load none (.t 28)), none, none⟩,
 ⟨(some 30), (.move (.t 5)), none, none⟩,
 ⟨(some 31), (.move (.t 0)), none, none⟩,
 ⟨(some 32), (.nilchk (.t 31)), none, none⟩,
 ⟨(some 33), (.faddr 0 (.t 32)), none, none⟩,
 ⟨(some 34), (.load none (.t 33)), none, none⟩,
 ⟨(some 35), (.len (.t 34)), none, none⟩,
 ⟨none, (.mapup .string true (.t 29) (.t 30) (.t 35)), none, none⟩]))
 .skip))))
 (.region [] [] [1, 8, 7, 9, 6, 0, 5, 15] [
 ⟨(some 36), (.bin .add (.t 8) (.k (rI .i64 1))), none, none⟩,
 ⟨(some 8), (.move (.t 36)), none, none⟩]))))

/-- (*pedigree/check.found).add -/
def ic173 : IC :=
 (.seq
 (.region [] [] [1, 8, 7, 9, 6, 0, 5, 15] [
 ⟨(some 6), (.move (.t 1)), none, none⟩,
 ⟨(some 7), (.len (.t 6)), none, none⟩,
 ⟨(some 8), (.move (.k (rI .i64 0))), none, none⟩])
 (.block 0
 (.loop ic173l0)))
def ir173 : List IRes := []
theorem ie173 : cmpFunc Go.Proofs.Tryz.prog ⟨[(14, none)], []⟩ Go.Proofs.Tryz.f188 [1, 8, 7, 9, 6, 0, 5, 15] = some ic173 := by kernel_rfl
theorem ig173 : cmpRes Go.Proofs.Tryz.prog Go.Proofs.Tryz.f188.results.toList = some ir173 := by kernel_rfl


/-- pedigree/check.lone -/
def ic174 : IC :=
 (.seq
 (.region [1] [] [0, 1, 17, 2] [
 ⟨(some 1), (.box 105 (.t 0)), none, none⟩,
 ⟨(some 2), (.move (.k (rS (bs [])))), none, none⟩])
 (.seq
 (.seq
 (.region [] [] [0, 1, 17, 2] [
 ⟨(some 3), (.faddr 0 (.t 1)), none, none⟩,
 ⟨(some 4), (.load none (.t 3)), none, none⟩,
 ⟨(some 5), (.bin .neq (.t 4) (.k (rI .i8 0))), none, none⟩,
 ⟨(some 6), (.move (.t 5)), none, none⟩,
 ⟨(some 7), (.faddr 5 (.t 1)), some (6, false), none⟩,
 ⟨(some 8), (.load none (.t 7)), some (6, false), none⟩,
 ⟨(some 9), (.len (.t 8)), some (6, false), none⟩,
 ⟨(some 10), (.bin .gtr (.t 9) (.k (rI .i64 0))), some (6, false), none⟩,
 ⟨(some 11), (.pick (.t 6) (.k (rB true)) (.t 10)), none, none⟩,
 ⟨(some 12), (.move (.t 11)), none, none⟩,
 ⟨(some 13), (.faddr 1 (.t 1)), some (12, false), none⟩,
 ⟨(some 14), (.faddr 0 (.t 13)), some (12, false), none⟩,
 ⟨(some 15), (.load none (.t 14)), some (12, false), none⟩,
 ⟨(some 16), (.bin .eql (.t 15) (.k (rS (bs [95])))), some (12, false), none⟩,
 ⟨(some 17), (.pick (.t 12) (.k (rB true)) (.t 16)), none, none⟩])
 (.cond (.t 17)
 (.seq
 (.region [] [] [0, 1, 17, 2] [
 ⟨(some 2), (.move (.k (rS (bs [])))), none, none⟩])
 .ret)
 .skip))
 (.seq
 (.region [] [] [0, 1, 17, 2] [
 ⟨(some 18), (.faddr 1 (.t 1)), none, none⟩,
 ⟨(some 19), (.faddr 0 (.t 18)), none, none⟩,
 ⟨(some 20), (.load none (.t 19)), none, none⟩,
 ⟨(some 2), (.move (.t 20)), none, none⟩])
 .ret)))
def ir174 : List IRes := [.tmp 2]
theorem ie174 : cmpFunc Go.Proofs.Tryz.prog ⟨[], []⟩ Go.Proofs.Tryz.f189 [0, 1, 17, 2] = some ic174 := by kernel_rfl
theorem ig174 : cmpRes Go.Proofs.Tryz.prog Go.Proofs.Tryz.f189.results.toList = some ir174 := by kernel_rfl


/-- pedigree/term.ExprVars -/
def ic175 : IC :=
 (.seq
 (.region [1] [] [0, 1, 2] [
 ⟨(some 1), (.box 105 (.t 0)), none, none⟩,
 ⟨(some 2), (.move (.k (.x (.one .nil)))), none, none⟩])
 (.seq
 (.region [] [.fz [1]] [0, 1, 2] [
 ⟨(some 3), (.mki 222 (.t 1)), none, none⟩,
 ⟨(some 4), (.call (.k (rF 194)) [(.t 3)]), none, none⟩,
 ⟨(some 2), (.move (.t 4)), none, none⟩])
 .ret))
def ir175 : List IRes := [.tmp 2]
theorem ie175 : cmpFunc Go.Proofs.Tryz.prog ⟨[(4, none)], [(3, .fz [1])]⟩ Go.Proofs.Tryz.f190 [0, 1, 2] = some ic175 := by kernel_rfl
theorem ig175 : cmpRes Go.Proofs.Tryz.prog Go.Proofs.Tryz.f190.results.toList = some ir175 := by kernel_rfl

def ic176l0 : IC :=
 (.seq
 (.region [] [] [0, 19, 18, 20, 17, 1, 8, 26, 6, 5, 4] [
 ⟨(some 20), (.bin .lss (.t 19) (.t 18)), none, none⟩])
 (.seq
 (.cond (.t 20)
 .skip
 (.exit 0))
 (.seq
 (.block 1
 (.seq
 (.region [8] [] [0, 19, 18, 20, 17, 1, 8, 26, 6, 5, 4] [
 ⟨(some 21), (.iaddr 4 (.t 17) (.t 19)), none, none⟩,
 ⟨(some 22), (.load (some 4) (.t 21)), none, none⟩,
 ⟨(some 8), (.zero 234 [(.c (.v (.string (bs [])))), (.c (.v (.string (bs [])))), .nil, .nil]), none, none⟩,
 ⟨none, (.store (some 4) (.t 8) (.t 22)), none, none⟩])
 (.seq
 (.region [] [] [0, 19, 18, 20, 17, 1, 8, 26, 6, 5, 4] [
 ⟨(some 23), (.move (.t 1)), none, none⟩,
 ⟨(some 24), (.load (some 4) (.t 8)), none, none⟩,
 ⟨(some 25), (.call (.t 23) [(.t 24)]), none, none⟩,
 ⟨(some 26), (.un .not (.t 25)), none, none⟩])
 (.cond (.t 26)
 (.region [29] [] [0, 19, 18, 20, 17, 1, 8, 26, 6, 5, 4] [
 ⟨(some 27), (.move (.t 6)), none, none⟩,
 ⟨(some 28), (.load (some 4) (.t 8)), none, none⟩,
 ⟨(some 29), (.row 234 4 [(.t 28)]), none, none⟩,
 ⟨(some 30), (.app 234 4 80 (.t 27) (.t 29)), none, none⟩,
 ⟨(some 6), (.move (.t 30)), none, none⟩])
 .skip))))
 (.region [] [] [0, 19, 18, 20, 17, 1, 8, 26, 6, 5, 4] [
 ⟨(some 31), (.bin .add (.t 19) (.k (rI .i64 1))), none, none⟩,
 ⟨(some 19), (.move (.t 31)), none, none⟩]))))

/-- (*pedigree/check.ring[pedigree/check.equation]).round -/
def ic176 : IC :=
 (.seq
 (.region [] [] [0, 19, 18, 20, 17, 1, 8, 26, 6, 5, 4] [
 ⟨(some 4), (.move (.k (rB false))), none, none⟩])
 (.seq
 (.region [] [] [0, 19, 18, 20, 17, 1, 8, 26, 6, 5, 4] [
 ⟨(some 9), (.move (.t 0)), none, none⟩,
 ⟨(some 10), (.nilchk (.t 9)), none, none⟩,
 ⟨(some 11), (.faddr 0 (.t 10)), none, none⟩,
 ⟨(some 12), (.load none (.t 11)), none, none⟩,
 ⟨(some 13), (.len (.t 12)), none, none⟩,
 ⟨(some 5), (.move (.t 13)), none, none⟩])
 (.seq
 (.region [] [] [0, 19, 18, 20, 17, 1, 8, 26, 6, 5, 4] [
 ⟨(some 6), (.move (.k (.x (.one .nil)))), none, none⟩])
 (.seq
 (.seq
 (.region [] [] [0, 19, 18, 20, 17, 1, 8, 26, 6, 5, 4] [
 ⟨(some 14), (.move (.t 0)), none, none⟩,
 ⟨(some 15), (.nilchk (.t 14)), none, none⟩,
 ⟨(some 16), (.faddr 0 (.t 15)), none, none⟩,
 ⟨(some 17), (.load none (.t 16)), none, none⟩,
 ⟨(some 18), (.len (.t 17)), none, none⟩,
 ⟨(some 19), (.move (.k (rI .i64 0))), none, none⟩])
 (.block 0
 (.loop ic176l0)))
 (.seq
 (.region [] [] [0, 19, 18, 20, 17, 1, 8, 26, 6, 5, 4] [
 ⟨(some 32), (.move (.t 0)), none, none⟩,
 ⟨(some 33), (.move (.t 6)), none, none⟩,
 ⟨(some 34), (.nilchk (.t 32)), none, none⟩,
 ⟨(some 35), (.faddr 0 (.t 34)), none, none⟩,
 ⟨none, (.store (some 1) (.t 35) (.t 33)), none, none⟩])
 (.seq
 (.region [] [] [0, 19, 18, 20, 17, 1, 8, 26, 6, 5, 4] [
 ⟨(some 36), (.move (.t 6)), none, none⟩,
 ⟨(some 37), (.len (.t 36)), none, none⟩,
 ⟨(some 38), (.move (.t 5)), none, none⟩,
 ⟨(some 39), (.bin .lss (.t 37) (.t 38)), none, none⟩,
 ⟨(some 4), (.move (.t 39)), none, none⟩])
 .ret))))))
def ir176 : List IRes := [.tmp 4]
theorem ie176 : cmpFunc Go.Proofs.Tryz.prog ⟨[(25, none)], []⟩ Go.Proofs.Tryz.f191 [0, 19, 18, 20, 17, 1, 8, 26, 6, 5, 4] = some ic176 := by kernel_rfl
theorem ig176 : cmpRes Go.Proofs.Tryz.prog Go.Proofs.Tryz.f191.results.toList = some ir176 := by kernel_rfl


/-- (*pedigree/check.found).take -/
def ic177 : IC :=
 (.seq
 (.region [3] [] [1, 3, 0, 5, 27, 4] [
 ⟨(some 3), (.box 234 (.t 1)), none, none⟩,
 ⟨(some 4), (.move (.k (rB false))), none, none⟩])
 (.seq
 (.block 0
 (.seq
 (.region [] [] [1, 3, 0, 5, 27, 4] [
 ⟨(some 6), (.faddr 0 (.t 3)), none, none⟩,
 ⟨(some 7), (.load none (.t 6)), none, none⟩,
 ⟨(some 8), (.bin .neq (.t 7) (.k (rS (bs [])))), none, none⟩,
 ⟨(some 9), (.move (.t 8)), none, none⟩,
 ⟨(some 10), (.move (.t 0)), some (9, true), none⟩,
 ⟨(some 11), (.faddr 0 (.t 3)), some (9, true), none⟩,
 ⟨(some 12), (.load none (.t 11)), some (9, true), none⟩,
 ⟨(some 13), (.call (.k (rF 193)) [(.t 10), (.t 12)]), some (9, true), none⟩,
 ⟨(some 14), (.un .not (.t 13)), some (9, true), none⟩,
 ⟨(some 15), (.pick (.t 9) (.t 14) (.k (rB false))), none, none⟩,
 ⟨(some 16), (.move (.t 15)), none, none⟩,
 ⟨(some 17), (.move (.t 0)), some (16, true), none⟩,
 ⟨(some 18), (.faddr 3 (.t 3)), some (16, true), none⟩,
 ⟨(some 19), (.load none (.t 18)), some (16, true), none⟩,
 ⟨(some 20), (.call (.k (rF 95)) [(.t 17), (.t 19)]), some (16, true), none⟩,
 ⟨(some 21), (.pick (.t 16) (.t 20) (.k (rB false))), none, none⟩,
 ⟨(some 5), (.move (.t 21)), none, none⟩])
 (.cond (.t 5)
 (.region [25] [] [1, 3, 0, 5, 27, 4] [
 ⟨(some 22), (.move (.t 0)), none, none⟩,
 ⟨(some 23), (.faddr 0 (.t 3)), none, none⟩,
 ⟨(some 24), (.load none (.t 23)), none, none⟩,
 ⟨(some 25), (.row 9 1 [(.t 24)]), none, none⟩,
 ⟨(some 26), (.call (.k (rF 188)) [(.t 22), (.t 25)]), none, none⟩])
 (.seq
 (.region [] [] [1, 3, 0, 5, 27, 4] [
 ⟨(some 28), (.faddr 1 (.t 3)), none, none⟩,
 ⟨(some 29), (.load none (.t 28)), none, none⟩,
 ⟨(some 30), (.bin .neq (.t 29) (.k (rS (bs [])))), none, none⟩,
 ⟨(some 31), (.move (.t 30)), none, none⟩,
 ⟨(some 32), (.move (.t 0)), some (31, true), none⟩,
 ⟨(some 33), (.faddr 1 (.t 3)), some (31, true), none⟩,
 ⟨(some 34), (.load none (.t 33)), some (31, true), none⟩,
 ⟨(some 35), (.call (.k (rF 193)) [(.t 32), (.t 34)]), some (31, true), none⟩,
 ⟨(some 36), (.un .not (.t 35)), some (31, true), none⟩,
 ⟨(some 37), (.pick (.t 31) (.t 36) (.k (rB false))), none, none⟩,
 ⟨(some 38), (.move (.t 37)), none, none⟩,
 ⟨(some 39), (.move (.t 0)), some (38, true), none⟩,
 ⟨(some 40), (.faddr 2 (.t 3)), some (38, true), none⟩,
 ⟨(some 41), (.load none (.t 40)), some (38, true), none⟩,
 ⟨(some 42), (.call (.k (rF 95)) [(.t 39), (.t 41)]), some (38, true), none⟩,
 ⟨(some 43), (.pick (.t 38) (.t 42) (.k (rB false))), none, none⟩,
 ⟨(some 27), (.move (.t 43)), none, none⟩])
 (.cond (.t 27)
 (.region [47] [] [1, 3, 0, 5, 27, 4] [
 ⟨(some 44), (.move (.t 0)), none, none⟩,
 ⟨(some 45), (.faddr 1 (.t 3)), none, none⟩,
 ⟨(some 46), (.load none (.t 45)), none, none⟩,
 ⟨(some 47), (.row 9 1 [(.t 46)]), none, none⟩,
 ⟨(some 48), (.call (.k (rF 188)) [(.t 44), (.t 47)]), none, none⟩])
 (.seq
 (.region [] [] [1, 3, 0, 5, 27, 4] [
 ⟨(some 4), (.move (.k (rB false))), none, none⟩])
 .ret))))))
 (.seq
 (.region [] [] [1, 3, 0, 5, 27, 4] [
 ⟨(some 4), (.move (.k (rB true))), none, none⟩])
 .ret)))
def ir177 : List IRes := [.tmp 4]
theorem ie177 : cmpFunc Go.Proofs.Tryz.prog ⟨[(13, none), (20, none), (26, none), (35, none), (42, none), (48, none)], []⟩ Go.Proofs.Tryz.f192 [1, 3, 0, 5, 27, 4] = some ic177 := by kernel_rfl
theorem ig177 : cmpRes Go.Proofs.Tryz.prog Go.Proofs.Tryz.f192.results.toList = some ir177 := by kernel_rfl


/-- (*pedigree/check.found).has -/
def ic200 : IC :=
 (.seq
 (.region [] [] [0, 1, 4] [
 ⟨(some 4), (.move (.k (rB false))), none, none⟩])
 (.seq
 (.region [] [] [0, 1, 4] [
 ⟨(some 5), (.move (.t 0)), none, none⟩,
 ⟨(some 6), (.nilchk (.t 5)), none, none⟩,
 ⟨(some 7), (.faddr 1 (.t 6)), none, none⟩,
 ⟨(some 8), (.load none (.t 7)), none, none⟩,
 ⟨(some 9), (.move (.t 1)), none, none⟩,
 ⟨(some 10), (.mlook .string true false [(.c (.v (.int .i64 0)))] (.t 8) (.t 9)), none, none⟩,
 ⟨(some 11), (.bin .gtr (.t 10) (.k (rI .i64 0))), none, none⟩,
 ⟨(some 4), (.move (.t 11)), none, none⟩])
 .ret))
def ir200 : List IRes := [.tmp 4]
theorem ie200 : cmpFunc Go.Proofs.Tryz.prog ⟨[], []⟩ Go.Proofs.Tryz.f193 [0, 1, 4] = some ic200 := by kernel_rfl
theorem ig200 : cmpRes Go.Proofs.Tryz.prog Go.Proofs.Tryz.f193.results.toList = some ir200 := by kernel_rfl


end Go.Proofs.YtiomojlcnemnhaaGreatDoor

import Derived.Test.YtiomojlcnemnhaaDoorFxWb
import Derived.Test.YtiomojlcnemnhaaDoorProg
import Derived.KernelRfl
import Derived.Test.YtiomojlcnemnhaaDoorPedB
import Derived.Test.YtiomojlcnemnhaaDoorDxN3
/- Functions of the seat, as the small language has them. -/
namespace Go.Proofs.YtiomojlcnemnhaaDoor
open Go.Fx

/-- pedigree/pedigreelaw04.TermUnifies -/
def ic7 : IC :=
 (.seq
  (.region [2, 3] [] [0, 1, 2, 3, 7, 8, 10, 6, 9, 5, 4] [
    ⟨(some 2), (.box 24 (.t 0)), none, none⟩,
    ⟨(some 3), (.box 24 (.t 1)), none, none⟩,
    ⟨(some 4), (.move (.k (rB false))), none, none⟩])
  (.seq
   (.region [] [] [0, 1, 2, 3, 7, 8, 10, 6, 9, 5, 4] [
     ⟨(some 12), (.load (some 2) (.t 2)), none, none⟩,
     ⟨(some 13), (.load (some 2) (.t 3)), none, none⟩,
     ⟨(some 14), (.callp (.k (rF 42)) [(.t 12), (.t 13)]), none, none⟩,
     ⟨(some 11), (.move (.t 14)), none, none⟩,
     ⟨(some 15), (.ext (.t 11) 0), none, none⟩,
     ⟨(some 16), (.ext (.t 11) 1), none, none⟩,
     ⟨(some 5), (.move (.t 15)), none, none⟩,
     ⟨(some 6), (.move (.t 16)), none, none⟩])
   (.seq
    (.region [7] [] [0, 1, 2, 3, 7, 8, 10, 6, 9, 5, 4] [
      ⟨(some 17), (.load (some 2) (.t 2)), none, none⟩,
      ⟨(some 18), (.callp (.k (rF 37)) [(.t 17)]), none, none⟩,
      ⟨(some 7), (.zero 24 [(.c (.v (.string (bs [])))), .nil]), none, none⟩,
      ⟨none, (.store (some 2) (.t 7) (.t 18)), none, none⟩])
    (.seq
     (.region [8] [] [0, 1, 2, 3, 7, 8, 10, 6, 9, 5, 4] [
       ⟨(some 19), (.load (some 2) (.t 3)), none, none⟩,
       ⟨(some 20), (.callp (.k (rF 37)) [(.t 19)]), none, none⟩,
       ⟨(some 8), (.zero 24 [(.c (.v (.string (bs [])))), .nil]), none, none⟩,
       ⟨none, (.store (some 2) (.t 8) (.t 20)), none, none⟩])
     (.seq
      (.region [] [] [0, 1, 2, 3, 7, 8, 10, 6, 9, 5, 4] [
        ⟨(some 22), (.load (some 2) (.t 7)), none, none⟩,
        ⟨(some 23), (.load (some 2) (.t 8)), none, none⟩,
        ⟨(some 24), (.callp (.k (rF 34)) [(.t 22), (.t 23)]), none, none⟩,
        ⟨(some 21), (.move (.t 24)), none, none⟩,
        ⟨(some 25), (.ext (.t 21) 0), none, none⟩,
        ⟨(some 26), (.ext (.t 21) 1), none, none⟩,
        ⟨(some 9), (.move (.t 25)), none, none⟩,
        ⟨(some 10), (.move (.t 26)), none, none⟩])
      (.seq
       (.region [] [] [0, 1, 2, 3, 7, 8, 10, 6, 9, 5, 4] [
         ⟨(some 27), (.move (.t 10)), none, none⟩,
         ⟨(some 28), (.move (.t 6)), none, none⟩,
         ⟨(some 29), (.eqb false (.t 27) (.t 28)), none, none⟩,
         ⟨(some 30), (.move (.t 29)), none, none⟩,
         ⟨(some 31), (.move (.t 9)), some (30, true), none⟩,
         ⟨(some 32), (.move (.t 5)), some (30, true), none⟩,
         ⟨(some 33), (.callp (.k (rF 43)) [(.t 31), (.t 32)]), some (30, true), none⟩,
         ⟨(some 34), (.pick (.t 30) (.t 33) (.k (rB false))), none, none⟩,
         ⟨(some 35), (.move (.t 34)), none, none⟩,
         ⟨(some 36), (.load (some 2) (.t 7)), some (35, true), none⟩,
         ⟨(some 37), (.load (some 2) (.t 2)), some (35, true), none⟩,
         ⟨(some 38), (.callp (.k (rF 40)) [(.t 36), (.t 37)]), some (35, true), none⟩,
         ⟨(some 39), (.pick (.t 35) (.t 38) (.k (rB false))), none, none⟩,
         ⟨(some 40), (.move (.t 39)), none, none⟩,
         ⟨(some 41), (.load (some 2) (.t 8)), some (40, true), none⟩,
         ⟨(some 42), (.load (some 2) (.t 3)), some (40, true), none⟩,
         ⟨(some 43), (.callp (.k (rF 40)) [(.t 41), (.t 42)]), some (40, true), none⟩,
         ⟨(some 44), (.pick (.t 40) (.t 43) (.k (rB false))), none, none⟩,
         ⟨(some 4), (.move (.t 44)), none, none⟩])
       .ret))))))
def ir7 : List IRes := [.tmp 4]
theorem ie7 : cmpFunc Go.Proofs.Tryd.prog ⟨[], []⟩ Go.Proofs.Tryd.f7 [0, 1, 2, 3, 7, 8, 10, 6, 9, 5, 4] = some ic7 := by kernel_rfl
theorem ig7 : cmpRes Go.Proofs.Tryd.prog Go.Proofs.Tryd.f7.results.toList = some ir7 := by kernel_rfl

abbrev ks34 (t0 t1 t2 t3 t38 t6 t44 t43 t45 t7 t9 t10 t11 t73 t76 t81 t8 t94 t93 t95 t92 t12 t14 t4 t5 : T) (O : List (Nat × Box)) (U : List (Nat × Tok)) (H : FHp) : S := st [(0, t0), (1, t1), (2, t2), (3, t3), (38, t38), (6, t6), (44, t44), (43, t43), (45, t45), (7, t7), (9, t9), (10, t10), (11, t11), (73, t73), (76, t76), (81, t81), (8, t8), (94, t94), (93, t93), (95, t95), (92, t92), (12, t12), (14, t14), (4, t4), (5, t5)] O U H
def ic34l0 : IC :=
 (.seq
  (.region [] [] [0, 1, 2, 3, 38, 6, 44, 43, 45, 7, 9, 10, 11, 73, 76, 81, 8, 94, 93, 95, 92, 12, 14, 4, 5] [
    ⟨(some 45), (.bin .lss (.t 44) (.t 43)), none, none⟩])
  (.seq
   (.cond (.t 45)
    .skip
    (.exit 0))
   (.seq
    (.block 1
     (.seq
      (.region [] [] [0, 1, 2, 3, 38, 6, 44, 43, 45, 7, 9, 10, 11, 73, 76, 81, 8, 94, 93, 95, 92, 12, 14, 4, 5] [
        ⟨(some 46), (.move (.t 44)), none, none⟩,
        ⟨(some 9), (.move (.t 46)), none, none⟩])
      (.seq
       (.region [10, 11] [] [0, 1, 2, 3, 38, 6, 44, 43, 45, 7, 9, 10, 11, 73, 76, 81, 8, 94, 93, 95, 92, 12, 14, 4, 5] [
         ⟨(some 47), (.move (.t 7)), none, none⟩,
         ⟨(some 48), (.faddr 1 (.t 2)), none, none⟩,
         ⟨(some 49), (.load none (.t 48)), none, (some [2])⟩,
         ⟨(some 50), (.move (.t 9)), none, none⟩,
         ⟨(some 51), (.iaddr 4 (.t 49) (.t 50)), none, (some [])⟩,
         ⟨(some 52), (.load (some 4) (.t 51)), none, (some [])⟩,
         ⟨(some 53), (.call (.t 47) [(.t 52)]), none, (some [6, 39])⟩,
         ⟨(some 54), (.move (.t 7)), none, none⟩,
         ⟨(some 55), (.faddr 1 (.t 3)), none, none⟩,
         ⟨(some 56), (.load none (.t 55)), none, (some [3])⟩,
         ⟨(some 57), (.move (.t 9)), none, none⟩,
         ⟨(some 58), (.iaddr 4 (.t 56) (.t 57)), none, (some [])⟩,
         ⟨(some 59), (.load (some 4) (.t 58)), none, (some [])⟩,
         ⟨(some 60), (.call (.t 54) [(.t 59)]), none, (some [6, 39])⟩,
         ⟨(some 10), (.zero 41 [(.c (.v (.string (bs [])))), (.c (.v (.int .i8 0))), (.c (.v (.int .i64 0))), (.c (.v (.string (bs []))))]), none, none⟩,
         ⟨(some 11), (.zero 41 [(.c (.v (.string (bs [])))), (.c (.v (.int .i8 0))), (.c (.v (.int .i64 0))), (.c (.v (.string (bs []))))]), none, none⟩,
         ⟨none, (.store (some 4) (.t 10) (.t 53)), none, none⟩,
         ⟨none, (.store (some 4) (.t 11) (.t 60)), none, none⟩])
       (.seq
        (.seq
         (.region [] [] [0, 1, 2, 3, 38, 6, 44, 43, 45, 7, 9, 10, 11, 73, 76, 81, 8, 94, 93, 95, 92, 12, 14, 4, 5] [
           ⟨(some 61), (.faddr 0 (.t 10)), none, none⟩,
           ⟨(some 62), (.load none (.t 61)), none, none⟩,
           ⟨(some 63), (.bin .eql (.t 62) (.k (rS (bs [95])))), none, none⟩,
           ⟨(some 64), (.move (.t 63)), none, none⟩,
           ⟨(some 65), (.faddr 0 (.t 11)), some (64, false), none⟩,
           ⟨(some 66), (.load none (.t 65)), some (64, false), none⟩,
           ⟨(some 67), (.bin .eql (.t 66) (.k (rS (bs [95])))), some (64, false), none⟩,
           ⟨(some 68), (.pick (.t 64) (.k (rB true)) (.t 67)), none, none⟩,
           ⟨(some 69), (.move (.t 68)), none, none⟩,
           ⟨(some 70), (.load (some 4) (.t 10)), some (69, false), none⟩,
           ⟨(some 71), (.load (some 4) (.t 11)), some (69, false), none⟩,
           ⟨(some 72), (.eqs false [.s, .i .i8, .i .i64, .s] (.t 70) (.t 71)), some (69, false), none⟩,
           ⟨(some 73), (.pick (.t 69) (.k (rB true)) (.t 72)), none, none⟩])
         (.cond (.t 73)
          (.exit 1)
          .skip))
        (.seq
         (.seq
          (.region [] [] [0, 1, 2, 3, 38, 6, 44, 43, 45, 7, 9, 10, 11, 73, 76, 81, 8, 94, 93, 95, 92, 12, 14, 4, 5] [
            ⟨(some 74), (.faddr 0 (.t 10)), none, none⟩,
            ⟨(some 75), (.load none (.t 74)), none, none⟩,
            ⟨(some 76), (.bin .eql (.t 75) (.k (rS (bs [])))), none, none⟩])
          (.cond (.t 76)
           (.region [] [] [0, 1, 2, 3, 38, 6, 44, 43, 45, 7, 9, 10, 11, 73, 76, 81, 8, 94, 93, 95, 92, 12, 14, 4, 5] [
             ⟨(some 77), (.load (some 4) (.t 11)), none, none⟩,
             ⟨(some 78), (.load (some 4) (.t 10)), none, none⟩,
             ⟨none, (.store (some 4) (.t 10) (.t 77)), none, none⟩,
             ⟨none, (.store (some 4) (.t 11) (.t 78)), none, none⟩])
           .skip))
         (.seq
          (.seq
           (.region [] [] [0, 1, 2, 3, 38, 6, 44, 43, 45, 7, 9, 10, 11, 73, 76, 81, 8, 94, 93, 95, 92, 12, 14, 4, 5] [
             ⟨(some 79), (.faddr 0 (.t 10)), none, none⟩,
             ⟨(some 80), (.load none (.t 79)), none, none⟩,
             ⟨(some 81), (.bin .eql (.t 80) (.k (rS (bs [])))), none, none⟩])
           (.cond (.t 81)
            (.seq
             (.region [] [] [0, 1, 2, 3, 38, 6, 44, 43, 45, 7, 9, 10, 11, 73, 76, 81, 8, 94, 93, 95, 92, 12, 14, 4, 5] [
               ⟨(some 4), (.move (.k (.x (.one .nil)))), none, none⟩,
               ⟨(some 5), (.move (.k (rB false))), none, none⟩])
             .ret)
            .skip))
          (.seq
           (.region [] [] [0, 1, 2, 3, 38, 6, 44, 43, 45, 7, 9, 10, 11, 73, 76, 81, 8, 94, 93, 95, 92, 12, 14, 4, 5] [
             ⟨(some 82), (.load none (.t 6)), none, none⟩,
             ⟨(some 83), (.faddr 0 (.t 10)), none, none⟩,
             ⟨(some 84), (.load none (.t 83)), none, none⟩,
             ⟨(some 85), (.load (some 4) (.t 11)), none, none⟩,
             ⟨none, (.mapup .string false (.t 82) (.t 84) (.t 85)), none, none⟩])
           (.region [89] [] [0, 1, 2, 3, 38, 6, 44, 43, 45, 7, 9, 10, 11, 73, 76, 81, 8, 94, 93, 95, 92, 12, 14, 4, 5] [
             ⟨(some 86), (.move (.t 8)), none, none⟩,
             ⟨(some 87), (.faddr 0 (.t 10)), none, none⟩,
             ⟨(some 88), (.load none (.t 87)), none, none⟩,
             ⟨(some 89), (.row 9 1 [(.t 88)]), none, none⟩,
             ⟨(some 90), (.app 9 1 16 (.t 86) (.t 89)), none, none⟩,
             ⟨(some 8), (.move (.t 90)), none, none⟩]))))))))
    (.region [] [] [0, 1, 2, 3, 38, 6, 44, 43, 45, 7, 9, 10, 11, 73, 76, 81, 8, 94, 93, 95, 92, 12, 14, 4, 5] [
      ⟨(some 91), (.bin .add (.t 44) (.k (rI .i64 1))), none, none⟩,
      ⟨(some 44), (.move (.t 91)), none, none⟩]))))

def ic34l1 : IC :=
 (.seq
  (.region [] [] [0, 1, 2, 3, 38, 6, 44, 43, 45, 7, 9, 10, 11, 73, 76, 81, 8, 94, 93, 95, 92, 12, 14, 4, 5] [
    ⟨(some 95), (.bin .lss (.t 94) (.t 93)), none, none⟩])
  (.seq
   (.cond (.t 95)
    .skip
    (.exit 2))
   (.seq
    (.block 3
     (.seq
      (.region [] [] [0, 1, 2, 3, 38, 6, 44, 43, 45, 7, 9, 10, 11, 73, 76, 81, 8, 94, 93, 95, 92, 12, 14, 4, 5] [
        ⟨(some 96), (.iaddr 1 (.t 92) (.t 94)), none, none⟩,
        ⟨(some 97), (.load none (.t 96)), none, none⟩,
        ⟨(some 14), (.move (.t 97)), none, none⟩])
      (.region [105] [] [0, 1, 2, 3, 38, 6, 44, 43, 45, 7, 9, 10, 11, 73, 76, 81, 8, 94, 93, 95, 92, 12, 14, 4, 5] [
        ⟨(some 98), (.move (.t 12)), none, none⟩,
        ⟨(some 99), (.move (.t 14)), none, none⟩,
        ⟨(some 100), (.move (.t 7)), none, none⟩,
        ⟨(some 101), (.move (.t 14)), none, none⟩,
        ⟨(some 102), (.build [(.c (.v (.string (bs [])))), (.c (.v (.int .i8 0))), (.c (.v (.int .i64 0))), (.c (.v (.string (bs []))))] [(0, 1, (.t 101))]), none, none⟩,
        ⟨(some 103), (.call (.t 100) [(.t 102)]), none, none⟩,
        ⟨(some 104), (.build [(.c (.v (.string (bs [])))), (.c (.v (.string (bs [])))), (.c (.v (.int .i8 0))), (.c (.v (.int .i64 0))), (.c (.v (.string (bs []))))] [(0, 1, (.t 99)), (1, 4, (.t 103))]), none, none⟩,
        ⟨(some 105), (.row 65 5 [(.t 104)]), none, none⟩,
        ⟨(some 106), (.app 65 5 64 (.t 98) (.t 105)), none, none⟩,
        ⟨(some 12), (.move (.t 106)), none, none⟩])))
    (.region [] [] [0, 1, 2, 3, 38, 6, 44, 43, 45, 7, 9, 10, 11, 73, 76, 81, 8, 94, 93, 95, 92, 12, 14, 4, 5] [
      ⟨(some 107), (.bin .add (.t 94) (.k (rI .i64 1))), none, none⟩,
      ⟨(some 94), (.move (.t 107)), none, none⟩]))))

/-- pedigree/term.Unify -/
def ic34 : IC :=
 (.seq
  (.region [2, 3] [] [0, 1, 2, 3, 38, 6, 44, 43, 45, 7, 9, 10, 11, 73, 76, 81, 8, 94, 93, 95, 92, 12, 14, 4, 5] [
    ⟨(some 2), (.box 24 (.t 0)), none, none⟩,
    ⟨(some 3), (.box 24 (.t 1)), none, none⟩,
    ⟨(some 4), (.move (.k (.x (.one .nil)))), none, none⟩,
    ⟨(some 5), (.move (.k (rB false))), none, none⟩])
  (.seq
   (.seq
    (.region [] [] [0, 1, 2, 3, 38, 6, 44, 43, 45, 7, 9, 10, 11, 73, 76, 81, 8, 94, 93, 95, 92, 12, 14, 4, 5] [
      ⟨(some 15), (.load (some 2) (.t 2)), none, none⟩,
      ⟨(some 16), (.callp (.k (rF 44)) [(.t 15)]), none, none⟩,
      ⟨(some 17), (.bin .neq (.t 16) (.k (rI .i64 0))), none, none⟩,
      ⟨(some 18), (.move (.t 17)), none, none⟩,
      ⟨(some 19), (.load (some 2) (.t 3)), some (18, false), none⟩,
      ⟨(some 20), (.callp (.k (rF 44)) [(.t 19)]), some (18, false), none⟩,
      ⟨(some 21), (.bin .neq (.t 20) (.k (rI .i64 0))), some (18, false), none⟩,
      ⟨(some 22), (.pick (.t 18) (.k (rB true)) (.t 21)), none, none⟩,
      ⟨(some 23), (.move (.t 22)), none, none⟩,
      ⟨(some 24), (.faddr 0 (.t 2)), some (23, false), none⟩,
      ⟨(some 25), (.load none (.t 24)), some (23, false), none⟩,
      ⟨(some 26), (.faddr 0 (.t 3)), some (23, false), none⟩,
      ⟨(some 27), (.load none (.t 26)), some (23, false), none⟩,
      ⟨(some 28), (.bin .neq (.t 25) (.t 27)), some (23, false), none⟩,
      ⟨(some 29), (.pick (.t 23) (.k (rB true)) (.t 28)), none, none⟩,
      ⟨(some 30), (.move (.t 29)), none, none⟩,
      ⟨(some 31), (.faddr 1 (.t 2)), some (30, false), none⟩,
      ⟨(some 32), (.load none (.t 31)), some (30, false), none⟩,
      ⟨(some 33), (.len (.t 32)), some (30, false), none⟩,
      ⟨(some 34), (.faddr 1 (.t 3)), some (30, false), none⟩,
      ⟨(some 35), (.load none (.t 34)), some (30, false), none⟩,
      ⟨(some 36), (.len (.t 35)), some (30, false), none⟩,
      ⟨(some 37), (.bin .neq (.t 33) (.t 36)), some (30, false), none⟩,
      ⟨(some 38), (.pick (.t 30) (.k (rB true)) (.t 37)), none, none⟩])
    (.cond (.t 38)
     (.seq
      (.region [] [] [0, 1, 2, 3, 38, 6, 44, 43, 45, 7, 9, 10, 11, 73, 76, 81, 8, 94, 93, 95, 92, 12, 14, 4, 5] [
        ⟨(some 4), (.move (.k (.x (.one .nil)))), none, none⟩,
        ⟨(some 5), (.move (.k (rB false))), none, none⟩])
      .ret)
     .skip))
   (.seq
    (.region [39, 6] [] [0, 1, 2, 3, 38, 6, 44, 43, 45, 7, 9, 10, 11, 73, 76, 81, 8, 94, 93, 95, 92, 12, 14, 4, 5] [
      ⟨(some 39), (.mkmap .string 5 false), none, none⟩,
      ⟨(some 6), (.zero 155 [(.c (.v (.map none)))]), none, none⟩,
      ⟨none, (.store (some 1) (.t 6) (.t 39)), none, none⟩])
    (.seq
     (.region [] [] [0, 1, 2, 3, 38, 6, 44, 43, 45, 7, 9, 10, 11, 73, 76, 81, 8, 94, 93, 95, 92, 12, 14, 4, 5] [
       ⟨(some 40), (.clo 106 [] [(.t 6)]), none, none⟩,
       ⟨(some 7), (.move (.t 40)), none, none⟩])
     (.seq
      (.region [] [] [0, 1, 2, 3, 38, 6, 44, 43, 45, 7, 9, 10, 11, 73, 76, 81, 8, 94, 93, 95, 92, 12, 14, 4, 5] [
        ⟨(some 8), (.move (.k (.x (.one .nil)))), none, none⟩])
      (.seq
       (.seq
        (.region [] [] [0, 1, 2, 3, 38, 6, 44, 43, 45, 7, 9, 10, 11, 73, 76, 81, 8, 94, 93, 95, 92, 12, 14, 4, 5] [
          ⟨(some 41), (.faddr 1 (.t 2)), none, none⟩,
          ⟨(some 42), (.load none (.t 41)), none, none⟩,
          ⟨(some 43), (.len (.t 42)), none, none⟩,
          ⟨(some 44), (.move (.k (rI .i64 0))), none, none⟩])
        (.block 0
         (.loop ic34l0)))
       (.seq
        (.region [] [] [0, 1, 2, 3, 38, 6, 44, 43, 45, 7, 9, 10, 11, 73, 76, 81, 8, 94, 93, 95, 92, 12, 14, 4, 5] [
          ⟨(some 12), (.move (.k (.x (.one .nil)))), none, none⟩])
        (.seq
         (.seq
          (.region [] [] [0, 1, 2, 3, 38, 6, 44, 43, 45, 7, 9, 10, 11, 73, 76, 81, 8, 94, 93, 95, 92, 12, 14, 4, 5] [
            ⟨(some 92), (.move (.t 8)), none, none⟩,
            ⟨(some 93), (.len (.t 92)), none, none⟩,
            ⟨(some 94), (.move (.k (rI .i64 0))), none, none⟩])
          (.block 2
           (.loop ic34l1)))
         (.seq
          (.region [] [] [0, 1, 2, 3, 38, 6, 44, 43, 45, 7, 9, 10, 11, 73, 76, 81, 8, 94, 93, 95, 92, 12, 14, 4, 5] [
            ⟨(some 108), (.move (.t 12)), none, none⟩,
            ⟨(some 4), (.move (.t 108)), none, none⟩,
            ⟨(some 5), (.move (.k (rB true))), none, none⟩])
          .ret)))))))))
def ir34 : List IRes := [.tmp 4, .tmp 5]
theorem ie34 : cmpFunc Go.Proofs.Tryd.prog ⟨[(49, (some [2])), (52, (some [])), (53, (some [6, 39])), (56, (some [3])), (59, (some [])), (60, (some [6, 39])), (51, (some [])), (58, (some [])), (53, none), (60, none), (103, none)], []⟩ Go.Proofs.Tryd.f34 [0, 1, 2, 3, 38, 6, 44, 43, 45, 7, 9, 10, 11, 73, 76, 81, 8, 94, 93, 95, 92, 12, 14, 4, 5] = some ic34 := by kernel_rfl
theorem ig34 : cmpRes Go.Proofs.Tryd.prog Go.Proofs.Tryd.f34.results.toList = some ir34 := by kernel_rfl

abbrev ks42 (t0 t1 t2 t3 t33 t7 t38 t6 t8 t9 t55 t69 t78 t4 t5 : T) (O : List (Nat × Box)) (U : List (Nat × Tok)) (H : FHp) : S := st [(0, t0), (1, t1), (2, t2), (3, t3), (33, t33), (7, t7), (38, t38), (6, t6), (8, t8), (9, t9), (55, t55), (69, t69), (78, t78), (4, t4), (5, t5)] O U H
def ic42l0 : IC :=
 (.seq
  (.seq
   (.region [] [] [0, 1, 2, 3, 33, 7, 38, 6, 8, 9, 55, 69, 78, 4, 5] [
     ⟨(some 34), (.move (.t 7)), none, none⟩,
     ⟨(some 35), (.faddr 1 (.t 2)), none, none⟩,
     ⟨(some 36), (.load none (.t 35)), none, none⟩,
     ⟨(some 37), (.len (.t 36)), none, none⟩,
     ⟨(some 38), (.bin .lss (.t 34) (.t 37)), none, none⟩])
   (.cond (.t 38)
    .skip
    (.exit 0)))
  (.seq
   (.block 1
    (.seq
     (.region [8] [] [0, 1, 2, 3, 33, 7, 38, 6, 8, 9, 55, 69, 78, 4, 5] [
       ⟨(some 41), (.move (.t 6)), none, none⟩,
       ⟨(some 42), (.faddr 1 (.t 2)), none, none⟩,
       ⟨(some 43), (.load none (.t 42)), none, none⟩,
       ⟨(some 44), (.move (.t 7)), none, none⟩,
       ⟨(some 45), (.iaddr 4 (.t 43) (.t 44)), none, none⟩,
       ⟨(some 46), (.load (some 4) (.t 45)), none, none⟩,
       ⟨(some 47), (.callp (.k (rF 100)) [(.t 41), (.t 46)]), none, none⟩,
       ⟨(some 8), (.zero 41 [(.c (.v (.string (bs [])))), (.c (.v (.int .i8 0))), (.c (.v (.int .i64 0))), (.c (.v (.string (bs []))))]), none, none⟩,
       ⟨none, (.store (some 4) (.t 8) (.t 47)), none, none⟩])
     (.seq
      (.region [9] [] [0, 1, 2, 3, 33, 7, 38, 6, 8, 9, 55, 69, 78, 4, 5] [
        ⟨(some 48), (.move (.t 6)), none, none⟩,
        ⟨(some 49), (.faddr 1 (.t 3)), none, none⟩,
        ⟨(some 50), (.load none (.t 49)), none, none⟩,
        ⟨(some 51), (.move (.t 7)), none, none⟩,
        ⟨(some 52), (.iaddr 4 (.t 50) (.t 51)), none, none⟩,
        ⟨(some 53), (.load (some 4) (.t 52)), none, none⟩,
        ⟨(some 54), (.callp (.k (rF 100)) [(.t 48), (.t 53)]), none, none⟩,
        ⟨(some 9), (.zero 41 [(.c (.v (.string (bs [])))), (.c (.v (.int .i8 0))), (.c (.v (.int .i64 0))), (.c (.v (.string (bs []))))]), none, none⟩,
        ⟨none, (.store (some 4) (.t 9) (.t 54)), none, none⟩])
      (.block 2
       (.seq
        (.region [] [] [0, 1, 2, 3, 33, 7, 38, 6, 8, 9, 55, 69, 78, 4, 5] [
          ⟨(some 56), (.faddr 0 (.t 8)), none, none⟩,
          ⟨(some 57), (.load none (.t 56)), none, none⟩,
          ⟨(some 58), (.bin .eql (.t 57) (.k (rS (bs [95])))), none, none⟩,
          ⟨(some 59), (.move (.t 58)), none, none⟩,
          ⟨(some 60), (.faddr 0 (.t 9)), some (59, false), none⟩,
          ⟨(some 61), (.load none (.t 60)), some (59, false), none⟩,
          ⟨(some 62), (.bin .eql (.t 61) (.k (rS (bs [95])))), some (59, false), none⟩,
          ⟨(some 63), (.pick (.t 59) (.k (rB true)) (.t 62)), none, none⟩,
          ⟨(some 64), (.move (.t 63)), none, none⟩,
          ⟨(some 65), (.load (some 4) (.t 8)), some (64, false), none⟩,
          ⟨(some 66), (.load (some 4) (.t 9)), some (64, false), none⟩,
          ⟨(some 67), (.eqs false [.s, .i .i8, .i .i64, .s] (.t 65) (.t 66)), some (64, false), none⟩,
          ⟨(some 68), (.pick (.t 64) (.k (rB true)) (.t 67)), none, none⟩,
          ⟨(some 55), (.move (.t 68)), none, none⟩])
        (.cond (.t 55)
         .skip
         (.seq
          (.region [] [] [0, 1, 2, 3, 33, 7, 38, 6, 8, 9, 55, 69, 78, 4, 5] [
            ⟨(some 70), (.faddr 0 (.t 8)), none, none⟩,
            ⟨(some 71), (.load none (.t 70)), none, none⟩,
            ⟨(some 72), (.bin .neq (.t 71) (.k (rS (bs [])))), none, none⟩,
            ⟨(some 69), (.move (.t 72)), none, none⟩])
          (.cond (.t 69)
           (.region [] [] [0, 1, 2, 3, 33, 7, 38, 6, 8, 9, 55, 69, 78, 4, 5] [
             ⟨(some 73), (.move (.t 6)), none, none⟩,
             ⟨(some 74), (.faddr 0 (.t 8)), none, none⟩,
             ⟨(some 75), (.load none (.t 74)), none, none⟩,
             ⟨(some 76), (.load (some 4) (.t 9)), none, none⟩,
             ⟨(some 77), (.callp (.k (rF 112)) [(.t 73), (.t 75), (.t 76)]), none, none⟩,
             ⟨(some 6), (.move (.t 77)), none, none⟩])
           (.seq
            (.region [] [] [0, 1, 2, 3, 33, 7, 38, 6, 8, 9, 55, 69, 78, 4, 5] [
              ⟨(some 79), (.faddr 0 (.t 9)), none, none⟩,
              ⟨(some 80), (.load none (.t 79)), none, none⟩,
              ⟨(some 81), (.bin .neq (.t 80) (.k (rS (bs [])))), none, none⟩,
              ⟨(some 78), (.move (.t 81)), none, none⟩])
            (.cond (.t 78)
             (.region [] [] [0, 1, 2, 3, 33, 7, 38, 6, 8, 9, 55, 69, 78, 4, 5] [
               ⟨(some 82), (.move (.t 6)), none, none⟩,
               ⟨(some 83), (.faddr 0 (.t 9)), none, none⟩,
               ⟨(some 84), (.load none (.t 83)), none, none⟩,
               ⟨(some 85), (.load (some 4) (.t 8)), none, none⟩,
               ⟨(some 86), (.callp (.k (rF 112)) [(.t 82), (.t 84), (.t 85)]), none, none⟩,
               ⟨(some 6), (.move (.t 86)), none, none⟩])
             (.seq
              (.region [] [] [0, 1, 2, 3, 33, 7, 38, 6, 8, 9, 55, 69, 78, 4, 5] [
                ⟨(some 4), (.move (.k (.x (.one .nil)))), none, none⟩,
                ⟨(some 5), (.move (.k (rB false))), none, none⟩])
              .ret)))))))))))
   (.region [] [] [0, 1, 2, 3, 33, 7, 38, 6, 8, 9, 55, 69, 78, 4, 5] [
     ⟨(some 39), (.move (.t 7)), none, none⟩,
     ⟨(some 40), (.bin .add (.t 39) (.k (rI .i64 1))), none, none⟩,
     ⟨(some 7), (.move (.t 40)), none, none⟩])))

/-- pedigree/pedigreeref04.Unify -/
def ic42 : IC :=
 (.seq
  (.region [2, 3] [] [0, 1, 2, 3, 33, 7, 38, 6, 8, 9, 55, 69, 78, 4, 5] [
    ⟨(some 2), (.box 24 (.t 0)), none, none⟩,
    ⟨(some 3), (.box 24 (.t 1)), none, none⟩,
    ⟨(some 4), (.move (.k (.x (.one .nil)))), none, none⟩,
    ⟨(some 5), (.move (.k (rB false))), none, none⟩])
  (.seq
   (.seq
    (.region [] [] [0, 1, 2, 3, 33, 7, 38, 6, 8, 9, 55, 69, 78, 4, 5] [
      ⟨(some 10), (.load (some 2) (.t 2)), none, none⟩,
      ⟨(some 11), (.callp (.k (rF 91)) [(.t 10)]), none, none⟩,
      ⟨(some 12), (.un .not (.t 11)), none, none⟩,
      ⟨(some 13), (.move (.t 12)), none, none⟩,
      ⟨(some 14), (.load (some 2) (.t 3)), some (13, false), none⟩,
      ⟨(some 15), (.callp (.k (rF 91)) [(.t 14)]), some (13, false), none⟩,
      ⟨(some 16), (.un .not (.t 15)), some (13, false), none⟩,
      ⟨(some 17), (.pick (.t 13) (.k (rB true)) (.t 16)), none, none⟩,
      ⟨(some 18), (.move (.t 17)), none, none⟩,
      ⟨(some 19), (.faddr 0 (.t 2)), some (18, false), none⟩,
      ⟨(some 20), (.load none (.t 19)), some (18, false), none⟩,
      ⟨(some 21), (.faddr 0 (.t 3)), some (18, false), none⟩,
      ⟨(some 22), (.load none (.t 21)), some (18, false), none⟩,
      ⟨(some 23), (.bin .neq (.t 20) (.t 22)), some (18, false), none⟩,
      ⟨(some 24), (.pick (.t 18) (.k (rB true)) (.t 23)), none, none⟩,
      ⟨(some 25), (.move (.t 24)), none, none⟩,
      ⟨(some 26), (.faddr 1 (.t 2)), some (25, false), none⟩,
      ⟨(some 27), (.load none (.t 26)), some (25, false), none⟩,
      ⟨(some 28), (.len (.t 27)), some (25, false), none⟩,
      ⟨(some 29), (.faddr 1 (.t 3)), some (25, false), none⟩,
      ⟨(some 30), (.load none (.t 29)), some (25, false), none⟩,
      ⟨(some 31), (.len (.t 30)), some (25, false), none⟩,
      ⟨(some 32), (.bin .neq (.t 28) (.t 31)), some (25, false), none⟩,
      ⟨(some 33), (.pick (.t 25) (.k (rB true)) (.t 32)), none, none⟩])
    (.cond (.t 33)
     (.seq
      (.region [] [] [0, 1, 2, 3, 33, 7, 38, 6, 8, 9, 55, 69, 78, 4, 5] [
        ⟨(some 4), (.move (.k (.x (.one .nil)))), none, none⟩,
        ⟨(some 5), (.move (.k (rB false))), none, none⟩])
      .ret)
     .skip))
   (.seq
    (.region [] [] [0, 1, 2, 3, 33, 7, 38, 6, 8, 9, 55, 69, 78, 4, 5] [
      ⟨(some 6), (.move (.k (.x (.one .nil)))), none, none⟩])
    (.seq
     (.seq
      (.region [] [] [0, 1, 2, 3, 33, 7, 38, 6, 8, 9, 55, 69, 78, 4, 5] [
        ⟨(some 7), (.move (.k (rI .i64 0))), none, none⟩])
      (.block 0
       (.loop ic42l0)))
     (.seq
      (.region [] [] [0, 1, 2, 3, 33, 7, 38, 6, 8, 9, 55, 69, 78, 4, 5] [
        ⟨(some 87), (.move (.t 6)), none, none⟩,
        ⟨(some 4), (.move (.t 87)), none, none⟩,
        ⟨(some 5), (.move (.k (rB true))), none, none⟩])
      .ret)))))
def ir42 : List IRes := [.tmp 4, .tmp 5]
theorem ie42 : cmpFunc Go.Proofs.Tryd.prog ⟨[], []⟩ Go.Proofs.Tryd.f42 [0, 1, 2, 3, 33, 7, 38, 6, 8, 9, 55, 69, 78, 4, 5] = some ic42 := by kernel_rfl
theorem ig42 : cmpRes Go.Proofs.Tryd.prog Go.Proofs.Tryd.f42.results.toList = some ir42 := by kernel_rfl

abbrev ks43 (t0 t1 t10 t5 t14 t25 t4 : T) (O : List (Nat × Box)) (U : List (Nat × Tok)) (H : FHp) : S := st [(0, t0), (1, t1), (10, t10), (5, t5), (14, t14), (25, t25), (4, t4)] O U H
def ic43l0 : IC :=
 (.seq
  (.seq
   (.region [] [] [0, 1, 10, 5, 14, 25, 4] [
     ⟨(some 11), (.move (.t 5)), none, none⟩,
     ⟨(some 12), (.move (.t 0)), none, none⟩,
     ⟨(some 13), (.len (.t 12)), none, none⟩,
     ⟨(some 14), (.bin .lss (.t 11) (.t 13)), none, none⟩])
   (.cond (.t 14)
    .skip
    (.exit 0)))
  (.seq
   (.block 1
    (.seq
     (.region [] [] [0, 1, 10, 5, 14, 25, 4] [
       ⟨(some 17), (.move (.t 0)), none, none⟩,
       ⟨(some 18), (.move (.t 5)), none, none⟩,
       ⟨(some 19), (.iaddr 5 (.t 17) (.t 18)), none, none⟩,
       ⟨(some 20), (.load (some 5) (.t 19)), none, none⟩,
       ⟨(some 21), (.move (.t 1)), none, none⟩,
       ⟨(some 22), (.move (.t 5)), none, none⟩,
       ⟨(some 23), (.iaddr 5 (.t 21) (.t 22)), none, none⟩,
       ⟨(some 24), (.load (some 5) (.t 23)), none, none⟩,
       ⟨(some 25), (.eqs true [.s, .s, .i .i8, .i .i64, .s] (.t 20) (.t 24)), none, none⟩])
     (.cond (.t 25)
      (.seq
       (.region [] [] [0, 1, 10, 5, 14, 25, 4] [
         ⟨(some 4), (.move (.k (rB false))), none, none⟩])
       .ret)
      .skip)))
   (.region [] [] [0, 1, 10, 5, 14, 25, 4] [
     ⟨(some 15), (.move (.t 5)), none, none⟩,
     ⟨(some 16), (.bin .add (.t 15) (.k (rI .i64 1))), none, none⟩,
     ⟨(some 5), (.move (.t 16)), none, none⟩])))

/-- pedigree/pedigreelaw01.SamePairs -/
def ic43 : IC :=
 (.seq
  (.region [] [] [0, 1, 10, 5, 14, 25, 4] [
    ⟨(some 4), (.move (.k (rB false))), none, none⟩])
  (.seq
   (.seq
    (.region [] [] [0, 1, 10, 5, 14, 25, 4] [
      ⟨(some 6), (.move (.t 0)), none, none⟩,
      ⟨(some 7), (.len (.t 6)), none, none⟩,
      ⟨(some 8), (.move (.t 1)), none, none⟩,
      ⟨(some 9), (.len (.t 8)), none, none⟩,
      ⟨(some 10), (.bin .neq (.t 7) (.t 9)), none, none⟩])
    (.cond (.t 10)
     (.seq
      (.region [] [] [0, 1, 10, 5, 14, 25, 4] [
        ⟨(some 4), (.move (.k (rB false))), none, none⟩])
      .ret)
     .skip))
   (.seq
    (.seq
     (.region [] [] [0, 1, 10, 5, 14, 25, 4] [
       ⟨(some 5), (.move (.k (rI .i64 0))), none, none⟩])
     (.block 0
      (.loop ic43l0)))
    (.seq
     (.region [] [] [0, 1, 10, 5, 14, 25, 4] [
       ⟨(some 4), (.move (.k (rB true))), none, none⟩])
     .ret))))
def ir43 : List IRes := [.tmp 4]
theorem ie43 : cmpFunc Go.Proofs.Tryd.prog ⟨[], []⟩ Go.Proofs.Tryd.f43 [0, 1, 10, 5, 14, 25, 4] = some ic43 := by kernel_rfl
theorem ig43 : cmpRes Go.Proofs.Tryd.prog Go.Proofs.Tryd.f43.results.toList = some ir43 := by kernel_rfl

abbrev ks100 (t1 t3 t13 t4 t5 t0 t18 t28 : T) (O : List (Nat × Box)) (U : List (Nat × Tok)) (H : FHp) : S := st [(1, t1), (3, t3), (13, t13), (4, t4), (5, t5), (0, t0), (18, t18), (28, t28)] O U H
def ic100l0 : IC :=
 (.seq
  (.seq
   (.region [] [] [1, 3, 13, 4, 5, 0, 18, 28] [
     ⟨(some 15), (.move (.t 5)), none, none⟩,
     ⟨(some 16), (.move (.t 0)), none, none⟩,
     ⟨(some 17), (.len (.t 16)), none, none⟩,
     ⟨(some 18), (.bin .lss (.t 15) (.t 17)), none, none⟩])
   (.cond (.t 18)
    .skip
    (.exit 0)))
  (.seq
   (.block 1
    (.seq
     (.region [] [] [1, 3, 13, 4, 5, 0, 18, 28] [
       ⟨(some 21), (.move (.t 0)), none, none⟩,
       ⟨(some 22), (.move (.t 5)), none, none⟩,
       ⟨(some 23), (.iaddr 5 (.t 21) (.t 22)), none, none⟩,
       ⟨(some 24), (.faddr 0 (.t 23)), none, none⟩,
       ⟨(some 25), (.load none (.t 24)), none, none⟩,
       ⟨(some 26), (.faddr 0 (.t 3)), none, none⟩,
       ⟨(some 27), (.load none (.t 26)), none, none⟩,
       ⟨(some 28), (.bin .eql (.t 25) (.t 27)), none, none⟩])
     (.cond (.t 28)
      (.seq
       (.region [] [] [1, 3, 13, 4, 5, 0, 18, 28] [
         ⟨(some 29), (.move (.t 0)), none, none⟩,
         ⟨(some 30), (.move (.t 5)), none, none⟩,
         ⟨(some 31), (.iaddr 5 (.t 29) (.t 30)), none, none⟩,
         ⟨(some 32), (.faddr 1 (.t 31)), none, none⟩,
         ⟨(some 33), (.load (some 4) (.t 32)), none, none⟩,
         ⟨none, (.store (some 4) (.t 4) (.t 33)), none, none⟩])
       .ret)
      .skip)))
   (.region [] [] [1, 3, 13, 4, 5, 0, 18, 28] [
     ⟨(some 19), (.move (.t 5)), none, none⟩,
     ⟨(some 20), (.bin .add (.t 19) (.k (rI .i64 1))), none, none⟩,
     ⟨(some 5), (.move (.t 20)), none, none⟩])))

/-- pedigree/pedigreeref04.Put -/
def ic100 : IC :=
 (.seq
  (.region [3, 4] [] [1, 3, 13, 4, 5, 0, 18, 28] [
    ⟨(some 3), (.box 41 (.t 1)), none, none⟩,
    ⟨(some 4), (.zero 41 [(.c (.v (.string (bs [])))), (.c (.v (.int .i8 0))), (.c (.v (.int .i64 0))), (.c (.v (.string (bs []))))]), none, none⟩])
  (.seq
   (.seq
    (.region [] [] [1, 3, 13, 4, 5, 0, 18, 28] [
      ⟨(some 6), (.faddr 0 (.t 3)), none, none⟩,
      ⟨(some 7), (.load none (.t 6)), none, none⟩,
      ⟨(some 8), (.bin .eql (.t 7) (.k (rS (bs [])))), none, none⟩,
      ⟨(some 9), (.move (.t 8)), none, none⟩,
      ⟨(some 10), (.faddr 0 (.t 3)), some (9, false), none⟩,
      ⟨(some 11), (.load none (.t 10)), some (9, false), none⟩,
      ⟨(some 12), (.bin .eql (.t 11) (.k (rS (bs [95])))), some (9, false), none⟩,
      ⟨(some 13), (.pick (.t 9) (.k (rB true)) (.t 12)), none, none⟩])
    (.cond (.t 13)
     (.seq
      (.region [] [] [1, 3, 13, 4, 5, 0, 18, 28] [
        ⟨(some 14), (.load (some 4) (.t 3)), none, none⟩,
        ⟨none, (.store (some 4) (.t 4) (.t 14)), none, none⟩])
      .ret)
     .skip))
   (.seq
    (.seq
     (.region [] [] [1, 3, 13, 4, 5, 0, 18, 28] [
       ⟨(some 5), (.move (.k (rI .i64 0))), none, none⟩])
     (.block 0
      (.loop ic100l0)))
    (.seq
     (.region [] [] [1, 3, 13, 4, 5, 0, 18, 28] [
       ⟨(some 34), (.load (some 4) (.t 3)), none, none⟩,
       ⟨none, (.store (some 4) (.t 4) (.t 34)), none, none⟩])
     .ret))))
def ir100 : List IRes := [.cell 4 (some 4)]
theorem ie100 : cmpFunc Go.Proofs.Tryd.prog ⟨[], []⟩ Go.Proofs.Tryd.f100 [1, 3, 13, 4, 5, 0, 18, 28] = some ic100 := by kernel_rfl
theorem ig100 : cmpRes Go.Proofs.Tryd.prog Go.Proofs.Tryd.f100.results.toList = some ir100 := by kernel_rfl

abbrev ks106 (t0 t1 t2 t5 t13 t4 t22 t3 : T) (O : List (Nat × Box)) (U : List (Nat × Tok)) (H : FHp) : S := st [(0, t0), (1, t1), (2, t2), (5, t5), (13, t13), (4, t4), (22, t22), (3, t3)] O U H
def ic106l0 : IC :=
 (.seq
  (.seq
   (.region [] [] [0, 1, 2, 5, 13, 4, 22, 3] [
     ⟨(some 13), (.move (.t 5)), none, none⟩])
   (.cond (.t 13)
    .skip
    (.exit 0)))
  (.seq
   (.block 1
    (.region [] [] [0, 1, 2, 5, 13, 4, 22, 3] [
      ⟨(some 21), (.load (some 4) (.t 4)), none, none⟩,
      ⟨none, (.store (some 4) (.t 2) (.t 21)), none, none⟩]))
   (.seq
    (.seq
     (.region [] [] [0, 1, 2, 5, 13, 4, 22, 3] [
       ⟨(some 22), (.load (some 4) (.t 4)), none, none⟩])
     (.region [4] [] [0, 1, 2, 5, 13, 4, 22, 3] [
       ⟨(some 4), (.zero 41 [(.c (.v (.string (bs [])))), (.c (.v (.int .i8 0))), (.c (.v (.int .i64 0))), (.c (.v (.string (bs []))))]), none, none⟩,
       ⟨none, (.store (some 4) (.t 4) (.t 22)), none, none⟩]))
    (.region [] [] [0, 1, 2, 5, 13, 4, 22, 3] [
      ⟨(some 15), (.load none (.t 1)), none, none⟩,
      ⟨(some 16), (.faddr 0 (.t 2)), none, none⟩,
      ⟨(some 17), (.load none (.t 16)), none, none⟩,
      ⟨(some 18), (.mlook .string false true [(.c (.v (.string (bs [])))), (.c (.v (.int .i8 0))), (.c (.v (.int .i64 0))), (.c (.v (.string (bs []))))] (.t 15) (.t 17)), none, none⟩,
      ⟨(some 14), (.move (.t 18)), none, none⟩,
      ⟨(some 19), (.ext (.t 14) 0), none, none⟩,
      ⟨(some 20), (.ext (.t 14) 1), none, none⟩,
      ⟨none, (.store (some 4) (.t 4) (.t 19)), none, none⟩,
      ⟨(some 5), (.move (.t 20)), none, none⟩]))))

/-- pedigree/term.Unify$1 -/
def ic106 : IC :=
 (.seq
  (.region [2, 3] [] [0, 1, 2, 5, 13, 4, 22, 3] [
    ⟨(some 2), (.box 41 (.t 0)), none, none⟩,
    ⟨(some 3), (.zero 41 [(.c (.v (.string (bs [])))), (.c (.v (.int .i8 0))), (.c (.v (.int .i64 0))), (.c (.v (.string (bs []))))]), none, none⟩])
  (.seq
   (.seq
    (.region [4] [] [0, 1, 2, 5, 13, 4, 22, 3] [
      ⟨(some 7), (.load none (.t 1)), none, none⟩,
      ⟨(some 8), (.faddr 0 (.t 2)), none, none⟩,
      ⟨(some 9), (.load none (.t 8)), none, none⟩,
      ⟨(some 10), (.mlook .string false true [(.c (.v (.string (bs [])))), (.c (.v (.int .i8 0))), (.c (.v (.int .i64 0))), (.c (.v (.string (bs []))))] (.t 7) (.t 9)), none, none⟩,
      ⟨(some 6), (.move (.t 10)), none, none⟩,
      ⟨(some 11), (.ext (.t 6) 0), none, none⟩,
      ⟨(some 12), (.ext (.t 6) 1), none, none⟩,
      ⟨(some 4), (.zero 41 [(.c (.v (.string (bs [])))), (.c (.v (.int .i8 0))), (.c (.v (.int .i64 0))), (.c (.v (.string (bs []))))]), none, none⟩,
      ⟨none, (.store (some 4) (.t 4) (.t 11)), none, none⟩,
      ⟨(some 5), (.move (.t 12)), none, none⟩])
    (.block 0
     (.loop ic106l0)))
   (.seq
    (.region [] [] [0, 1, 2, 5, 13, 4, 22, 3] [
      ⟨(some 23), (.load (some 4) (.t 2)), none, none⟩,
      ⟨none, (.store (some 4) (.t 3) (.t 23)), none, none⟩])
    .ret)))
def ir106 : List IRes := [.cell 3 (some 4)]
theorem ie106 : cmpFunc Go.Proofs.Tryd.prog ⟨[], []⟩ Go.Proofs.Tryd.f106 [0, 1, 2, 5, 13, 4, 22, 3] = some ic106 := by kernel_rfl
theorem ig106 : cmpRes Go.Proofs.Tryd.prog Go.Proofs.Tryd.f106.results.toList = some ir106 := by kernel_rfl

abbrev ks112 (t2 t8 t0 t13 t9 t1 t24 t5 t7 t6 : T) (O : List (Nat × Box)) (U : List (Nat × Tok)) (H : FHp) : S := st [(2, t2), (8, t8), (0, t0), (13, t13), (9, t9), (1, t1), (24, t24), (5, t5), (7, t7), (6, t6)] O U H
def ic112l0 : IC :=
 (.seq
  (.seq
   (.region [] [] [2, 8, 0, 13, 9, 1, 24, 5, 7, 6] [
     ⟨(some 10), (.move (.t 8)), none, none⟩,
     ⟨(some 11), (.move (.t 0)), none, none⟩,
     ⟨(some 12), (.len (.t 11)), none, none⟩,
     ⟨(some 13), (.bin .lss (.t 10) (.t 12)), none, none⟩])
   (.cond (.t 13)
    .skip
    (.exit 0)))
  (.seq
   (.block 1
    (.seq
     (.region [9] [] [2, 8, 0, 13, 9, 1, 24, 5, 7, 6] [
       ⟨(some 16), (.move (.t 0)), none, none⟩,
       ⟨(some 17), (.move (.t 8)), none, none⟩,
       ⟨(some 18), (.iaddr 5 (.t 16) (.t 17)), none, none⟩,
       ⟨(some 19), (.faddr 1 (.t 18)), none, none⟩,
       ⟨(some 20), (.load (some 4) (.t 19)), none, none⟩,
       ⟨(some 9), (.zero 41 [(.c (.v (.string (bs [])))), (.c (.v (.int .i8 0))), (.c (.v (.int .i64 0))), (.c (.v (.string (bs []))))]), none, none⟩,
       ⟨none, (.store (some 4) (.t 9) (.t 20)), none, none⟩])
     (.seq
      (.seq
       (.region [] [] [2, 8, 0, 13, 9, 1, 24, 5, 7, 6] [
         ⟨(some 21), (.faddr 0 (.t 9)), none, none⟩,
         ⟨(some 22), (.load none (.t 21)), none, none⟩,
         ⟨(some 23), (.move (.t 1)), none, none⟩,
         ⟨(some 24), (.bin .eql (.t 22) (.t 23)), none, none⟩])
       (.cond (.t 24)
        (.region [] [] [2, 8, 0, 13, 9, 1, 24, 5, 7, 6] [
          ⟨(some 25), (.load (some 4) (.t 5)), none, none⟩,
          ⟨none, (.store (some 4) (.t 9) (.t 25)), none, none⟩])
        .skip))
      (.region [34] [] [2, 8, 0, 13, 9, 1, 24, 5, 7, 6] [
        ⟨(some 26), (.move (.t 7)), none, none⟩,
        ⟨(some 27), (.move (.t 0)), none, none⟩,
        ⟨(some 28), (.move (.t 8)), none, none⟩,
        ⟨(some 29), (.iaddr 5 (.t 27) (.t 28)), none, none⟩,
        ⟨(some 30), (.faddr 0 (.t 29)), none, none⟩,
        ⟨(some 31), (.load none (.t 30)), none, none⟩,
        ⟨(some 32), (.load (some 4) (.t 9)), none, none⟩,
        ⟨(some 33), (.build [(.c (.v (.string (bs [])))), (.c (.v (.string (bs [])))), (.c (.v (.int .i8 0))), (.c (.v (.int .i64 0))), (.c (.v (.string (bs []))))] [(0, 1, (.t 31)), (1, 4, (.t 32))]), none, none⟩,
        ⟨(some 34), (.row 65 5 [(.t 33)]), none, none⟩,
        ⟨(some 35), (.app 65 5 64 (.t 26) (.t 34)), none, none⟩,
        ⟨(some 7), (.move (.t 35)), none, none⟩]))))
   (.region [] [] [2, 8, 0, 13, 9, 1, 24, 5, 7, 6] [
     ⟨(some 14), (.move (.t 8)), none, none⟩,
     ⟨(some 15), (.bin .add (.t 14) (.k (rI .i64 1))), none, none⟩,
     ⟨(some 8), (.move (.t 15)), none, none⟩])))

/-- pedigree/pedigreeref04.takes -/
def ic112 : IC :=
 (.seq
  (.region [5] [] [2, 8, 0, 13, 9, 1, 24, 5, 7, 6] [
    ⟨(some 5), (.box 41 (.t 2)), none, none⟩,
    ⟨(some 6), (.move (.k (.x (.one .nil)))), none, none⟩])
  (.seq
   (.region [] [] [2, 8, 0, 13, 9, 1, 24, 5, 7, 6] [
     ⟨(some 7), (.move (.k (.x (.one .nil)))), none, none⟩])
   (.seq
    (.seq
     (.region [] [] [2, 8, 0, 13, 9, 1, 24, 5, 7, 6] [
       ⟨(some 8), (.move (.k (rI .i64 0))), none, none⟩])
     (.block 0
      (.loop ic112l0)))
    (.seq
     (.region [40] [] [2, 8, 0, 13, 9, 1, 24, 5, 7, 6] [
       ⟨(some 36), (.move (.t 7)), none, none⟩,
       ⟨(some 37), (.move (.t 1)), none, none⟩,
       ⟨(some 38), (.load (some 4) (.t 5)), none, none⟩,
       ⟨(some 39), (.build [(.c (.v (.string (bs [])))), (.c (.v (.string (bs [])))), (.c (.v (.int .i8 0))), (.c (.v (.int .i64 0))), (.c (.v (.string (bs []))))] [(0, 1, (.t 37)), (1, 4, (.t 38))]), none, none⟩,
       ⟨(some 40), (.row 65 5 [(.t 39)]), none, none⟩,
       ⟨(some 41), (.app 65 5 64 (.t 36) (.t 40)), none, none⟩,
       ⟨(some 6), (.move (.t 41)), none, none⟩])
     .ret))))
def ir112 : List IRes := [.tmp 6]
theorem ie112 : cmpFunc Go.Proofs.Tryd.prog ⟨[], []⟩ Go.Proofs.Tryd.f112 [2, 8, 0, 13, 9, 1, 24, 5, 7, 6] = some ic112 := by kernel_rfl
theorem ig112 : cmpRes Go.Proofs.Tryd.prog Go.Proofs.Tryd.f112.results.toList = some ir112 := by kernel_rfl

end Go.Proofs.YtiomojlcnemnhaaDoor

/- Plain words: the way of a term through what names became, step by step. -/
namespace Go.Ped

/-- The way of a term, in so many steps. -/
def Way (c : List Pr) : Nat → Tm → Prop
  | 0, t => nextOf c t.v = none ∧ endOf c t = t
  | n + 1, t => ∃ u, nextOf c t.v = some u ∧ endOf c t = endOf c u ∧ Way c n u

theorem next_snoc (c : List Pr) (p : Pr) (w : Name) : nextOf (c ++ [p]) w = match nextOf c w with | some x => some x | none => if p.v = w then some p.t else none := by
  unfold nextOf
  rw [find_snoc]
  cases c.find? (·.v == w) with
  | some q => rfl
  | none => simp

theorem next_out {c : List Pr} {v : Name} (h : v ∉ keys c) : nextOf c v = none := by
  unfold nextOf; rw [find_out h]; rfl
theorem next_none {c : List Pr} {v : Name} (h : nextOf c v = none) : v ∉ keys c := by
  unfold nextOf at h
  simp only [Option.map_eq_none_iff, List.find?_eq_none, beq_iff_eq] at h
  intro hm
  obtain ⟨p, hp, rfl⟩ := List.mem_map.1 hm
  exact h p hp rfl

theorem Good.way {c : List Pr} (h : Good c) : ∀ t, ∃ n, Way c n t := by
  induction h with
  | nil => exact fun t => ⟨0, rfl, rfl⟩
  | @snoc c v u h h1 h2 h3 h4 h5 h6 ih =>
    have key : ∀ n t, Way c n t → ∃ m, Way (c ++ [⟨v, u⟩]) m t := by
      intro n
      induction n with
      | zero =>
        intro t ⟨w1, w2⟩
        by_cases hv : v = t.v
        · refine ⟨1, u, ?_, ?_, ?_, ?_⟩
          · rw [next_snoc, w1]; simp [hv]
          · rw [endOf_snoc, endOf_snoc, w2, if_pos hv.symm, endOf_out h4, if_neg h5]
          · rw [next_snoc, next_out h4]; simp [Ne.symm h5]
          · rw [endOf_snoc, endOf_out h4, if_neg h5]
        · refine ⟨0, ?_, ?_⟩
          · rw [next_snoc, w1]; simp [hv]
          · rw [endOf_snoc, w2, if_neg (fun e => hv e.symm)]
      | succ n ihn =>
        intro t ⟨u', w1, w2, w3⟩
        obtain ⟨m, hm⟩ := ihn u' w3
        refine ⟨m + 1, u', ?_, ?_, hm⟩
        · rw [next_snoc, w1]
        · rw [endOf_snoc, endOf_snoc, w2]
    intro t
    obtain ⟨n, hn⟩ := ih t
    exact key n t hn

theorem Good.next_mem {c : List Pr} (h : Good c) : ∀ p ∈ c, nextOf c p.v = some p.t := by
  induction h with
  | nil => intro p hp; cases hp
  | @snoc c v u h h1 h2 h3 h4 h5 h6 ih =>
    intro p hp
    rw [next_snoc]
    rcases List.mem_append.1 hp with hp | hp
    · rw [ih p hp]
    · simp only [List.mem_singleton] at hp
      subst hp
      rw [next_out h3]; simp

/-- The end of a key's way is the end of its term's. -/
theorem Good.end_key {c : List Pr} (h : Good c) (p : Pr) (hp : p ∈ c) : endOf c ⟨p.v, zeroV⟩ = endOf c p.t := by
  have hn := h.next_mem p hp
  obtain ⟨n, hw⟩ := h.way ⟨p.v, zeroV⟩
  cases n with
  | zero => obtain ⟨h1, _⟩ := hw; rw [show (⟨p.v, zeroV⟩ : Tm).v = p.v from rfl, hn] at h1; cases h1
  | succ n =>
    obtain ⟨u, h1, h2, _⟩ := hw
    rw [show (⟨p.v, zeroV⟩ : Tm).v = p.v from rfl, hn] at h1
    injection h1 with h1
    rw [h2, h1]

/-- One more pair. -/
theorem Good.more {c : List Pr} (h : Good c) {a b : Tm} (ha : a.bare) (hb : b.bare) (h1 : (endOf c a).v ≠ us) (h3 : endOf c a ≠ endOf c b) (h0 : (endOf c a).v ≠ []) : Good (c ++ [⟨(endOf c a).v, endOf c b⟩]) := by
  refine .snoc h h0 h1 (h.end_out a) (h.end_out b) (fun e => h3 ?_) (h.end_bare hb)
  have ba := h.end_bare ha h0
  have bb := h.end_bare hb (by rw [e]; exact h0)
  generalize endOf c a = x at *
  generalize endOf c b = y at *
  obtain ⟨xv, xx⟩ := x
  obtain ⟨yv, yy⟩ := y
  simp only at *
  rw [e, ba, bb]
theorem goUnify_good : ∀ (ts ws : List Tm) (c : List Pr), Good c → (∀ t ∈ ts, t.bare) → (∀ t ∈ ws, t.bare) → ∀ c', goUnify c ts ws = some c' → Good c' :=
  fun ts ws c hg h1 h2 => (unify_same ts ws c hg h1 h2).2
end Go.Ped

/- Contracts, on: what unifies, the program's way. -/
namespace Go.Proofs.YtiomojlcnemnhaaDoor
open Go.Fx Go.RowKit Go.Ped
variable {G : World → Prop}

/-- A pair as the map keeps it; as a row. -/
def nxRow (p : Pr) : List A := .c (cS (bs p.v)) :: p.t.row.map A.c
def _root_.Go.Ped.Pr.row (p : Pr) : List C := cS (bs p.v) :: p.t.row
abbrev zTm : List A := [.c (cS (bs [])), .c (cI .i8 0), .c (cI .i64 0), .c (cS (bs []))]

theorem nx_find (v : Name) (c : List Pr) : (c.map nxRow).find? (keyEq (.string (bs v))) = (c.find? (·.v == v)).map nxRow := by
  rw [List.find?_map]
  congr 2
  funext p
  simp [keyEq, nxRow]
theorem nx_get (v : Name) (c : List Pr) : mapGet (c.map nxRow) (.string (bs v)) zTm = ((nextOf c v).getD ⟨[], zeroV⟩).row.map A.c := by
  unfold mapGet nextOf
  rw [nx_find]
  cases c.find? (·.v == v) <;> simp [nxRow, zeroV, Tm.row]
theorem nx_any (v : Name) (c : List Pr) : (c.map nxRow).any (keyEq (.string (bs v))) = (nextOf c v).isSome := by
  unfold nextOf
  rw [Option.isSome_map, List.any_map, ← List.isSome_find?]
  congr 2
  funext p
  simp [keyEq, nxRow]
theorem nx_strike (ks : List Nat) (p : Pr) : strikeL ks (nxRow p) = nxRow p := by simp [nxRow]

theorem nx_strike' (ks : List Nat) : strikeL ks ∘ nxRow = nxRow := funext fun p => nx_strike ks p
theorem nx_any' (v : Name) (c : List Pr) : c.any (keyEq (.string (bs v)) ∘ nxRow) = (nextOf c v).isSome := by
  rw [← nx_any, List.any_map]
/-- What a term became, or the zero one. -/
def nxt (c : List Pr) (v : Name) : Tm := (nextOf c v).getD ⟨[], zeroV⟩
theorem nx_get' (v : Name) (c : List Pr) : mapGet (c.map nxRow) (.string (bs v)) zTm = [.c (cS (bs (nxt c v).v)), .c (cI .i8 (nxt c v).x.k), .c (cI .i64 (nxt c v).x.n), .c (cS (bs (nxt c v).x.s))] := nx_get v c

abbrev O106 (c : List Pr) : List (Nat × Box) := [(10006, ⟨155, 1, [[.mapr 10039]], none⟩), (10039, ⟨0, 5, c.map nxRow, some (.string, false)⟩)]

theorem m106 (c : List Pr) (hg : Ped.Good c) (t : Tm) :
    MeetsH Tryd.prog G 106 [.agg (t.row.map A.c), .one (.ref 10006 0 0)] (hp (O106 c) [] F0) (.x (.agg ((endOf c t).row.map A.c))) (hp (O106 c) [] F0) := by
  obtain ⟨n, hn⟩ := hg.way t
  refine meetsH [] Tryd.func106 ie106 ig106 (Nat.le_of_ble_eq_true rfl) ?_ (by simp) ?_ ?_ (by simp) (sameKeys_refl F0) ?_ ?_ ?_
  · intro p hp
    simp only [List.mem_cons, List.not_mem_nil, or_false] at hp
    rcases hp with rfl | rfl
    · exact ⟨by unfold midKey; omega, by simp [ownKey]⟩
    · exact ⟨by unfold midKey; omega, by simp [nxRow]⟩
  · simp [ownKey]
  · simp
  · intro p hp
    simp only [List.mem_cons, List.not_mem_nil, or_false] at hp
    rcases hp with rfl | rfl
    · simp [ownKey]
    · simp [nxRow]
  · simp
  simp [ic106, ir106, Tm.row, nx_get', nx_any', nx_strike']
  refine w_loopK (fun n σ => ∃ (u : Tm) (t13 t22 : T), Ped.Way c n u ∧ endOf c t = endOf c u ∧ σ = ks106 (.k true (.x (.agg (t.row.map A.c)))) (.k true (.x (.one (.ref 10006 0 0)))) (.k true (.x (.one (.ref 2 0 0)))) (tB (nextOf c u.v).isSome) t13 (.k true (.x (.one (.ref 4 0 0)))) t22 (.k true (.x (.one (.ref 3 0 0))))
    ((4, ⟨41, 4, [(nxt c u.v).row.map A.c], none⟩) :: (3, ⟨41, 4, [zTm], none⟩) :: (2, ⟨41, 4, [u.row.map A.c], none⟩) :: O106 c) [] F0)
    n ⟨t, _, _, hn, rfl, rfl⟩ ?_
  rintro n σ1 K hK ⟨u, t13, t22, hw, he, rfl⟩
  cases n with
  | zero =>
    obtain ⟨h1, h2⟩ := hw
    simp [ic106l0, h1]
    rw [he, h2]
    exact ret_st (by simp) (by simp [Tm.row]) (by simp) (by simp) (by simp) (by simp)
  | succ n =>
    obtain ⟨u', h1, h2, h3⟩ := hw
    have hx : nxt c u.v = u' := by unfold nxt; rw [h1]; rfl
    simp [ic106l0, h1, hx, Tm.row, nx_get', nx_any', nx_strike']
    exact hK _ n (by omega) ⟨u', _, _, h3, he.trans h2, rfl⟩
end Go.Proofs.YtiomojlcnemnhaaDoor

/- Contracts, on: what unifies, the document's. -/
namespace Go.Proofs.YtiomojlcnemnhaaDoor
open Go.Fx Go.RowKit Go.Ped
variable {G : World → Prop}

@[simp] theorem _root_.Go.Ped.Pr.row_length (p : Pr) : p.row.length = 5 := rfl

/-- A call whose keys are noted. -/
theorem r_callK {P : Program} {L : List (Nat × T)} {O : List (Nat × Box)} {U : List (Nat × Tok)} {l : List IOper} {K : S → Prop} {d : Nat} {f : D} {args : List D} {gd : Option (Nat × Bool)} (ks : List Nat) (fv : A) (xs : List X) (O1 : List (Nat × Box)) (res : R) (hm : MeetsV P G fv xs (hp O1 [] F0) res (hp O1 [] F0))
    (hg : guardO (st L O U F0) gd = some true) (hf : f.val (st L O U F0) = .k true (.x (.one fv))) (ha : (args.all fun d => (d.val (st L O U F0)).g) = true) (hx : fitsR (args.map fun d => (d.val (st L O U F0)).r) xs)
    (h1 : ∀ p ∈ O1, lookO O p.1 = some p.2 ∧ p.1 < 15000) (hO : ∀ p ∈ O, p.1 < 15000) (hU : ∀ p ∈ U, p.1 < 15000) (hk : ∀ p ∈ O1, p.1 ∈ ks)
    (h : runK P G l (st ((d, .k true res) :: L) (updsO O1 O) U F0) K) : runK P G (⟨some d, .call f args, gd, some ks⟩ :: l) (st L O U F0) K := by
  have hs := sameKeys_refl F0
  have h3 : ∀ p ∈ O1, lookO O1 p.1 ≠ none := fun p hp e => by
    have : ∀ (O1 : List (Nat × Box)), p ∈ O1 → lookO O1 p.1 ≠ none := by
      intro O1
      induction O1 with
      | nil => intro h; cases h
      | cons q O1 ih =>
        intro h
        obtain ⟨d, b⟩ := q
        rw [lookO_cons]
        split
        · simp
        · rename_i hne
          rcases List.mem_cons.1 h with rfl | h
          · exact absurd rfl hne
          · exact ih h
    exact this O1 hp e
  have e := over_st (L := L) (O := O) (U := U) (H := F0) (O2 := O1) (U2 := []) (H2 := F0) hO hU (fun k hk => fun e => hk ((hs.1 k).1.2 e)) (fun k hk => fun e => hk ((hs.1 k).2.2 e))
  exact ⟨_, ⟨trivial, true, hg, fv, xs, true, _, res, _, fun _ => ⟨ha, hx, hf, hm, lends_st h1 (fun _ h => by cases h) hO hU h3 (fun _ h => by cases h) (fun p hp e => absurd e (h3 p hp)) (fun _ h => by cases h) (fun k hk => fun e => hk ((hs.1 k).1.2 e)) (fun k hk => fun e => hk ((hs.1 k).2.2 e)) (fun k hk => fun e => hk ((hs.1 k).1.1 e)) (fun k hk => fun e => hk ((hs.1 k).2.1 e)) hs.2, by
    have key : ∀ k, (hp O1 [] F0).objs k ≠ none → k ∈ ks := fun k hn => by
      cases hb : lookO O1 k with
      | none => exact absurd (show (hp O1 [] F0).objs k = none by show (lookO O1 k).or none = none; rw [hb]; rfl) hn
      | some b => exact hk _ (lookO_mem hb)
    intro k h
    rcases h with h | h | h | h
    · exact key k h
    · exact absurd rfl h
    · exact key k h
    · exact absurd rfl h⟩, rfl⟩, by simpa only [if_true, e, put_st] using (show runK P G l (st ((d, .k true res) :: L) (updsO O1 O) (updsT [] U) F0) K from h)⟩

theorem m100 (s : List Pr) (t : Tm) (sp : List (List C)) (hl : s.length ≤ maxLen) : Meets Tryd.prog G 100 [.one (.sl (s.map Pr.row) sp), .agg t.row] (.x (.agg (putS s t).row)) := by
  refine meets Tryd.func100 ie100 ig100 (Nat.le_of_ble_eq_true rfl) ?_
  by_cases h0 : t.v = []
  · simp [ic100, ir100, Tm.row, h0, putS]
  by_cases h1 : t.v = [95]
  · simp [ic100, ir100, Tm.row, h1, putS, us]
  simp [ic100, ir100, Tm.row, h0, h1]
  let k : Nat → T → T → T → S := fun i t18 t28 t13 => ks100 (.k true (.x (.agg (t.row.map A.c)))) (.k true (.x (.one (.ref 3 0 0)))) t13 (.k true (.x (.one (.ref 4 0 0)))) (tI .i64 i) (.k true (.x (.one (.c (.sl (s.map Pr.row) sp))))) t18 t28
    [(4, ⟨41, 4, [zTm], none⟩), (3, ⟨41, 4, [t.row.map A.c], none⟩)] [] F0
  have hput : putS s t = ((s.find? (·.v == t.v)).map (·.t)).getD t := by
    unfold putS; rw [if_neg (by simp [h0, us, h1])]; cases s.find? (·.v == t.v) <;> rfl
  refine w_loopK (fun n σ => ∃ (i : Nat) (t18 t28 t13 : T), i + n = s.length ∧ s.find? (·.v == t.v) = (s.drop i).find? (·.v == t.v) ∧ σ = k i t18 t28 t13)
    s.length ⟨0, _, _, _, by simp, by simp, rfl⟩ ?_
  rintro n σ1 K hK ⟨i, t18, t28, t13, hi, hd, rfl⟩
  obtain hlt | hge := Nat.lt_or_ge i s.length
  · rw [List.drop_eq_getElem_cons hlt, List.find?_cons] at hd
    simp [k, ic100l0, hlt, wrap_next hlt (by unfold maxLen at hl; omega), Pr.row, Tm.row]
    refine ⟨fun h => ?_, fun h => ?_⟩
    · rw [hput, hd]; simp [h]
    · rw [show (s[i].v == t.v) = false by simp [h]] at hd
      exact hK _ (n - 1) (by omega) ⟨i + 1, _, _, _, by omega, hd, rfl⟩
  · rw [List.drop_eq_nil_of_le hge] at hd
    simp [k, ic100l0, Nat.not_lt.mpr hge]
    rw [hput, hd]; simp [Tm.row]

theorem m112 (s : List Pr) (v : Name) (t : Tm) (sp : List (List C)) (hl : s.length ≤ 1000) : Meets Tryd.prog G 112 [.one (.sl (s.map Pr.row) sp), .one (cS (bs v)), .agg t.row] (.x (.one (.sl ((takes s v t).map Pr.row) []))) := by
  refine meets Tryd.func112 ie112 ig112 (Nat.le_of_ble_eq_true rfl) ?_
  simp [ic112, ir112, Tm.row]
  let tk : Pr → Pr := fun p => if p.t.v = v then ⟨p.v, t⟩ else p
  let k : Nat → T → T → T → T → T → List (Nat × Tok) → S := fun i t13 t9 t24 t7 t6 U => ks112 (.k true (.x (.agg (t.row.map A.c)))) (tI .i64 i) (.k true (.x (.one (.c (.sl (s.map Pr.row) sp))))) t13 t9 (.k true (.x (.one (.c (cS (bs v)))))) t24 (.k true (.x (.one (.ref 5 0 0)))) t7 t6
    [(5, ⟨41, 4, [t.row.map A.c], none⟩)] U F0
  refine w_loopS [9, 34] (by simp [ownKey]) (fun n σ => ∃ (i : Nat) (t13 t9 t24 : T) (a : A) (U : List (Nat × Tok)), i + n = s.length ∧ AccN 35 65 5 (((s.take i).map tk).map Pr.row) a U ∧ σ = k i t13 t9 t24 (.k true (.x (.one a))) (.k true (.x (.one .nil))) U)
    s.length ⟨0, _, _, _, _, _, by simp, by simpa using .nil, by simp [k, Tm.row]; rfl⟩ ?_
  rintro n σ1 K hK ⟨i, t13, t9, t24, a, U, hi, hacc, rfl⟩
  have hs9 : A.strike [9] a = a := hacc.strike (by decide)
  have hs34 : A.strike [34] a = a := hacc.strike (by decide)
  have hs40 : A.strike [40] a = a := hacc.strike (by decide)
  have hu9 : strikeU [9] U = U := hacc.strikeU (by decide)
  have hu34 : strikeU [34] U = U := hacc.strikeU (by decide)
  have hu40 : strikeU [40] U = U := hacc.strikeU (by decide)
  obtain hlt | hge := Nat.lt_or_ge i s.length
  · have htk : ((s.take (i + 1)).map tk).map Pr.row = ((s.take i).map tk).map Pr.row ++ [(tk s[i]).row] := by rw [List.take_succ_eq_append_getElem hlt, List.map_append, List.map_append]; rfl
    have hl' : (((s.take i).map tk).map Pr.row).length = i := by simp; omega
    have hI : ∀ σ' : S, (∃ t13 t9 t24 a U, AccN 35 65 5 (((s.take i).map tk).map Pr.row ++ [(tk s[i]).row]) a U ∧ σ'.strike [9, 34] = k (i + 1) t13 t9 t24 (.k true (.x (.one a))) (.k true (.x (.one .nil))) U) → K σ' := by
      rintro σ' ⟨t13, t9, t24, a, U, h1, h2⟩
      exact hK σ' (n - 1) (by omega) ⟨i + 1, t13, t9, t24, a, U, by omega, by rw [htk]; exact h1, h2⟩
    clear hK htk
    generalize ((s.take i).map tk).map Pr.row = es at *
    simp [k, ic112l0, hlt, Pr.row, Tm.row, hs9, hs34, hu9, hu34]
    refine ⟨fun h => ?_, fun h => ?_⟩
    all_goals
      have hrow : (tk s[i]).row = if s[i].t.v = v then cS (bs s[i].v) :: t.row else s[i].row := by simp only [tk]; split <;> rfl
      rw [hrow] at hI
      simp only [h, if_true, if_false, Pr.row, Tm.row] at hI
      rcases hacc with ⟨h0, rfl, rfl⟩ | ⟨rfl, rfl⟩
      · obtain rfl : es = [] := h0
        refine k_row rfl rfl (by simp) (by simp) ?_
        refine k_app0 (by simp) rfl rfl (by simp) (by simp) (by simp [maxLen]) (by simp [maxBytes]) ?_
        simp [wrap_next hlt (by omega)]
        exact hI _ ⟨_, _, _, _, _, .own rfl, by simp [k, Tm.row]; rfl⟩
      · refine k_row rfl rfl (by simp) (by simp) ?_
        refine k_app (k := 35) (es := es) (q := ⟨65, 5, es.length⟩) (by simp) rfl rfl (by simp) (by simp) rfl rfl (by simp) (by simp [maxLen]; omega) (by simp [maxBytes]; omega) trivial ?_
        simp [wrap_next hlt (by omega)]
        exact hI _ ⟨_, _, _, _, _, .own (n := es.length + 1) (by simp), by simp [k, Tm.row]; rfl⟩
  · have hta : s.take i = s := List.take_of_length_le hge
    have e : (takes s v t).map Pr.row = (s.map tk).map Pr.row ++ [Pr.row ⟨v, t⟩] := by simp [takes, tk]
    rw [hta] at hacc
    have hln : ((s.map tk).map Pr.row).length ≤ 1000 := by simpa using hl
    rw [e]
    generalize (s.map tk).map Pr.row = es at *
    simp [k, ic112l0, Nat.not_lt.mpr hge, Pr.row, Tm.row, hs40, hu40]
    rcases hacc with ⟨h0, rfl, rfl⟩ | ⟨rfl, rfl⟩
    · obtain rfl : es = [] := h0
      refine k_row rfl rfl (by simp) (by simp) ?_
      refine k_app0 (by simp) rfl rfl (by simp) (by simp) (by simp [maxLen]) (by simp [maxBytes]) ?_
      simp
    · refine k_row rfl rfl (by simp) (by simp) ?_
      refine k_app (k := 35) (es := es) (q := ⟨65, 5, es.length⟩) (by simp) rfl rfl (by simp) (by simp) rfl rfl (by simp) (by simp [maxLen]; omega) (by simp [maxBytes]; omega) trivial ?_
      simp

def encP : Enc Pr 5 [.s, .s, .i .i8, .i .i64, .s] where
  row := Pr.row
  len := fun _ => rfl
  eq := fun x y _ => by
    obtain ⟨c, a, k, n, s⟩ := x
    obtain ⟨d, b, l, m, t⟩ := y
    simp [Tm.row, Pr.row]
    rw [Bool.eq_iff_iff]
    simp
theorem m43 (l m : List Pr) (sp sq : List (List C)) (hl : l.length ≤ maxLen) : Meets Tryd.prog G 43 [.one (.sl (l.map Pr.row) sp), .one (.sl (m.map Pr.row) sq)] (.x (.one (cB (decide (l = m))))) :=
  same_gen encP Tryd.func43 ie43 ig43 (Nat.le_of_ble_eq_true rfl) l m sp sq hl
end Go.Proofs.YtiomojlcnemnhaaDoor

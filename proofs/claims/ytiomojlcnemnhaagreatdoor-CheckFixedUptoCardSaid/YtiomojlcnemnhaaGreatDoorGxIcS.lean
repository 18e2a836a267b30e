/- Functions of the seat, as the small language has them. -/
import Derived.Test.YtiomojlcnemnhaaGreatDoorFxWb
import Derived.Test.YtiomojlcnemnhaaGreatDoorProg
import Derived.KernelRfl
namespace Go.Proofs.YtiomojlcnemnhaaGreatDoor
open Go.Fx
abbrev ks2011 (t0 t10 t12 t4 t3 t21 t5 t25 t56 t6 t60 t8 t7 t71 t89 t2 : T) (O : List (Nat × Box)) (U : List (Nat × Tok)) (H : FHp) : S := st [(0, t0), (10, t10), (12, t12), (4, t4), (3, t3), (21, t21), (5, t5), (25, t25), (56, t56), (6, t6), (60, t60), (8, t8), (7, t7), (71, t71), (89, t89), (2, t2)] O U H
def ic2011l0 : IC :=
 (.seq
  (.seq
   (.region [] [] [0, 10, 12, 4, 3, 21, 5, 25, 56, 6, 60, 8, 7, 71, 89, 2] [
     ⟨(some 22), (.move (.t 5)), none, none⟩,
     ⟨(some 23), (.move (.t 3)), none, none⟩,
     ⟨(some 24), (.len (.t 23)), none, none⟩,
     ⟨(some 25), (.bin .lss (.t 22) (.t 24)), none, none⟩])
   (.cond (.t 25)
    .skip
    (.exit 0)))
  (.seq
   (.block 1
    (.seq
     (.region [] [] [0, 10, 12, 4, 3, 21, 5, 25, 56, 6, 60, 8, 7, 71, 89, 2] [
       ⟨(some 28), (.move (.t 3)), none, none⟩,
       ⟨(some 29), (.move (.t 5)), none, none⟩,
       ⟨(some 30), (.iaddr 1 (.t 28) (.t 29)), none, none⟩,
       ⟨(some 31), (.load none (.t 30)), none, none⟩,
       ⟨(some 32), (.move (.t 3)), none, none⟩,
       ⟨(some 33), (.move (.t 5)), none, none⟩,
       ⟨(some 34), (.vsl 1 (.t 32) none (some (.t 33))), none, none⟩,
       ⟨(some 35), (.callp (.k (rF 67)) [(.t 31), (.t 34)]), none, none⟩,
       ⟨(some 36), (.move (.t 35)), none, none⟩,
       ⟨(some 37), (.move (.t 3)), some (36, false), none⟩,
       ⟨(some 38), (.move (.t 5)), some (36, false), none⟩,
       ⟨(some 39), (.iaddr 1 (.t 37) (.t 38)), some (36, false), none⟩,
       ⟨(some 40), (.load none (.t 39)), some (36, false), none⟩,
       ⟨(some 41), (.move (.t 4)), some (36, false), none⟩,
       ⟨(some 42), (.callp (.k (rF 67)) [(.t 40), (.t 41)]), some (36, false), none⟩,
       ⟨(some 43), (.un .not (.t 42)), some (36, false), none⟩,
       ⟨(some 44), (.move (.t 43)), some (36, false), none⟩,
       ⟨(some 45), (.move (.t 0)), some (44, true), none⟩,
       ⟨(some 46), (.move (.t 3)), some (44, true), none⟩,
       ⟨(some 47), (.move (.t 5)), some (44, true), none⟩,
       ⟨(some 48), (.iaddr 1 (.t 46) (.t 47)), some (44, true), none⟩,
       ⟨(some 49), (.load none (.t 48)), some (44, true), none⟩,
       ⟨(some 50), (.move (.t 3)), some (44, true), none⟩,
       ⟨(some 51), (.move (.t 5)), some (44, true), none⟩,
       ⟨(some 52), (.vsl 1 (.t 50) none (some (.t 51))), some (44, true), none⟩,
       ⟨(some 53), (.callp (.k (rF 68)) [(.t 45), (.t 49), (.t 52)]), some (44, true), none⟩,
       ⟨(some 54), (.un .not (.t 53)), some (44, true), none⟩,
       ⟨(some 55), (.pick (.t 44) (.t 54) (.k (rB false))), some (36, false), none⟩,
       ⟨(some 56), (.pick (.t 36) (.k (rB true)) (.t 55)), none, none⟩])
     (.cond (.t 56)
      (.seq
       (.region [] [] [0, 10, 12, 4, 3, 21, 5, 25, 56, 6, 60, 8, 7, 71, 89, 2] [
         ⟨(some 2), (.move (.k (rB false))), none, none⟩])
       .ret)
      .skip)))
   (.region [] [] [0, 10, 12, 4, 3, 21, 5, 25, 56, 6, 60, 8, 7, 71, 89, 2] [
     ⟨(some 26), (.move (.t 5)), none, none⟩,
     ⟨(some 27), (.bin .add (.t 26) (.k (rI .i64 1))), none, none⟩,
     ⟨(some 5), (.move (.t 27)), none, none⟩])))

def ic2011l1 : IC :=
 (.seq
  (.seq
   (.region [] [] [0, 10, 12, 4, 3, 21, 5, 25, 56, 6, 60, 8, 7, 71, 89, 2] [
     ⟨(some 68), (.move (.t 8)), none, none⟩,
     ⟨(some 69), (.move (.t 7)), none, none⟩,
     ⟨(some 70), (.len (.t 69)), none, none⟩,
     ⟨(some 71), (.bin .lss (.t 68) (.t 70)), none, none⟩])
   (.cond (.t 71)
    .skip
    (.exit 4)))
  (.seq
   (.block 5
    (.seq
     (.region [] [] [0, 10, 12, 4, 3, 21, 5, 25, 56, 6, 60, 8, 7, 71, 89, 2] [
       ⟨(some 74), (.move (.t 7)), none, none⟩,
       ⟨(some 75), (.move (.t 8)), none, none⟩,
       ⟨(some 76), (.iaddr 1 (.t 74) (.t 75)), none, none⟩,
       ⟨(some 77), (.load none (.t 76)), none, none⟩,
       ⟨(some 78), (.move (.t 3)), none, none⟩,
       ⟨(some 79), (.callp (.k (rF 67)) [(.t 77), (.t 78)]), none, none⟩,
       ⟨(some 80), (.un .not (.t 79)), none, none⟩,
       ⟨(some 81), (.move (.t 80)), none, none⟩,
       ⟨(some 82), (.move (.t 0)), some (81, true), none⟩,
       ⟨(some 83), (.move (.t 7)), some (81, true), none⟩,
       ⟨(some 84), (.move (.t 8)), some (81, true), none⟩,
       ⟨(some 85), (.iaddr 1 (.t 83) (.t 84)), some (81, true), none⟩,
       ⟨(some 86), (.load none (.t 85)), some (81, true), none⟩,
       ⟨(some 87), (.move (.t 3)), some (81, true), none⟩,
       ⟨(some 88), (.callp (.k (rF 68)) [(.t 82), (.t 86), (.t 87)]), some (81, true), none⟩,
       ⟨(some 89), (.pick (.t 81) (.t 88) (.k (rB false))), none, none⟩])
     (.cond (.t 89)
      (.seq
       (.region [] [] [0, 10, 12, 4, 3, 21, 5, 25, 56, 6, 60, 8, 7, 71, 89, 2] [
         ⟨(some 2), (.move (.k (rB false))), none, none⟩])
       .ret)
      .skip)))
   (.region [] [] [0, 10, 12, 4, 3, 21, 5, 25, 56, 6, 60, 8, 7, 71, 89, 2] [
     ⟨(some 72), (.move (.t 8)), none, none⟩,
     ⟨(some 73), (.bin .add (.t 72) (.k (rI .i64 1))), none, none⟩,
     ⟨(some 8), (.move (.t 73)), none, none⟩])))

def ic2011l2 : IC :=
 (.seq
  (.seq
   (.region [] [] [0, 10, 12, 4, 3, 21, 5, 25, 56, 6, 60, 8, 7, 71, 89, 2] [
     ⟨(some 57), (.move (.t 6)), none, none⟩,
     ⟨(some 58), (.move (.t 0)), none, none⟩,
     ⟨(some 59), (.len (.t 58)), none, none⟩,
     ⟨(some 60), (.bin .lss (.t 57) (.t 59)), none, none⟩])
   (.cond (.t 60)
    .skip
    (.exit 2)))
  (.seq
   (.block 3
    (.seq
     (.region [] [] [0, 10, 12, 4, 3, 21, 5, 25, 56, 6, 60, 8, 7, 71, 89, 2] [
       ⟨(some 63), (.move (.t 0)), none, none⟩,
       ⟨(some 64), (.move (.t 6)), none, none⟩,
       ⟨(some 65), (.iaddr 16 (.t 63) (.t 64)), none, none⟩,
       ⟨(some 66), (.load (some 16) (.t 65)), none, none⟩,
       ⟨(some 67), (.callp (.k (rF 69)) [(.t 66)]), none, none⟩,
       ⟨(some 7), (.move (.t 67)), none, none⟩])
     (.seq
      (.region [] [] [0, 10, 12, 4, 3, 21, 5, 25, 56, 6, 60, 8, 7, 71, 89, 2] [
        ⟨(some 8), (.move (.k (rI .i64 0))), none, none⟩])
      (.block 4
       (.loop ic2011l1)))))
   (.region [] [] [0, 10, 12, 4, 3, 21, 5, 25, 56, 6, 60, 8, 7, 71, 89, 2] [
     ⟨(some 61), (.move (.t 6)), none, none⟩,
     ⟨(some 62), (.bin .add (.t 61) (.k (rI .i64 1))), none, none⟩,
     ⟨(some 6), (.move (.t 62)), none, none⟩])))

/-- pedigree/pedigreelaw07.CheckFixed -/
def ic2011 : IC :=
 (.seq
  (.region [] [] [0, 10, 12, 4, 3, 21, 5, 25, 56, 6, 60, 8, 7, 71, 89, 2] [
    ⟨(some 2), (.move (.k (rB false))), none, none⟩])
  (.seq
   (.seq
    (.region [] [] [0, 10, 12, 4, 3, 21, 5, 25, 56, 6, 60, 8, 7, 71, 89, 2] [
      ⟨(some 9), (.move (.t 0)), none, none⟩,
      ⟨(some 10), (.callp (.k (rF 61)) [(.t 9)]), none, none⟩])
    (.cond (.t 10)
     (.seq
      (.region [] [] [0, 10, 12, 4, 3, 21, 5, 25, 56, 6, 60, 8, 7, 71, 89, 2] [
        ⟨(some 2), (.move (.k (rB true))), none, none⟩])
      .ret)
     .skip))
   (.seq
    (.seq
     (.region [] [] [0, 10, 12, 4, 3, 21, 5, 25, 56, 6, 60, 8, 7, 71, 89, 2] [
       ⟨(some 11), (.callp (.k (rF 62)) []), none, none⟩,
       ⟨(some 12), (.un .not (.t 11)), none, none⟩])
     (.cond (.t 12)
      (.seq
       (.region [] [] [0, 10, 12, 4, 3, 21, 5, 25, 56, 6, 60, 8, 7, 71, 89, 2] [
         ⟨(some 2), (.move (.k (rB false))), none, none⟩])
       .ret)
      .skip))
    (.seq
     (.region [] [] [0, 10, 12, 4, 3, 21, 5, 25, 56, 6, 60, 8, 7, 71, 89, 2] [
       ⟨(some 13), (.move (.t 0)), none, none⟩,
       ⟨(some 14), (.callp (.k (rF 64)) [(.t 13)]), none, none⟩,
       ⟨(some 15), (.callp (.k (rF 63)) [(.t 14)]), none, none⟩,
       ⟨(some 3), (.move (.t 15)), none, none⟩])
     (.seq
      (.region [] [] [0, 10, 12, 4, 3, 21, 5, 25, 56, 6, 60, 8, 7, 71, 89, 2] [
        ⟨(some 16), (.move (.t 0)), none, none⟩,
        ⟨(some 17), (.call (.k (rF 65)) [(.t 16)]), none, none⟩,
        ⟨(some 4), (.move (.t 17)), none, none⟩])
      (.seq
       (.seq
        (.region [] [] [0, 10, 12, 4, 3, 21, 5, 25, 56, 6, 60, 8, 7, 71, 89, 2] [
          ⟨(some 18), (.move (.t 4)), none, none⟩,
          ⟨(some 19), (.move (.t 3)), none, none⟩,
          ⟨(some 20), (.callp (.k (rF 66)) [(.t 18), (.t 19)]), none, none⟩,
          ⟨(some 21), (.un .not (.t 20)), none, none⟩])
        (.cond (.t 21)
         (.seq
          (.region [] [] [0, 10, 12, 4, 3, 21, 5, 25, 56, 6, 60, 8, 7, 71, 89, 2] [
            ⟨(some 2), (.move (.k (rB false))), none, none⟩])
          .ret)
         .skip))
       (.seq
        (.seq
         (.region [] [] [0, 10, 12, 4, 3, 21, 5, 25, 56, 6, 60, 8, 7, 71, 89, 2] [
           ⟨(some 5), (.move (.k (rI .i64 0))), none, none⟩])
         (.block 0
          (.loop ic2011l0)))
        (.seq
         (.seq
          (.region [] [] [0, 10, 12, 4, 3, 21, 5, 25, 56, 6, 60, 8, 7, 71, 89, 2] [
            ⟨(some 6), (.move (.k (rI .i64 0))), none, none⟩])
          (.block 2
           (.loop ic2011l2)))
         (.seq
          (.region [] [] [0, 10, 12, 4, 3, 21, 5, 25, 56, 6, 60, 8, 7, 71, 89, 2] [
            ⟨(some 2), (.move (.k (rB true))), none, none⟩])
          .ret)))))))))
def ir2011 : List IRes := [.tmp 2]
theorem ie2011 : cmpFunc Go.Proofs.Tryz.prog ⟨[(17, none)], []⟩ Go.Proofs.Tryz.f11 [0, 10, 12, 4, 3, 21, 5, 25, 56, 6, 60, 8, 7, 71, 89, 2] = some ic2011 := by kernel_rfl
theorem ig2011 : cmpRes Go.Proofs.Tryz.prog Go.Proofs.Tryz.f11.results.toList = some ir2011 := by kernel_rfl

abbrev ks2058 (t0 t15 t14 t16 t13 t6 t7 t22 t1 t27 t26 t28 t25 t9 t10 t34 t12 t4 : T) (O : List (Nat × Box)) (U : List (Nat × Tok)) (H : FHp) : S := st [(0, t0), (15, t15), (14, t14), (16, t16), (13, t13), (6, t6), (7, t7), (22, t22), (1, t1), (27, t27), (26, t26), (28, t28), (25, t25), (9, t9), (10, t10), (34, t34), (12, t12), (4, t4)] O U H
def ic2058l0 : IC :=
 (.seq
  (.region [] [] [0, 15, 14, 16, 13, 6, 7, 22, 1, 27, 26, 28, 25, 9, 10, 34, 12, 4] [
    ⟨(some 16), (.bin .lss (.t 15) (.t 14)), none, none⟩])
  (.seq
   (.cond (.t 16)
    .skip
    (.exit 0))
   (.seq
    (.block 1
     (.seq
      (.region [6] [] [0, 15, 14, 16, 13, 6, 7, 22, 1, 27, 26, 28, 25, 9, 10, 34, 12, 4] [
        ⟨(some 17), (.iaddr 3 (.t 13) (.t 15)), none, none⟩,
        ⟨(some 18), (.load (some 3) (.t 17)), none, none⟩,
        ⟨(some 6), (.zero 29 [(.c (.v (.string (bs [])))), .nil, .nil]), none, none⟩,
        ⟨none, (.store (some 3) (.t 6) (.t 18)), none, none⟩])
      (.seq
       (.region [] [] [0, 15, 14, 16, 13, 6, 7, 22, 1, 27, 26, 28, 25, 9, 10, 34, 12, 4] [
         ⟨(some 19), (.load (some 3) (.t 6)), none, none⟩,
         ⟨(some 20), (.callp (.k (rF 26)) [(.t 19)]), none, none⟩,
         ⟨(some 7), (.move (.t 20)), none, none⟩])
       (.seq
        (.region [] [] [0, 15, 14, 16, 13, 6, 7, 22, 1, 27, 26, 28, 25, 9, 10, 34, 12, 4] [
          ⟨(some 21), (.move (.t 7)), none, none⟩,
          ⟨(some 22), (.bin .neq (.t 21) (.k (rI .i64 0))), none, none⟩])
        (.cond (.t 22)
         (.seq
          (.region [] [] [0, 15, 14, 16, 13, 6, 7, 22, 1, 27, 26, 28, 25, 9, 10, 34, 12, 4] [
            ⟨(some 23), (.move (.t 7)), none, none⟩,
            ⟨(some 4), (.move (.t 23)), none, none⟩])
          .ret)
         .skip)))))
    (.region [] [] [0, 15, 14, 16, 13, 6, 7, 22, 1, 27, 26, 28, 25, 9, 10, 34, 12, 4] [
      ⟨(some 24), (.bin .add (.t 15) (.k (rI .i64 1))), none, none⟩,
      ⟨(some 15), (.move (.t 24)), none, none⟩]))))

def ic2058l1 : IC :=
 (.seq
  (.region [] [] [0, 15, 14, 16, 13, 6, 7, 22, 1, 27, 26, 28, 25, 9, 10, 34, 12, 4] [
    ⟨(some 28), (.bin .lss (.t 27) (.t 26)), none, none⟩])
  (.seq
   (.cond (.t 28)
    .skip
    (.exit 2))
   (.seq
    (.block 3
     (.seq
      (.region [9] [] [0, 15, 14, 16, 13, 6, 7, 22, 1, 27, 26, 28, 25, 9, 10, 34, 12, 4] [
        ⟨(some 29), (.iaddr 2 (.t 25) (.t 27)), none, none⟩,
        ⟨(some 30), (.load (some 2) (.t 29)), none, none⟩,
        ⟨(some 9), (.zero 147 [(.c (.v (.string (bs [])))), .nil]), none, none⟩,
        ⟨none, (.store (some 2) (.t 9) (.t 30)), none, none⟩])
      (.seq
       (.region [] [] [0, 15, 14, 16, 13, 6, 7, 22, 1, 27, 26, 28, 25, 9, 10, 34, 12, 4] [
         ⟨(some 31), (.load (some 2) (.t 9)), none, none⟩,
         ⟨(some 32), (.callp (.k (rF 116)) [(.t 31)]), none, none⟩,
         ⟨(some 10), (.move (.t 32)), none, none⟩])
       (.seq
        (.region [] [] [0, 15, 14, 16, 13, 6, 7, 22, 1, 27, 26, 28, 25, 9, 10, 34, 12, 4] [
          ⟨(some 33), (.move (.t 10)), none, none⟩,
          ⟨(some 34), (.bin .neq (.t 33) (.k (rI .i64 0))), none, none⟩])
        (.cond (.t 34)
         (.seq
          (.region [] [] [0, 15, 14, 16, 13, 6, 7, 22, 1, 27, 26, 28, 25, 9, 10, 34, 12, 4] [
            ⟨(some 35), (.move (.t 10)), none, none⟩,
            ⟨(some 4), (.move (.t 35)), none, none⟩])
          .ret)
         .skip)))))
    (.region [] [] [0, 15, 14, 16, 13, 6, 7, 22, 1, 27, 26, 28, 25, 9, 10, 34, 12, 4] [
      ⟨(some 36), (.bin .add (.t 27) (.k (rI .i64 1))), none, none⟩,
      ⟨(some 27), (.move (.t 36)), none, none⟩]))))

/-- pedigree/check.Job -/
def ic2058 : IC :=
 (.seq
  (.region [] [] [0, 15, 14, 16, 13, 6, 7, 22, 1, 27, 26, 28, 25, 9, 10, 34, 12, 4] [
    ⟨(some 4), (.move (.k (rI .i64 0))), none, none⟩])
  (.seq
   (.seq
    (.region [] [] [0, 15, 14, 16, 13, 6, 7, 22, 1, 27, 26, 28, 25, 9, 10, 34, 12, 4] [
      ⟨(some 13), (.move (.t 0)), none, none⟩,
      ⟨(some 14), (.len (.t 13)), none, none⟩,
      ⟨(some 15), (.move (.k (rI .i64 0))), none, none⟩])
    (.block 0
     (.loop ic2058l0)))
   (.seq
    (.seq
     (.region [] [] [0, 15, 14, 16, 13, 6, 7, 22, 1, 27, 26, 28, 25, 9, 10, 34, 12, 4] [
       ⟨(some 25), (.move (.t 1)), none, none⟩,
       ⟨(some 26), (.len (.t 25)), none, none⟩,
       ⟨(some 27), (.move (.k (rI .i64 0))), none, none⟩])
     (.block 2
      (.loop ic2058l1)))
    (.seq
     (.region [] [] [0, 15, 14, 16, 13, 6, 7, 22, 1, 27, 26, 28, 25, 9, 10, 34, 12, 4] [
       ⟨(some 38), (.move (.t 0)), none, none⟩,
       ⟨(some 39), (.build [.nil] [(0, 1, (.t 38))]), none, none⟩,
       ⟨(some 40), (.move (.t 1)), none, none⟩,
       ⟨(some 41), (.callp (.k (rF 43)) [(.t 39), (.t 40)]), none, none⟩,
       ⟨(some 37), (.move (.t 41)), none, none⟩,
       ⟨(some 42), (.ext (.t 37) 0), none, none⟩,
       ⟨(some 43), (.ext (.t 37) 1), none, none⟩,
       ⟨(some 11), (.move (.t 42)), none, none⟩,
       ⟨(some 12), (.move (.t 43)), none, none⟩])
     (.seq
      (.region [] [] [0, 15, 14, 16, 13, 6, 7, 22, 1, 27, 26, 28, 25, 9, 10, 34, 12, 4] [
        ⟨(some 44), (.move (.t 12)), none, none⟩,
        ⟨(some 4), (.move (.t 44)), none, none⟩])
      .ret)))))
def ir2058 : List IRes := [.tmp 4]
theorem ie2058 : cmpFunc Go.Proofs.Tryz.prog ⟨[], []⟩ Go.Proofs.Tryz.f58 [0, 15, 14, 16, 13, 6, 7, 22, 1, 27, 26, 28, 25, 9, 10, 34, 12, 4] = some ic2058 := by kernel_rfl
theorem ig2058 : cmpRes Go.Proofs.Tryz.prog Go.Proofs.Tryz.f58.results.toList = some ir2058 := by kernel_rfl


/-- pedigree/pedigreelaw07.lives -/
def ic2062 : IC :=
 (.seq
  (.region [] [] [1, 2, 3, 4, 5, 0] [
    ⟨(some 0), (.move (.k (rB false))), none, none⟩])
  (.seq
   (.region [1] [] [1, 2, 3, 4, 5, 0] [
     ⟨(some 6), (.build [(.c (.v (.string (bs [])))), (.c (.v (.int .i8 0))), (.c (.v (.int .i64 0))), (.c (.v (.string (bs []))))] [(0, 1, (.k (rS (bs [88]))))]), none, none⟩,
     ⟨(some 1), (.zero 73 [(.c (.v (.string (bs [])))), (.c (.v (.int .i8 0))), (.c (.v (.int .i64 0))), (.c (.v (.string (bs []))))]), none, none⟩,
     ⟨none, (.store (some 4) (.t 1) (.t 6)), none, none⟩])
   (.seq
    (.region [8, 2] [] [1, 2, 3, 4, 5, 0] [
      ⟨(some 7), (.load (some 4) (.t 1)), none, none⟩,
      ⟨(some 8), (.row 73 4 [(.t 7)]), none, none⟩,
      ⟨(some 9), (.build [(.c (.v (.string (bs [])))), .nil] [(0, 1, (.k (rS (bs [113])))), (1, 1, (.t 8))]), none, none⟩,
      ⟨(some 10), (.build [(.c (.v (.int .i8 0))), (.c (.v (.string (bs [])))), .nil, (.c (.v (.int .i8 0))), (.c (.v (.int .i8 0))), (.c (.v (.string (bs [])))), (.c (.v (.int .i8 0))), (.c (.v (.int .i64 0))), (.c (.v (.string (bs [])))), .nil, (.c (.v (.int .i8 0))), (.c (.v (.string (bs [])))), (.c (.v (.int .i8 0))), (.c (.v (.int .i64 0))), (.c (.v (.string (bs [])))), .nil] [(0, 1, (.k (rI .i8 1))), (1, 2, (.t 9))]), none, none⟩,
      ⟨(some 2), (.zero 107 [(.c (.v (.int .i8 0))), (.c (.v (.string (bs [])))), .nil, (.c (.v (.int .i8 0))), (.c (.v (.int .i8 0))), (.c (.v (.string (bs [])))), (.c (.v (.int .i8 0))), (.c (.v (.int .i64 0))), (.c (.v (.string (bs [])))), .nil, (.c (.v (.int .i8 0))), (.c (.v (.string (bs [])))), (.c (.v (.int .i8 0))), (.c (.v (.int .i64 0))), (.c (.v (.string (bs [])))), .nil]), none, none⟩,
      ⟨none, (.store (some 16) (.t 2) (.t 10)), none, none⟩])
    (.seq
     (.region [13, 15, 3] [] [1, 2, 3, 4, 5, 0] [
       ⟨(some 11), (.load (some 4) (.t 1)), none, none⟩,
       ⟨(some 12), (.build [(.c (.v (.int .i8 0))), (.c (.v (.string (bs [])))), (.c (.v (.int .i8 0))), (.c (.v (.int .i64 0))), (.c (.v (.string (bs []))))] [(1, 4, (.t 11))]), none, none⟩,
       ⟨(some 13), (.row 137 5 [(.t 12)]), none, none⟩,
       ⟨(some 14), (.load (some 16) (.t 2)), none, none⟩,
       ⟨(some 15), (.row 107 16 [(.t 14)]), none, none⟩,
       ⟨(some 16), (.build [(.c (.v (.string (bs [])))), .nil, .nil] [(0, 1, (.k (rS (bs [112])))), (1, 1, (.t 13)), (2, 1, (.t 15))]), none, none⟩,
       ⟨(some 3), (.zero 29 [(.c (.v (.string (bs [])))), .nil, .nil]), none, none⟩,
       ⟨none, (.store (some 3) (.t 3) (.t 16)), none, none⟩])
     (.seq
      (.region [19, 4] [] [1, 2, 3, 4, 5, 0] [
        ⟨(some 17), (.load (some 4) (.t 1)), none, none⟩,
        ⟨(some 18), (.build [(.c (.v (.int .i8 0))), (.c (.v (.string (bs [])))), (.c (.v (.int .i8 0))), (.c (.v (.int .i64 0))), (.c (.v (.string (bs []))))] [(1, 4, (.t 17))]), none, none⟩,
        ⟨(some 19), (.row 137 5 [(.t 18)]), none, none⟩,
        ⟨(some 20), (.build [(.c (.v (.string (bs [])))), .nil, .nil] [(0, 1, (.k (rS (bs [112])))), (1, 1, (.t 19))]), none, none⟩,
        ⟨(some 4), (.zero 29 [(.c (.v (.string (bs [])))), .nil, .nil]), none, none⟩,
        ⟨none, (.store (some 3) (.t 4) (.t 20)), none, none⟩])
      (.seq
       (.region [] [] [1, 2, 3, 4, 5, 0] [
         ⟨(some 21), (.faddr 2 (.t 3)), none, none⟩,
         ⟨(some 22), (.load none (.t 21)), none, none⟩,
         ⟨(some 23), (.callp (.k (rF 63)) [(.t 22)]), none, none⟩,
         ⟨(some 5), (.move (.t 23)), none, none⟩])
       (.seq
        (.region [46] [] [1, 2, 3, 4, 5, 0] [
          ⟨(some 24), (.load (some 3) (.t 3)), none, none⟩,
          ⟨(some 25), (.callp (.k (rF 26)) [(.t 24)]), none, none⟩,
          ⟨(some 26), (.bin .eql (.t 25) (.k (rI .i64 0))), none, none⟩,
          ⟨(some 27), (.move (.t 26)), none, none⟩,
          ⟨(some 28), (.load (some 3) (.t 4)), some (27, true), none⟩,
          ⟨(some 29), (.callp (.k (rF 26)) [(.t 28)]), some (27, true), none⟩,
          ⟨(some 30), (.bin .eql (.t 29) (.k (rI .i64 73))), some (27, true), none⟩,
          ⟨(some 31), (.pick (.t 27) (.t 30) (.k (rB false))), none, none⟩,
          ⟨(some 32), (.move (.t 31)), none, none⟩,
          ⟨(some 33), (.move (.t 5)), some (32, true), none⟩,
          ⟨(some 34), (.len (.t 33)), some (32, true), none⟩,
          ⟨(some 35), (.bin .eql (.t 34) (.k (rI .i64 1))), some (32, true), none⟩,
          ⟨(some 36), (.pick (.t 32) (.t 35) (.k (rB false))), none, none⟩,
          ⟨(some 37), (.move (.t 36)), none, none⟩,
          ⟨(some 38), (.move (.t 5)), some (37, true), none⟩,
          ⟨(some 39), (.iaddr 1 (.t 38) (.k (rI .i64 0))), some (37, true), none⟩,
          ⟨(some 40), (.load none (.t 39)), some (37, true), none⟩,
          ⟨(some 41), (.bin .eql (.t 40) (.k (rS (bs [88])))), some (37, true), none⟩,
          ⟨(some 42), (.pick (.t 37) (.t 41) (.k (rB false))), none, none⟩,
          ⟨(some 43), (.move (.t 42)), none, none⟩,
          ⟨(some 44), (.load (some 3) (.t 3)), some (43, true), none⟩,
          ⟨(some 45), (.load (some 3) (.t 4)), some (43, true), none⟩,
          ⟨(some 46), (.row 29 3 [(.t 44), (.t 45)]), some (43, true), none⟩,
          ⟨(some 47), (.callp (.k (rF 58)) [(.t 46), (.k (.x (.one .nil)))]), some (43, true), none⟩,
          ⟨(some 48), (.bin .eql (.t 47) (.k (rI .i64 73))), some (43, true), none⟩,
          ⟨(some 49), (.pick (.t 43) (.t 48) (.k (rB false))), none, none⟩,
          ⟨(some 0), (.move (.t 49)), none, none⟩])
        .ret)))))))
def ir2062 : List IRes := [.tmp 0]
theorem ie2062 : cmpFunc Go.Proofs.Tryz.prog ⟨[], []⟩ Go.Proofs.Tryz.f62 [1, 2, 3, 4, 5, 0] = some ic2062 := by kernel_rfl
theorem ig2062 : cmpRes Go.Proofs.Tryz.prog Go.Proofs.Tryz.f62.results.toList = some ir2062 := by kernel_rfl

abbrev ks2068 (t7 t0 t14 t30 t9 t8 t1 t2 t55 t10 t80 t6 : T) (O : List (Nat × Box)) (U : List (Nat × Tok)) (H : FHp) : S := st [(7, t7), (0, t0), (14, t14), (30, t30), (9, t9), (8, t8), (1, t1), (2, t2), (55, t55), (10, t10), (80, t80), (6, t6)] O U H
def ic2068l0 : IC :=
 (.seq
  (.seq
   (.region [] [] [7, 0, 14, 30, 9, 8, 1, 2, 55, 10, 80, 6] [
     ⟨(some 11), (.move (.t 7)), none, none⟩,
     ⟨(some 12), (.move (.t 0)), none, none⟩,
     ⟨(some 13), (.len (.t 12)), none, none⟩,
     ⟨(some 14), (.bin .lss (.t 11) (.t 13)), none, none⟩])
   (.cond (.t 14)
    .skip
    (.exit 0)))
  (.seq
   (.block 1
    (.seq
     (.seq
      (.region [] [] [7, 0, 14, 30, 9, 8, 1, 2, 55, 10, 80, 6] [
        ⟨(some 17), (.move (.t 0)), none, none⟩,
        ⟨(some 18), (.move (.t 7)), none, none⟩,
        ⟨(some 19), (.iaddr 16 (.t 17) (.t 18)), none, none⟩,
        ⟨(some 20), (.faddr 0 (.t 19)), none, none⟩,
        ⟨(some 21), (.load none (.t 20)), none, none⟩,
        ⟨(some 22), (.bin .neq (.t 21) (.k (rI .i8 3))), none, none⟩,
        ⟨(some 23), (.move (.t 22)), none, none⟩,
        ⟨(some 24), (.move (.t 0)), some (23, false), none⟩,
        ⟨(some 25), (.move (.t 7)), some (23, false), none⟩,
        ⟨(some 26), (.iaddr 16 (.t 24) (.t 25)), some (23, false), none⟩,
        ⟨(some 27), (.faddr 3 (.t 26)), some (23, false), none⟩,
        ⟨(some 28), (.load none (.t 27)), some (23, false), none⟩,
        ⟨(some 29), (.bin .neq (.t 28) (.k (rI .i8 1))), some (23, false), none⟩,
        ⟨(some 30), (.pick (.t 23) (.k (rB true)) (.t 29)), none, none⟩])
      (.cond (.t 30)
       (.exit 1)
       .skip))
     (.seq
      (.region [] [] [7, 0, 14, 30, 9, 8, 1, 2, 55, 10, 80, 6] [
        ⟨(some 32), (.move (.t 0)), none, none⟩,
        ⟨(some 33), (.move (.t 7)), none, none⟩,
        ⟨(some 34), (.iaddr 16 (.t 32) (.t 33)), none, none⟩,
        ⟨(some 35), (.faddr 4 (.t 34)), none, none⟩,
        ⟨(some 36), (.load (some 6) (.t 35)), none, none⟩,
        ⟨(some 37), (.callp (.k (rF 165)) [(.t 36)]), none, none⟩,
        ⟨(some 31), (.move (.t 37)), none, none⟩,
        ⟨(some 38), (.ext (.t 31) 0), none, none⟩,
        ⟨(some 39), (.ext (.t 31) 1), none, none⟩,
        ⟨(some 8), (.move (.t 38)), none, none⟩,
        ⟨(some 9), (.move (.t 39)), none, none⟩])
      (.seq
       (.seq
        (.region [] [] [7, 0, 14, 30, 9, 8, 1, 2, 55, 10, 80, 6] [
          ⟨(some 40), (.move (.t 9)), none, none⟩,
          ⟨(some 41), (.move (.t 40)), none, none⟩,
          ⟨(some 42), (.move (.t 8)), some (41, true), none⟩,
          ⟨(some 43), (.move (.t 1)), some (41, true), none⟩,
          ⟨(some 44), (.bin .eql (.t 42) (.t 43)), some (41, true), none⟩,
          ⟨(some 45), (.pick (.t 41) (.t 44) (.k (rB false))), none, none⟩,
          ⟨(some 46), (.move (.t 45)), none, none⟩,
          ⟨(some 47), (.move (.t 0)), some (46, true), none⟩,
          ⟨(some 48), (.move (.t 7)), some (46, true), none⟩,
          ⟨(some 49), (.iaddr 16 (.t 47) (.t 48)), some (46, true), none⟩,
          ⟨(some 50), (.faddr 10 (.t 49)), some (46, true), none⟩,
          ⟨(some 51), (.load (some 6) (.t 50)), some (46, true), none⟩,
          ⟨(some 52), (.callp (.k (rF 166)) [(.t 51)]), some (46, true), none⟩,
          ⟨(some 53), (.move (.t 2)), some (46, true), none⟩,
          ⟨(some 54), (.callp (.k (rF 66)) [(.t 52), (.t 53)]), some (46, true), none⟩,
          ⟨(some 55), (.pick (.t 46) (.t 54) (.k (rB false))), none, none⟩])
        (.cond (.t 55)
         (.seq
          (.region [] [] [7, 0, 14, 30, 9, 8, 1, 2, 55, 10, 80, 6] [
            ⟨(some 6), (.move (.k (rB true))), none, none⟩])
          .ret)
         .skip))
       (.seq
        (.region [] [] [7, 0, 14, 30, 9, 8, 1, 2, 55, 10, 80, 6] [
          ⟨(some 57), (.move (.t 0)), none, none⟩,
          ⟨(some 58), (.move (.t 7)), none, none⟩,
          ⟨(some 59), (.iaddr 16 (.t 57) (.t 58)), none, none⟩,
          ⟨(some 60), (.faddr 10 (.t 59)), none, none⟩,
          ⟨(some 61), (.load (some 6) (.t 60)), none, none⟩,
          ⟨(some 62), (.callp (.k (rF 165)) [(.t 61)]), none, none⟩,
          ⟨(some 56), (.move (.t 62)), none, none⟩,
          ⟨(some 63), (.ext (.t 56) 0), none, none⟩,
          ⟨(some 64), (.ext (.t 56) 1), none, none⟩,
          ⟨(some 10), (.move (.t 63)), none, none⟩,
          ⟨(some 9), (.move (.t 64)), none, none⟩])
        (.seq
         (.region [] [] [7, 0, 14, 30, 9, 8, 1, 2, 55, 10, 80, 6] [
           ⟨(some 65), (.move (.t 9)), none, none⟩,
           ⟨(some 66), (.move (.t 65)), none, none⟩,
           ⟨(some 67), (.move (.t 10)), some (66, true), none⟩,
           ⟨(some 68), (.move (.t 1)), some (66, true), none⟩,
           ⟨(some 69), (.bin .eql (.t 67) (.t 68)), some (66, true), none⟩,
           ⟨(some 70), (.pick (.t 66) (.t 69) (.k (rB false))), none, none⟩,
           ⟨(some 71), (.move (.t 70)), none, none⟩,
           ⟨(some 72), (.move (.t 0)), some (71, true), none⟩,
           ⟨(some 73), (.move (.t 7)), some (71, true), none⟩,
           ⟨(some 74), (.iaddr 16 (.t 72) (.t 73)), some (71, true), none⟩,
           ⟨(some 75), (.faddr 4 (.t 74)), some (71, true), none⟩,
           ⟨(some 76), (.load (some 6) (.t 75)), some (71, true), none⟩,
           ⟨(some 77), (.callp (.k (rF 166)) [(.t 76)]), some (71, true), none⟩,
           ⟨(some 78), (.move (.t 2)), some (71, true), none⟩,
           ⟨(some 79), (.callp (.k (rF 66)) [(.t 77), (.t 78)]), some (71, true), none⟩,
           ⟨(some 80), (.pick (.t 71) (.t 79) (.k (rB false))), none, none⟩])
         (.cond (.t 80)
          (.seq
           (.region [] [] [7, 0, 14, 30, 9, 8, 1, 2, 55, 10, 80, 6] [
             ⟨(some 6), (.move (.k (rB true))), none, none⟩])
           .ret)
          .skip)))))))
   (.region [] [] [7, 0, 14, 30, 9, 8, 1, 2, 55, 10, 80, 6] [
     ⟨(some 15), (.move (.t 7)), none, none⟩,
     ⟨(some 16), (.bin .add (.t 15) (.k (rI .i64 1))), none, none⟩,
     ⟨(some 7), (.move (.t 16)), none, none⟩])))

/-- pedigree/pedigreelaw07.equated -/
def ic2068 : IC :=
 (.seq
  (.region [] [] [7, 0, 14, 30, 9, 8, 1, 2, 55, 10, 80, 6] [
    ⟨(some 6), (.move (.k (rB false))), none, none⟩])
  (.seq
   (.seq
    (.region [] [] [7, 0, 14, 30, 9, 8, 1, 2, 55, 10, 80, 6] [
      ⟨(some 7), (.move (.k (rI .i64 0))), none, none⟩])
    (.block 0
     (.loop ic2068l0)))
   (.seq
    (.region [] [] [7, 0, 14, 30, 9, 8, 1, 2, 55, 10, 80, 6] [
      ⟨(some 6), (.move (.k (rB false))), none, none⟩])
    .ret)))
def ir2068 : List IRes := [.tmp 6]
theorem ie2068 : cmpFunc Go.Proofs.Tryz.prog ⟨[], []⟩ Go.Proofs.Tryz.f68 [7, 0, 14, 30, 9, 8, 1, 2, 55, 10, 80, 6] = some ic2068 := by kernel_rfl
theorem ig2068 : cmpRes Go.Proofs.Tryz.prog Go.Proofs.Tryz.f68.results.toList = some ir2068 := by kernel_rfl

end Go.Proofs.YtiomojlcnemnhaaGreatDoor

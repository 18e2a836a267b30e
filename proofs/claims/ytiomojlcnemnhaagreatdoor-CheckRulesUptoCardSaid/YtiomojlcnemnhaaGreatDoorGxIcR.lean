/- Functions of the seat, as the small language has them. -/
import Derived.Test.YtiomojlcnemnhaaGreatDoorFxWb
import Derived.Test.YtiomojlcnemnhaaGreatDoorProg
import Derived.KernelRfl
namespace Go.Proofs.YtiomojlcnemnhaaGreatDoor
open Go.Fx

/-- pedigree/pedigreelaw07.CheckRules -/
def ic2004 : IC :=
 (.seq
  (.region [1] [] [0, 1, 5, 3, 2] [
    ⟨(some 1), (.box 29 (.t 0)), none, none⟩,
    ⟨(some 2), (.move (.k (rB false))), none, none⟩])
  (.seq
   (.seq
    (.region [] [] [0, 1, 5, 3, 2] [
      ⟨(some 4), (.load (some 3) (.t 1)), none, none⟩,
      ⟨(some 5), (.callp (.k (rF 13)) [(.t 4)]), none, none⟩])
    (.cond (.t 5)
     (.seq
      (.region [] [] [0, 1, 5, 3, 2] [
        ⟨(some 2), (.move (.k (rB true))), none, none⟩])
      .ret)
     .skip))
   (.seq
    (.region [3] [] [0, 1, 5, 3, 2] [
      ⟨(some 6), (.load (some 3) (.t 1)), none, none⟩,
      ⟨(some 7), (.callp (.k (rF 16)) [(.t 6)]), none, none⟩,
      ⟨(some 3), (.zero 29 [(.c (.v (.string (bs [])))), .nil, .nil]), none, none⟩,
      ⟨none, (.store (some 3) (.t 3) (.t 7)), none, none⟩])
    (.seq
     (.region [] [] [0, 1, 5, 3, 2] [
       ⟨(some 8), (.load (some 3) (.t 3)), none, none⟩,
       ⟨(some 9), (.callp (.k (rF 26)) [(.t 8)]), none, none⟩,
       ⟨(some 10), (.load (some 3) (.t 1)), none, none⟩,
       ⟨(some 11), (.callp (.k (rF 27)) [(.t 10)]), none, none⟩,
       ⟨(some 12), (.bin .eql (.t 9) (.t 11)), none, none⟩,
       ⟨(some 13), (.move (.t 12)), none, none⟩,
       ⟨(some 14), (.load (some 3) (.t 3)), some (13, true), none⟩,
       ⟨(some 15), (.callp (.k (rF 28)) [(.t 14)]), some (13, true), none⟩,
       ⟨(some 16), (.load (some 3) (.t 1)), some (13, true), none⟩,
       ⟨(some 17), (.callp (.k (rF 29)) [(.t 16)]), some (13, true), none⟩,
       ⟨(some 18), (.eqb false (.t 15) (.t 17)), some (13, true), none⟩,
       ⟨(some 19), (.pick (.t 13) (.t 18) (.k (rB false))), none, none⟩,
       ⟨(some 20), (.move (.t 19)), none, none⟩,
       ⟨(some 21), (.load (some 3) (.t 3)), some (20, true), none⟩,
       ⟨(some 22), (.load (some 3) (.t 1)), some (20, true), none⟩,
       ⟨(some 23), (.callp (.k (rF 25)) [(.t 21), (.t 22)]), some (20, true), none⟩,
       ⟨(some 24), (.pick (.t 20) (.t 23) (.k (rB false))), none, none⟩,
       ⟨(some 2), (.move (.t 24)), none, none⟩])
     .ret))))
def ir2004 : List IRes := [.tmp 2]
theorem ie2004 : cmpFunc Go.Proofs.Tryz.prog ⟨[], []⟩ Go.Proofs.Tryz.f4 [0, 1, 5, 3, 2] = some ic2004 := by kernel_rfl
theorem ig2004 : cmpRes Go.Proofs.Tryz.prog Go.Proofs.Tryz.f4.results.toList = some ir2004 := by kernel_rfl


/-- pedigree/pedigreeref07.Rule -/
def ic2027 : IC :=
 (.seq
  (.region [1] [] [0, 1, 5, 12, 2] [
    ⟨(some 1), (.box 29 (.t 0)), none, none⟩,
    ⟨(some 2), (.move (.k (rI .i64 0))), none, none⟩])
  (.seq
   (.seq
    (.region [] [] [0, 1, 5, 12, 2] [
      ⟨(some 3), (.load (some 3) (.t 1)), none, none⟩,
      ⟨(some 4), (.callp (.k (rF 46)) [(.t 3)]), none, none⟩,
      ⟨(some 5), (.bin .neq (.t 4) (.k (rI .i64 0))), none, none⟩])
    (.cond (.t 5)
     (.seq
      (.region [] [] [0, 1, 5, 12, 2] [
        ⟨(some 2), (.move (.k (rI .i64 40))), none, none⟩])
      .ret)
     .skip))
   (.seq
    (.seq
     (.region [] [] [0, 1, 5, 12, 2] [
       ⟨(some 6), (.load (some 3) (.t 1)), none, none⟩,
       ⟨(some 7), (.callp (.k (rF 48)) [(.t 6)]), none, none⟩,
       ⟨(some 8), (.faddr 2 (.t 1)), none, none⟩,
       ⟨(some 9), (.load none (.t 8)), none, none⟩,
       ⟨(some 10), (.callp (.k (rF 97)) [(.t 9)]), none, none⟩,
       ⟨(some 11), (.callp (.k (rF 66)) [(.t 7), (.t 10)]), none, none⟩,
       ⟨(some 12), (.un .not (.t 11)), none, none⟩])
     (.cond (.t 12)
      (.seq
       (.region [] [] [0, 1, 5, 12, 2] [
         ⟨(some 2), (.move (.k (rI .i64 73))), none, none⟩])
       .ret)
      .skip))
    (.seq
     (.region [] [] [0, 1, 5, 12, 2] [
       ⟨(some 2), (.move (.k (rI .i64 0))), none, none⟩])
     .ret))))
def ir2027 : List IRes := [.tmp 2]
theorem ie2027 : cmpFunc Go.Proofs.Tryz.prog ⟨[], []⟩ Go.Proofs.Tryz.f27 [0, 1, 5, 12, 2] = some ic2027 := by kernel_rfl
theorem ig2027 : cmpRes Go.Proofs.Tryz.prog Go.Proofs.Tryz.f27.results.toList = some ir2027 := by kernel_rfl

abbrev ks2028 (t0 t1 t9 t13 t12 t14 t11 t6 t18 t19 t3 t25 t4 t2 : T) (O : List (Nat × Box)) (U : List (Nat × Tok)) (H : FHp) : S := st [(0, t0), (1, t1), (9, t9), (13, t13), (12, t12), (14, t14), (11, t11), (6, t6), (18, t18), (19, t19), (3, t3), (25, t25), (4, t4), (2, t2)] O U H
def ic2028l0 : IC :=
 (.seq
  (.region [] [] [0, 1, 9, 13, 12, 14, 11, 6, 18, 19, 3, 25, 4, 2] [
    ⟨(some 14), (.bin .lss (.t 13) (.t 12)), none, none⟩])
  (.seq
   (.cond (.t 14)
    .skip
    (.exit 0))
   (.seq
    (.block 1
     (.seq
      (.region [6] [] [0, 1, 9, 13, 12, 14, 11, 6, 18, 19, 3, 25, 4, 2] [
        ⟨(some 15), (.iaddr 16 (.t 11) (.t 13)), none, none⟩,
        ⟨(some 16), (.load (some 16) (.t 15)), none, none⟩,
        ⟨(some 6), (.zero 107 [(.c (.v (.int .i8 0))), (.c (.v (.string (bs [])))), .nil, (.c (.v (.int .i8 0))), (.c (.v (.int .i8 0))), (.c (.v (.string (bs [])))), (.c (.v (.int .i8 0))), (.c (.v (.int .i64 0))), (.c (.v (.string (bs [])))), .nil, (.c (.v (.int .i8 0))), (.c (.v (.string (bs [])))), (.c (.v (.int .i8 0))), (.c (.v (.int .i64 0))), (.c (.v (.string (bs [])))), .nil]), none, none⟩,
        ⟨none, (.store (some 16) (.t 6) (.t 16)), none, none⟩])
      (.seq
       (.region [] [] [0, 1, 9, 13, 12, 14, 11, 6, 18, 19, 3, 25, 4, 2] [
         ⟨(some 17), (.faddr 0 (.t 6)), none, none⟩,
         ⟨(some 18), (.load none (.t 17)), none, none⟩])
       (.block 2
        (.seq
         (.region [] [] [0, 1, 9, 13, 12, 14, 11, 6, 18, 19, 3, 25, 4, 2] [
           ⟨(some 20), (.bin .eql (.t 18) (.k (rI .i8 1))), none, none⟩,
           ⟨(some 19), (.move (.t 20)), none, none⟩])
         (.cond (.t 19)
          (.region [23] [] [0, 1, 9, 13, 12, 14, 11, 6, 18, 19, 3, 25, 4, 2] [
            ⟨(some 21), (.move (.t 3)), none, none⟩,
            ⟨(some 22), (.load (some 16) (.t 6)), none, none⟩,
            ⟨(some 23), (.row 107 16 [(.t 22)]), none, none⟩,
            ⟨(some 24), (.app 107 16 216 (.t 21) (.t 23)), none, none⟩,
            ⟨(some 3), (.move (.t 24)), none, none⟩])
          (.seq
           (.region [] [] [0, 1, 9, 13, 12, 14, 11, 6, 18, 19, 3, 25, 4, 2] [
             ⟨(some 26), (.bin .eql (.t 18) (.k (rI .i8 3))), none, none⟩,
             ⟨(some 25), (.move (.t 26)), none, none⟩])
           (.cond (.t 25)
            (.region [] [] [0, 1, 9, 13, 12, 14, 11, 6, 18, 19, 3, 25, 4, 2] [
              ⟨(some 27), (.move (.t 4)), none, none⟩,
              ⟨(some 28), (.move (.t 27)), none, none⟩,
              ⟨(some 29), (.faddr 4 (.t 6)), some (28, false), none⟩,
              ⟨(some 30), (.faddr 0 (.t 29)), some (28, false), none⟩,
              ⟨(some 31), (.load none (.t 30)), some (28, false), none⟩,
              ⟨(some 32), (.bin .neq (.t 31) (.k (rI .i8 0))), some (28, false), none⟩,
              ⟨(some 33), (.pick (.t 28) (.k (rB true)) (.t 32)), none, none⟩,
              ⟨(some 34), (.move (.t 33)), none, none⟩,
              ⟨(some 35), (.faddr 10 (.t 6)), some (34, false), none⟩,
              ⟨(some 36), (.faddr 0 (.t 35)), some (34, false), none⟩,
              ⟨(some 37), (.load none (.t 36)), some (34, false), none⟩,
              ⟨(some 38), (.bin .neq (.t 37) (.k (rI .i8 0))), some (34, false), none⟩,
              ⟨(some 39), (.pick (.t 34) (.k (rB true)) (.t 38)), none, none⟩,
              ⟨(some 4), (.move (.t 39)), none, none⟩])
            .skip))))))))
    (.region [] [] [0, 1, 9, 13, 12, 14, 11, 6, 18, 19, 3, 25, 4, 2] [
      ⟨(some 40), (.bin .add (.t 13) (.k (rI .i64 1))), none, none⟩,
      ⟨(some 13), (.move (.t 40)), none, none⟩]))))

/-- pedigree/check.Makes -/
def ic2028 : IC :=
 (.seq
  (.region [1] [] [0, 1, 9, 13, 12, 14, 11, 6, 18, 19, 3, 25, 4, 2] [
    ⟨(some 1), (.box 29 (.t 0)), none, none⟩,
    ⟨(some 2), (.move (.k (rB false))), none, none⟩])
  (.seq
   (.seq
    (.region [] [] [0, 1, 9, 13, 12, 14, 11, 6, 18, 19, 3, 25, 4, 2] [
      ⟨(some 7), (.load (some 3) (.t 1)), none, none⟩,
      ⟨(some 8), (.callp (.k (rF 26)) [(.t 7)]), none, none⟩,
      ⟨(some 9), (.bin .neq (.t 8) (.k (rI .i64 0))), none, none⟩])
    (.cond (.t 9)
     (.seq
      (.region [] [] [0, 1, 9, 13, 12, 14, 11, 6, 18, 19, 3, 25, 4, 2] [
        ⟨(some 2), (.move (.k (rB false))), none, none⟩])
      .ret)
     .skip))
   (.seq
    (.region [] [] [0, 1, 9, 13, 12, 14, 11, 6, 18, 19, 3, 25, 4, 2] [
      ⟨(some 3), (.move (.k (.x (.one .nil)))), none, none⟩])
    (.seq
     (.region [] [] [0, 1, 9, 13, 12, 14, 11, 6, 18, 19, 3, 25, 4, 2] [
       ⟨(some 4), (.move (.k (rB false))), none, none⟩])
     (.seq
      (.seq
       (.region [] [] [0, 1, 9, 13, 12, 14, 11, 6, 18, 19, 3, 25, 4, 2] [
         ⟨(some 10), (.faddr 2 (.t 1)), none, none⟩,
         ⟨(some 11), (.load none (.t 10)), none, none⟩,
         ⟨(some 12), (.len (.t 11)), none, none⟩,
         ⟨(some 13), (.move (.k (rI .i64 0))), none, none⟩])
       (.block 0
        (.loop ic2028l0)))
      (.seq
       (.region [] [] [0, 1, 9, 13, 12, 14, 11, 6, 18, 19, 3, 25, 4, 2] [
         ⟨(some 41), (.move (.t 4)), none, none⟩,
         ⟨(some 42), (.move (.t 41)), none, none⟩,
         ⟨(some 43), (.move (.t 3)), some (42, true), none⟩,
         ⟨(some 44), (.call (.k (rF 94)) [(.t 43)]), some (42, true), (some [7, 9, 22])⟩,
         ⟨(some 45), (.faddr 1 (.t 1)), some (42, true), none⟩,
         ⟨(some 46), (.load none (.t 45)), some (42, true), (some [1])⟩,
         ⟨(some 47), (.build [(.c (.v (.string (bs [])))), .nil, .nil] [(1, 1, (.t 46))]), some (42, true), none⟩,
         ⟨(some 48), (.callp (.k (rF 96)) [(.t 47)]), some (42, true), none⟩,
         ⟨(some 49), (.call (.k (rF 95)) [(.t 44), (.t 48)]), some (42, true), (some [7, 9, 22])⟩,
         ⟨(some 50), (.un .not (.t 49)), some (42, true), none⟩,
         ⟨(some 51), (.pick (.t 42) (.t 50) (.k (rB false))), none, none⟩,
         ⟨(some 2), (.move (.t 51)), none, none⟩])
       .ret))))))
def ir2028 : List IRes := [.tmp 2]
theorem ie2028 : cmpFunc Go.Proofs.Tryz.prog ⟨[(44, (some [7, 9, 22])), (46, (some [1])), (49, (some [7, 9, 22])), (44, none), (49, none)], []⟩ Go.Proofs.Tryz.f28 [0, 1, 9, 13, 12, 14, 11, 6, 18, 19, 3, 25, 4, 2] = some ic2028 := by kernel_rfl
theorem ig2028 : cmpRes Go.Proofs.Tryz.prog Go.Proofs.Tryz.f28.results.toList = some ir2028 := by kernel_rfl

abbrev ks2029 (t0 t1 t7 t4 t12 t3 t2 : T) (O : List (Nat × Box)) (U : List (Nat × Tok)) (H : FHp) : S := st [(0, t0), (1, t1), (7, t7), (4, t4), (12, t12), (3, t3), (2, t2)] O U H
def ic2029l0 : IC :=
 (.seq
  (.seq
   (.region [] [] [0, 1, 7, 4, 12, 3, 2] [
     ⟨(some 8), (.move (.t 4)), none, none⟩,
     ⟨(some 9), (.faddr 2 (.t 1)), none, none⟩,
     ⟨(some 10), (.load none (.t 9)), none, none⟩,
     ⟨(some 11), (.len (.t 10)), none, none⟩,
     ⟨(some 12), (.bin .lss (.t 8) (.t 11)), none, none⟩])
   (.cond (.t 12)
    .skip
    (.exit 0)))
  (.seq
   (.block 1
    (.region [] [] [0, 1, 7, 4, 12, 3, 2] [
      ⟨(some 15), (.move (.t 3)), none, none⟩,
      ⟨(some 16), (.move (.t 15)), none, none⟩,
      ⟨(some 17), (.faddr 2 (.t 1)), some (16, false), none⟩,
      ⟨(some 18), (.load none (.t 17)), some (16, false), none⟩,
      ⟨(some 19), (.move (.t 4)), some (16, false), none⟩,
      ⟨(some 20), (.iaddr 16 (.t 18) (.t 19)), some (16, false), none⟩,
      ⟨(some 21), (.faddr 0 (.t 20)), some (16, false), none⟩,
      ⟨(some 22), (.load none (.t 21)), some (16, false), none⟩,
      ⟨(some 23), (.bin .eql (.t 22) (.k (rI .i8 3))), some (16, false), none⟩,
      ⟨(some 24), (.move (.t 23)), some (16, false), none⟩,
      ⟨(some 25), (.faddr 2 (.t 1)), some (24, true), none⟩,
      ⟨(some 26), (.load none (.t 25)), some (24, true), none⟩,
      ⟨(some 27), (.move (.t 4)), some (24, true), none⟩,
      ⟨(some 28), (.iaddr 16 (.t 26) (.t 27)), some (24, true), none⟩,
      ⟨(some 29), (.faddr 4 (.t 28)), some (24, true), none⟩,
      ⟨(some 30), (.faddr 0 (.t 29)), some (24, true), none⟩,
      ⟨(some 31), (.load none (.t 30)), some (24, true), none⟩,
      ⟨(some 32), (.bin .neq (.t 31) (.k (rI .i8 0))), some (24, true), none⟩,
      ⟨(some 33), (.move (.t 32)), some (24, true), none⟩,
      ⟨(some 34), (.faddr 2 (.t 1)), some (33, false), none⟩,
      ⟨(some 35), (.load none (.t 34)), some (33, false), none⟩,
      ⟨(some 36), (.move (.t 4)), some (33, false), none⟩,
      ⟨(some 37), (.iaddr 16 (.t 35) (.t 36)), some (33, false), none⟩,
      ⟨(some 38), (.faddr 10 (.t 37)), some (33, false), none⟩,
      ⟨(some 39), (.faddr 0 (.t 38)), some (33, false), none⟩,
      ⟨(some 40), (.load none (.t 39)), some (33, false), none⟩,
      ⟨(some 41), (.bin .neq (.t 40) (.k (rI .i8 0))), some (33, false), none⟩,
      ⟨(some 42), (.pick (.t 33) (.k (rB true)) (.t 41)), some (24, true), none⟩,
      ⟨(some 43), (.pick (.t 24) (.t 42) (.k (rB false))), some (16, false), none⟩,
      ⟨(some 44), (.pick (.t 16) (.k (rB true)) (.t 43)), none, none⟩,
      ⟨(some 3), (.move (.t 44)), none, none⟩]))
   (.region [] [] [0, 1, 7, 4, 12, 3, 2] [
     ⟨(some 13), (.move (.t 4)), none, none⟩,
     ⟨(some 14), (.bin .add (.t 13) (.k (rI .i64 1))), none, none⟩,
     ⟨(some 4), (.move (.t 14)), none, none⟩])))

/-- pedigree/pedigreeref07.Makes -/
def ic2029 : IC :=
 (.seq
  (.region [1] [] [0, 1, 7, 4, 12, 3, 2] [
    ⟨(some 1), (.box 29 (.t 0)), none, none⟩,
    ⟨(some 2), (.move (.k (rB false))), none, none⟩])
  (.seq
   (.seq
    (.region [] [] [0, 1, 7, 4, 12, 3, 2] [
      ⟨(some 5), (.load (some 3) (.t 1)), none, none⟩,
      ⟨(some 6), (.callp (.k (rF 27)) [(.t 5)]), none, none⟩,
      ⟨(some 7), (.bin .neq (.t 6) (.k (rI .i64 0))), none, none⟩])
    (.cond (.t 7)
     (.seq
      (.region [] [] [0, 1, 7, 4, 12, 3, 2] [
        ⟨(some 2), (.move (.k (rB false))), none, none⟩])
      .ret)
     .skip))
   (.seq
    (.region [] [] [0, 1, 7, 4, 12, 3, 2] [
      ⟨(some 3), (.move (.k (rB false))), none, none⟩])
    (.seq
     (.seq
      (.region [] [] [0, 1, 7, 4, 12, 3, 2] [
        ⟨(some 4), (.move (.k (rI .i64 0))), none, none⟩])
      (.block 0
       (.loop ic2029l0)))
     (.seq
      (.region [] [] [0, 1, 7, 4, 12, 3, 2] [
        ⟨(some 45), (.move (.t 3)), none, none⟩,
        ⟨(some 46), (.move (.t 45)), none, none⟩,
        ⟨(some 47), (.faddr 1 (.t 1)), some (46, true), none⟩,
        ⟨(some 48), (.load none (.t 47)), some (46, true), none⟩,
        ⟨(some 49), (.build [(.c (.v (.string (bs [])))), .nil, .nil] [(1, 1, (.t 48))]), some (46, true), none⟩,
        ⟨(some 50), (.callp (.k (rF 48)) [(.t 49)]), some (46, true), none⟩,
        ⟨(some 51), (.faddr 2 (.t 1)), some (46, true), none⟩,
        ⟨(some 52), (.load none (.t 51)), some (46, true), none⟩,
        ⟨(some 53), (.call (.k (rF 65)) [(.t 52)]), some (46, true), none⟩,
        ⟨(some 54), (.callp (.k (rF 66)) [(.t 50), (.t 53)]), some (46, true), none⟩,
        ⟨(some 55), (.un .not (.t 54)), some (46, true), none⟩,
        ⟨(some 56), (.pick (.t 46) (.t 55) (.k (rB false))), none, none⟩,
        ⟨(some 2), (.move (.t 56)), none, none⟩])
      .ret)))))
def ir2029 : List IRes := [.tmp 2]
theorem ie2029 : cmpFunc Go.Proofs.Tryz.prog ⟨[(53, none)], []⟩ Go.Proofs.Tryz.f29 [0, 1, 7, 4, 12, 3, 2] = some ic2029 := by kernel_rfl
theorem ig2029 : cmpRes Go.Proofs.Tryz.prog Go.Proofs.Tryz.f29.results.toList = some ir2029 := by kernel_rfl

end Go.Proofs.YtiomojlcnemnhaaGreatDoor

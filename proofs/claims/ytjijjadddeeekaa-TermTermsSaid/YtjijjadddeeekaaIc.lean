/- The functions of the term law, as the small language has them. -/
import Derived.Test.YtjijjadddeeekaaFxW
import Derived.Test.YtjijjadddeeekaaChecked
import Derived.KernelRfl
namespace Go.Proofs.Ytjijjadddeeekaa
open Go.Fx

/-- pedigree/pedigreelaw04.TermTerms -/
def ic3 : IC :=
 (.seq
  (.region [1] [0, 1, 2] [
    ⟨(some 1), (.box 27 (.t 0)), none⟩,
    ⟨(some 2), (.move (.k (rB false))), none⟩])
  (.seq
   (.region [] [0, 1, 2] [
     ⟨(some 3), (.load (some 4) (.t 1)), none⟩,
     ⟨(some 4), (.call 4 [(.t 3)]), none⟩,
     ⟨(some 5), (.load (some 4) (.t 1)), none⟩,
     ⟨(some 6), (.call 5 [(.t 5)]), none⟩,
     ⟨(some 7), (.bin .eql (.t 4) (.t 6)), none⟩,
     ⟨(some 2), (.move (.t 7)), none⟩])
   .ret))
def ir3 : List IRes := [.tmp 2]
theorem ie3 : Go.Proofs.Try.f3.body.bind (cmpCode Go.Proofs.Try.prog 8 [0, 1, 2]) = some ic3 := by kernel_rfl
theorem ig3 : cmpRes Go.Proofs.Try.prog Go.Proofs.Try.f3.results.toList = some ir3 := by kernel_rfl


/-- pedigree/term.CheckTerm -/
def ic4 : IC :=
 (.seq
  (.region [1] [0, 1, 5, 2] [
    ⟨(some 1), (.box 27 (.t 0)), none⟩,
    ⟨(some 2), (.move (.k (rI .i64 0))), none⟩])
  (.seq
   (.seq
    (.region [] [0, 1, 5, 2] [
      ⟨(some 3), (.faddr 0 (.t 1)), none⟩,
      ⟨(some 4), (.load none (.t 3)), none⟩,
      ⟨(some 5), (.bin .eql (.t 4) (.k (rS (bs [])))), none⟩])
    (.cond (.t 5)
     (.seq
      (.region [] [0, 1, 5, 2] [
        ⟨(some 6), (.faddr 1 (.t 1)), none⟩,
        ⟨(some 7), (.load (some 3) (.t 6)), none⟩,
        ⟨(some 8), (.call 7 [(.t 7)]), none⟩,
        ⟨(some 9), (.bin .eql (.t 8) (.k (rI .i64 0))), none⟩,
        ⟨(some 10), (.call 6 [(.t 9)]), none⟩,
        ⟨(some 2), (.move (.t 10)), none⟩])
      .ret)
     .skip))
   (.seq
    (.region [] [0, 1, 5, 2] [
      ⟨(some 11), (.faddr 1 (.t 1)), none⟩,
      ⟨(some 12), (.load (some 3) (.t 11)), none⟩,
      ⟨(some 13), (.build [(.c (.v (.int .i8 0))), (.c (.v (.int .i64 0))), (.c (.v (.string (bs []))))] []), none⟩,
      ⟨(some 14), (.eqs false [.i .i8, .i .i64, .s] (.t 12) (.t 13)), none⟩,
      ⟨(some 15), (.move (.t 14)), none⟩,
      ⟨(some 16), (.faddr 0 (.t 1)), some (15, true)⟩,
      ⟨(some 17), (.load none (.t 16)), some (15, true)⟩,
      ⟨(some 18), (.bin .eql (.t 17) (.k (rS (bs [95])))), some (15, true)⟩,
      ⟨(some 19), (.move (.t 18)), some (15, true)⟩,
      ⟨(some 20), (.faddr 0 (.t 1)), some (19, false)⟩,
      ⟨(some 21), (.load none (.t 20)), some (19, false)⟩,
      ⟨(some 22), (.call 8 [(.t 21), (.k (rI .u8 65)), (.k (rI .u8 90))]), some (19, false)⟩,
      ⟨(some 23), (.pick (.t 19) (.k (rB true)) (.t 22)), some (15, true)⟩,
      ⟨(some 24), (.pick (.t 15) (.t 23) (.k (rB false))), none⟩,
      ⟨(some 25), (.call 6 [(.t 24)]), none⟩,
      ⟨(some 2), (.move (.t 25)), none⟩])
    .ret)))
def ir4 : List IRes := [.tmp 2]
theorem ie4 : Go.Proofs.Try.f4.body.bind (cmpCode Go.Proofs.Try.prog 26 [0, 1, 5, 2]) = some ic4 := by kernel_rfl
theorem ig4 : cmpRes Go.Proofs.Try.prog Go.Proofs.Try.f4.results.toList = some ir4 := by kernel_rfl


/-- pedigree/pedigreeref04.CheckTerm -/
def ic5 : IC :=
 (.seq
  (.region [1] [0, 1, 2] [
    ⟨(some 1), (.box 27 (.t 0)), none⟩,
    ⟨(some 2), (.move (.k (rI .i64 0))), none⟩])
  (.seq
   (.region [] [0, 1, 2] [
     ⟨(some 3), (.load (some 4) (.t 1)), none⟩,
     ⟨(some 4), (.call 10 [(.t 3)]), none⟩,
     ⟨(some 5), (.call 9 [(.t 4)]), none⟩,
     ⟨(some 2), (.move (.t 5)), none⟩])
   .ret))
def ir5 : List IRes := [.tmp 2]
theorem ie5 : Go.Proofs.Try.f5.body.bind (cmpCode Go.Proofs.Try.prog 6 [0, 1, 2]) = some ic5 := by kernel_rfl
theorem ig5 : cmpRes Go.Proofs.Try.prog Go.Proofs.Try.f5.results.toList = some ir5 := by kernel_rfl


/-- pedigree/term.code -/
def ic6 : IC :=
 (.seq
  (.region [] [0, 3, 2] [
    ⟨(some 2), (.move (.k (rI .i64 0))), none⟩])
  (.seq
   (.seq
    (.region [] [0, 3, 2] [
      ⟨(some 3), (.move (.t 0)), none⟩])
    (.cond (.t 3)
     (.seq
      (.region [] [0, 3, 2] [
        ⟨(some 2), (.move (.k (rI .i64 0))), none⟩])
      .ret)
     .skip))
   (.seq
    (.region [] [0, 3, 2] [
      ⟨(some 2), (.move (.k (rI .i64 40))), none⟩])
    .ret)))
def ir6 : List IRes := [.tmp 2]
theorem ie6 : Go.Proofs.Try.f6.body.bind (cmpCode Go.Proofs.Try.prog 4 [0, 3, 2]) = some ic6 := by kernel_rfl
theorem ig6 : cmpRes Go.Proofs.Try.prog Go.Proofs.Try.f6.results.toList = some ir6 := by kernel_rfl


/-- pedigree/value.Check -/
def ic7 : IC :=
 (.seq
  (.region [1] [0, 1, 4, 5, 9, 10, 20, 2] [
    ⟨(some 1), (.box 25 (.t 0)), none⟩,
    ⟨(some 2), (.move (.k (rI .i64 0))), none⟩])
  (.seq
   (.seq
    (.region [] [0, 1, 4, 5, 9, 10, 20, 2] [
      ⟨(some 3), (.faddr 0 (.t 1)), none⟩,
      ⟨(some 4), (.load none (.t 3)), none⟩])
    (.block 0
     (.seq
      (.region [] [0, 1, 4, 5, 9, 10, 20, 2] [
        ⟨(some 6), (.bin .eql (.t 4) (.k (rI .i8 1))), none⟩,
        ⟨(some 5), (.move (.t 6)), none⟩])
      (.cond (.t 5)
       (.seq
        (.region [] [0, 1, 4, 5, 9, 10, 20, 2] [
          ⟨(some 7), (.faddr 2 (.t 1)), none⟩,
          ⟨(some 8), (.load none (.t 7)), none⟩,
          ⟨(some 9), (.bin .eql (.t 8) (.k (rS (bs [])))), none⟩])
        (.cond (.t 9)
         (.seq
          (.region [] [0, 1, 4, 5, 9, 10, 20, 2] [
            ⟨(some 2), (.move (.k (rI .i64 0))), none⟩])
          .ret)
         .skip))
       (.seq
        (.region [] [0, 1, 4, 5, 9, 10, 20, 2] [
          ⟨(some 11), (.bin .eql (.t 4) (.k (rI .i8 2))), none⟩,
          ⟨(some 10), (.move (.t 11)), none⟩])
        (.cond (.t 10)
         (.seq
          (.region [] [0, 1, 4, 5, 9, 10, 20, 2] [
            ⟨(some 12), (.faddr 1 (.t 1)), none⟩,
            ⟨(some 13), (.load none (.t 12)), none⟩,
            ⟨(some 14), (.bin .eql (.t 13) (.k (rI .i64 0))), none⟩,
            ⟨(some 15), (.move (.t 14)), none⟩,
            ⟨(some 16), (.faddr 2 (.t 1)), some (15, true)⟩,
            ⟨(some 17), (.load none (.t 16)), some (15, true)⟩,
            ⟨(some 18), (.slen (.t 17)), some (15, true)⟩,
            ⟨(some 19), (.bin .leq (.t 18) (.k (rI .i64 200))), some (15, true)⟩,
            ⟨(some 20), (.pick (.t 15) (.t 19) (.k (rB false))), none⟩])
          (.cond (.t 20)
           (.seq
            (.region [] [0, 1, 4, 5, 9, 10, 20, 2] [
              ⟨(some 2), (.move (.k (rI .i64 0))), none⟩])
            .ret)
           .skip))
         .skip))))))
   (.seq
    (.region [] [0, 1, 4, 5, 9, 10, 20, 2] [
      ⟨(some 2), (.move (.k (rI .i64 10))), none⟩])
    .ret)))
def ir7 : List IRes := [.tmp 2]
theorem ie7 : Go.Proofs.Try.f7.body.bind (cmpCode Go.Proofs.Try.prog 21 [0, 1, 4, 5, 9, 10, 20, 2]) = some ic7 := by kernel_rfl
theorem ig7 : cmpRes Go.Proofs.Try.prog Go.Proofs.Try.f7.results.toList = some ir7 := by kernel_rfl

abbrev ks8 (t0 t1 t2 t28 t32 t31 t33 t30 t8 t61 t6 : T) (O : List (Nat × Box)) (U : List (Nat × Tok)) : S := st [(0, t0), (1, t1), (2, t2), (28, t28), (32, t32), (31, t31), (33, t33), (30, t30), (8, t8), (61, t61), (6, t6)] O U
def ic8l0 : IC :=
 (.seq
  (.region [] [0, 1, 2, 28, 32, 31, 33, 30, 8, 61, 6] [
    ⟨(some 33), (.bin .lss (.t 32) (.t 31)), none⟩])
  (.seq
   (.cond (.t 33)
    .skip
    (.exit 0))
   (.seq
    (.block 1
     (.seq
      (.region [] [0, 1, 2, 28, 32, 31, 33, 30, 8, 61, 6] [
        ⟨(some 34), (.iaddr 1 (.t 30) (.t 32)), none⟩,
        ⟨(some 35), (.load none (.t 34)), none⟩,
        ⟨(some 8), (.move (.t 35)), none⟩])
      (.seq
       (.region [] [0, 1, 2, 28, 32, 31, 33, 30, 8, 61, 6] [
         ⟨(some 36), (.move (.t 8)), none⟩,
         ⟨(some 37), (.bin .lss (.t 36) (.k (rI .u8 97))), none⟩,
         ⟨(some 38), (.move (.t 37)), none⟩,
         ⟨(some 39), (.move (.t 8)), some (38, false)⟩,
         ⟨(some 40), (.bin .gtr (.t 39) (.k (rI .u8 122))), some (38, false)⟩,
         ⟨(some 41), (.pick (.t 38) (.k (rB true)) (.t 40)), none⟩,
         ⟨(some 42), (.move (.t 41)), none⟩,
         ⟨(some 43), (.move (.t 8)), some (42, true)⟩,
         ⟨(some 44), (.bin .lss (.t 43) (.k (rI .u8 65))), some (42, true)⟩,
         ⟨(some 45), (.move (.t 44)), some (42, true)⟩,
         ⟨(some 46), (.move (.t 8)), some (45, false)⟩,
         ⟨(some 47), (.bin .gtr (.t 46) (.k (rI .u8 90))), some (45, false)⟩,
         ⟨(some 48), (.pick (.t 45) (.k (rB true)) (.t 47)), some (42, true)⟩,
         ⟨(some 49), (.pick (.t 42) (.t 48) (.k (rB false))), none⟩,
         ⟨(some 50), (.move (.t 49)), none⟩,
         ⟨(some 51), (.move (.t 8)), some (50, true)⟩,
         ⟨(some 52), (.bin .lss (.t 51) (.k (rI .u8 48))), some (50, true)⟩,
         ⟨(some 53), (.move (.t 52)), some (50, true)⟩,
         ⟨(some 54), (.move (.t 8)), some (53, false)⟩,
         ⟨(some 55), (.bin .gtr (.t 54) (.k (rI .u8 57))), some (53, false)⟩,
         ⟨(some 56), (.pick (.t 53) (.k (rB true)) (.t 55)), some (50, true)⟩,
         ⟨(some 57), (.pick (.t 50) (.t 56) (.k (rB false))), none⟩,
         ⟨(some 58), (.move (.t 57)), none⟩,
         ⟨(some 59), (.move (.t 8)), some (58, true)⟩,
         ⟨(some 60), (.bin .neq (.t 59) (.k (rI .u8 95))), some (58, true)⟩,
         ⟨(some 61), (.pick (.t 58) (.t 60) (.k (rB false))), none⟩])
       (.cond (.t 61)
        (.seq
         (.region [] [0, 1, 2, 28, 32, 31, 33, 30, 8, 61, 6] [
           ⟨(some 6), (.move (.k (rB false))), none⟩])
         .ret)
        .skip))))
    (.region [] [0, 1, 2, 28, 32, 31, 33, 30, 8, 61, 6] [
      ⟨(some 62), (.bin .add (.t 32) (.k (rI .i64 1))), none⟩,
      ⟨(some 32), (.move (.t 62)), none⟩]))))

/-- pedigree/term.word -/
def ic8 : IC :=
 (.seq
  (.region [] [0, 1, 2, 28, 32, 31, 33, 30, 8, 61, 6] [
    ⟨(some 6), (.move (.k (rB false))), none⟩])
  (.seq
   (.seq
    (.region [] [0, 1, 2, 28, 32, 31, 33, 30, 8, 61, 6] [
      ⟨(some 9), (.move (.t 0)), none⟩,
      ⟨(some 10), (.slen (.t 9)), none⟩,
      ⟨(some 11), (.bin .eql (.t 10) (.k (rI .i64 0))), none⟩,
      ⟨(some 12), (.move (.t 11)), none⟩,
      ⟨(some 13), (.move (.t 0)), some (12, false)⟩,
      ⟨(some 14), (.slen (.t 13)), some (12, false)⟩,
      ⟨(some 15), (.bin .gtr (.t 14) (.k (rI .i64 120))), some (12, false)⟩,
      ⟨(some 16), (.pick (.t 12) (.k (rB true)) (.t 15)), none⟩,
      ⟨(some 17), (.move (.t 16)), none⟩,
      ⟨(some 18), (.move (.t 0)), some (17, false)⟩,
      ⟨(some 19), (.sindex (.t 18) (.k (rI .i64 0))), some (17, false)⟩,
      ⟨(some 20), (.move (.t 1)), some (17, false)⟩,
      ⟨(some 21), (.bin .lss (.t 19) (.t 20)), some (17, false)⟩,
      ⟨(some 22), (.pick (.t 17) (.k (rB true)) (.t 21)), none⟩,
      ⟨(some 23), (.move (.t 22)), none⟩,
      ⟨(some 24), (.move (.t 0)), some (23, false)⟩,
      ⟨(some 25), (.sindex (.t 24) (.k (rI .i64 0))), some (23, false)⟩,
      ⟨(some 26), (.move (.t 2)), some (23, false)⟩,
      ⟨(some 27), (.bin .gtr (.t 25) (.t 26)), some (23, false)⟩,
      ⟨(some 28), (.pick (.t 23) (.k (rB true)) (.t 27)), none⟩])
    (.cond (.t 28)
     (.seq
      (.region [] [0, 1, 2, 28, 32, 31, 33, 30, 8, 61, 6] [
        ⟨(some 6), (.move (.k (rB false))), none⟩])
      .ret)
     .skip))
   (.seq
    (.seq
     (.region [] [0, 1, 2, 28, 32, 31, 33, 30, 8, 61, 6] [
       ⟨(some 29), (.move (.t 0)), none⟩,
       ⟨(some 30), (.bytes (.t 29)), none⟩,
       ⟨(some 31), (.len (.t 30)), none⟩,
       ⟨(some 32), (.move (.k (rI .i64 0))), none⟩])
     (.block 0
      (.loop ic8l0)))
    (.seq
     (.region [] [0, 1, 2, 28, 32, 31, 33, 30, 8, 61, 6] [
       ⟨(some 6), (.move (.k (rB true))), none⟩])
     .ret))))
def ir8 : List IRes := [.tmp 6]
theorem ie8 : Go.Proofs.Try.f8.body.bind (cmpCode Go.Proofs.Try.prog 63 [0, 1, 2, 28, 32, 31, 33, 30, 8, 61, 6]) = some ic8 := by kernel_rfl
theorem ig8 : cmpRes Go.Proofs.Try.prog Go.Proofs.Try.f8.results.toList = some ir8 := by kernel_rfl


/-- pedigree/pedigreeref04.said -/
def ic9 : IC :=
 (.seq
  (.region [] [0, 3, 2] [
    ⟨(some 2), (.move (.k (rI .i64 0))), none⟩])
  (.seq
   (.seq
    (.region [] [0, 3, 2] [
      ⟨(some 3), (.move (.t 0)), none⟩])
    (.cond (.t 3)
     (.seq
      (.region [] [0, 3, 2] [
        ⟨(some 2), (.move (.k (rI .i64 0))), none⟩])
      .ret)
     .skip))
   (.seq
    (.region [] [0, 3, 2] [
      ⟨(some 2), (.move (.k (rI .i64 40))), none⟩])
    .ret)))
def ir9 : List IRes := [.tmp 2]
theorem ie9 : Go.Proofs.Try.f9.body.bind (cmpCode Go.Proofs.Try.prog 4 [0, 3, 2]) = some ic9 := by kernel_rfl
theorem ig9 : cmpRes Go.Proofs.Try.prog Go.Proofs.Try.f9.results.toList = some ir9 := by kernel_rfl


/-- pedigree/pedigreeref04.term -/
def ic10 : IC :=
 (.seq
  (.region [1] [0, 1, 6, 7, 13, 3, 2] [
    ⟨(some 1), (.box 27 (.t 0)), none⟩,
    ⟨(some 2), (.move (.k (rB false))), none⟩])
  (.seq
   (.region [3] [0, 1, 6, 7, 13, 3, 2] [
     ⟨(some 4), (.build [(.c (.v (.int .i8 0))), (.c (.v (.int .i64 0))), (.c (.v (.string (bs []))))] []), none⟩,
     ⟨(some 3), (.zero 25 [(.c (.v (.int .i8 0))), (.c (.v (.int .i64 0))), (.c (.v (.string (bs []))))]), none⟩,
     ⟨none, (.store (some 3) (.t 3) (.t 4)), none⟩])
   (.seq
    (.seq
     (.region [] [0, 1, 6, 7, 13, 3, 2] [
       ⟨(some 5), (.faddr 0 (.t 1)), none⟩,
       ⟨(some 6), (.load none (.t 5)), none⟩])
     (.block 0
      (.seq
       (.region [] [0, 1, 6, 7, 13, 3, 2] [
         ⟨(some 8), (.bin .eql (.t 6) (.k (rS (bs [])))), none⟩,
         ⟨(some 7), (.move (.t 8)), none⟩])
       (.cond (.t 7)
        (.seq
         (.region [] [0, 1, 6, 7, 13, 3, 2] [
           ⟨(some 9), (.faddr 1 (.t 1)), none⟩,
           ⟨(some 10), (.load (some 3) (.t 9)), none⟩,
           ⟨(some 11), (.call 11 [(.t 10)]), none⟩,
           ⟨(some 12), (.bin .eql (.t 11) (.k (rI .i64 0))), none⟩,
           ⟨(some 2), (.move (.t 12)), none⟩])
         .ret)
        (.seq
         (.region [] [0, 1, 6, 7, 13, 3, 2] [
           ⟨(some 14), (.bin .eql (.t 6) (.k (rS (bs [95])))), none⟩,
           ⟨(some 13), (.move (.t 14)), none⟩])
         (.cond (.t 13)
          (.seq
           (.region [] [0, 1, 6, 7, 13, 3, 2] [
             ⟨(some 15), (.faddr 1 (.t 1)), none⟩,
             ⟨(some 16), (.load (some 3) (.t 15)), none⟩,
             ⟨(some 17), (.load (some 3) (.t 3)), none⟩,
             ⟨(some 18), (.eqs false [.i .i8, .i .i64, .s] (.t 16) (.t 17)), none⟩,
             ⟨(some 2), (.move (.t 18)), none⟩])
           .ret)
          .skip))))))
    (.seq
     (.region [] [0, 1, 6, 7, 13, 3, 2] [
       ⟨(some 19), (.faddr 0 (.t 1)), none⟩,
       ⟨(some 20), (.load none (.t 19)), none⟩,
       ⟨(some 21), (.call 12 [(.t 20)]), none⟩,
       ⟨(some 22), (.move (.t 21)), none⟩,
       ⟨(some 23), (.faddr 1 (.t 1)), some (22, true)⟩,
       ⟨(some 24), (.load (some 3) (.t 23)), some (22, true)⟩,
       ⟨(some 25), (.load (some 3) (.t 3)), some (22, true)⟩,
       ⟨(some 26), (.eqs false [.i .i8, .i .i64, .s] (.t 24) (.t 25)), some (22, true)⟩,
       ⟨(some 27), (.pick (.t 22) (.t 26) (.k (rB false))), none⟩,
       ⟨(some 2), (.move (.t 27)), none⟩])
     .ret))))
def ir10 : List IRes := [.tmp 2]
theorem ie10 : Go.Proofs.Try.f10.body.bind (cmpCode Go.Proofs.Try.prog 28 [0, 1, 6, 7, 13, 3, 2]) = some ic10 := by kernel_rfl
theorem ig10 : cmpRes Go.Proofs.Try.prog Go.Proofs.Try.f10.results.toList = some ir10 := by kernel_rfl


/-- pedigree/pedigreeref01.Check -/
def ic11 : IC :=
 (.seq
  (.region [1] [0, 1, 26, 2] [
    ⟨(some 1), (.box 25 (.t 0)), none⟩,
    ⟨(some 2), (.move (.k (rI .i64 0))), none⟩])
  (.seq
   (.seq
    (.region [] [0, 1, 26, 2] [
      ⟨(some 3), (.faddr 0 (.t 1)), none⟩,
      ⟨(some 4), (.load none (.t 3)), none⟩,
      ⟨(some 5), (.bin .eql (.t 4) (.k (rI .i8 1))), none⟩,
      ⟨(some 6), (.move (.t 5)), none⟩,
      ⟨(some 7), (.faddr 2 (.t 1)), some (6, true)⟩,
      ⟨(some 8), (.load none (.t 7)), some (6, true)⟩,
      ⟨(some 9), (.bin .eql (.t 8) (.k (rS (bs [])))), some (6, true)⟩,
      ⟨(some 10), (.pick (.t 6) (.t 9) (.k (rB false))), none⟩,
      ⟨(some 11), (.move (.t 10)), none⟩,
      ⟨(some 12), (.faddr 0 (.t 1)), some (11, false)⟩,
      ⟨(some 13), (.load none (.t 12)), some (11, false)⟩,
      ⟨(some 14), (.bin .eql (.t 13) (.k (rI .i8 2))), some (11, false)⟩,
      ⟨(some 15), (.move (.t 14)), some (11, false)⟩,
      ⟨(some 16), (.faddr 1 (.t 1)), some (15, true)⟩,
      ⟨(some 17), (.load none (.t 16)), some (15, true)⟩,
      ⟨(some 18), (.bin .eql (.t 17) (.k (rI .i64 0))), some (15, true)⟩,
      ⟨(some 19), (.pick (.t 15) (.t 18) (.k (rB false))), some (11, false)⟩,
      ⟨(some 20), (.move (.t 19)), some (11, false)⟩,
      ⟨(some 21), (.faddr 2 (.t 1)), some (20, true)⟩,
      ⟨(some 22), (.load none (.t 21)), some (20, true)⟩,
      ⟨(some 23), (.slen (.t 22)), some (20, true)⟩,
      ⟨(some 24), (.bin .leq (.t 23) (.k (rI .i64 200))), some (20, true)⟩,
      ⟨(some 25), (.pick (.t 20) (.t 24) (.k (rB false))), some (11, false)⟩,
      ⟨(some 26), (.pick (.t 11) (.k (rB true)) (.t 25)), none⟩])
    (.cond (.t 26)
     (.seq
      (.region [] [0, 1, 26, 2] [
        ⟨(some 2), (.move (.k (rI .i64 0))), none⟩])
      .ret)
     .skip))
   (.seq
    (.region [] [0, 1, 26, 2] [
      ⟨(some 2), (.move (.k (rI .i64 10))), none⟩])
    .ret)))
def ir11 : List IRes := [.tmp 2]
theorem ie11 : Go.Proofs.Try.f11.body.bind (cmpCode Go.Proofs.Try.prog 27 [0, 1, 26, 2]) = some ic11 := by kernel_rfl
theorem ig11 : cmpRes Go.Proofs.Try.prog Go.Proofs.Try.f11.results.toList = some ir11 := by kernel_rfl


/-- pedigree/pedigreeref01.Variable -/
def ic12 : IC :=
 (.seq
  (.region [] [0, 2] [
    ⟨(some 2), (.move (.k (rB false))), none⟩])
  (.seq
   (.region [] [0, 2] [
     ⟨(some 3), (.move (.t 0)), none⟩,
     ⟨(some 4), (.call 13 [(.t 3), (.k (rI .u8 65)), (.k (rI .u8 90))]), none⟩,
     ⟨(some 2), (.move (.t 4)), none⟩])
   .ret))
def ir12 : List IRes := [.tmp 2]
theorem ie12 : Go.Proofs.Try.f12.body.bind (cmpCode Go.Proofs.Try.prog 5 [0, 2]) = some ic12 := by kernel_rfl
theorem ig12 : cmpRes Go.Proofs.Try.prog Go.Proofs.Try.f12.results.toList = some ir12 := by kernel_rfl

abbrev ks13 (t0 t1 t2 t27 t7 t31 t38 t6 : T) (O : List (Nat × Box)) (U : List (Nat × Tok)) : S := st [(0, t0), (1, t1), (2, t2), (27, t27), (7, t7), (31, t31), (38, t38), (6, t6)] O U
def ic13l0 : IC :=
 (.seq
  (.seq
   (.region [] [0, 1, 2, 27, 7, 31, 38, 6] [
     ⟨(some 28), (.move (.t 7)), none⟩,
     ⟨(some 29), (.move (.t 0)), none⟩,
     ⟨(some 30), (.slen (.t 29)), none⟩,
     ⟨(some 31), (.bin .lss (.t 28) (.t 30)), none⟩])
   (.cond (.t 31)
    .skip
    (.exit 0)))
  (.seq
   (.block 1
    (.seq
     (.region [] [0, 1, 2, 27, 7, 31, 38, 6] [
       ⟨(some 34), (.move (.t 0)), none⟩,
       ⟨(some 35), (.move (.t 7)), none⟩,
       ⟨(some 36), (.sindex (.t 34) (.t 35)), none⟩,
       ⟨(some 37), (.call 14 [(.t 36)]), none⟩,
       ⟨(some 38), (.un .not (.t 37)), none⟩])
     (.cond (.t 38)
      (.seq
       (.region [] [0, 1, 2, 27, 7, 31, 38, 6] [
         ⟨(some 6), (.move (.k (rB false))), none⟩])
       .ret)
      .skip)))
   (.region [] [0, 1, 2, 27, 7, 31, 38, 6] [
     ⟨(some 32), (.move (.t 7)), none⟩,
     ⟨(some 33), (.bin .add (.t 32) (.k (rI .i64 1))), none⟩,
     ⟨(some 7), (.move (.t 33)), none⟩])))

/-- pedigree/pedigreeref01.written -/
def ic13 : IC :=
 (.seq
  (.region [] [0, 1, 2, 27, 7, 31, 38, 6] [
    ⟨(some 6), (.move (.k (rB false))), none⟩])
  (.seq
   (.seq
    (.region [] [0, 1, 2, 27, 7, 31, 38, 6] [
      ⟨(some 8), (.move (.t 0)), none⟩,
      ⟨(some 9), (.slen (.t 8)), none⟩,
      ⟨(some 10), (.bin .lss (.t 9) (.k (rI .i64 1))), none⟩,
      ⟨(some 11), (.move (.t 10)), none⟩,
      ⟨(some 12), (.move (.t 0)), some (11, false)⟩,
      ⟨(some 13), (.slen (.t 12)), some (11, false)⟩,
      ⟨(some 14), (.bin .gtr (.t 13) (.k (rI .i64 120))), some (11, false)⟩,
      ⟨(some 15), (.pick (.t 11) (.k (rB true)) (.t 14)), none⟩,
      ⟨(some 16), (.move (.t 15)), none⟩,
      ⟨(some 17), (.move (.t 0)), some (16, false)⟩,
      ⟨(some 18), (.sindex (.t 17) (.k (rI .i64 0))), some (16, false)⟩,
      ⟨(some 19), (.move (.t 1)), some (16, false)⟩,
      ⟨(some 20), (.bin .lss (.t 18) (.t 19)), some (16, false)⟩,
      ⟨(some 21), (.pick (.t 16) (.k (rB true)) (.t 20)), none⟩,
      ⟨(some 22), (.move (.t 21)), none⟩,
      ⟨(some 23), (.move (.t 0)), some (22, false)⟩,
      ⟨(some 24), (.sindex (.t 23) (.k (rI .i64 0))), some (22, false)⟩,
      ⟨(some 25), (.move (.t 2)), some (22, false)⟩,
      ⟨(some 26), (.bin .gtr (.t 24) (.t 25)), some (22, false)⟩,
      ⟨(some 27), (.pick (.t 22) (.k (rB true)) (.t 26)), none⟩])
    (.cond (.t 27)
     (.seq
      (.region [] [0, 1, 2, 27, 7, 31, 38, 6] [
        ⟨(some 6), (.move (.k (rB false))), none⟩])
      .ret)
     .skip))
   (.seq
    (.seq
     (.region [] [0, 1, 2, 27, 7, 31, 38, 6] [
       ⟨(some 7), (.move (.k (rI .i64 1))), none⟩])
     (.block 0
      (.loop ic13l0)))
    (.seq
     (.region [] [0, 1, 2, 27, 7, 31, 38, 6] [
       ⟨(some 6), (.move (.k (rB true))), none⟩])
     .ret))))
def ir13 : List IRes := [.tmp 6]
theorem ie13 : Go.Proofs.Try.f13.body.bind (cmpCode Go.Proofs.Try.prog 39 [0, 1, 2, 27, 7, 31, 38, 6]) = some ic13 := by kernel_rfl
theorem ig13 : cmpRes Go.Proofs.Try.prog Go.Proofs.Try.f13.results.toList = some ir13 := by kernel_rfl


/-- pedigree/pedigreeref01.letter -/
def ic14 : IC :=
 (.seq
  (.region [] [0, 2] [
    ⟨(some 2), (.move (.k (rB false))), none⟩])
  (.seq
   (.region [] [0, 2] [
     ⟨(some 3), (.move (.t 0)), none⟩,
     ⟨(some 4), (.bin .geq (.t 3) (.k (rI .u8 97))), none⟩,
     ⟨(some 5), (.move (.t 4)), none⟩,
     ⟨(some 6), (.move (.t 0)), some (5, true)⟩,
     ⟨(some 7), (.bin .leq (.t 6) (.k (rI .u8 122))), some (5, true)⟩,
     ⟨(some 8), (.pick (.t 5) (.t 7) (.k (rB false))), none⟩,
     ⟨(some 9), (.move (.t 8)), none⟩,
     ⟨(some 10), (.move (.t 0)), some (9, false)⟩,
     ⟨(some 11), (.bin .geq (.t 10) (.k (rI .u8 65))), some (9, false)⟩,
     ⟨(some 12), (.move (.t 11)), some (9, false)⟩,
     ⟨(some 13), (.move (.t 0)), some (12, true)⟩,
     ⟨(some 14), (.bin .leq (.t 13) (.k (rI .u8 90))), some (12, true)⟩,
     ⟨(some 15), (.pick (.t 12) (.t 14) (.k (rB false))), some (9, false)⟩,
     ⟨(some 16), (.pick (.t 9) (.k (rB true)) (.t 15)), none⟩,
     ⟨(some 17), (.move (.t 16)), none⟩,
     ⟨(some 18), (.move (.t 0)), some (17, false)⟩,
     ⟨(some 19), (.bin .geq (.t 18) (.k (rI .u8 48))), some (17, false)⟩,
     ⟨(some 20), (.move (.t 19)), some (17, false)⟩,
     ⟨(some 21), (.move (.t 0)), some (20, true)⟩,
     ⟨(some 22), (.bin .leq (.t 21) (.k (rI .u8 57))), some (20, true)⟩,
     ⟨(some 23), (.pick (.t 20) (.t 22) (.k (rB false))), some (17, false)⟩,
     ⟨(some 24), (.pick (.t 17) (.k (rB true)) (.t 23)), none⟩,
     ⟨(some 25), (.move (.t 24)), none⟩,
     ⟨(some 26), (.move (.t 0)), some (25, false)⟩,
     ⟨(some 27), (.bin .eql (.t 26) (.k (rI .u8 95))), some (25, false)⟩,
     ⟨(some 28), (.pick (.t 25) (.k (rB true)) (.t 27)), none⟩,
     ⟨(some 2), (.move (.t 28)), none⟩])
   .ret))
def ir14 : List IRes := [.tmp 2]
theorem ie14 : Go.Proofs.Try.f14.body.bind (cmpCode Go.Proofs.Try.prog 29 [0, 2]) = some ic14 := by kernel_rfl
theorem ig14 : cmpRes Go.Proofs.Try.prog Go.Proofs.Try.f14.results.toList = some ir14 := by kernel_rfl

end Go.Proofs.Ytjijjadddeeekaa

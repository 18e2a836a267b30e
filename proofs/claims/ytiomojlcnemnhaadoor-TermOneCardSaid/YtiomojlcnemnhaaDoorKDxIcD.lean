/- Functions of the seat, as the small language has them. -/
import Derived.Test.YtiomojlcnemnhaaDoorKFxWb
import Derived.Test.YtiomojlcnemnhaaDoorProg
import Derived.KernelRfl
namespace Go.Proofs.YtiomojlcnemnhaaDoor
open Go.Fx

/-- pedigree/term.CheckExpr -/
def ic94 : IC :=
 (.seq
 (.region [1] [] [0, 1, 2] [
 ⟨(some 1), (.box 47 (.t 0)), none, none⟩,
 ⟨(some 2), (.move (.k (rI .i64 0))), none, none⟩])
 (.seq
 (.region [] [] [0, 1, 2] [
 ⟨(some 3), (.load (some 6) (.t 1)), none, none⟩,
 ⟨(some 4), (.callp (.k (rF 158)) [(.t 3), (.k (rI .i64 8))]), none, none⟩,
 ⟨(some 5), (.callp (.k (rF 113)) [(.t 4)]), none, none⟩,
 ⟨(some 2), (.move (.t 5)), none, none⟩])
 .ret))
def ir94 : List IRes := [.tmp 2]
theorem ie94 : cmpFunc Go.Proofs.Tryd.prog ⟨[], []⟩ Go.Proofs.Tryd.f94 [0, 1, 2] = some ic94 := by kernel_rfl
theorem ig94 : cmpRes Go.Proofs.Tryd.prog Go.Proofs.Tryd.f94.results.toList = some ir94 := by kernel_rfl

/-- pedigree/term.deep -/
def ic158 : IC :=
 (.seq
 (.region [2, 3] [] [0, 1, 3, 6, 2, 9, 31, 4] [
 ⟨(some 2), (.box 47 (.t 0)), none, none⟩,
 ⟨(some 3), (.box 3 (.t 1)), none, none⟩,
 ⟨(some 4), (.move (.k (rB false))), none, none⟩])
 (.seq
 (.seq
 (.region [] [] [0, 1, 3, 6, 2, 9, 31, 4] [
 ⟨(some 5), (.load none (.t 3)), none, none⟩,
 ⟨(some 6), (.bin .eql (.t 5) (.k (rI .i64 0))), none, none⟩])
 (.cond (.t 6)
 (.seq
 (.region [] [] [0, 1, 3, 6, 2, 9, 31, 4] [
 ⟨(some 4), (.move (.k (rB false))), none, none⟩])
 .ret)
 .skip))
 (.seq
 (.seq
 (.region [] [] [0, 1, 3, 6, 2, 9, 31, 4] [
 ⟨(some 7), (.faddr 0 (.t 2)), none, none⟩,
 ⟨(some 8), (.load none (.t 7)), none, none⟩,
 ⟨(some 9), (.bin .eql (.t 8) (.k (rI .i8 0))), none, none⟩])
 (.cond (.t 9)
 (.seq
 (.region [] [] [0, 1, 3, 6, 2, 9, 31, 4] [
 ⟨(some 10), (.faddr 5 (.t 2)), none, none⟩,
 ⟨(some 11), (.load none (.t 10)), none, none⟩,
 ⟨(some 12), (.len (.t 11)), none, none⟩,
 ⟨(some 13), (.bin .eql (.t 12) (.k (rI .i64 0))), none, none⟩,
 ⟨(some 14), (.move (.t 13)), none, none⟩,
 ⟨(some 15), (.faddr 1 (.t 2)), some (14, true), none⟩,
 ⟨(some 16), (.load (some 4) (.t 15)), some (14, true), none⟩,
 ⟨(some 17), (.callp (.k (rF 183)) [(.t 16)]), some (14, true), none⟩,
 ⟨(some 18), (.pick (.t 14) (.t 17) (.k (rB false))), none, none⟩,
 ⟨(some 4), (.move (.t 18)), none, none⟩])
 .ret)
 .skip))
 (.seq
 (.seq
 (.region [] [] [0, 1, 3, 6, 2, 9, 31, 4] [
 ⟨(some 19), (.faddr 1 (.t 2)), none, none⟩,
 ⟨(some 20), (.load (some 4) (.t 19)), none, none⟩,
 ⟨(some 21), (.callp (.k (rF 180)) [(.t 20)]), none, none⟩,
 ⟨(some 22), (.un .not (.t 21)), none, none⟩,
 ⟨(some 23), (.move (.t 22)), none, none⟩,
 ⟨(some 24), (.faddr 5 (.t 2)), some (23, false), none⟩,
 ⟨(some 25), (.load none (.t 24)), some (23, false), none⟩,
 ⟨(some 26), (.len (.t 25)), some (23, false), none⟩,
 ⟨(some 27), (.faddr 0 (.t 2)), some (23, false), none⟩,
 ⟨(some 28), (.load none (.t 27)), some (23, false), none⟩,
 ⟨(some 29), (.callp (.k (rF 204)) [(.t 28)]), some (23, false), none⟩,
 ⟨(some 30), (.bin .neq (.t 26) (.t 29)), some (23, false), none⟩,
 ⟨(some 31), (.pick (.t 23) (.k (rB true)) (.t 30)), none, none⟩])
 (.cond (.t 31)
 (.seq
 (.region [] [] [0, 1, 3, 6, 2, 9, 31, 4] [
 ⟨(some 4), (.move (.k (rB false))), none, none⟩])
 .ret)
 .skip))
 (.seq
 (.region [] [] [0, 1, 3, 6, 2, 9, 31, 4] [
 ⟨(some 32), (.faddr 5 (.t 2)), none, none⟩,
 ⟨(some 33), (.load none (.t 32)), none, none⟩,
 ⟨(some 34), (.clo 206 [] [(.t 3)]), none, none⟩,
 ⟨(some 35), (.call (.k (rF 205)) [(.t 33), (.t 34)]), none, none⟩,
 ⟨(some 36), (.un .not (.t 35)), none, none⟩,
 ⟨(some 4), (.move (.t 36)), none, none⟩])
 .ret)))))
def ir158 : List IRes := [.tmp 4]
theorem ie158 : cmpFunc Go.Proofs.Tryd.prog ⟨[(35, none)], []⟩ Go.Proofs.Tryd.f158 [0, 1, 3, 6, 2, 9, 31, 4] = some ic158 := by kernel_rfl
theorem ig158 : cmpRes Go.Proofs.Tryd.prog Go.Proofs.Tryd.f158.results.toList = some ir158 := by kernel_rfl


/-- pedigree/term.none -/
def ic180 : IC :=
 (.seq
 (.region [1] [] [0, 1, 2] [
 ⟨(some 1), (.box 41 (.t 0)), none, none⟩,
 ⟨(some 2), (.move (.k (rB false))), none, none⟩])
 (.seq
 (.region [] [] [0, 1, 2] [
 ⟨(some 3), (.load (some 4) (.t 1)), none, none⟩,
 ⟨(some 4), (.build [(.c (.v (.string (bs [])))), (.c (.v (.int .i8 0))), (.c (.v (.int .i64 0))), (.c (.v (.string (bs []))))] []), none, none⟩,
 ⟨(some 5), (.eqs false [.s, .i .i8, .i .i64, .s] (.t 3) (.t 4)), none, none⟩,
 ⟨(some 2), (.move (.t 5)), none, none⟩])
 .ret))
def ir180 : List IRes := [.tmp 2]
theorem ie180 : cmpFunc Go.Proofs.Tryd.prog ⟨[], []⟩ Go.Proofs.Tryd.f180 [0, 1, 2] = some ic180 := by kernel_rfl
theorem ig180 : cmpRes Go.Proofs.Tryd.prog Go.Proofs.Tryd.f180.results.toList = some ir180 := by kernel_rfl


/-- pedigree/term.solid -/
def ic183 : IC :=
 (.seq
 (.region [1] [] [0, 1, 2] [
 ⟨(some 1), (.box 41 (.t 0)), none, none⟩,
 ⟨(some 2), (.move (.k (rB false))), none, none⟩])
 (.seq
 (.region [] [] [0, 1, 2] [
 ⟨(some 3), (.faddr 0 (.t 1)), none, none⟩,
 ⟨(some 4), (.load none (.t 3)), none, none⟩,
 ⟨(some 5), (.bin .neq (.t 4) (.k (rS (bs [95])))), none, none⟩,
 ⟨(some 6), (.move (.t 5)), none, none⟩,
 ⟨(some 7), (.load (some 4) (.t 1)), some (6, true), none⟩,
 ⟨(some 8), (.callp (.k (rF 117)) [(.t 7)]), some (6, true), none⟩,
 ⟨(some 9), (.bin .eql (.t 8) (.k (rI .i64 0))), some (6, true), none⟩,
 ⟨(some 10), (.pick (.t 6) (.t 9) (.k (rB false))), none, none⟩,
 ⟨(some 2), (.move (.t 10)), none, none⟩])
 .ret))
def ir183 : List IRes := [.tmp 2]
theorem ie183 : cmpFunc Go.Proofs.Tryd.prog ⟨[], []⟩ Go.Proofs.Tryd.f183 [0, 1, 2] = some ic183 := by kernel_rfl
theorem ig183 : cmpRes Go.Proofs.Tryd.prog Go.Proofs.Tryd.f183.results.toList = some ir183 := by kernel_rfl


/-- pedigree/term.arity -/
def ic204 : IC :=
 (.seq
 (.region [] [] [0, 3, 4, 9, 2] [
 ⟨(some 2), (.move (.k (rI .i64 0))), none, none⟩])
 (.seq
 (.seq
 (.region [] [] [0, 3, 4, 9, 2] [
 ⟨(some 3), (.move (.t 0)), none, none⟩])
 (.block 0
 (.seq
 (.seq
 (.region [] [] [0, 3, 4, 9, 2] [
 ⟨(some 5), (.bin .eql (.t 3) (.k (rI .i8 1))), none, none⟩,
 ⟨(some 4), (.move (.t 5)), none, none⟩])
 (.cond (.t 4)
 .skip
 (.seq
 (.region [] [] [0, 3, 4, 9, 2] [
 ⟨(some 6), (.bin .eql (.t 3) (.k (rI .i8 8))), none, none⟩,
 ⟨(some 4), (.move (.t 6)), none, none⟩])
 (.cond (.t 4)
 .skip
 (.seq
 (.region [] [] [0, 3, 4, 9, 2] [
 ⟨(some 7), (.bin .eql (.t 3) (.k (rI .i8 9))), none, none⟩,
 ⟨(some 4), (.move (.t 7)), none, none⟩])
 (.cond (.t 4)
 .skip
 (.region [] [] [0, 3, 4, 9, 2] [
 ⟨(some 8), (.bin .eql (.t 3) (.k (rI .i8 10))), none, none⟩,
 ⟨(some 4), (.move (.t 8)), none, none⟩])))))))
 (.cond (.t 4)
 (.seq
 (.region [] [] [0, 3, 4, 9, 2] [
 ⟨(some 2), (.move (.k (rI .i64 1))), none, none⟩])
 .ret)
 (.seq
 (.seq
 (.region [] [] [0, 3, 4, 9, 2] [
 ⟨(some 10), (.bin .eql (.t 3) (.k (rI .i8 2))), none, none⟩,
 ⟨(some 9), (.move (.t 10)), none, none⟩])
 (.cond (.t 9)
 .skip
 (.seq
 (.region [] [] [0, 3, 4, 9, 2] [
 ⟨(some 11), (.bin .eql (.t 3) (.k (rI .i8 3))), none, none⟩,
 ⟨(some 9), (.move (.t 11)), none, none⟩])
 (.cond (.t 9)
 .skip
 (.seq
 (.region [] [] [0, 3, 4, 9, 2] [
 ⟨(some 12), (.bin .eql (.t 3) (.k (rI .i8 4))), none, none⟩,
 ⟨(some 9), (.move (.t 12)), none, none⟩])
 (.cond (.t 9)
 .skip
 (.seq
 (.region [] [] [0, 3, 4, 9, 2] [
 ⟨(some 13), (.bin .eql (.t 3) (.k (rI .i8 5))), none, none⟩,
 ⟨(some 9), (.move (.t 13)), none, none⟩])
 (.cond (.t 9)
 .skip
 (.seq
 (.region [] [] [0, 3, 4, 9, 2] [
 ⟨(some 14), (.bin .eql (.t 3) (.k (rI .i8 6))), none, none⟩,
 ⟨(some 9), (.move (.t 14)), none, none⟩])
 (.cond (.t 9)
 .skip
 (.region [] [] [0, 3, 4, 9, 2] [
 ⟨(some 15), (.bin .eql (.t 3) (.k (rI .i8 7))), none, none⟩,
 ⟨(some 9), (.move (.t 15)), none, none⟩])))))))))))
 (.cond (.t 9)
 (.seq
 (.region [] [] [0, 3, 4, 9, 2] [
 ⟨(some 2), (.move (.k (rI .i64 2))), none, none⟩])
 .ret)
 .skip))))))
 (.seq
 (.region [] [] [0, 3, 4, 9, 2] [
 ⟨(some 2), (.move (.k (rI .i64 (-1)))), none, none⟩])
 .ret)))
def ir204 : List IRes := [.tmp 2]
theorem ie204 : cmpFunc Go.Proofs.Tryd.prog ⟨[], []⟩ Go.Proofs.Tryd.f204 [0, 3, 4, 9, 2] = some ic204 := by kernel_rfl
theorem ig204 : cmpRes Go.Proofs.Tryd.prog Go.Proofs.Tryd.f204.results.toList = some ir204 := by kernel_rfl


/-- slices.ContainsFunc[[]pedigree/api.Expr,pedigree/api.Expr] -/
def ic205 : IC :=
 (.seq
 (.region [] [] [0, 1, 4] [
 ⟨(some 4), (.move (.k (rB false))), none, none⟩])
 (.seq
 (.region [] [] [0, 1, 4] [
 ⟨(some 5), (.move (.t 0)), none, none⟩,
 ⟨(some 6), (.move (.t 1)), none, none⟩,
 ⟨(some 7), (.call (.k (rF 223)) [(.t 5), (.t 6)]), none, none⟩,
 ⟨(some 8), (.bin .geq (.t 7) (.k (rI .i64 0))), none, none⟩,
 ⟨(some 4), (.move (.t 8)), none, none⟩])
 .ret))
def ir205 : List IRes := [.tmp 4]
theorem ie205 : cmpFunc Go.Proofs.Tryd.prog ⟨[(7, none)], []⟩ Go.Proofs.Tryd.f205 [0, 1, 4] = some ic205 := by kernel_rfl
theorem ig205 : cmpRes Go.Proofs.Tryd.prog Go.Proofs.Tryd.f205.results.toList = some ir205 := by kernel_rfl


/-- pedigree/term.deep$1 -/
def ic206 : IC :=
 (.seq
 (.region [2] [] [0, 2, 1, 3] [
 ⟨(some 2), (.box 47 (.t 0)), none, none⟩,
 ⟨(some 3), (.move (.k (rB false))), none, none⟩])
 (.seq
 (.region [] [] [0, 2, 1, 3] [
 ⟨(some 4), (.load (some 6) (.t 2)), none, none⟩,
 ⟨(some 5), (.load none (.t 1)), none, none⟩,
 ⟨(some 6), (.bin .sub (.t 5) (.k (rI .i64 1))), none, none⟩,
 ⟨(some 7), (.callp (.k (rF 158)) [(.t 4), (.t 6)]), none, none⟩,
 ⟨(some 8), (.un .not (.t 7)), none, none⟩,
 ⟨(some 3), (.move (.t 8)), none, none⟩])
 .ret))
def ir206 : List IRes := [.tmp 3]
theorem ie206 : cmpFunc Go.Proofs.Tryd.prog ⟨[], []⟩ Go.Proofs.Tryd.f206 [0, 2, 1, 3] = some ic206 := by kernel_rfl
theorem ig206 : cmpRes Go.Proofs.Tryd.prog Go.Proofs.Tryd.f206.results.toList = some ir206 := by kernel_rfl

abbrev ks223 (t0 t8 t7 t9 t1 t5 t16 t4 : T) (O : List (Nat × Box)) (U : List (Nat × Tok)) (H : FHp) : S := st [(0, t0), (8, t8), (7, t7), (9, t9), (1, t1), (5, t5), (16, t16), (4, t4)] O U H
def ic223l0 : IC :=
 (.seq
 (.region [] [] [0, 8, 7, 9, 1, 5, 16, 4] [
 ⟨(some 9), (.bin .lss (.t 8) (.t 7)), none, none⟩])
 (.seq
 (.cond (.t 9)
 .skip
 (.exit 0))
 (.seq
 (.block 1
 (.seq
 (.region [] [] [0, 8, 7, 9, 1, 5, 16, 4] [
 ⟨(some 10), (.move (.t 8)), none, none⟩,
 ⟨(some 5), (.move (.t 10)), none, none⟩])
 (.seq
 (.region [] [] [0, 8, 7, 9, 1, 5, 16, 4] [
 ⟨(some 11), (.move (.t 1)), none, none⟩,
 ⟨(some 12), (.move (.t 0)), none, none⟩,
 ⟨(some 13), (.move (.t 5)), none, none⟩,
 ⟨(some 14), (.iaddr 6 (.t 12) (.t 13)), none, none⟩,
 ⟨(some 15), (.load (some 6) (.t 14)), none, none⟩,
 ⟨(some 16), (.call (.t 11) [(.t 15)]), none, none⟩])
 (.cond (.t 16)
 (.seq
 (.region [] [] [0, 8, 7, 9, 1, 5, 16, 4] [
 ⟨(some 17), (.move (.t 5)), none, none⟩,
 ⟨(some 4), (.move (.t 17)), none, none⟩])
 .ret)
 .skip))))
 (.region [] [] [0, 8, 7, 9, 1, 5, 16, 4] [
 ⟨(some 18), (.bin .add (.t 8) (.k (rI .i64 1))), none, none⟩,
 ⟨(some 8), (.move (.t 18)), none, none⟩]))))

/-- slices.IndexFunc[[]pedigree/api.Expr,pedigree/api.Expr] -/
def ic223 : IC :=
 (.seq
 (.region [] [] [0, 8, 7, 9, 1, 5, 16, 4] [
 ⟨(some 4), (.move (.k (rI .i64 0))), none, none⟩])
 (.seq
 (.seq
 (.region [] [] [0, 8, 7, 9, 1, 5, 16, 4] [
 ⟨(some 6), (.move (.t 0)), none, none⟩,
 ⟨(some 7), (.len (.t 6)), none, none⟩,
 ⟨(some 8), (.move (.k (rI .i64 0))), none, none⟩])
 (.block 0
 (.loop ic223l0)))
 (.seq
 (.region [] [] [0, 8, 7, 9, 1, 5, 16, 4] [
 ⟨(some 4), (.move (.k (rI .i64 (-1)))), none, none⟩])
 .ret)))
def ir223 : List IRes := [.tmp 4]
theorem ie223 : cmpFunc Go.Proofs.Tryd.prog ⟨[(16, none)], []⟩ Go.Proofs.Tryd.f223 [0, 8, 7, 9, 1, 5, 16, 4] = some ic223 := by kernel_rfl
theorem ig223 : cmpRes Go.Proofs.Tryd.prog Go.Proofs.Tryd.f223.results.toList = some ir223 := by kernel_rfl

end Go.Proofs.YtiomojlcnemnhaaDoor

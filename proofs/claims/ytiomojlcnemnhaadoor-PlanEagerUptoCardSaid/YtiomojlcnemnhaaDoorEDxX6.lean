import Derived.Test.YtiomojlcnemnhaaDoorEFxWc
import Derived.Test.YtiomojlcnemnhaaDoorEDxX2
import Derived.Test.YtiomojlcnemnhaaDoorEFxZ
import Derived.Test.YtiomojlcnemnhaaDoorProg
import Derived.KernelRfl
import Derived.Test.YtiomojlcnemnhaaDoorEDxN3
namespace Go.Proofs.YtiomojlcnemnhaaDoor
open Go.Fx Go.RowKit Go.Ped
theorem take_all {α : Type} {n : Nat} {l : List α} (h : l.length = n) : l.take n = l := List.take_of_length_le (by omega)
@[simp] theorem tm_row0 (t : Tm) : t.row[0]? = some (cS (bs t.v)) := rfl
@[simp] theorem tm_row0' (t : Tm) (h : 0 < t.row.length) : t.row[0]'h = cS (bs t.v) := (List.getElem?_eq_some_iff.1 (tm_row0 t)).2
@[simp] theorem tm_row1 (t : Tm) : t.row[1]? = some (cI .i8 t.x.k) := rfl
@[simp] theorem tm_row1' (t : Tm) (h : 1 < t.row.length) : t.row[1]'h = cI .i8 t.x.k := (List.getElem?_eq_some_iff.1 (tm_row1 t)).2
@[simp] theorem tm_row2 (t : Tm) : t.row[2]? = some (cI .i64 t.x.n) := rfl
@[simp] theorem tm_row2' (t : Tm) (h : 2 < t.row.length) : t.row[2]'h = cI .i64 t.x.n := (List.getElem?_eq_some_iff.1 (tm_row2 t)).2
@[simp] theorem tm_row3 (t : Tm) : t.row[3]? = some (cS (bs t.x.s)) := rfl
@[simp] theorem tm_row3' (t : Tm) (h : 3 < t.row.length) : t.row[3]'h = cS (bs t.x.s) := (List.getElem?_eq_some_iff.1 (tm_row3 t)).2
@[simp] theorem tm_take (t : Tm) : (t.row.map A.c).take 4 = t.row.map A.c := rfl
@[simp] theorem tm_val (t : Tm) : ((t.row.map A.c).drop 1).take 3 = t.x.row.map A.c := rfl
@[simp] theorem tm_val' (t : Tm) : (t.row.map A.c).tail.take 3 = t.x.row.map A.c := rfl
@[simp] theorem ex_row0 (e : Ex) : e.row[0]? = some (cI .i8 e.op) := by rw [Ex.row_eq]; rfl
@[simp] theorem ex_row0' (e : Ex) (h : 0 < e.row.length) : e.row[0]'h = cI .i8 e.op := (List.getElem?_eq_some_iff.1 (ex_row0 e)).2
@[simp] theorem ex_row1 (e : Ex) : e.row[1]? = some (cS (bs e.t.v)) := by rw [Ex.row_eq]; rfl
@[simp] theorem ex_row1' (e : Ex) (h : 1 < e.row.length) : e.row[1]'h = cS (bs e.t.v) := (List.getElem?_eq_some_iff.1 (ex_row1 e)).2
@[simp] theorem ex_row2 (e : Ex) : e.row[2]? = some (cI .i8 e.t.x.k) := by rw [Ex.row_eq]; rfl
@[simp] theorem ex_row2' (e : Ex) (h : 2 < e.row.length) : e.row[2]'h = cI .i8 e.t.x.k := (List.getElem?_eq_some_iff.1 (ex_row2 e)).2
@[simp] theorem ex_row3 (e : Ex) : e.row[3]? = some (cI .i64 e.t.x.n) := by rw [Ex.row_eq]; rfl
@[simp] theorem ex_row3' (e : Ex) (h : 3 < e.row.length) : e.row[3]'h = cI .i64 e.t.x.n := (List.getElem?_eq_some_iff.1 (ex_row3 e)).2
@[simp] theorem ex_row4 (e : Ex) : e.row[4]? = some (cS (bs e.t.x.s)) := by rw [Ex.row_eq]; rfl
@[simp] theorem ex_row4' (e : Ex) (h : 4 < e.row.length) : e.row[4]'h = cS (bs e.t.x.s) := (List.getElem?_eq_some_iff.1 (ex_row4 e)).2
@[simp] theorem ex_row5 (e : Ex) : e.row[5]? = some (.sl (e.kids.map Ex.row) e.sp) := by rw [Ex.row_eq]; rfl
@[simp] theorem ex_row5' (e : Ex) (h : 5 < e.row.length) : e.row[5]'h = .sl (e.kids.map Ex.row) e.sp := (List.getElem?_eq_some_iff.1 (ex_row5 e)).2
@[simp] theorem ex_take (e : Ex) : (e.row.map A.c).take 6 = e.row.map A.c := take_all (by simp)
@[simp] theorem ex_term (e : Ex) : ((e.row.map A.c).drop 1).take 4 = e.t.row.map A.c := by rw [Ex.row_eq]; rfl
@[simp] theorem ex_term' (e : Ex) : (e.row.map A.c).tail.take 4 = e.t.row.map A.c := by rw [Ex.row_eq]; rfl
theorem lit_eq (x : Lit) : x.row = [cI .i8 x.kind, cS (bs x.p), .sl (x.l.map Tm.row) x.sp, cI .i8 x.rel] ++ x.left.row ++ x.right.row := rfl
@[simp] theorem lit_row0 (x : Lit) : x.row[0]? = some (cI .i8 x.kind) := rfl
@[simp] theorem lit_row0' (x : Lit) (h : 0 < x.row.length) : x.row[0]'h = cI .i8 x.kind := (List.getElem?_eq_some_iff.1 (lit_row0 x)).2
@[simp] theorem lit_row1 (x : Lit) : x.row[1]? = some (cS (bs x.p)) := rfl
@[simp] theorem lit_row1' (x : Lit) (h : 1 < x.row.length) : x.row[1]'h = cS (bs x.p) := (List.getElem?_eq_some_iff.1 (lit_row1 x)).2
@[simp] theorem lit_row2 (x : Lit) : x.row[2]? = some (.sl (x.l.map Tm.row) x.sp) := rfl
@[simp] theorem lit_row2' (x : Lit) (h : 2 < x.row.length) : x.row[2]'h = .sl (x.l.map Tm.row) x.sp := (List.getElem?_eq_some_iff.1 (lit_row2 x)).2
@[simp] theorem lit_row3 (x : Lit) : x.row[3]? = some (cI .i8 x.rel) := rfl
@[simp] theorem lit_row3' (x : Lit) (h : 3 < x.row.length) : x.row[3]'h = cI .i8 x.rel := (List.getElem?_eq_some_iff.1 (lit_row3 x)).2
theorem lit_leftAt (x : Lit) (i : Nat) (h : i < 6) : x.row[4 + i]? = x.left.row[i]? := by
  rw [lit_eq, List.append_assoc, List.getElem?_append_right (by simp), List.getElem?_append_left (by simp; omega)]
  simp
theorem lit_rightAt (x : Lit) (i : Nat) : x.row[10 + i]? = x.right.row[i]? := by
  rw [lit_eq, List.getElem?_append_right (by simp)]
  simp
@[simp] theorem lit_row4 (x : Lit) : x.row[4]? = some (cI .i8 x.left.op) := (lit_leftAt x 0 (by omega)).trans (ex_row0 _)
@[simp] theorem lit_row4' (x : Lit) (h : 4 < x.row.length) : x.row[4]'h = cI .i8 x.left.op := (List.getElem?_eq_some_iff.1 (lit_row4 x)).2
@[simp] theorem lit_row5 (x : Lit) : x.row[5]? = some (cS (bs x.left.t.v)) := (lit_leftAt x 1 (by omega)).trans (ex_row1 _)
@[simp] theorem lit_row5' (x : Lit) (h : 5 < x.row.length) : x.row[5]'h = cS (bs x.left.t.v) := (List.getElem?_eq_some_iff.1 (lit_row5 x)).2
@[simp] theorem lit_row9 (x : Lit) : x.row[9]? = some (.sl (x.left.kids.map Ex.row) x.left.sp) := (lit_leftAt x 5 (by omega)).trans (ex_row5 _)
@[simp] theorem lit_row9' (x : Lit) (h : 9 < x.row.length) : x.row[9]'h = .sl (x.left.kids.map Ex.row) x.left.sp := (List.getElem?_eq_some_iff.1 (lit_row9 x)).2
@[simp] theorem lit_row10 (x : Lit) : x.row[10]? = some (cI .i8 x.right.op) := (lit_rightAt x 0).trans (ex_row0 _)
@[simp] theorem lit_row10' (x : Lit) (h : 10 < x.row.length) : x.row[10]'h = cI .i8 x.right.op := (List.getElem?_eq_some_iff.1 (lit_row10 x)).2
@[simp] theorem lit_row11 (x : Lit) : x.row[11]? = some (cS (bs x.right.t.v)) := (lit_rightAt x 1).trans (ex_row1 _)
@[simp] theorem lit_row11' (x : Lit) (h : 11 < x.row.length) : x.row[11]'h = cS (bs x.right.t.v) := (List.getElem?_eq_some_iff.1 (lit_row11 x)).2
@[simp] theorem lit_row15 (x : Lit) : x.row[15]? = some (.sl (x.right.kids.map Ex.row) x.right.sp) := (lit_rightAt x 5).trans (ex_row5 _)
@[simp] theorem lit_row15' (x : Lit) (h : 15 < x.row.length) : x.row[15]'h = .sl (x.right.kids.map Ex.row) x.right.sp := (List.getElem?_eq_some_iff.1 (lit_row15 x)).2
@[simp] theorem lit_take (x : Lit) : (x.row.map A.c).take 16 = x.row.map A.c := take_all (by simp)
@[simp] theorem lit_atom (x : Lit) : ((x.row.map A.c).drop 1).take 2 = [.c (cS (bs x.p)), .c (.sl (x.l.map Tm.row) x.sp)] := rfl
@[simp] theorem lit_atom' (x : Lit) : (x.row.map A.c).tail.take 2 = [.c (cS (bs x.p)), .c (.sl (x.l.map Tm.row) x.sp)] := rfl
@[simp] theorem lit_left (x : Lit) : ((x.row.map A.c).drop 4).take 6 = x.left.row.map A.c := by
  rw [lit_eq, List.map_append, List.map_append, List.append_assoc, List.drop_append, List.take_append]
  simp
@[simp] theorem lit_right (x : Lit) : ((x.row.map A.c).drop 10).take 6 = x.right.row.map A.c := by
  rw [lit_eq, List.map_append, List.drop_left' (by simp)]
  exact ex_take _
@[simp] theorem arg_row0 (a : Arg) : a.row[0]? = some (cI .i8 a.agg) := rfl
@[simp] theorem arg_row0' (a : Arg) (h : 0 < a.row.length) : a.row[0]'h = cI .i8 a.agg := (List.getElem?_eq_some_iff.1 (arg_row0 a)).2
@[simp] theorem arg_row1 (a : Arg) : a.row[1]? = some (cS (bs a.t.v)) := rfl
@[simp] theorem arg_row1' (a : Arg) (h : 1 < a.row.length) : a.row[1]'h = cS (bs a.t.v) := (List.getElem?_eq_some_iff.1 (arg_row1 a)).2
@[simp] theorem arg_take (a : Arg) : (a.row.map A.c).take 5 = a.row.map A.c := rfl
@[simp] theorem arg_term (a : Arg) : ((a.row.map A.c).drop 1).take 4 = a.t.row.map A.c := rfl
@[simp] theorem arg_term' (a : Arg) : (a.row.map A.c).tail.take 4 = a.t.row.map A.c := rfl
@[simp] theorem rule_row0 (r : Rule) : r.row[0]? = some (cS (bs r.p)) := rfl
@[simp] theorem rule_row0' (r : Rule) (h : 0 < r.row.length) : r.row[0]'h = cS (bs r.p) := (List.getElem?_eq_some_iff.1 (rule_row0 r)).2
@[simp] theorem rule_row1 (r : Rule) : r.row[1]? = some (.sl (r.head.map Arg.row) r.hsp) := rfl
@[simp] theorem rule_row1' (r : Rule) (h : 1 < r.row.length) : r.row[1]'h = .sl (r.head.map Arg.row) r.hsp := (List.getElem?_eq_some_iff.1 (rule_row1 r)).2
@[simp] theorem rule_row2 (r : Rule) : r.row[2]? = some (.sl (r.body.map Lit.row) r.bsp) := rfl
@[simp] theorem rule_row2' (r : Rule) (h : 2 < r.row.length) : r.row[2]'h = .sl (r.body.map Lit.row) r.bsp := (List.getElem?_eq_some_iff.1 (rule_row2 r)).2
@[simp] theorem rule_take (r : Rule) : (r.row.map A.c).take 3 = r.row.map A.c := rfl
end Go.Proofs.YtiomojlcnemnhaaDoor

namespace Go.Proofs.YtiomojlcnemnhaaDoor
open Go.Fx
def ic57c0f : IC :=
 (.seq
 (.seq
 (.region [] [] [0, 1, 4, 5, 22, 26, 54, 2] [⟨some 8, (.faddr 3 (.t 1)), none, none⟩,⟨some 9, (.load none (.t 8)), none, none⟩,⟨some 10, (.bin .neq (.t 9) (.k (rI .i8 0))), none, none⟩,⟨some 11, (.move (.t 10)), none, none⟩,⟨some 12, (.faddr 4 (.t 1)), some (11, false), none⟩,⟨some 13, (.load (some 6) (.t 12)), some (11, false), none⟩,⟨some 14, (.callp (.k (rF 130)) [(.t 13)]), some (11, false), none⟩,⟨some 15, (.un .not (.t 14)), some (11, false), none⟩,⟨some 16, (.pick (.t 11) (.k (rB true)) (.t 15)), none, none⟩,⟨some 17, (.move (.t 16)), none, none⟩,⟨some 18, (.faddr 10 (.t 1)), some (17, false), none⟩,⟨some 19, (.load (some 6) (.t 18)), some (17, false), none⟩,⟨some 20, (.callp (.k (rF 130)) [(.t 19)]), some (17, false), none⟩,⟨some 21, (.un .not (.t 20)), some (17, false), none⟩,⟨some 22, (.pick (.t 17) (.k (rB true)) (.t 21)), none, none⟩])
 (.cond (.t 22)
 (.seq
 (.region [] [] [0, 1, 4, 5, 22, 26, 54, 2] [⟨some 2, (.move (.k (rI .i64 40))), none, none⟩])
 .ret)
 .skip))
 (.seq
 (.region [] [] [0, 1, 4, 5, 22, 26, 54, 2] [⟨some 23, (.faddr 1 (.t 1)), none, none⟩,⟨some 24, (.load (some 2) (.t 23)), none, none⟩,⟨some 25, (.callp (.k (rF 44)) [(.t 24)]), none, none⟩,⟨some 2, (.move (.t 25)), none, none⟩])
 .ret))
def ic57c1f : IC :=
 (.seq
 (.seq
 (.region [] [] [0, 1, 4, 5, 22, 26, 54, 2] [⟨some 28, (.faddr 1 (.t 1)), none, none⟩,⟨some 29, (.faddr 0 (.t 28)), none, none⟩,⟨some 30, (.load none (.t 29)), none, none⟩,⟨some 31, (.bin .neq (.t 30) (.k (rS (bs [])))), none, none⟩,⟨some 32, (.move (.t 31)), none, none⟩,⟨some 33, (.faddr 1 (.t 1)), some (32, false), none⟩,⟨some 34, (.faddr 1 (.t 33)), some (32, false), none⟩,⟨some 35, (.load none (.t 34)), some (32, false), none⟩,⟨some 36, (.len (.t 35)), some (32, false), none⟩,⟨some 37, (.bin .gtr (.t 36) (.k (rI .i64 0))), some (32, false), none⟩,⟨some 38, (.pick (.t 32) (.k (rB true)) (.t 37)), none, none⟩,⟨some 39, (.move (.t 38)), none, none⟩,⟨some 40, (.faddr 3 (.t 1)), some (39, false), none⟩,⟨some 41, (.load none (.t 40)), some (39, false), none⟩,⟨some 42, (.bin .lss (.t 41) (.k (rI .i8 1))), some (39, false), none⟩,⟨some 43, (.pick (.t 39) (.k (rB true)) (.t 42)), none, none⟩,⟨some 44, (.move (.t 43)), none, none⟩,⟨some 45, (.faddr 3 (.t 1)), some (44, false), none⟩,⟨some 46, (.load none (.t 45)), some (44, false), none⟩,⟨some 47, (.bin .gtr (.t 46) (.k (rI .i8 6))), some (44, false), none⟩,⟨some 48, (.pick (.t 44) (.k (rB true)) (.t 47)), none, none⟩,⟨some 49, (.move (.t 48)), none, none⟩,⟨some 50, (.faddr 4 (.t 1)), some (49, false), none⟩,⟨some 51, (.load (some 6) (.t 50)), some (49, false), none⟩,⟨some 52, (.callp (.k (rF 94)) [(.t 51)]), some (49, false), none⟩,⟨some 53, (.bin .neq (.t 52) (.k (rI .i64 0))), some (49, false), none⟩,⟨some 54, (.pick (.t 49) (.k (rB true)) (.t 53)), none, none⟩])
 (.cond (.t 54)
 (.seq
 (.region [] [] [0, 1, 4, 5, 22, 26, 54, 2] [⟨some 2, (.move (.k (rI .i64 40))), none, none⟩])
 .ret)
 .skip))
 (.seq
 (.region [] [] [0, 1, 4, 5, 22, 26, 54, 2] [⟨some 55, (.faddr 10 (.t 1)), none, none⟩,⟨some 56, (.load (some 6) (.t 55)), none, none⟩,⟨some 57, (.callp (.k (rF 94)) [(.t 56)]), none, none⟩,⟨some 2, (.move (.t 57)), none, none⟩])
 .ret))
def ic57c2f : IC :=
 (.seq
 (.region [] [] [0, 1, 4, 5, 22, 26, 54, 2] [⟨some 27, (.bin .eql (.t 4) (.k (rI .i8 3))), none, none⟩,⟨some 26, (.move (.t 27)), none, none⟩])
 (.cond (.t 26)
 ic57c1f
 .skip))
def ic57f : IC :=
 (.seq
 (.region [1] [] [0, 1, 4, 5, 22, 26, 54, 2] [⟨some 1, (.box 88 (.t 0)), none, none⟩,⟨some 2, (.move (.k (rI .i64 0))), none, none⟩])
 (.seq
 (.seq
 (.region [] [] [0, 1, 4, 5, 22, 26, 54, 2] [⟨some 3, (.faddr 0 (.t 1)), none, none⟩,⟨some 4, (.load none (.t 3)), none, none⟩])
 (.block 0
 (.seq
 (.seq
 (.region [] [] [0, 1, 4, 5, 22, 26, 54, 2] [⟨some 6, (.bin .eql (.t 4) (.k (rI .i8 1))), none, none⟩,⟨some 5, (.move (.t 6)), none, none⟩])
 (.cond (.t 5)
 .skip
 (.region [] [] [0, 1, 4, 5, 22, 26, 54, 2] [⟨some 7, (.bin .eql (.t 4) (.k (rI .i8 2))), none, none⟩,⟨some 5, (.move (.t 7)), none, none⟩])))
 (.cond (.t 5)
 ic57c0f
 ic57c2f))))
 (.seq
 (.region [] [] [0, 1, 4, 5, 22, 26, 54, 2] [⟨some 2, (.move (.k (rI .i64 40))), none, none⟩])
 .ret)))
def ir57f : List IRes := [.tmp 2]
theorem ie57f : cmpFunc Go.Proofs.Tryd.prog ⟨[], []⟩ Go.Proofs.Tryd.f57 [0, 1, 4, 5, 22, 26, 54, 2] = some ic57f := by kernel_rfl
theorem ig57f : cmpRes Go.Proofs.Tryd.prog Go.Proofs.Tryd.f57.results.toList = some ir57f := by kernel_rfl
end Go.Proofs.YtiomojlcnemnhaaDoor

namespace Go.Proofs.YtiomojlcnemnhaaDoor
open Go.Fx Go.RowKit Go.Ped
variable {G : World → Prop}
end Go.Proofs.YtiomojlcnemnhaaDoor

import Derived.Test.YtiomojlcnemnhaaGreatDoorJFxWb
import Derived.Test.YtiomojlcnemnhaaGreatDoorProg
import Derived.KernelRfl
import Derived.Test.YtiomojlcnemnhaaGreatDoorJGxQ7
import Derived.Sort.Walk0
/- Functions of the seat, as the small language has them. -/
namespace Go.Proofs.YtiomojlcnemnhaaGreatDoor
open Go.Fx
def ic2160l0 : IC :=
 (.seq
 (.seq
 (.region [] [] [0, 1, 13, 3, 18, 27, 2] [
 ⟨(some 14), (.move (.t 3)), none, none⟩,
 ⟨(some 15), (.faddr 1 (.t 1)), none, none⟩,
 ⟨(some 16), (.load none (.t 15)), none, none⟩,
 ⟨(some 17), (.len (.t 16)), none, none⟩,
 ⟨(some 18), (.bin .lss (.t 14) (.t 17)), none, none⟩])
 (.cond (.t 18)
 .skip
 (.exit 0)))
 (.seq
 (.block 1
 (.seq
 (.region [] [] [0, 1, 13, 3, 18, 27, 2] [
 ⟨(some 21), (.faddr 1 (.t 1)), none, none⟩,
 ⟨(some 22), (.load none (.t 21)), none, none⟩,
 ⟨(some 23), (.move (.t 3)), none, none⟩,
 ⟨(some 24), (.iaddr 3 (.t 22) (.t 23)), none, none⟩,
 ⟨(some 25), (.load (some 3) (.t 24)), none, none⟩,
 ⟨(some 26), (.callp (.k (rF 243)) [(.t 25)]), none, none⟩,
 ⟨(some 27), (.bin .neq (.t 26) (.k (rI .i64 0))), none, none⟩])
 (.cond (.t 27)
 (.seq
 (.region [] [] [0, 1, 13, 3, 18, 27, 2] [
 ⟨(some 2), (.move (.k (rB false))), none, none⟩])
 .ret)
 .skip)))
 (.region [] [] [0, 1, 13, 3, 18, 27, 2] [
 ⟨(some 19), (.move (.t 3)), none, none⟩,
 ⟨(some 20), (.bin .add (.t 19) (.k (rI .i64 1))), none, none⟩,
 ⟨(some 3), (.move (.t 20)), none, none⟩])))

/-- pedigree/pedigreeref07.Fact -/
def ic2160 : IC :=
 (.seq
 (.region [1] [] [0, 1, 13, 3, 18, 27, 2] [
 ⟨(some 1), (.box 147 (.t 0)), none, none⟩,
 ⟨(some 2), (.move (.k (rB false))), none, none⟩])
 (.seq
 (.seq
 (.region [] [] [0, 1, 13, 3, 18, 27, 2] [
 ⟨(some 4), (.faddr 0 (.t 1)), none, none⟩,
 ⟨(some 5), (.load none (.t 4)), none, none⟩,
 ⟨(some 6), (.callp (.k (rF 174)) [(.t 5)]), none, none⟩,
 ⟨(some 7), (.un .not (.t 6)), none, none⟩,
 ⟨(some 8), (.move (.t 7)), none, none⟩,
 ⟨(some 9), (.faddr 1 (.t 1)), some (8, false), none⟩,
 ⟨(some 10), (.load none (.t 9)), some (8, false), none⟩,
 ⟨(some 11), (.len (.t 10)), some (8, false), none⟩,
 ⟨(some 12), (.bin .gtr (.t 11) (.k (rI .i64 24))), some (8, false), none⟩,
 ⟨(some 13), (.pick (.t 8) (.k (rB true)) (.t 12)), none, none⟩])
 (.cond (.t 13)
 (.seq
 (.region [] [] [0, 1, 13, 3, 18, 27, 2] [
 ⟨(some 2), (.move (.k (rB false))), none, none⟩])
 .ret)
 .skip))
 (.seq
 (.seq
 (.region [] [] [0, 1, 13, 3, 18, 27, 2] [
 ⟨(some 3), (.move (.k (rI .i64 0))), none, none⟩])
 (.block 0
 (.loop ic2160l0)))
 (.seq
 (.region [] [] [0, 1, 13, 3, 18, 27, 2] [
 ⟨(some 2), (.move (.k (rB true))), none, none⟩])
 .ret))))
def ir2160 : List IRes := [.tmp 2]
theorem ie2160 : cmpFunc Go.Proofs.Tryz.prog ⟨[], []⟩ Go.Proofs.Tryz.f160 [0, 1, 13, 3, 18, 27, 2] = some ic2160 := by kernel_rfl
theorem ig2160 : cmpRes Go.Proofs.Tryz.prog Go.Proofs.Tryz.f160.results.toList = some ir2160 := by kernel_rfl

end Go.Proofs.YtiomojlcnemnhaaGreatDoor

/- Contracts, on: a rule as a user may hand it in, the program's way and the document's. (Labels of 2000 and more: seat ZD.) -/
namespace Go.Proofs.YtiomojlcnemnhaaGreatDoor
open Go.Fx Go.RowKit Go.Ped
variable {G : World → Prop}

end Go.Proofs.YtiomojlcnemnhaaGreatDoor

/- Functions of the seat, as the small language has them. -/
namespace Go.Proofs.YtiomojlcnemnhaaGreatDoor
open Go.Fx

end Go.Proofs.YtiomojlcnemnhaaGreatDoor

/- Contracts, on: a rule of a user, the document's way; both are one. (Labels of 2000 and more: seat ZD.) -/
namespace Go.Proofs.YtiomojlcnemnhaaGreatDoor
open Go.Fx Go.RowKit Go.Ped
variable {G : World → Prop}

/- Both are one. -/
end Go.Proofs.YtiomojlcnemnhaaGreatDoor

/- Contracts, on: the document's errors of a user's rule, fact, query. (Labels of 2000 and more: seat ZD.) -/
namespace Go.Proofs.YtiomojlcnemnhaaGreatDoor
open Go.Fx Go.RowKit Go.Ped
variable {G : World → Prop}

end Go.Proofs.YtiomojlcnemnhaaGreatDoor

/- Contracts, on: the document's first thing that is wrong with what a user hands in. (Labels of 2000 and more: seat ZD.) -/
namespace Go.Proofs.YtiomojlcnemnhaaGreatDoor
open Go.Fx Go.RowKit Go.Ped
variable {G : World → Prop}

structure Fc where
  p : Name
  l : List Val
  sp : Sp
def Fc.row (f : Fc) : List C := [cS (bs f.p), .sl (f.l.map Val.row) f.sp]
@[simp] theorem Fc.row_len (f : Fc) : f.row.length = 2 := rfl
@[simp] theorem fc_row0 (f : Fc) : f.row[0]? = some (cS (bs f.p)) := rfl
@[simp] theorem fc_row0' (f : Fc) (h : 0 < f.row.length) : f.row[0]'h = cS (bs f.p) := rfl
@[simp] theorem fc_row1 (f : Fc) : f.row[1]? = some (.sl (f.l.map Val.row) f.sp) := rfl
@[simp] theorem fc_row1' (f : Fc) (h : 1 < f.row.length) : f.row[1]'h = .sl (f.l.map Val.row) f.sp := rfl
@[simp] theorem fc_take (f : Fc) : (f.row.map A.c).take 2 = f.row.map A.c := rfl
def Fc.pd (f : Fc) : Pd := ⟨f.p, f.l.length⟩
theorem m2160 (f : Fc) (hl : f.l.length ≤ 1048576) : Meets Tryz.prog G 160 [.agg f.row] (.x (.one (cB (factOk f.p f.l)))) := by
  refine meets Tryz.func160 ie2160 ig2160 (Nat.le_of_ble_eq_true rfl) ?_
  simp [ic2160, ir2160]
  refine call_of (m156 f.p) ?_
  simp
  by_cases h1 : nameOk f.p = true
  · by_cases h2 : f.l.length ≤ 24
    · have h2' : ¬ (24 : Int) < f.l.length := by omega
      have hok : factOk f.p f.l = f.l.all Val.ok := by simp [factOk, h1, h2]
      rw [hok]
      generalize hB : f.l.all Val.ok = B
      simp [h1, h2']
      refine w_loopA [] [] [1, 3] (by simp)
        (fun i : Nat => st [(1, .k true (.x (.one (.ref 1 0 0)))), (3, tI .i64 i)] [(1, ⟨147, 2, [f.row.map A.c], none⟩)] [] F0) (fun i => f.l.length - i)
        (fun i => i ≤ f.l.length ∧ (f.l.take i).all Val.ok = true) 0 (by simp) (by simp) ?_
      rintro i K hK ⟨hi, hd⟩
      obtain hlt | hge := Nat.lt_or_ge i f.l.length
      · have hv := m29 (G := G) f.l[i].k f.l[i].n f.l[i].s
        have e1 : f.l[i].row = [cI .i8 f.l[i].k, cI .i64 f.l[i].n, cS (bs f.l[i].s)] := rfl
        simp [ic2160l0, hlt, e1]
        refine call_of hv ?_
        simp
        refine condI_of (fun h => ?_) (fun h => ?_)
        · simp at h
          have hb : B = false := by rw [← hB]; exact all_not (List.getElem_mem hlt) (by simpa [Val.ok] using h)
          simp [hb]
        · simp at h
          simp
          simp (disch := omega) only [wrap64]
          exact hK (i + 1) _ (by simp) ⟨by omega, by rw [List.take_succ_eq_append_getElem hlt, List.all_append, hd]; simp [Val.ok, h]⟩ (by omega)
      · rw [List.take_of_length_le hge, hB] at hd
        simp [ic2160l0, Nat.not_lt.mpr hge, hd]
    · have h2' : (24 : Int) < f.l.length := by omega
      have hok : factOk f.p f.l = false := by simp [factOk, h2]
      simp [h1, h2', hok]
  · have hok : factOk f.p f.l = false := by simp [factOk, h1]
    simp [h1, hok]

end Go.Proofs.YtiomojlcnemnhaaGreatDoor

/- Contracts, on: the document's first thing that is wrong, whole. (Labels of 2000 and more: seat ZD.) -/
namespace Go.Proofs.YtiomojlcnemnhaaGreatDoor
open Go.Fx Go.RowKit Go.Ped
variable {G : World → Prop}

theorem refMeet_len {m m' : List Pd} {p : Pd} (h : refMeet ltN m p = some m') : m'.length ≤ m.length + 1 := by
  unfold refMeet at h
  split at h
  · split at h
    · injection h with h; subst h; omega
    · cases h
  · injection h with h; subst h; rw [insP_len]; omega
theorem refMeets_len : ∀ {l m m' : List Pd}, refMeets ltN m l = some m' → m'.length ≤ m.length + l.length
  | [], m, m', h => by injection h with h; subst h; simp
  | p :: l, m, m', h => by
    rw [refMeets] at h
    split at h
    · rename_i m1 h1
      have := refMeet_len h1
      have := refMeets_len h
      simp; omega
    · cases h
end Go.Proofs.YtiomojlcnemnhaaGreatDoor

/- Contracts, on: the first of a list with an error. (Labels of 2000 and more: seat ZD.) -/
namespace Go.Proofs.YtiomojlcnemnhaaGreatDoor
open Go.Fx Go.RowKit Go.Ped
variable {G : World → Prop} {σ : Type}

structure Qy where
  p : Name
  l : List Tm
  sp : Sp
def Qy.row (q : Qy) : List C := [cS (bs q.p), .sl (q.l.map Tm.row) q.sp]
@[simp] theorem Qy.row_len (q : Qy) : q.row.length = 2 := rfl
@[simp] theorem Qy.row_take (q : Qy) : (q.row.map A.c).take 2 = q.row.map A.c := rfl

end Go.Proofs.YtiomojlcnemnhaaGreatDoor

/- Contracts, on: a user's rules, facts and query against the predicates met so far. (Labels of 2000 and more: seat ZD.) -/
namespace Go.Proofs.YtiomojlcnemnhaaGreatDoor
open Go.Fx Go.RowKit Go.Ped
variable {G : World → Prop}

theorem rows_ren (f : Nat → Nat) (m : List Pd) : (m.map pdRow).map (renL f) = m.map pdRow := by
  rw [List.map_map]
  exact List.map_congr_left fun p _ => by simp [pdRow]
abbrev O9 (m : List Pd) : List (Nat × Box) := [(10007, ⟨151, 1, [[.mapr 10009]], none⟩), (10009, ⟨0, 2, m.map pdRow, some (.string, true)⟩)]
attribute [simp] O9
end Go.Proofs.YtiomojlcnemnhaaGreatDoor

/- Plain: the user's input, both ways one. (Labels of 2000 and more: seat ZD.) -/
namespace Go.Proofs.YtiomojlcnemnhaaGreatDoor
open Go.Fx Go.RowKit Go.Ped
variable {G : World → Prop}

theorem ltN_eq (a b : Name) : ltN a b = decide (a < b) := by
  unfold ltN
  exact Go.Proofs.bytesLess_eq a b
theorem ltN_irr (a : Name) : ltN a a = false := by
  rw [ltN_eq]; simp
theorem ltN_trans (a b c : Name) (h : ltN a b = true) (h' : ltN b c = true) : ltN a c = true := by
  rw [ltN_eq] at *
  simp at *
  exact List.lt_trans h h'
theorem ltN_total (a b : Name) (hne : a ≠ b) : ltN a b = true ∨ ltN b a = true := by
  rw [ltN_eq, ltN_eq]
  simp only [decide_eq_true_eq]
  by_cases h : a < b
  · exact .inl h
  · rcases List.le_iff_lt_or_eq.1 (List.not_lt.1 h) with h | h
    · exact .inr h
    · exact absurd h.symm hne

end Go.Proofs.YtiomojlcnemnhaaGreatDoor

/- Contracts, on: the program's first error of what a user hands in. (Labels of 2000 and more: seat ZD.) -/
namespace Go.Proofs.YtiomojlcnemnhaaGreatDoor
open Go.Fx Go.RowKit Go.Ped
variable {G : World → Prop}

end Go.Proofs.YtiomojlcnemnhaaGreatDoor

import Derived.Test.YtiomojlcnemnhaaDoorKPedB
import Derived.Test.YtiomojlcnemnhaaDoorKFxWb
import Derived.Test.YtiomojlcnemnhaaDoorProg
import Derived.KernelRfl
import Derived.Test.YtiomojlcnemnhaaDoorKDxM8
/- Plain words for what fits an atom: the fact that it becomes under an assignment, and no other. -/
namespace Go.Ped

section
variable (valOk : Val → Bool)

/-- What a column becomes: a value, the blank's, a variable's. -/
def gr (f : Name → Val) (nine : Val) (t : Tm) : Val := if t.v = [] then t.x else if t.v = us then nine else f t.v
end
end Go.Ped

/- Functions of the seat, as the small language has them. -/
namespace Go.Proofs.YtiomojlcnemnhaaDoor
open Go.Fx

/-- pedigree/pedigreeref04.said -/
def ic90 : IC :=
 (.seq
 (.region [] [] [0, 3, 2] [
 ⟨(some 2), (.move (.k (rI .i64 0))), none, none⟩])
 (.seq
 (.seq
 (.region [] [] [0, 3, 2] [
 ⟨(some 3), (.move (.t 0)), none, none⟩])
 (.cond (.t 3)
 (.seq
 (.region [] [] [0, 3, 2] [
 ⟨(some 2), (.move (.k (rI .i64 0))), none, none⟩])
 .ret)
 .skip))
 (.seq
 (.region [] [] [0, 3, 2] [
 ⟨(some 2), (.move (.k (rI .i64 40))), none, none⟩])
 .ret)))
def ir90 : List IRes := [.tmp 2]
theorem ie90 : cmpFunc Go.Proofs.Tryd.prog ⟨[], []⟩ Go.Proofs.Tryd.f90 [0, 3, 2] = some ic90 := by kernel_rfl
theorem ig90 : cmpRes Go.Proofs.Tryd.prog Go.Proofs.Tryd.f90.results.toList = some ir90 := by kernel_rfl


end Go.Proofs.YtiomojlcnemnhaaDoor

/- Contracts, on: the program's variables. -/
namespace Go.Proofs.YtiomojlcnemnhaaDoor
open Go.Fx Go.RowKit Go.Ped
variable {G : World → Prop}

/-- What stands where a pointer points: a term. -/
def PtTo (es : List (List C)) (i off : Nat) (t : Tm) : Prop := ∃ r, es[i]? = some r ∧ (r.drop off).take 4 = t.row
theorem PtTo.at {es : List (List C)} {i off : Nat} {t : Tm} (h : PtTo es i off t) (j : Nat) (hj : j < 4) : (es[i]?.getD [])[off + j]? = t.row[j]? := by
  obtain ⟨r, h1, h2⟩ := h
  rw [h1, ← h2]
  simp [hj]
theorem PtTo.len {es : List (List C)} {i off : Nat} {t : Tm} (h : PtTo es i off t) : off + 4 ≤ (es[i]?.getD []).length := by
  obtain ⟨r, h1, h2⟩ := h
  have := congrArg List.length h2
  simp [Tm.row] at this
  rw [h1]; simp; omega

/-- The numbers of the variables that were met. -/
def thr : Nat → List Name → List (List A)
  | _, [] => []
  | n, v :: l => [.c (cS (bs v)), .c (cI .i64 (n + 1))] :: thr (n + 1) l

/-- The number of a variable, from one on; zero: none. -/
def thrAt : Nat → List Name → Name → Int
  | _, [], _ => 0
  | n, u :: l, v => if u = v then n + 1 else thrAt (n + 1) l v
theorem thr_get0 (v : Name) : ∀ (l : List Name) (n : Nat), mapGet (thr n l) (.string (bs v)) [.c (cI .i64 0)] = [.c (cI .i64 (thrAt n l v))]
  | [], n => by simp [thr, mapGet, thrAt]
  | u :: l, n => by
    have ih := thr_get0 v l (n + 1)
    unfold mapGet at ih ⊢
    unfold thr thrAt
    by_cases h : u = v
    · subst h; simp [keyEq]
    · simp [keyEq, h] at ih ⊢
      exact ih
theorem thr_get (v : Name) (l : List Name) : mapGet (thr 0 l) (.string (bs v)) [.c (cI .i64 0)] = [.c (cI .i64 (thrAt 0 l v))] := thr_get0 v l 0
theorem thr_strike (ks : List Nat) : ∀ (l : List Name) (n : Nat), (thr n l).map (strikeL ks) = thr n l
  | [], _ => rfl
  | v :: l, n => by simp [thr, thr_strike ks l (n + 1)]

end Go.Proofs.YtiomojlcnemnhaaDoor

/- Contracts, on: the program's walk over the terms of a thing. -/
namespace Go.Proofs.YtiomojlcnemnhaaDoor
open Go.Fx Go.RowKit Go.Ped
variable {G : World → Prop}

theorem sameKeys_trans {H1 H2 H3 : FHp} (h : sameKeys H1 H2) (h' : sameKeys H2 H3) : sameKeys H1 H3 :=
  ⟨fun k => ⟨(h.1 k).1.trans (h'.1 k).1, (h.1 k).2.trans (h'.1 k).2⟩, h'.2.trans h.2⟩

/-- What a function does, handed the terms of a list one behind the other, to what it holds. -/
inductive Ch (G : World → Prop) (fv : A) : List Tm → FHp → FHp → Prop
  | nil (H : FHp) : Ch G fv [] H H
  | cons {t : Tm} {l : List Tm} {H H1 H2 : FHp} (h : ∀ es sp i off, PtTo es i off t → MeetsV Tryd.prog G fv [.one (.elem es sp i off)] (hp [] [] H) (.tup []) (hp [] [] H1)) (hs : sameKeys H H1) (hl : Ch G fv l H1 H2) : Ch G fv (t :: l) H H2
theorem Ch.same {fv : A} {l : List Tm} {H H' : FHp} (h : Ch G fv l H H') : sameKeys H H' := by
  induction h with
  | nil H => exact sameKeys_refl H
  | cons _ hs _ ih => exact sameKeys_trans hs ih
theorem Ch.app {fv : A} {l m : List Tm} {H H1 H2 : FHp} (h : Ch G fv l H H1) (h2 : Ch G fv m H1 H2) : Ch G fv (l ++ m) H H2 := by
  induction h with
  | nil H => exact h2
  | cons h hs _ ih => exact .cons h hs (ih h2)
theorem Ch.split {fv : A} : ∀ {l m : List Tm} {H H2 : FHp}, Ch G fv (l ++ m) H H2 → ∃ H1, Ch G fv l H H1 ∧ Ch G fv m H1 H2
  | [], _, H, _, h => ⟨H, .nil H, h⟩
  | _ :: l, m, _, _, h => by
    cases h with
    | cons h hs hl =>
      obtain ⟨H1, h1, h2⟩ := Ch.split hl
      exact ⟨H1, .cons h hs h1, h2⟩
theorem Ch.step {fv : A} {l : List Tm} {H H2 : FHp} {i : Nat} {t : Tm} (ht : l[i]? = some t) (h : Ch G fv (l.drop i) H H2) :
    ∃ H1, (∀ es sp j off, PtTo es j off t → MeetsV Tryd.prog G fv [.one (.elem es sp j off)] (hp [] [] H) (.tup []) (hp [] [] H1)) ∧ sameKeys H H1 ∧ Ch G fv (l.drop (i + 1)) H1 H2 := by
  obtain ⟨hi, rfl⟩ := List.getElem?_eq_some_iff.1 ht
  rw [List.drop_eq_getElem_cons hi] at h
  cases h with
  | cons h hs hl => exact ⟨_, h, hs, hl⟩

/-- A pointer to some cells. -/
def PtAt (es : List (List C)) (i off : Nat) (cs : List C) : Prop := ∃ r, es[i]? = some r ∧ (r.drop off).take cs.length = cs
theorem PtAt.len {es : List (List C)} {i off : Nat} {cs : List C} (h : PtAt es i off cs) : off + cs.length ≤ (es[i]?.getD []).length ∨ cs = [] := by
  obtain ⟨r, h1, h2⟩ := h
  have := congrArg List.length h2
  simp at this
  rw [h1]; simp
  by_cases hc : cs = []
  · exact .inr hc
  · left; have : 0 < cs.length := List.length_pos_iff.2 hc; omega
theorem PtAt.at {es : List (List C)} {i off : Nat} {cs : List C} (h : PtAt es i off cs) (j : Nat) (hj : j < cs.length) : (es[i]?.getD [])[off + j]? = some cs[j] := by
  obtain ⟨r, h1, h2⟩ := h
  rw [h1, ← List.getElem?_eq_getElem hj, ← h2]
  simp [hj]

section
variable {fv : A} {H H' : FHp} {Q : Exit → S → Prop} {t0 t12 t14 t15 t4 t21 t20 t22 t1 t5 t39 t38 t40 t6 t53 t54 t7 t74 t75 t8 t86 t85 t87 t9 t100 t101 t10 t107 t106 t108 t11 : T}

end

end Go.Proofs.YtiomojlcnemnhaaDoor

/- Contracts, on: the program's variables of a thing. -/
namespace Go.Proofs.YtiomojlcnemnhaaDoor
open Go.Fx Go.RowKit Go.Ped
variable {G : World → Prop}

end Go.Proofs.YtiomojlcnemnhaaDoor

/- Contracts, on: an atom's variables; the law on atoms. -/
namespace Go.Proofs.YtiomojlcnemnhaaDoor
open Go.Fx Go.RowKit Go.Ped
variable {G : World → Prop}

theorem m90 (b : Bool) : Meets Tryd.prog G 90 [.one (cB b)] (.x (.one (cI .i64 (if b then 0 else 40)))) := by
  refine meets Tryd.func90 ie90 ig90 (Nat.le_of_ble_eq_true rfl) ?_
  simp [ic90, ir90]

end Go.Proofs.YtiomojlcnemnhaaDoor

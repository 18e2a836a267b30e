/- Contracts, on: the first of a list with an error. (Labels of 2000 and more: seat ZD.) -/
import Derived.Test.YtiomojlcnemnhaaGreatDoorGxQc
namespace Go.Proofs.YtiomojlcnemnhaaGreatDoor
open Go.Fx Go.RowKit Go.Ped
variable {G : World → Prop} {σ : Type}

def firstE {α : Type} (f : σ → α → Int × σ) : σ → List α → Int → Int × Int × σ
  | s, [], _ => (0, 0, s)
  | s, a :: l, i => if (f s a).1 = 0 then firstE f (f s a).2 l (i + 1) else ((f s a).1, i, (f s a).2)
def partC (part : Int) (x : Int × Int × σ) : List C := if x.1 = 0 then refuse 0 0 0 else refuse part x.1 x.2.1
structure Qy where
  p : Name
  l : List Tm
  sp : Sp
def Qy.row (q : Qy) : List C := [cS (bs q.p), .sl (q.l.map Tm.row) q.sp]
@[simp] theorem Qy.row_len (q : Qy) : q.row.length = 2 := rfl
@[simp] theorem Qy.row_take (q : Qy) : (q.row.map A.c).take 2 = q.row.map A.c := rfl

theorem m2109 (f : σ → Rule → Int × σ) (Hs : σ → FHp) (hsame : ∀ s t, sameKeys (Hs s) (Hs t)) (fv : A) (hfv : fv.only farKey (fun _ => False)) (hst : ∀ k, k < 10000 → fv.strike [k] = fv) (part : Int) (l : List Rule) (sp : Sp) (hl : l.length ≤ 1048576)
    (hf : ∀ s, ∀ r ∈ l, MeetsV Tryz.prog G fv [.agg (r.row.map A.c)] (hp [] [] (Hs s)) (.x (.one (.c (cI .i64 (f s r).1)))) (hp [] [] (Hs (f s r).2))) (s : σ) :
    MeetsH Tryz.prog G 109 [.one (.c (cI .i8 part)), .one (.c (.sl (l.map Rule.row) sp)), .one fv] (hp [] [] (Hs s)) (.x (.agg ((partC part (firstE f s l 0)).map A.c))) (hp [] [] (Hs (firstE f s l 0).2.2)) := by
  refine meetsH [] Tryz.func109 ie2109 ig2109 (Nat.le_of_ble_eq_true rfl) (by simp) (by simp) ?_ (by simp) (by simp) (hsame _ _) (by simp) (by simp) ?_
  · simp
    exact A.only_mono (fun _ => far_not_own) (fun _ h => h.elim) hfv
  generalize hR : firstE f s l 0 = R
  simp [ic2109, ir2109, hst]
  refine w_loopA [] [8] [0, 2, 6, 10, 11, 12] (by simp [ownKey])
    (fun a : Nat × σ => st [(0, .k true (.x (.one (.c (cI .i8 part))))), (2, .k true (.x (.one fv))), (6, .k true (.x (.one (.ref 6 0 0)))), (10, .k true (.x (.one (.c (.sl (l.map Rule.row) sp))))), (11, tI .i64 l.length), (12, tI .i64 a.1)] [(6, ⟨55, 3, [[.c (cI .i8 0), .c (cI .i64 0), .c (cI .i64 0)]], none⟩)] [] (Hs a.2)) (fun a => l.length - a.1)
    (fun a => a.1 ≤ l.length ∧ R = firstE f a.2 (l.drop a.1) a.1) (0, s) (by simp [hst]) (by simp [hR]) ?_
  rintro ⟨i, t⟩ K hK ⟨hi, hd⟩
  simp only at hi hd
  obtain hlt | hge := Nat.lt_or_ge i l.length
  · rw [List.drop_eq_getElem_cons hlt, firstE] at hd
    have hm := hf t l[i] (List.getElem_mem hlt)
    simp [ic2109l0, hlt, hst]
    refine r_callC hm (hsame _ _) rfl rfl rfl (by simp [X.fits]) (by simp) (by simp) ?_
    simp
    by_cases h0 : (f t l[i]).1 = 0
    · rw [if_pos h0] at hd
      simp [h0]
      simp (disch := omega) only [wrap64]
      exact hK (i + 1, (f t l[i]).2) _ (by simp [hst]) ⟨by simp; omega, hd⟩ (by simp; omega)
    · rw [if_neg h0] at hd
      subst hd
      simp [h0]
      exact ret_st (by simp) (by simp [partC, h0, refuse]) (by simp) (by simp) (by simp) (by simp)
  · rw [List.drop_eq_nil_of_le hge, firstE] at hd
    subst hd
    simp [ic2109l0, Nat.not_lt.mpr hge]
    exact ret_st (by simp) (by simp [partC, refuse]) (by simp) (by simp) (by simp) (by simp)

theorem m2114 (f : σ → Fc → Int × σ) (Hs : σ → FHp) (hsame : ∀ s t, sameKeys (Hs s) (Hs t)) (fv : A) (hfv : fv.only farKey (fun _ => False)) (hst : ∀ k, k < 10000 → fv.strike [k] = fv) (part : Int) (l : List Fc) (sp : Sp) (hl : l.length ≤ 1048576)
    (hf : ∀ s, ∀ r ∈ l, MeetsV Tryz.prog G fv [.agg (r.row.map A.c)] (hp [] [] (Hs s)) (.x (.one (.c (cI .i64 (f s r).1)))) (hp [] [] (Hs (f s r).2))) (s : σ) :
    MeetsH Tryz.prog G 114 [.one (.c (cI .i8 part)), .one (.c (.sl (l.map Fc.row) sp)), .one fv] (hp [] [] (Hs s)) (.x (.agg ((partC part (firstE f s l 0)).map A.c))) (hp [] [] (Hs (firstE f s l 0).2.2)) := by
  refine meetsH [] Tryz.func114 ie2114 ig2114 (Nat.le_of_ble_eq_true rfl) (by simp) (by simp) ?_ (by simp) (by simp) (hsame _ _) (by simp) (by simp) ?_
  · simp
    exact A.only_mono (fun _ => far_not_own) (fun _ h => h.elim) hfv
  generalize hR : firstE f s l 0 = R
  simp [ic2114, ir2114, hst]
  refine w_loopA [] [8] [0, 2, 6, 10, 11, 12] (by simp [ownKey])
    (fun a : Nat × σ => st [(0, .k true (.x (.one (.c (cI .i8 part))))), (2, .k true (.x (.one fv))), (6, .k true (.x (.one (.ref 6 0 0)))), (10, .k true (.x (.one (.c (.sl (l.map Fc.row) sp))))), (11, tI .i64 l.length), (12, tI .i64 a.1)] [(6, ⟨55, 3, [[.c (cI .i8 0), .c (cI .i64 0), .c (cI .i64 0)]], none⟩)] [] (Hs a.2)) (fun a => l.length - a.1)
    (fun a => a.1 ≤ l.length ∧ R = firstE f a.2 (l.drop a.1) a.1) (0, s) (by simp [hst]) (by simp [hR]) ?_
  rintro ⟨i, t⟩ K hK ⟨hi, hd⟩
  simp only at hi hd
  obtain hlt | hge := Nat.lt_or_ge i l.length
  · rw [List.drop_eq_getElem_cons hlt, firstE] at hd
    have hm := hf t l[i] (List.getElem_mem hlt)
    simp [ic2114l0, hlt, hst]
    refine r_callC hm (hsame _ _) rfl rfl rfl (by simp [X.fits]) (by simp) (by simp) ?_
    simp
    by_cases h0 : (f t l[i]).1 = 0
    · rw [if_pos h0] at hd
      simp [h0]
      simp (disch := omega) only [wrap64]
      exact hK (i + 1, (f t l[i]).2) _ (by simp [hst]) ⟨by simp; omega, hd⟩ (by simp; omega)
    · rw [if_neg h0] at hd
      subst hd
      simp [h0]
      exact ret_st (by simp) (by simp [partC, h0, refuse]) (by simp) (by simp) (by simp) (by simp)
  · rw [List.drop_eq_nil_of_le hge, firstE] at hd
    subst hd
    simp [ic2114l0, Nat.not_lt.mpr hge]
    exact ret_st (by simp) (by simp [partC, refuse]) (by simp) (by simp) (by simp) (by simp)

theorem m2119 (f : σ → Qy → Int × σ) (Hs : σ → FHp) (hsame : ∀ s t, sameKeys (Hs s) (Hs t)) (fv : A) (hfv : fv.only farKey (fun _ => False)) (hst : ∀ k, k < 10000 → fv.strike [k] = fv) (part : Int) (l : List Qy) (sp : Sp) (hl : l.length ≤ 1048576)
    (hf : ∀ s, ∀ r ∈ l, MeetsV Tryz.prog G fv [.agg (r.row.map A.c)] (hp [] [] (Hs s)) (.x (.one (.c (cI .i64 (f s r).1)))) (hp [] [] (Hs (f s r).2))) (s : σ) :
    MeetsH Tryz.prog G 119 [.one (.c (cI .i8 part)), .one (.c (.sl (l.map Qy.row) sp)), .one fv] (hp [] [] (Hs s)) (.x (.agg ((partC part (firstE f s l 0)).map A.c))) (hp [] [] (Hs (firstE f s l 0).2.2)) := by
  refine meetsH [] Tryz.func119 ie2119 ig2119 (Nat.le_of_ble_eq_true rfl) (by simp) (by simp) ?_ (by simp) (by simp) (hsame _ _) (by simp) (by simp) ?_
  · simp
    exact A.only_mono (fun _ => far_not_own) (fun _ h => h.elim) hfv
  generalize hR : firstE f s l 0 = R
  simp [ic2119, ir2119, hst]
  refine w_loopA [] [8] [0, 2, 6, 10, 11, 12] (by simp [ownKey])
    (fun a : Nat × σ => st [(0, .k true (.x (.one (.c (cI .i8 part))))), (2, .k true (.x (.one fv))), (6, .k true (.x (.one (.ref 6 0 0)))), (10, .k true (.x (.one (.c (.sl (l.map Qy.row) sp))))), (11, tI .i64 l.length), (12, tI .i64 a.1)] [(6, ⟨55, 3, [[.c (cI .i8 0), .c (cI .i64 0), .c (cI .i64 0)]], none⟩)] [] (Hs a.2)) (fun a => l.length - a.1)
    (fun a => a.1 ≤ l.length ∧ R = firstE f a.2 (l.drop a.1) a.1) (0, s) (by simp [hst]) (by simp [hR]) ?_
  rintro ⟨i, t⟩ K hK ⟨hi, hd⟩
  simp only at hi hd
  obtain hlt | hge := Nat.lt_or_ge i l.length
  · rw [List.drop_eq_getElem_cons hlt, firstE] at hd
    have hm := hf t l[i] (List.getElem_mem hlt)
    simp [ic2119l0, hlt, hst]
    refine r_callC hm (hsame _ _) rfl rfl rfl (by simp [X.fits]) (by simp) (by simp) ?_
    simp
    by_cases h0 : (f t l[i]).1 = 0
    · rw [if_pos h0] at hd
      simp [h0]
      simp (disch := omega) only [wrap64]
      exact hK (i + 1, (f t l[i]).2) _ (by simp [hst]) ⟨by simp; omega, hd⟩ (by simp; omega)
    · rw [if_neg h0] at hd
      subst hd
      simp [h0]
      exact ret_st (by simp) (by simp [partC, h0, refuse]) (by simp) (by simp) (by simp) (by simp)
  · rw [List.drop_eq_nil_of_le hge, firstE] at hd
    subst hd
    simp [ic2119l0, Nat.not_lt.mpr hge]
    exact ret_st (by simp) (by simp [partC, refuse]) (by simp) (by simp) (by simp) (by simp)

end Go.Proofs.YtiomojlcnemnhaaGreatDoor

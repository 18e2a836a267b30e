import Derived.Test.YtiomojlcnemnhaaGreatDoorPFxWb
import Derived.Test.YtiomojlcnemnhaaGreatDoorProg
import Derived.KernelRfl
import Derived.Test.YtiomojlcnemnhaaGreatDoorPGxQh
import Derived.Test.YtiomojlcnemnhaaGreatDoorPGxIcX
/- Functions of the seat, as the small language has them. -/
namespace Go.Proofs.YtiomojlcnemnhaaGreatDoor
open Go.Fx

/-- maps.Keys[pedigree/check.arities,string,int] -/
def ic2135 : IC :=
 (.seq
 (.region [1] [] [0, 1, 2] [
 ⟨(some 1), (.box 151 (.t 0)), none, none⟩,
 ⟨(some 2), (.move (.k (.x (.one (.c (.v .nilFunc)))))), none, none⟩])
 (.seq
 (.region [] [] [0, 1, 2] [
 ⟨(some 3), (.clo 219 [] [(.t 1)]), none, none⟩,
 ⟨(some 2), (.move (.t 3)), none, none⟩])
 .ret))
def ir2135 : List IRes := [.tmp 2]
theorem ie2135 : cmpFunc Go.Proofs.Tryz.prog ⟨[], []⟩ Go.Proofs.Tryz.f135 [0, 1, 2] = some ic2135 := by kernel_rfl
theorem ig2135 : cmpRes Go.Proofs.Tryz.prog Go.Proofs.Tryz.f135.results.toList = some ir2135 := by kernel_rfl

end Go.Proofs.YtiomojlcnemnhaaGreatDoor

/- Contracts, on: do all of a list pass. (Labels of 2000 and more: seat ZD.) -/
namespace Go.Proofs.YtiomojlcnemnhaaGreatDoor
open Go.Fx Go.RowKit Go.Ped
variable {G : World → Prop} {σ : Type}

def allE {α : Type} (f : σ → α → Bool × σ) : σ → List α → Bool × σ
  | s, [] => (true, s)
  | s, a :: l => if (f s a).1 = true then allE f (f s a).2 l else (false, (f s a).2)

theorem m2132 (f : σ → Rule → Bool × σ) (Hs : σ → FHp) (hsame : ∀ s t, sameKeys (Hs s) (Hs t)) (fv : A) (hfv : fv.only farKey (fun _ => False)) (hst : ∀ k, k < 10000 → fv.strike [k] = fv) (l : List Rule) (sp : Sp) (hl : l.length ≤ 1048576)
    (hf : ∀ s, ∀ r ∈ l, MeetsV Tryz.prog G fv [.agg (r.row.map A.c)] (hp [] [] (Hs s)) (rB (f s r).1) (hp [] [] (Hs (f s r).2))) (s : σ) :
    MeetsH Tryz.prog G 132 [.one (.c (.sl (l.map Rule.row) sp)), .one fv] (hp [] [] (Hs s)) (rB (allE f s l).1) (hp [] [] (Hs (allE f s l).2)) := by
  refine meetsH [] Tryz.func132 ie2132 ig2132 (Nat.le_of_ble_eq_true rfl) (by simp) (by simp) ?_ (by simp) (by simp) (hsame _ _) (by simp) (by simp) ?_
  · simp
    exact A.only_mono (fun _ => far_not_own) (fun _ h => h.elim) hfv
  generalize hR : allE f s l = R
  simp [ic2132, ir2132, hst]
  refine w_loopA [] [6] [1, 7, 8, 9] (by simp [ownKey])
    (fun a : Nat × σ => st [(1, .k true (.x (.one fv))), (7, .k true (.x (.one (.c (.sl (l.map Rule.row) sp))))), (8, tI .i64 l.length), (9, tI .i64 a.1)] [] [] (Hs a.2)) (fun a => l.length - a.1)
    (fun a => a.1 ≤ l.length ∧ R = allE f a.2 (l.drop a.1)) (0, s) (by simp [hst]) (by simp [hR]) ?_
  rintro ⟨i, t⟩ K hK ⟨hi, hd⟩
  simp only at hi hd
  obtain hlt | hge := Nat.lt_or_ge i l.length
  · rw [List.drop_eq_getElem_cons hlt, allE] at hd
    have hm := hf t l[i] (List.getElem_mem hlt)
    simp [ic2132l0, hlt, hst]
    refine r_callC hm (hsame _ _) rfl rfl rfl (by simp [X.fits]) (by simp) (by simp) ?_
    simp
    cases h0 : (f t l[i]).1 with
    | true =>
      rw [if_pos h0] at hd
      simp
      simp (disch := omega) only [wrap64]
      exact hK (i + 1, (f t l[i]).2) _ (by simp [hst]) ⟨by simp; omega, hd⟩ (by simp; omega)
    | false =>
      rw [h0] at hd
      simp only [Bool.false_eq_true, if_false] at hd
      subst hd
      simp
      exact ret_st (by simp) (by simp) (by simp) (by simp) (by simp) (by simp)
  · rw [List.drop_eq_nil_of_le hge, allE] at hd
    subst hd
    simp [ic2132l0, Nat.not_lt.mpr hge]
    exact ret_st (by simp) (by simp) (by simp) (by simp) (by simp) (by simp)

theorem m2133 (f : σ → Fc → Bool × σ) (Hs : σ → FHp) (hsame : ∀ s t, sameKeys (Hs s) (Hs t)) (fv : A) (hfv : fv.only farKey (fun _ => False)) (hst : ∀ k, k < 10000 → fv.strike [k] = fv) (l : List Fc) (sp : Sp) (hl : l.length ≤ 1048576)
    (hf : ∀ s, ∀ r ∈ l, MeetsV Tryz.prog G fv [.agg (r.row.map A.c)] (hp [] [] (Hs s)) (rB (f s r).1) (hp [] [] (Hs (f s r).2))) (s : σ) :
    MeetsH Tryz.prog G 133 [.one (.c (.sl (l.map Fc.row) sp)), .one fv] (hp [] [] (Hs s)) (rB (allE f s l).1) (hp [] [] (Hs (allE f s l).2)) := by
  refine meetsH [] Tryz.func133 ie2133 ig2133 (Nat.le_of_ble_eq_true rfl) (by simp) (by simp) ?_ (by simp) (by simp) (hsame _ _) (by simp) (by simp) ?_
  · simp
    exact A.only_mono (fun _ => far_not_own) (fun _ h => h.elim) hfv
  generalize hR : allE f s l = R
  simp [ic2133, ir2133, hst]
  refine w_loopA [] [6] [1, 7, 8, 9] (by simp [ownKey])
    (fun a : Nat × σ => st [(1, .k true (.x (.one fv))), (7, .k true (.x (.one (.c (.sl (l.map Fc.row) sp))))), (8, tI .i64 l.length), (9, tI .i64 a.1)] [] [] (Hs a.2)) (fun a => l.length - a.1)
    (fun a => a.1 ≤ l.length ∧ R = allE f a.2 (l.drop a.1)) (0, s) (by simp [hst]) (by simp [hR]) ?_
  rintro ⟨i, t⟩ K hK ⟨hi, hd⟩
  simp only at hi hd
  obtain hlt | hge := Nat.lt_or_ge i l.length
  · rw [List.drop_eq_getElem_cons hlt, allE] at hd
    have hm := hf t l[i] (List.getElem_mem hlt)
    simp [ic2133l0, hlt, hst]
    refine r_callC hm (hsame _ _) rfl rfl rfl (by simp [X.fits]) (by simp) (by simp) ?_
    simp
    cases h0 : (f t l[i]).1 with
    | true =>
      rw [if_pos h0] at hd
      simp
      simp (disch := omega) only [wrap64]
      exact hK (i + 1, (f t l[i]).2) _ (by simp [hst]) ⟨by simp; omega, hd⟩ (by simp; omega)
    | false =>
      rw [h0] at hd
      simp only [Bool.false_eq_true, if_false] at hd
      subst hd
      simp
      exact ret_st (by simp) (by simp) (by simp) (by simp) (by simp) (by simp)
  · rw [List.drop_eq_nil_of_le hge, allE] at hd
    subst hd
    simp [ic2133l0, Nat.not_lt.mpr hge]
    exact ret_st (by simp) (by simp) (by simp) (by simp) (by simp) (by simp)

end Go.Proofs.YtiomojlcnemnhaaGreatDoor

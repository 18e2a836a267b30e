import Derived.Test.YtiomojlcnemnhaaDoorKFxSd
import Derived.Test.YtiomojlcnemnhaaDoorKDxX2
import Derived.Test.YtiomojlcnemnhaaDoorKDxN3
import Derived.Test.YtiomojlcnemnhaaDoorKFxWb
import Derived.Test.YtiomojlcnemnhaaDoorProg
import Derived.KernelRfl
/- Fx, part Se: lists that are copied element by element by a function, with a mark behind: once for all types of elements. -/
namespace Go.Fx
open Go.RowKit

section
variable {P : Program} {G : World → Prop} {α : Type} {s : Nat}

end
end Go.Fx

/- Contracts, on: copies of expressions. -/
namespace Go.Proofs.YtiomojlcnemnhaaDoor
open Go.Fx Go.RowKit Go.Ped

end Go.Proofs.YtiomojlcnemnhaaDoor

/- Contracts, on: copies of expressions, looked at again. -/
namespace Go.Proofs.YtiomojlcnemnhaaDoor
open Go.Fx Go.RowKit Go.Ped

end Go.Proofs.YtiomojlcnemnhaaDoor

/- Contracts, on: copies of literals. -/
namespace Go.Proofs.YtiomojlcnemnhaaDoor
open Go.Fx Go.RowKit Go.Ped

end Go.Proofs.YtiomojlcnemnhaaDoor

/- Contracts, on: the program's walk over the terms of an expression. -/
namespace Go.Proofs.YtiomojlcnemnhaaDoor
open Go.Fx Go.RowKit Go.Ped
variable {G : World → Prop}

section
variable {fv : A} {H H' : FHp} {Q : Exit → S → Prop} {t0 t12 t14 t15 t4 t21 t20 t22 t1 t5 t39 t38 t40 t6 t53 t54 t7 t74 t75 t8 t86 t85 t87 t9 t100 t101 t10 t107 t106 t108 t11 : T}

end

end Go.Proofs.YtiomojlcnemnhaaDoor

/- Functions of the seat, as the small language has them. -/
namespace Go.Proofs.YtiomojlcnemnhaaDoor
open Go.Fx

end Go.Proofs.YtiomojlcnemnhaaDoor

/- Contracts, on: the program's walk over a literal; its variables. -/
namespace Go.Proofs.YtiomojlcnemnhaaDoor
open Go.Fx Go.RowKit Go.Ped
variable {G : World → Prop}

theorem PtAt.sub {es : List (List C)} {i off : Nat} {cs : List C} (h : PtAt es i off cs) (j : Nat) {ds : List C} (hd : (cs.drop j).take ds.length = ds) (hj : j + ds.length ≤ cs.length) : PtAt es i (off + j) ds := by
  obtain ⟨r, h1, h2⟩ := h
  refine ⟨r, h1, ?_⟩
  rw [← h2, List.drop_take, List.take_take, List.drop_drop, Nat.min_eq_left (by omega)] at hd
  exact hd

end Go.Proofs.YtiomojlcnemnhaaDoor

/- Functions of the seat, as the small language has them. -/
namespace Go.Proofs.YtiomojlcnemnhaaDoor
open Go.Fx

abbrev ks99f (t1 t0 t3 t5 t15 t4 : T) (O : List (Nat × Box)) (U : List (Nat × Tok)) (H : FHp) : S := st [(1, t1), (0, t0), (3, t3), (5, t5), (15, t15), (4, t4)] O U H
def ic99l0f : IC :=
 (.seq
 (.seq
 (.region [] [] [1, 0, 3, 5, 15, 4] [
 ⟨(some 11), (.move (.t 5)), none, none⟩,
 ⟨(some 12), (.faddr 5 (.t 3)), none, none⟩,
 ⟨(some 13), (.load none (.t 12)), none, none⟩,
 ⟨(some 14), (.len (.t 13)), none, none⟩,
 ⟨(some 15), (.bin .lss (.t 11) (.t 14)), none, none⟩])
 (.cond (.t 15)
 .skip
 (.exit 0)))
 (.seq
 (.block 1
 (.region [] [] [1, 0, 3, 5, 15, 4] [
 ⟨(some 18), (.move (.t 0)), none, none⟩,
 ⟨(some 19), (.faddr 5 (.t 3)), none, none⟩,
 ⟨(some 20), (.load none (.t 19)), none, none⟩,
 ⟨(some 21), (.move (.t 5)), none, none⟩,
 ⟨(some 22), (.iaddr 6 (.t 20) (.t 21)), none, none⟩,
 ⟨(some 23), (.load (some 6) (.t 22)), none, none⟩,
 ⟨(some 24), (.call (.k (rF 99)) [(.t 18), (.t 23)]), none, none⟩,
 ⟨(some 0), (.move (.t 24)), none, none⟩]))
 (.region [] [] [1, 0, 3, 5, 15, 4] [
 ⟨(some 16), (.move (.t 5)), none, none⟩,
 ⟨(some 17), (.bin .add (.t 16) (.k (rI .i64 1))), none, none⟩,
 ⟨(some 5), (.move (.t 17)), none, none⟩])))

/-- pedigree/pedigreeref04.exprTerms -/
def ic99f : IC :=
 (.seq
 (.region [3] [] [1, 0, 3, 5, 15, 4] [
 ⟨(some 3), (.box 47 (.t 1)), none, none⟩,
 ⟨(some 4), (.move (.k (.x (.one .nil)))), none, none⟩])
 (.seq
 (.region [9] [] [1, 0, 3, 5, 15, 4] [
 ⟨(some 6), (.move (.t 0)), none, none⟩,
 ⟨(some 7), (.faddr 1 (.t 3)), none, none⟩,
 ⟨(some 8), (.load (some 4) (.t 7)), none, none⟩,
 ⟨(some 9), (.row 41 4 [(.t 8)]), none, none⟩,
 ⟨(some 10), (.app 41 4 48 (.t 6) (.t 9)), none, none⟩,
 ⟨(some 0), (.move (.t 10)), none, none⟩])
 (.seq
 (.seq
 (.region [] [] [1, 0, 3, 5, 15, 4] [
 ⟨(some 5), (.move (.k (rI .i64 0))), none, none⟩])
 (.block 0
 (.loop ic99l0f)))
 (.seq
 (.region [] [] [1, 0, 3, 5, 15, 4] [
 ⟨(some 25), (.move (.t 0)), none, none⟩,
 ⟨(some 4), (.move (.t 25)), none, none⟩])
 .ret))))
def ir99f : List IRes := [.tmp 4]
theorem ie99f : cmpFunc Go.Proofs.Tryd.prog ⟨[(24, none)], []⟩ Go.Proofs.Tryd.f99 [1, 0, 3, 5, 15, 4] = some ic99f := by kernel_rfl
theorem ig99f : cmpRes Go.Proofs.Tryd.prog Go.Proofs.Tryd.f99.results.toList = some ir99f := by kernel_rfl

end Go.Proofs.YtiomojlcnemnhaaDoor

/- Contracts, on: the document's terms of an expression. -/
namespace Go.Proofs.YtiomojlcnemnhaaDoor
open Go.Fx Go.RowKit Go.Ped
variable {G : World → Prop}

abbrev U99 (k n : Nat) : List (Nat × Tok) := [(k, ⟨41, 4, n⟩)]

set_option maxHeartbeats 2000000 in
theorem m99 : ∀ e : Ex, e.small 1048576 → ∀ es : List (List C), es.length + e.terms.length ≤ 100000000 →
    MeetsH Tryd.prog G 99 [.one (.own 10030 es), .agg (e.row.map A.c)] (hp [] (U99 10030 es.length) F0) (.x (.one (.own 10030 (es ++ e.terms.map Tm.row)))) (hp [] (U99 10030 (es ++ e.terms.map Tm.row).length) F0) := by
  refine Ex.ind fun op t kids sp ih hs es hle => ?_
  obtain ⟨hl, hk⟩ := Ex.small_mk.1 hs
  rw [Ex.terms_mk] at hle ⊢
  refine meetsH [] Tryd.func99 ie99f ig99f (Nat.le_of_ble_eq_true rfl) (by simp) (by simp [midKey]) (by simp [Ex.row_mk]) (by simp) (by simp) (sameKeys_refl F0) (by simp) (by simp) ?_
  rw [Ex.row_mk]
  simp [ic99f, ir99f]
  have htot : ((kids.map fun a => a.terms.length).sum + 1) + es.length ≤ 100000000 := by
    simp only [List.length_cons, List.length_flatMap] at hle; omega
  refine k_row rfl rfl (by simp) (by simp) ?_
  refine k_app (k := 10030) (es := es) (q := ⟨41, 4, es.length⟩) (by simp) rfl rfl (by simp) (by simp) rfl rfl rfl (by simp [maxLen]; omega) (by simp [maxBytes]; omega) trivial ?_
  simp
  generalize htt : es ++ t.row :: List.map Tm.row (List.flatMap Ex.terms kids) = tot at *
  have hlen2 : es.length + ((kids.map fun a => a.terms.length).sum + 1) = tot.length := by rw [← htt]; simp [List.length_flatMap]
  rw [hlen2]
  let k : Nat → List (List C) → T → T → S := fun j E t15 t1 => ks99f t1 (.k true (.x (.one (.own 10030 E)))) (.k true (.x (.one (.ref 3 0 0)))) (tI .i64 j) t15 (.k true (.x (.one .nil)))
    [(3, ⟨47, 6, [(Ex.mk op t kids sp).row.map A.c], none⟩)] (U99 10030 E.length) F0
  refine w_loopS [9] (by simp [ownKey]) (fun n σ => ∃ (j : Nat) (E : List (List C)) (t15 t1 : T), j + n = kids.length ∧ E ++ ((kids.drop j).flatMap Ex.terms).map Tm.row = tot ∧ σ = k j E t15 t1)
    kids.length ⟨0, es ++ [t.row], _, _, by simp, by simp [← htt], by simp [k, Ex.row_mk, Tm.row]; rfl⟩ ?_
  rintro n σ1 K hK ⟨j, E, t15, t1, hj, hE, rfl⟩
  obtain hlt | hge := Nat.lt_or_ge j kids.length
  · rw [List.drop_eq_getElem_cons hlt, List.flatMap_cons, List.map_append, ← List.append_assoc] at hE
    have hb : E.length + kids[j].terms.length ≤ 100000000 := by
      have := congrArg List.length hE
      simp at this
      omega
    have hm := ih kids[j] (List.getElem_mem hlt) (hk _ (List.getElem_mem hlt)) E hb
    have htk : (kids[j].row.map A.c).take 6 = kids[j].row.map A.c := List.take_of_length_le (by simp)
    simp [k, ic99l0f, hlt, Ex.row_mk]
    refine r_callV _ _ [] _ _ [] _ F0 (MeetsV.of_fun hm) rfl rfl rfl (by simp [htk]) (by simp) (by simp) (by simp) (by simp) (by simp) (by simp) (by simp) (by simp) (sameKeys_refl F0) rfl ?_
    simp [wrap_next hlt (by omega)]
    exact hK _ (n - 1) (by omega) ⟨j + 1, _, _, _, by omega, hE, by simp [k, Ex.row_mk]; rfl⟩
  · rw [List.drop_eq_nil_of_le hge] at hE
    simp at hE
    subst hE
    simp [k, ic99l0f, Nat.not_lt.mpr hge, Ex.row_mk]
    exact ret_st (by simp) (by simp) (by simp) (by simp) (by simp) (by simp)
end Go.Proofs.YtiomojlcnemnhaaDoor

/- Contracts, on: the document's terms of an expression, from nothing on. -/
namespace Go.Proofs.YtiomojlcnemnhaaDoor
open Go.Fx Go.RowKit Go.Ped
variable {G : World → Prop}

/-- Two names change places. -/
def swF (a b k : Nat) : Nat := if k = a then b else if k = b then a else k
theorem swF_swF (a b k : Nat) : swF a b (swF a b k) = k := by
  unfold swF; split <;> (try split) <;> (try split) <;> (try split) <;> simp_all
def swR (a b : Nat) : Ren := ⟨swF a b, swF a b, swF_swF a b, swF_swF a b⟩
@[simp] theorem swR_f (a b : Nat) : (swR a b).f = swF a b := rfl

theorem c99 (K : Nat) (hK : K < 10000) (e : Ex) (hs : e.small 1048576) (es : List (List C)) (hle : es.length + e.terms.length ≤ 100000000) :
    MeetsV Tryd.prog G (fnA 99) [.one (.own K es), .agg (e.row.map A.c)] (hp [] (U99 K es.length) F0) (.x (.one (.own K (es ++ e.terms.map Tm.row)))) (hp [] (U99 K (es ++ e.terms.map Tm.row).length) F0) := by
  have h := (MeetsV.of_fun (m99 (G := G) e hs es hle)).ren (π := swR 10030 K)
  have e1 : swF 10030 K 10030 = K := by simp [swF]
  simp [e1] at h
  simpa using h

set_option maxHeartbeats 2000000 in
theorem m99n (e : Ex) (hs : e.small 1048576) (hle : e.terms.length ≤ 100000000) :
    MeetsH Tryd.prog G 99 [.one .nil, .agg (e.row.map A.c)] (hp [] [] F0) (.x (.one (.own 10 (e.terms.map Tm.row)))) (hp [] (U99 10 (e.terms.map Tm.row).length) F0) := by
  obtain ⟨op, t, kids, sp⟩ := e
  obtain ⟨hl, hk⟩ := Ex.small_mk.1 hs
  rw [Ex.terms_mk] at hle ⊢
  refine meetsH [] Tryd.func99 ie99f ig99f (Nat.le_of_ble_eq_true rfl) (by simp) (by simp) (by simp [Ex.row_mk]) (by simp) (by simp) (sameKeys_refl F0) (by simp) (by simp) ?_
  rw [Ex.row_mk]
  simp [ic99f, ir99f]
  refine k_row rfl rfl (by simp) (by simp) ?_
  refine k_app0 (by simp) rfl rfl (by simp) (by simp) (by simp [maxLen]) (by simp [maxBytes]) ?_
  simp
  have htot : ((kids.map fun a => a.terms.length).sum + 1) ≤ 100000000 := by
    simp only [List.length_cons, List.length_flatMap] at hle; omega
  generalize htt : t.row :: List.map Tm.row (List.flatMap Ex.terms kids) = tot at *
  have hlen2 : (kids.map fun a => a.terms.length).sum + 1 = tot.length := by rw [← htt]; simp [List.length_flatMap]
  rw [hlen2]
  let k : Nat → List (List C) → T → T → S := fun j E t15 t1 => ks99f t1 (.k true (.x (.one (.own 10 E)))) (.k true (.x (.one (.ref 3 0 0)))) (tI .i64 j) t15 (.k true (.x (.one .nil)))
    [(3, ⟨47, 6, [(Ex.mk op t kids sp).row.map A.c], none⟩)] (U99 10 E.length) F0
  refine w_loopS [9] (by simp [ownKey]) (fun n σ => ∃ (j : Nat) (E : List (List C)) (t15 t1 : T), j + n = kids.length ∧ E ++ ((kids.drop j).flatMap Ex.terms).map Tm.row = tot ∧ σ = k j E t15 t1)
    kids.length ⟨0, [t.row], _, _, by simp, by simp [← htt], by simp [k, Ex.row_mk, Tm.row]; rfl⟩ ?_
  rintro n σ1 K hK ⟨j, E, t15, t1, hj, hE, rfl⟩
  obtain hlt | hge := Nat.lt_or_ge j kids.length
  · rw [List.drop_eq_getElem_cons hlt, List.flatMap_cons, List.map_append, ← List.append_assoc] at hE
    have hb : E.length + kids[j].terms.length ≤ 100000000 := by
      have := congrArg List.length hE
      simp at this
      omega
    have hm := c99 (G := G) 10 (by omega) kids[j] (hk _ (List.getElem_mem hlt)) E hb
    have htk : (kids[j].row.map A.c).take 6 = kids[j].row.map A.c := List.take_of_length_le (by simp)
    simp [k, ic99l0f, hlt, Ex.row_mk]
    refine r_callV _ _ [] _ _ [] _ F0 hm rfl rfl rfl (by simp [htk]) (by simp) (by simp) (by simp) (by simp) (by simp) (by simp) (by simp) (by simp) (sameKeys_refl F0) rfl ?_
    simp [wrap_next hlt (by omega)]
    exact hK _ (n - 1) (by omega) ⟨j + 1, _, _, _, by omega, hE, by simp [k, Ex.row_mk]; rfl⟩
  · rw [List.drop_eq_nil_of_le hge] at hE
    simp at hE
    subst hE
    simp [k, ic99l0f, Nat.not_lt.mpr hge, Ex.row_mk]
    exact ret_st (by simp) (by simp) (by simp) (by simp) (by simp) (by simp)
end Go.Proofs.YtiomojlcnemnhaaDoor

/- Contracts, on: the document's terms of a literal; its variables. -/
namespace Go.Proofs.YtiomojlcnemnhaaDoor
open Go.Fx Go.RowKit Go.Ped
variable {G : World → Prop}

end Go.Proofs.YtiomojlcnemnhaaDoor

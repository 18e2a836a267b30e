import Derived.Test.YtiomojlcnemnhaaDoorFxWb
import Derived.Test.YtiomojlcnemnhaaDoorProg
import Derived.KernelRfl
import Derived.Test.YtiomojlcnemnhaaDoorDxX8
/- Functions of the seat, as the small language has them. -/
namespace Go.Proofs.YtiomojlcnemnhaaDoor
open Go.Fx

/-- pedigree/pedigreeref04.LiteralVars -/
def ic60f : IC :=
 (.seq
  (.region [1] [] [0, 1, 2] [
    ⟨(some 1), (.box 88 (.t 0)), none, none⟩,
    ⟨(some 2), (.move (.k (.x (.one .nil)))), none, none⟩])
  (.seq
   (.region [] [] [0, 1, 2] [
     ⟨(some 3), (.load (some 16) (.t 1)), none, none⟩,
     ⟨(some 4), (.call (.k (rF 132)) [(.k (.x (.one .nil))), (.t 3)]), none, none⟩,
     ⟨(some 5), (.callp (.k (rF 98)) [(.t 4)]), none, none⟩,
     ⟨(some 2), (.move (.t 5)), none, none⟩])
   .ret))
def ir60f : List IRes := [.tmp 2]
theorem ie60f : cmpFunc Go.Proofs.Tryd.prog ⟨[(4, none)], []⟩ Go.Proofs.Tryd.f60 [0, 1, 2] = some ic60f := by kernel_rfl
theorem ig60f : cmpRes Go.Proofs.Tryd.prog Go.Proofs.Tryd.f60.results.toList = some ir60f := by kernel_rfl

abbrev ks99f (t1 t0 t3 t5 t15 t4 : T) (O : List (Nat × Box)) (U : List (Nat × Tok)) (H : FHp) : S := st [(1, t1), (0, t0), (3, t3), (5, t5), (15, t15), (4, t4)] O U H
def ic99l0f : IC :=
 (.seq
  (.seq
   (.region [] [] [1, 0, 3, 5, 15, 4] [
     ⟨(some 11), (.move (.t 5)), none, none⟩,
     ⟨(some 12), (.faddr 5 (.t 3)), none, none⟩,
     ⟨(some 13), (.load none (.t 12)), none, none⟩,
     ⟨(some 14), (.len (.t 13)), none, none⟩,
     ⟨(some 15), (.bin .lss (.t 11) (.t 14)), none, none⟩])
   (.cond (.t 15)
    .skip
    (.exit 0)))
  (.seq
   (.block 1
    (.region [] [] [1, 0, 3, 5, 15, 4] [
      ⟨(some 18), (.move (.t 0)), none, none⟩,
      ⟨(some 19), (.faddr 5 (.t 3)), none, none⟩,
      ⟨(some 20), (.load none (.t 19)), none, none⟩,
      ⟨(some 21), (.move (.t 5)), none, none⟩,
      ⟨(some 22), (.iaddr 6 (.t 20) (.t 21)), none, none⟩,
      ⟨(some 23), (.load (some 6) (.t 22)), none, none⟩,
      ⟨(some 24), (.call (.k (rF 99)) [(.t 18), (.t 23)]), none, none⟩,
      ⟨(some 0), (.move (.t 24)), none, none⟩]))
   (.region [] [] [1, 0, 3, 5, 15, 4] [
     ⟨(some 16), (.move (.t 5)), none, none⟩,
     ⟨(some 17), (.bin .add (.t 16) (.k (rI .i64 1))), none, none⟩,
     ⟨(some 5), (.move (.t 17)), none, none⟩])))

/-- pedigree/pedigreeref04.exprTerms -/
def ic99f : IC :=
 (.seq
  (.region [3] [] [1, 0, 3, 5, 15, 4] [
    ⟨(some 3), (.box 47 (.t 1)), none, none⟩,
    ⟨(some 4), (.move (.k (.x (.one .nil)))), none, none⟩])
  (.seq
   (.region [9] [] [1, 0, 3, 5, 15, 4] [
     ⟨(some 6), (.move (.t 0)), none, none⟩,
     ⟨(some 7), (.faddr 1 (.t 3)), none, none⟩,
     ⟨(some 8), (.load (some 4) (.t 7)), none, none⟩,
     ⟨(some 9), (.row 41 4 [(.t 8)]), none, none⟩,
     ⟨(some 10), (.app 41 4 48 (.t 6) (.t 9)), none, none⟩,
     ⟨(some 0), (.move (.t 10)), none, none⟩])
   (.seq
    (.seq
     (.region [] [] [1, 0, 3, 5, 15, 4] [
       ⟨(some 5), (.move (.k (rI .i64 0))), none, none⟩])
     (.block 0
      (.loop ic99l0f)))
    (.seq
     (.region [] [] [1, 0, 3, 5, 15, 4] [
       ⟨(some 25), (.move (.t 0)), none, none⟩,
       ⟨(some 4), (.move (.t 25)), none, none⟩])
     .ret))))
def ir99f : List IRes := [.tmp 4]
theorem ie99f : cmpFunc Go.Proofs.Tryd.prog ⟨[(24, none)], []⟩ Go.Proofs.Tryd.f99 [1, 0, 3, 5, 15, 4] = some ic99f := by kernel_rfl
theorem ig99f : cmpRes Go.Proofs.Tryd.prog Go.Proofs.Tryd.f99.results.toList = some ir99f := by kernel_rfl

abbrev ks132f (t1 t5 t3 t11 t0 t4 : T) (O : List (Nat × Box)) (U : List (Nat × Tok)) (H : FHp) : S := st [(1, t1), (5, t5), (3, t3), (11, t11), (0, t0), (4, t4)] O U H
def ic132l0f : IC :=
 (.seq
  (.seq
   (.region [] [] [1, 5, 3, 11, 0, 4] [
     ⟨(some 6), (.move (.t 5)), none, none⟩,
     ⟨(some 7), (.faddr 1 (.t 3)), none, none⟩,
     ⟨(some 8), (.faddr 1 (.t 7)), none, none⟩,
     ⟨(some 9), (.load none (.t 8)), none, none⟩,
     ⟨(some 10), (.len (.t 9)), none, none⟩,
     ⟨(some 11), (.bin .lss (.t 6) (.t 10)), none, none⟩])
   (.cond (.t 11)
    .skip
    (.exit 0)))
  (.seq
   (.block 1
    (.region [21] [] [1, 5, 3, 11, 0, 4] [
      ⟨(some 14), (.move (.t 0)), none, none⟩,
      ⟨(some 15), (.faddr 1 (.t 3)), none, none⟩,
      ⟨(some 16), (.faddr 1 (.t 15)), none, none⟩,
      ⟨(some 17), (.load none (.t 16)), none, none⟩,
      ⟨(some 18), (.move (.t 5)), none, none⟩,
      ⟨(some 19), (.iaddr 4 (.t 17) (.t 18)), none, none⟩,
      ⟨(some 20), (.load (some 4) (.t 19)), none, none⟩,
      ⟨(some 21), (.row 41 4 [(.t 20)]), none, none⟩,
      ⟨(some 22), (.app 41 4 48 (.t 14) (.t 21)), none, none⟩,
      ⟨(some 0), (.move (.t 22)), none, none⟩]))
   (.region [] [] [1, 5, 3, 11, 0, 4] [
     ⟨(some 12), (.move (.t 5)), none, none⟩,
     ⟨(some 13), (.bin .add (.t 12) (.k (rI .i64 1))), none, none⟩,
     ⟨(some 5), (.move (.t 13)), none, none⟩])))

/-- pedigree/pedigreeref04.literalTerms -/
def ic132f : IC :=
 (.seq
  (.region [3] [] [1, 5, 3, 11, 0, 4] [
    ⟨(some 3), (.box 88 (.t 1)), none, none⟩,
    ⟨(some 4), (.move (.k (.x (.one .nil)))), none, none⟩])
  (.seq
   (.seq
    (.region [] [] [1, 5, 3, 11, 0, 4] [
      ⟨(some 5), (.move (.k (rI .i64 0))), none, none⟩])
    (.block 0
     (.loop ic132l0f)))
   (.seq
    (.region [] [] [1, 5, 3, 11, 0, 4] [
      ⟨(some 23), (.move (.t 0)), none, none⟩,
      ⟨(some 24), (.faddr 4 (.t 3)), none, none⟩,
      ⟨(some 25), (.load (some 6) (.t 24)), none, none⟩,
      ⟨(some 26), (.call (.k (rF 99)) [(.t 23), (.t 25)]), none, none⟩,
      ⟨(some 0), (.move (.t 26)), none, none⟩])
    (.seq
     (.region [] [] [1, 5, 3, 11, 0, 4] [
       ⟨(some 27), (.move (.t 0)), none, none⟩,
       ⟨(some 28), (.faddr 10 (.t 3)), none, none⟩,
       ⟨(some 29), (.load (some 6) (.t 28)), none, none⟩,
       ⟨(some 30), (.call (.k (rF 99)) [(.t 27), (.t 29)]), none, none⟩,
       ⟨(some 4), (.move (.t 30)), none, none⟩])
     .ret))))
def ir132f : List IRes := [.tmp 4]
theorem ie132f : cmpFunc Go.Proofs.Tryd.prog ⟨[(26, none), (30, none)], []⟩ Go.Proofs.Tryd.f132 [1, 5, 3, 11, 0, 4] = some ic132f := by kernel_rfl
theorem ig132f : cmpRes Go.Proofs.Tryd.prog Go.Proofs.Tryd.f132.results.toList = some ir132f := by kernel_rfl

end Go.Proofs.YtiomojlcnemnhaaDoor

/- Contracts, on: the document's terms of an expression. -/
namespace Go.Proofs.YtiomojlcnemnhaaDoor
open Go.Fx Go.RowKit Go.Ped
variable {G : World → Prop}

abbrev U99 (k n : Nat) : List (Nat × Tok) := [(k, ⟨41, 4, n⟩)]

set_option maxHeartbeats 2000000 in
theorem m99 : ∀ e : Ex, e.small 1048576 → ∀ es : List (List C), es.length + e.terms.length ≤ 100000000 →
    MeetsH Tryd.prog G 99 [.one (.own 10030 es), .agg (e.row.map A.c)] (hp [] (U99 10030 es.length) F0) (.x (.one (.own 10030 (es ++ e.terms.map Tm.row)))) (hp [] (U99 10030 (es ++ e.terms.map Tm.row).length) F0) := by
  refine Ex.ind fun op t kids sp ih hs es hle => ?_
  obtain ⟨hl, hk⟩ := Ex.small_mk.1 hs
  rw [Ex.terms_mk] at hle ⊢
  refine meetsH [] Tryd.func99 ie99f ig99f (Nat.le_of_ble_eq_true rfl) (by simp) (by simp [midKey]) (by simp [Ex.row_mk]) (by simp) (by simp) (sameKeys_refl F0) (by simp) (by simp) ?_
  rw [Ex.row_mk]
  simp [ic99f, ir99f]
  have htot : ((kids.map fun a => a.terms.length).sum + 1) + es.length ≤ 100000000 := by
    simp only [List.length_cons, List.length_flatMap] at hle; omega
  refine k_row rfl rfl (by simp) (by simp) ?_
  refine k_app (k := 10030) (es := es) (q := ⟨41, 4, es.length⟩) (by simp) rfl rfl (by simp) (by simp) rfl rfl rfl (by simp [maxLen]; omega) (by simp [maxBytes]; omega) trivial ?_
  simp
  generalize htt : es ++ t.row :: List.map Tm.row (List.flatMap Ex.terms kids) = tot at *
  have hlen2 : es.length + ((kids.map fun a => a.terms.length).sum + 1) = tot.length := by rw [← htt]; simp [List.length_flatMap]
  rw [hlen2]
  let k : Nat → List (List C) → T → T → S := fun j E t15 t1 => ks99f t1 (.k true (.x (.one (.own 10030 E)))) (.k true (.x (.one (.ref 3 0 0)))) (tI .i64 j) t15 (.k true (.x (.one .nil)))
    [(3, ⟨47, 6, [(Ex.mk op t kids sp).row.map A.c], none⟩)] (U99 10030 E.length) F0
  refine w_loopS [9] (by simp [ownKey]) (fun n σ => ∃ (j : Nat) (E : List (List C)) (t15 t1 : T), j + n = kids.length ∧ E ++ ((kids.drop j).flatMap Ex.terms).map Tm.row = tot ∧ σ = k j E t15 t1)
    kids.length ⟨0, es ++ [t.row], _, _, by simp, by simp [← htt], by simp [k, Ex.row_mk, Tm.row]; rfl⟩ ?_
  rintro n σ1 K hK ⟨j, E, t15, t1, hj, hE, rfl⟩
  obtain hlt | hge := Nat.lt_or_ge j kids.length
  · rw [List.drop_eq_getElem_cons hlt, List.flatMap_cons, List.map_append, ← List.append_assoc] at hE
    have hb : E.length + kids[j].terms.length ≤ 100000000 := by
      have := congrArg List.length hE
      simp at this
      omega
    have hm := ih kids[j] (List.getElem_mem hlt) (hk _ (List.getElem_mem hlt)) E hb
    have htk : (kids[j].row.map A.c).take 6 = kids[j].row.map A.c := List.take_of_length_le (by simp)
    simp [k, ic99l0f, hlt, Ex.row_mk]
    refine r_callV _ _ [] _ _ [] _ F0 (MeetsV.of_fun hm) rfl rfl rfl (by simp [htk]) (by simp) (by simp) (by simp) (by simp) (by simp) (by simp) (by simp) (by simp) (sameKeys_refl F0) rfl ?_
    simp [wrap_next hlt (by omega)]
    exact hK _ (n - 1) (by omega) ⟨j + 1, _, _, _, by omega, hE, by simp [k, Ex.row_mk]; rfl⟩
  · rw [List.drop_eq_nil_of_le hge] at hE
    simp at hE
    subst hE
    simp [k, ic99l0f, Nat.not_lt.mpr hge, Ex.row_mk]
    exact ret_st (by simp) (by simp) (by simp) (by simp) (by simp) (by simp)
end Go.Proofs.YtiomojlcnemnhaaDoor

/- Contracts, on: the document's terms of an expression, from nothing on. -/
namespace Go.Proofs.YtiomojlcnemnhaaDoor
open Go.Fx Go.RowKit Go.Ped
variable {G : World → Prop}

/-- Two names change places. -/
def swF (a b k : Nat) : Nat := if k = a then b else if k = b then a else k
theorem swF_swF (a b k : Nat) : swF a b (swF a b k) = k := by
  unfold swF; split <;> (try split) <;> (try split) <;> (try split) <;> simp_all
def swR (a b : Nat) : Ren := ⟨swF a b, swF a b, swF_swF a b, swF_swF a b⟩
@[simp] theorem swR_f (a b : Nat) : (swR a b).f = swF a b := rfl

theorem c99 (K : Nat) (hK : K < 10000) (e : Ex) (hs : e.small 1048576) (es : List (List C)) (hle : es.length + e.terms.length ≤ 100000000) :
    MeetsV Tryd.prog G (fnA 99) [.one (.own K es), .agg (e.row.map A.c)] (hp [] (U99 K es.length) F0) (.x (.one (.own K (es ++ e.terms.map Tm.row)))) (hp [] (U99 K (es ++ e.terms.map Tm.row).length) F0) := by
  have h := (MeetsV.of_fun (m99 (G := G) e hs es hle)).ren (π := swR 10030 K)
  have e1 : swF 10030 K 10030 = K := by simp [swF]
  simp [e1] at h
  simpa using h

set_option maxHeartbeats 2000000 in
theorem m99n (e : Ex) (hs : e.small 1048576) (hle : e.terms.length ≤ 100000000) :
    MeetsH Tryd.prog G 99 [.one .nil, .agg (e.row.map A.c)] (hp [] [] F0) (.x (.one (.own 10 (e.terms.map Tm.row)))) (hp [] (U99 10 (e.terms.map Tm.row).length) F0) := by
  obtain ⟨op, t, kids, sp⟩ := e
  obtain ⟨hl, hk⟩ := Ex.small_mk.1 hs
  rw [Ex.terms_mk] at hle ⊢
  refine meetsH [] Tryd.func99 ie99f ig99f (Nat.le_of_ble_eq_true rfl) (by simp) (by simp) (by simp [Ex.row_mk]) (by simp) (by simp) (sameKeys_refl F0) (by simp) (by simp) ?_
  rw [Ex.row_mk]
  simp [ic99f, ir99f]
  refine k_row rfl rfl (by simp) (by simp) ?_
  refine k_app0 (by simp) rfl rfl (by simp) (by simp) (by simp [maxLen]) (by simp [maxBytes]) ?_
  simp
  have htot : ((kids.map fun a => a.terms.length).sum + 1) ≤ 100000000 := by
    simp only [List.length_cons, List.length_flatMap] at hle; omega
  generalize htt : t.row :: List.map Tm.row (List.flatMap Ex.terms kids) = tot at *
  have hlen2 : (kids.map fun a => a.terms.length).sum + 1 = tot.length := by rw [← htt]; simp [List.length_flatMap]
  rw [hlen2]
  let k : Nat → List (List C) → T → T → S := fun j E t15 t1 => ks99f t1 (.k true (.x (.one (.own 10 E)))) (.k true (.x (.one (.ref 3 0 0)))) (tI .i64 j) t15 (.k true (.x (.one .nil)))
    [(3, ⟨47, 6, [(Ex.mk op t kids sp).row.map A.c], none⟩)] (U99 10 E.length) F0
  refine w_loopS [9] (by simp [ownKey]) (fun n σ => ∃ (j : Nat) (E : List (List C)) (t15 t1 : T), j + n = kids.length ∧ E ++ ((kids.drop j).flatMap Ex.terms).map Tm.row = tot ∧ σ = k j E t15 t1)
    kids.length ⟨0, [t.row], _, _, by simp, by simp [← htt], by simp [k, Ex.row_mk, Tm.row]; rfl⟩ ?_
  rintro n σ1 K hK ⟨j, E, t15, t1, hj, hE, rfl⟩
  obtain hlt | hge := Nat.lt_or_ge j kids.length
  · rw [List.drop_eq_getElem_cons hlt, List.flatMap_cons, List.map_append, ← List.append_assoc] at hE
    have hb : E.length + kids[j].terms.length ≤ 100000000 := by
      have := congrArg List.length hE
      simp at this
      omega
    have hm := c99 (G := G) 10 (by omega) kids[j] (hk _ (List.getElem_mem hlt)) E hb
    have htk : (kids[j].row.map A.c).take 6 = kids[j].row.map A.c := List.take_of_length_le (by simp)
    simp [k, ic99l0f, hlt, Ex.row_mk]
    refine r_callV _ _ [] _ _ [] _ F0 hm rfl rfl rfl (by simp [htk]) (by simp) (by simp) (by simp) (by simp) (by simp) (by simp) (by simp) (by simp) (sameKeys_refl F0) rfl ?_
    simp [wrap_next hlt (by omega)]
    exact hK _ (n - 1) (by omega) ⟨j + 1, _, _, _, by omega, hE, by simp [k, Ex.row_mk]; rfl⟩
  · rw [List.drop_eq_nil_of_le hge] at hE
    simp at hE
    subst hE
    simp [k, ic99l0f, Nat.not_lt.mpr hge, Ex.row_mk]
    exact ret_st (by simp) (by simp) (by simp) (by simp) (by simp) (by simp)
end Go.Proofs.YtiomojlcnemnhaaDoor

/- Contracts, on: the document's terms of a literal; its variables. -/
namespace Go.Proofs.YtiomojlcnemnhaaDoor
open Go.Fx Go.RowKit Go.Ped
variable {G : World → Prop}

def key132 (x : Lit) : Nat := if x.l = [] then 10 else 22

set_option maxHeartbeats 8000000 in
theorem m132 (x : Lit) (hs : x.small 1048576) (hle : x.terms.length ≤ 100000000) :
    MeetsH Tryd.prog G 132 [.one .nil, .agg (x.row.map A.c)] (hp [] [] F0) (.x (.one (.own (key132 x) (x.terms.map Tm.row)))) (hp [] (U99 (key132 x) (x.terms.map Tm.row).length) F0) := by
  obtain ⟨kind, p, l, sp, rel, left, right⟩ := x
  obtain ⟨h1, h2, h3⟩ := hs
  have h1 : l.length ≤ 1048576 := h1
  have hrow : (Lit.mk kind p l sp rel left right).row = [cI .i8 kind, cS (bs p), .sl (l.map Tm.row) sp, cI .i8 rel] ++ left.row ++ right.row := rfl
  have hterms : (Lit.mk kind p l sp rel left right).terms = l ++ left.terms ++ right.terms := rfl
  have hkey : key132 (Lit.mk kind p l sp rel left right) = if l = [] then 10 else 22 := rfl
  rw [hterms] at hle ⊢
  rw [hrow, hkey]
  simp only [List.length_append] at hle
  have n1 := m99n (G := G) left h2 (by omega)
  have n2 := c99 (G := G) 10 (by omega) right h3 (left.terms.map Tm.row) (by simp; omega)
  have o1 := c99 (G := G) 22 (by omega) left h2 (l.map Tm.row) (by simp; omega)
  have o2 := c99 (G := G) 22 (by omega) right h3 (l.map Tm.row ++ left.terms.map Tm.row) (by simp; omega)
  have l1 := Ex.row_length left
  have l2 := Ex.row_length right
  have tl : (left.terms.map Tm.row).length + l.length + (right.terms.map Tm.row).length ≤ 100000000 := by simp; omega
  simp only [List.map_append]
  generalize left.row = rl at *
  generalize right.row = rr at *
  generalize left.terms.map Tm.row = tL at *
  generalize right.terms.map Tm.row = tR at *
  match rl, rr, l1, l2 with
  | [a1, a2, a3, a4, a5, a6], [b1, b2, b3, b4, b5, b6], _, _ =>
    refine meetsH [] Tryd.func132 ie132f ig132f (Nat.le_of_ble_eq_true rfl) (by simp) (by simp) (by simp) (by simp) (by simp) (sameKeys_refl F0) (by simp) (by simp) ?_
    simp [ic132f, ir132f]
    let k : Nat → T → T → A → List (Nat × Tok) → S := fun i t1 t11 a U => ks132f t1 (tI .i64 i) (.k true (.x (.one (.ref 3 0 0)))) t11 (.k true (.x (.one a))) (.k true (.x (.one .nil)))
      [(3, ⟨88, 16, [[.c (cI .i8 kind), .c (cS (bs p)), .c (.sl (l.map Tm.row) sp), .c (cI .i8 rel), .c a1, .c a2, .c a3, .c a4, .c a5, .c a6, .c b1, .c b2, .c b3, .c b4, .c b5, .c b6]], none⟩)] U F0
    refine w_loopS [21] (by simp [ownKey]) (fun n σ => ∃ (i : Nat) (t1 t11 : T) (a : A) (U : List (Nat × Tok)), i + n = l.length ∧ AccN 22 41 4 ((l.take i).map Tm.row) a U ∧ (i = 0 → a = .nil) ∧ σ = k i t1 t11 a U)
      l.length ⟨0, _, _, _, _, by simp, by simpa using .nil, fun _ => rfl, by simp [k]; rfl⟩ ?_
    rintro n σ1 K hK ⟨i, t1, t11, a, U, hi, hacc, hi0, rfl⟩
    have hsA : A.strike [21] a = a := hacc.strike (by decide)
    have hsU : strikeU [21] U = U := hacc.strikeU (by decide)
    obtain hlt | hge := Nat.lt_or_ge i l.length
    · have htk : (l.take (i + 1)).map Tm.row = (l.take i).map Tm.row ++ [l[i].row] := by rw [List.take_succ_eq_append_getElem hlt, List.map_append]; rfl
      have hln : ((l.take i).map Tm.row).length = i := by simp; omega
      have hI : ∀ σ' : S, (∃ t1 t11 a U, AccN 22 41 4 ((l.take i).map Tm.row ++ [l[i].row]) a U ∧ σ'.strike [21] = k (i + 1) t1 t11 a U) → K σ' := by
        rintro σ' ⟨t1, t11, a, U, g1, g2⟩
        exact hK σ' (n - 1) (by omega) ⟨i + 1, t1, t11, a, U, by omega, by rw [htk]; exact g1, fun h => absurd h (by omega), g2⟩
      clear hK htk
      generalize (l.take i).map Tm.row = es at *
      have hw := wrap_next hlt (show l.length ≤ 9223372036854775807 by omega)
      simp [k, ic132l0f, hlt, hsA, hsU, Tm.row]
      rcases hacc with ⟨h0, rfl, rfl⟩ | ⟨rfl, rfl⟩
      · obtain rfl : es = [] := h0
        refine k_row rfl rfl (by simp) (by simp) ?_
        refine k_app0 (by simp) rfl rfl (by simp) (by simp) (by simp [maxLen]) (by simp [maxBytes]) ?_
        simp [hw]
        exact hI _ ⟨_, _, _, _, .own rfl, by simp [k, Tm.row]; rfl⟩
      · refine k_row rfl rfl (by simp) (by simp) ?_
        refine k_app (k := 22) (es := es) (q := ⟨41, 4, es.length⟩) (by simp) rfl rfl (by simp) (by simp) rfl rfl (by simp) (by simp [maxLen]; omega) (by simp [maxBytes]; omega) trivial ?_
        simp [hw]
        exact hI _ ⟨_, _, _, _, .own (n := es.length + 1) (by simp), by simp [k, Tm.row]; rfl⟩
    · have hta : l.take i = l := List.take_of_length_le hge
      rw [hta] at hacc
      simp [k, ic132l0f, Nat.not_lt.mpr hge]
      rcases hacc with ⟨h0, rfl, rfl⟩ | ⟨rfl, rfl⟩
      · obtain rfl : l = [] := by simpa using h0
        refine r_callV _ _ [] [] _ [] _ F0 (MeetsV.of_fun n1) rfl rfl rfl (by simp) (by simp) (by simp) (by simp) (by simp) (by simp) (by simp) (by simp) (by simp) (sameKeys_refl F0) rfl ?_
        simp
        refine r_callV _ _ [] _ _ [] _ F0 n2 rfl rfl rfl (by simp) (by simp) (by simp) (by simp) (by simp) (by simp) (by simp) (by simp) (by simp) (sameKeys_refl F0) rfl ?_
        simp
        exact ret_st (by simp) (by simp) (by simp) (by simp) (by simp) (by simp)
      · by_cases hl0 : l = []
        · have : i = 0 := by subst hl0; simp at hi; omega
          cases hi0 this
        · simp [hl0]
          have q1 : (U99 22 (l.map Tm.row).length) = U99 22 l.length := by simp
          refine r_callV _ _ [] _ _ [] _ F0 o1 rfl rfl rfl (by simp) (by simp) (by simp) (by simp) (by simp) (by simp) (by simp) (by simp) (by simp) (sameKeys_refl F0) rfl ?_
          simp
          refine r_callV _ _ [] _ _ [] _ F0 o2 rfl rfl rfl (by simp) (by simp) (by simp) (by simp) (by simp) (by simp) (by simp) (by simp) (by simp) (sameKeys_refl F0) rfl ?_
          simp
          exact ret_st (by simp) (by simp) (by simp) (by simp) (by simp) (by simp)

theorem m60 (x : Lit) (hs : x.small 1048576) (hle : x.terms.length ≤ 1048576) : Meets Tryd.prog G 60 [.agg x.row] (.x (.one (.sl ((tmVars x.terms).map nmRow) []))) := by
  refine meets Tryd.func60 ie60f ig60f (Nat.le_of_ble_eq_true rfl) ?_
  have h := m132 (G := G) x hs (by omega)
  have hlen : x.row.length = 16 := by simp [Lit.row]
  have hk : key132 x < 10000 := by unfold key132; split <;> omega
  generalize key132 x = K at *
  generalize x.row = r at *
  have htk : (r.map A.c).take 16 = r.map A.c := List.take_of_length_le (by simp [hlen])
  simp [ic60f, ir60f, hlen]
  refine r_callV _ _ [] [] _ [] _ F0 (MeetsV.of_fun h) rfl rfl rfl (by simp [htk]) (by simp) (by simp) (by simp) (by simp) (by simp) (by simp) (by simp) (by simpa using hk) (sameKeys_refl F0) rfl ?_
  simp
  refine r_call 98 true _ _ (m98 x.terms [] hle) rfl rfl rfl rfl ?_
  simp
end Go.Proofs.YtiomojlcnemnhaaDoor

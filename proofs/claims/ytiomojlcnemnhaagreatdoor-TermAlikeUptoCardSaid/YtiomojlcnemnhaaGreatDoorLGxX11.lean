import Derived.Test.YtiomojlcnemnhaaGreatDoorLGxM8
import Derived.Test.YtiomojlcnemnhaaGreatDoorLGxW1
import Derived.Test.YtiomojlcnemnhaaGreatDoorLGxN3
import Derived.Test.YtiomojlcnemnhaaGreatDoorLFxZ
import Derived.Test.YtiomojlcnemnhaaGreatDoorProg
import Derived.KernelRfl
namespace Go.Fx
open Go.RowKit
section
variable {P : Program} {G : World → Prop} {α : Type} {s : Nat}
end
end Go.Fx

namespace Go.Proofs.YtiomojlcnemnhaaGreatDoor
open Go.Fx Go.RowKit Go.Ped
end Go.Proofs.YtiomojlcnemnhaaGreatDoor

namespace Go.Proofs.YtiomojlcnemnhaaGreatDoor
open Go.Fx Go.RowKit Go.Ped
end Go.Proofs.YtiomojlcnemnhaaGreatDoor

namespace Go.Proofs.YtiomojlcnemnhaaGreatDoor
open Go.Fx Go.RowKit Go.Ped
end Go.Proofs.YtiomojlcnemnhaaGreatDoor

namespace Go.Proofs.YtiomojlcnemnhaaGreatDoor
open Go.Fx Go.RowKit Go.Ped
variable {G : World → Prop}
def WalksEx (G : World → Prop) (fv : A) (e : Ex) : Prop :=
  ∀ (es sq : List (List C)) (i off : Nat) (H H' : FHp), PtAt es i off e.row → Ch G fv e.terms H H' → MeetsH Tryz.prog G 80 [.one (.ifc 222 (.elem es sq i off)), .one fv] (hp [] [] H) (.tup []) (hp [] [] H')
section
variable {fv : A} {H H' : FHp} {Q : Exit → S → Prop} {t0 t12 t14 t15 t4 t21 t20 t22 t1 t5 t39 t38 t40 t6 t53 t54 t7 t74 t75 t8 t86 t85 t87 t9 t100 t101 t10 t107 t106 t108 t11 : T}
theorem walk_l2 (es sq : List (List C)) (i off : Nat) (kids : List Ex) (sp : List (List C)) (hl : kids.length ≤ maxLen) (hlen : off + 5 < (es[i]?.getD []).length) (hval : (es[i]?.getD [])[off + 5]'hlen = .sl (kids.map Ex.row) sp)
    (hk : ∀ k ∈ kids, WalksEx G fv k) (hc : Ch G fv (kids.flatMap Ex.terms) H H') (hQ : ∀ t86 t87 t9, Q (.exit 5) (ks126 t0 t12 t14 t15 t4 t21 t20 t22 (.k true (.x (.one fv))) t5 t39 t38 t40 t6 t53 t54 t7 t74 t75 (.k true (.x (.one (.elem es sq i off)))) t86 (tI .i64 kids.length) t87 t9 t100 t101 t10 t107 t106 t108 t11 [] [] H')) :
    wpI Tryz.prog G (.loop ic126l2) Q (ks126 t0 t12 t14 t15 t4 t21 t20 t22 (.k true (.x (.one fv))) t5 t39 t38 t40 t6 t53 t54 t7 t74 t75 (.k true (.x (.one (.elem es sq i off)))) (tI .i64 0) (tI .i64 kids.length) t87 t9 t100 t101 t10 t107 t106 t108 t11 [] [] H) := by
  refine w_loopK (fun n σ => ∃ (j : Nat) (H1 : FHp) (t87 t9 : T), j + n = kids.length ∧ Ch G fv ((kids.drop j).flatMap Ex.terms) H1 H' ∧ σ = ks126 t0 t12 t14 t15 t4 t21 t20 t22 (.k true (.x (.one fv))) t5 t39 t38 t40 t6 t53 t54 t7 t74 t75 (.k true (.x (.one (.elem es sq i off)))) (tI .i64 j) (tI .i64 kids.length) t87 t9 t100 t101 t10 t107 t106 t108 t11 [] [] H1)
    kids.length ⟨0, H, _, _, by simp, by simpa using hc, rfl⟩ ?_
  rintro n σ1 K hK ⟨j, H1, t87, t9, hj, hd, rfl⟩
  obtain hlt | hge := Nat.lt_or_ge j kids.length
  · rw [List.drop_eq_getElem_cons hlt, List.flatMap_cons] at hd
    obtain ⟨H2, c1, c2⟩ := hd.split
    have hpt : PtAt (kids.map Ex.row) j 0 kids[j].row := ⟨kids[j].row, by simp [hlt], by rw [List.drop_zero, List.take_of_length_le (Nat.le_refl _)]⟩
    have hm := hk kids[j] (List.getElem_mem hlt) (kids.map Ex.row) sp j 0 H1 H2 hpt c1
    have hs := c1.same
    simp [ic126l2, hlt, hlen, hval]
    refine r_callC (MeetsV.of_fun hm) hs rfl rfl rfl (by simp) (by simp) (by simp) ?_
    simp [wrap_next hlt (by unfold maxLen at hl; omega)]
    exact hK _ (n - 1) (by omega) ⟨j + 1, H2, _, _, by omega, c2, rfl⟩
  · rw [List.drop_eq_nil_of_le hge] at hd
    cases hd
    simp [ic126l2, Nat.not_lt.mpr hge]
    exact hQ _ _ _
end
theorem m126_ex {fv : A} (hfv : fv.only farKey (fun _ => False)) : ∀ e : Ex, e.small 1048576 → WalksEx G fv e := by
  refine Ex.ind fun op t kids sp ih hs => ?_
  obtain ⟨hl, hk⟩ := Ex.small_mk.1 hs
  have hw : ∀ k ∈ kids, WalksEx G fv k := fun k hk' => ih k hk' (hk k hk')
  intro es sq i off H H' hp1 hc
  rw [Ex.row_mk] at hp1
  rw [Ex.terms_mk] at hc
  cases hc with
  | @cons _ _ _ H1 _ h1 hs1 hc =>
  have hlen : off + 5 < (es[i]?.getD []).length := by rcases hp1.len with h | h <;> simp at h; omega
  have hval : (es[i]?.getD [])[off + 5]'hlen = .sl (kids.map Ex.row) sp := (List.getElem?_eq_some_iff.1 (hp1.at 5 (by simp))).2
  have hpt : PtTo es i (off + 1) t := by
    obtain ⟨r, r1, r2⟩ := hp1
    refine ⟨r, r1, ?_⟩
    have h := congrArg (fun l => (l.drop 1).take 4) r2
    simp only [List.length_cons, List.length_nil, List.drop_succ_cons, List.drop_zero, List.take_succ_cons, List.take_zero] at h
    rw [List.drop_take, List.take_take, List.drop_drop] at h
    simpa [Tm.row, Nat.add_comm] using h
  have hm := h1 es sq i (off + 1) hpt
  refine meetsH [] Tryz.func80 ie126 ig126 (Nat.le_of_ble_eq_true rfl) (by simp) (by simp) ?_ (by simp) (by simp) (sameKeys_trans hs1 hc.same) (by simp) (by simp) ?_
  · simp
    exact A.only_mono (fun _ => far_not_own) (fun _ h => h.elim) hfv
  simp [ic126, ir126, hlen, hval]
  refine r_callC hm hs1 rfl rfl rfl (by simp) (by simp) (by simp) ?_
  simp [hlen, hval]
  refine walk_l2 es sq i off kids sp (by unfold maxLen; omega) hlen hval hw hc ?_
  intro t86 t87 t9
  simp
  exact ret_st (by simp) (by simp) (by simp) (by simp) (by simp) (by simp)
end Go.Proofs.YtiomojlcnemnhaaGreatDoor

namespace Go.Proofs.YtiomojlcnemnhaaGreatDoor
open Go.Fx
end Go.Proofs.YtiomojlcnemnhaaGreatDoor

namespace Go.Proofs.YtiomojlcnemnhaaGreatDoor
open Go.Fx Go.RowKit Go.Ped
variable {G : World → Prop}
theorem PtAt.sub {es : List (List C)} {i off : Nat} {cs : List C} (h : PtAt es i off cs) (j : Nat) {ds : List C} (hd : (cs.drop j).take ds.length = ds) (hj : j + ds.length ≤ cs.length) : PtAt es i (off + j) ds := by
  obtain ⟨r, h1, h2⟩ := h
  refine ⟨r, h1, ?_⟩
  rw [← h2, List.drop_take, List.take_take, List.drop_drop, Nat.min_eq_left (by omega)] at hd
  exact hd
theorem m126_lit {fv : A} (hfv : fv.only farKey (fun _ => False)) (x : Lit) (hs : x.small 1048576) (es sq : List (List C)) (i off : Nat) (H H' : FHp) (hp1 : PtAt es i off x.row) (hc : Ch G fv x.terms H H') :
    MeetsH Tryz.prog G 80 [.one (.ifc 221 (.elem es sq i off)), .one fv] (hp [] [] H) (.tup []) (hp [] [] H') := by
  obtain ⟨kind, p, l, sp, rel, left, right⟩ := x
  obtain ⟨h1, h2, h3⟩ := hs
  have h1 : l.length ≤ 1048576 := h1
  have hrow : (Lit.mk kind p l sp rel left right).row = [cI .i8 kind, cS (bs p), .sl (l.map Tm.row) sp, cI .i8 rel] ++ left.row ++ right.row := rfl
  have hterms : (Lit.mk kind p l sp rel left right).terms = l ++ left.terms ++ right.terms := rfl
  rw [hrow] at hp1
  rw [hterms] at hc
  have l1 := Ex.row_length left
  have l2 := Ex.row_length right
  obtain ⟨H2, c12, c3⟩ := hc.split
  obtain ⟨H1, c1, c2⟩ := c12.split
  have pA : PtAt es i (off + 1) [cS (bs p), .sl (l.map Tm.row) sp] := hp1.sub 1 (by simp) (by simp [l1, l2])
  have pL : PtAt es i (off + 4) left.row := hp1.sub 4 (by simp [l1]) (by simp [l1, l2])
  have pR : PtAt es i (off + 10) right.row := hp1.sub 10 (by
    rw [show (10 : Nat) = ([cI .i8 kind, cS (bs p), .sl (l.map Tm.row) sp, cI .i8 rel] ++ left.row).length by simp [l1], List.drop_left, List.take_of_length_le (Nat.le_refl _)]) (by simp [l1, l2])
  have mA := m126_atom (G := G) hfv es sq i (off + 1) p l sp (by unfold maxLen; omega) pA c1
  have mL := m126_ex (G := G) hfv left h2 es sq i (off + 4) H1 H2 pL c2
  have mR := m126_ex (G := G) hfv right h3 es sq i (off + 10) H2 H' pR c3
  refine meetsH [] Tryz.func80 ie126 ig126 (Nat.le_of_ble_eq_true rfl) (by simp) (by simp) ?_ (by simp) (by simp) hc.same (by simp) (by simp) ?_
  · simp
    exact A.only_mono (fun _ => far_not_own) (fun _ h => h.elim) hfv
  simp [ic126, ir126]
  refine r_callC (MeetsV.of_fun mA) c1.same rfl rfl rfl (by simp) (by simp) (by simp) ?_
  simp
  refine r_callC (MeetsV.of_fun mL) c2.same rfl rfl rfl (by simp) (by simp) (by simp) ?_
  simp
  refine r_callC (MeetsV.of_fun mR) c3.same rfl rfl rfl (by simp) (by simp) (by simp) ?_
  simp
  exact ret_st (by simp) (by simp) (by simp) (by simp) (by simp) (by simp)
end Go.Proofs.YtiomojlcnemnhaaGreatDoor

namespace Go.Proofs.YtiomojlcnemnhaaGreatDoor
open Go.Fx
def ic132l0f : IC :=
 (.seq
 (.seq
 (.region [] [] [1, 5, 3, 11, 0, 4] [⟨some 6, (.move (.t 5)), none, none⟩,⟨some 7, (.faddr 1 (.t 3)), none, none⟩,⟨some 8, (.faddr 1 (.t 7)), none, none⟩,⟨some 9, (.load none (.t 8)), none, none⟩,⟨some 10, (.len (.t 9)), none, none⟩,⟨some 11, (.bin .lss (.t 6) (.t 10)), none, none⟩])
 (.cond (.t 11)
 .skip
 (.exit 0)))
 (.seq
 (.block 1
 (.region [21] [] [1, 5, 3, 11, 0, 4] [⟨some 14, (.move (.t 0)), none, none⟩,⟨some 15, (.faddr 1 (.t 3)), none, none⟩,⟨some 16, (.faddr 1 (.t 15)), none, none⟩,⟨some 17, (.load none (.t 16)), none, none⟩,⟨some 18, (.move (.t 5)), none, none⟩,⟨some 19, (.iaddr 4 (.t 17) (.t 18)), none, none⟩,⟨some 20, (.load (some 4) (.t 19)), none, none⟩,⟨some 21, (.row 73 4 [(.t 20)]), none, none⟩,⟨some 22, (.app 73 4 48 (.t 14) (.t 21)), none, none⟩,⟨some 0, (.move (.t 22)), none, none⟩]))
 (.region [] [] [1, 5, 3, 11, 0, 4] [⟨some 12, (.move (.t 5)), none, none⟩,⟨some 13, (.bin .add (.t 12) (.k (rI .i64 1))), none, none⟩,⟨some 5, (.move (.t 13)), none, none⟩])))
def ic132f : IC :=
 (.seq
 (.region [3] [] [1, 5, 3, 11, 0, 4] [⟨some 3, (.box 107 (.t 1)), none, none⟩,⟨some 4, (.move (.k (.x (.one .nil)))), none, none⟩])
 (.seq
 (.seq
 (.region [] [] [1, 5, 3, 11, 0, 4] [⟨some 5, (.move (.k (rI .i64 0))), none, none⟩])
 (.block 0
 (.loop ic132l0f)))
 (.seq
 (.region [] [] [1, 5, 3, 11, 0, 4] [⟨some 23, (.move (.t 0)), none, none⟩,⟨some 24, (.faddr 4 (.t 3)), none, none⟩,⟨some 25, (.load (some 6) (.t 24)), none, none⟩,⟨some 26, (.call (.k (rF 245)) [(.t 23), (.t 25)]), none, none⟩,⟨some 0, (.move (.t 26)), none, none⟩])
 (.seq
 (.region [] [] [1, 5, 3, 11, 0, 4] [⟨some 27, (.move (.t 0)), none, none⟩,⟨some 28, (.faddr 10 (.t 3)), none, none⟩,⟨some 29, (.load (some 6) (.t 28)), none, none⟩,⟨some 30, (.call (.k (rF 245)) [(.t 27), (.t 29)]), none, none⟩,⟨some 4, (.move (.t 30)), none, none⟩])
 .ret))))
def ir132f : List IRes := [.tmp 4]
theorem ie132f : cmpFunc Go.Proofs.Tryz.prog ⟨[(26, none), (30, none)], []⟩ Go.Proofs.Tryz.f167 [1, 5, 3, 11, 0, 4] = some ic132f := by kernel_rfl
theorem ig132f : cmpRes Go.Proofs.Tryz.prog Go.Proofs.Tryz.f167.results.toList = some ir132f := by kernel_rfl
abbrev ks99f (t1 t0 t3 t5 t15 t4 : T) (O : List (Nat × Box)) (U : List (Nat × Fx.Tok)) (H : FHp) : S := st [(1, t1), (0, t0), (3, t3), (5, t5), (15, t15), (4, t4)] O U H
def ic99l0f : IC :=
 (.seq
 (.seq
 (.region [] [] [1, 0, 3, 5, 15, 4] [⟨some 11, (.move (.t 5)), none, none⟩,⟨some 12, (.faddr 5 (.t 3)), none, none⟩,⟨some 13, (.load none (.t 12)), none, none⟩,⟨some 14, (.len (.t 13)), none, none⟩,⟨some 15, (.bin .lss (.t 11) (.t 14)), none, none⟩])
 (.cond (.t 15)
 .skip
 (.exit 0)))
 (.seq
 (.block 1
 (.region [] [] [1, 0, 3, 5, 15, 4] [⟨some 18, (.move (.t 0)), none, none⟩,⟨some 19, (.faddr 5 (.t 3)), none, none⟩,⟨some 20, (.load none (.t 19)), none, none⟩,⟨some 21, (.move (.t 5)), none, none⟩,⟨some 22, (.iaddr 6 (.t 20) (.t 21)), none, none⟩,⟨some 23, (.load (some 6) (.t 22)), none, none⟩,⟨some 24, (.call (.k (rF 245)) [(.t 18), (.t 23)]), none, none⟩,⟨some 0, (.move (.t 24)), none, none⟩]))
 (.region [] [] [1, 0, 3, 5, 15, 4] [⟨some 16, (.move (.t 5)), none, none⟩,⟨some 17, (.bin .add (.t 16) (.k (rI .i64 1))), none, none⟩,⟨some 5, (.move (.t 17)), none, none⟩])))
def ic99f : IC :=
 (.seq
 (.region [3] [] [1, 0, 3, 5, 15, 4] [⟨some 3, (.box 105 (.t 1)), none, none⟩,⟨some 4, (.move (.k (.x (.one .nil)))), none, none⟩])
 (.seq
 (.region [9] [] [1, 0, 3, 5, 15, 4] [⟨some 6, (.move (.t 0)), none, none⟩,⟨some 7, (.faddr 1 (.t 3)), none, none⟩,⟨some 8, (.load (some 4) (.t 7)), none, none⟩,⟨some 9, (.row 73 4 [(.t 8)]), none, none⟩,⟨some 10, (.app 73 4 48 (.t 6) (.t 9)), none, none⟩,⟨some 0, (.move (.t 10)), none, none⟩])
 (.seq
 (.seq
 (.region [] [] [1, 0, 3, 5, 15, 4] [⟨some 5, (.move (.k (rI .i64 0))), none, none⟩])
 (.block 0
 (.loop ic99l0f)))
 (.seq
 (.region [] [] [1, 0, 3, 5, 15, 4] [⟨some 25, (.move (.t 0)), none, none⟩,⟨some 4, (.move (.t 25)), none, none⟩])
 .ret))))
def ir99f : List IRes := [.tmp 4]
theorem ie99f : cmpFunc Go.Proofs.Tryz.prog ⟨[(24, none)], []⟩ Go.Proofs.Tryz.f245 [1, 0, 3, 5, 15, 4] = some ic99f := by kernel_rfl
theorem ig99f : cmpRes Go.Proofs.Tryz.prog Go.Proofs.Tryz.f245.results.toList = some ir99f := by kernel_rfl
end Go.Proofs.YtiomojlcnemnhaaGreatDoor

namespace Go.Proofs.YtiomojlcnemnhaaGreatDoor
open Go.Fx Go.RowKit Go.Ped
variable {G : World → Prop}
abbrev U99 (k n : Nat) : List (Nat × Fx.Tok) := [(k, ⟨73, 4, n⟩)]
set_option maxHeartbeats 2000000 in
theorem m99 : ∀ e : Ex, e.small 1048576 → ∀ es : List (List C), es.length + e.terms.length ≤ 100000000 →
    MeetsH Tryz.prog G 245 [.one (.own 10030 es), .agg (e.row.map A.c)] (hp [] (U99 10030 es.length) F0) (.x (.one (.own 10030 (es ++ e.terms.map Tm.row)))) (hp [] (U99 10030 (es ++ e.terms.map Tm.row).length) F0) := by
  refine Ex.ind fun op t kids sp ih hs es hle => ?_
  obtain ⟨hl, hk⟩ := Ex.small_mk.1 hs
  rw [Ex.terms_mk] at hle ⊢
  refine meetsH [] Tryz.func245 ie99f ig99f (Nat.le_of_ble_eq_true rfl) (by simp) (by simp [midKey]) (by simp [Ex.row_mk]) (by simp) (by simp) (sameKeys_refl F0) (by simp) (by simp) ?_
  rw [Ex.row_mk]
  simp [ic99f, ir99f]
  have htot : ((kids.map fun a => a.terms.length).sum + 1) + es.length ≤ 100000000 := by
    simp only [List.length_cons, List.length_flatMap] at hle; omega
  refine k_row rfl rfl (by simp) (by simp) ?_
  refine k_app (k := 10030) (es := es) (q := ⟨73, 4, es.length⟩) (by simp) rfl rfl (by simp) (by simp) rfl rfl rfl (by simp [maxLen]; omega) (by simp [maxBytes]; omega) trivial ?_
  simp
  generalize htt : es ++ t.row :: List.map Tm.row (List.flatMap Ex.terms kids) = tot at *
  have hlen2 : es.length + ((kids.map fun a => a.terms.length).sum + 1) = tot.length := by rw [← htt]; simp [List.length_flatMap]
  rw [hlen2]
  let k : Nat → List (List C) → T → T → S := fun j E t15 t1 => ks99f t1 (.k true (.x (.one (.own 10030 E)))) (.k true (.x (.one (.ref 3 0 0)))) (tI .i64 j) t15 (.k true (.x (.one .nil)))
    [(3, ⟨105, 6, [(Ex.mk op t kids sp).row.map A.c], none⟩)] (U99 10030 E.length) F0
  refine w_loopS [9] (by simp [ownKey]) (fun n σ => ∃ (j : Nat) (E : List (List C)) (t15 t1 : T), j + n = kids.length ∧ E ++ ((kids.drop j).flatMap Ex.terms).map Tm.row = tot ∧ σ = k j E t15 t1)
    kids.length ⟨0, es ++ [t.row], _, _, by simp, by simp [← htt], by simp [k, Ex.row_mk, Tm.row]; rfl⟩ ?_
  rintro n σ1 K hK ⟨j, E, t15, t1, hj, hE, rfl⟩
  obtain hlt | hge := Nat.lt_or_ge j kids.length
  · rw [List.drop_eq_getElem_cons hlt, List.flatMap_cons, List.map_append, ← List.append_assoc] at hE
    have hb : E.length + kids[j].terms.length ≤ 100000000 := by
      have := congrArg List.length hE
      simp at this
      omega
    have hm := ih kids[j] (List.getElem_mem hlt) (hk _ (List.getElem_mem hlt)) E hb
    have htk : (kids[j].row.map A.c).take 6 = kids[j].row.map A.c := List.take_of_length_le (by simp)
    simp [k, ic99l0f, hlt, Ex.row_mk]
    refine r_callV _ _ [] _ _ [] _ F0 (MeetsV.of_fun hm) rfl rfl rfl (by simp [htk]) (by simp) (by simp) (by simp) (by simp) (by simp) (by simp) (by simp) (by simp) (sameKeys_refl F0) rfl ?_
    simp [wrap_next hlt (by omega)]
    exact hK _ (n - 1) (by omega) ⟨j + 1, _, _, _, by omega, hE, by simp [k, Ex.row_mk]; rfl⟩
  · rw [List.drop_eq_nil_of_le hge] at hE
    simp at hE
    subst hE
    simp [k, ic99l0f, Nat.not_lt.mpr hge, Ex.row_mk]
    exact ret_st (by simp) (by simp) (by simp) (by simp) (by simp) (by simp)
end Go.Proofs.YtiomojlcnemnhaaGreatDoor

namespace Go.Proofs.YtiomojlcnemnhaaGreatDoor
open Go.Fx Go.RowKit Go.Ped
variable {G : World → Prop}
def swF (a b k : Nat) : Nat := if k = a then b else if k = b then a else k
theorem swF_swF (a b k : Nat) : swF a b (swF a b k) = k := by
  unfold swF; split <;> (try split) <;> (try split) <;> (try split) <;> simp_all
def swR (a b : Nat) : Ren := ⟨swF a b, swF a b, swF_swF a b, swF_swF a b⟩
@[simp] theorem swR_f (a b : Nat) : (swR a b).f = swF a b := rfl
theorem c99 (K : Nat) (hK : K < 10000) (e : Ex) (hs : e.small 1048576) (es : List (List C)) (hle : es.length + e.terms.length ≤ 100000000) :
    MeetsV Tryz.prog G (fnA 245) [.one (.own K es), .agg (e.row.map A.c)] (hp [] (U99 K es.length) F0) (.x (.one (.own K (es ++ e.terms.map Tm.row)))) (hp [] (U99 K (es ++ e.terms.map Tm.row).length) F0) := by
  have h := (MeetsV.of_fun (m99 (G := G) e hs es hle)).ren (π := swR 10030 K)
  have e1 : swF 10030 K 10030 = K := by simp [swF]
  simp [e1] at h
  simpa using h
end Go.Proofs.YtiomojlcnemnhaaGreatDoor

namespace Go.Proofs.YtiomojlcnemnhaaGreatDoor
open Go.Fx Go.RowKit Go.Ped
variable {G : World → Prop}
end Go.Proofs.YtiomojlcnemnhaaGreatDoor

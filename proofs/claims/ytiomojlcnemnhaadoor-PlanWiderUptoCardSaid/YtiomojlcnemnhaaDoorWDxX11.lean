import Derived.Test.YtiomojlcnemnhaaDoorWDxM8
import Derived.Test.YtiomojlcnemnhaaDoorWPedF
import Derived.Test.YtiomojlcnemnhaaDoorWDxN3
import Derived.Test.YtiomojlcnemnhaaDoorWFxZ
import Derived.Test.YtiomojlcnemnhaaDoorProg
import Derived.KernelRfl
namespace Go.Fx
open Go.RowKit
section
variable {P : Program} {G : World → Prop} {α : Type} {s : Nat}
end
end Go.Fx

namespace Go.Proofs.YtiomojlcnemnhaaDoor
open Go.Fx Go.RowKit Go.Ped
end Go.Proofs.YtiomojlcnemnhaaDoor

namespace Go.Proofs.YtiomojlcnemnhaaDoor
open Go.Fx Go.RowKit Go.Ped
end Go.Proofs.YtiomojlcnemnhaaDoor

namespace Go.Proofs.YtiomojlcnemnhaaDoor
open Go.Fx Go.RowKit Go.Ped
end Go.Proofs.YtiomojlcnemnhaaDoor

namespace Go.Proofs.YtiomojlcnemnhaaDoor
open Go.Fx Go.RowKit Go.Ped
variable {G : World → Prop}
def WalksEx (G : World → Prop) (fv : A) (e : Ex) : Prop :=
  ∀ (es sq : List (List C)) (i off : Nat) (H H' : FHp), PtAt es i off e.row → Ch G fv e.terms H H' → MeetsH Tryd.prog G 126 [.one (.ifc 232 (.elem es sq i off)), .one fv] (hp [] [] H) (.tup []) (hp [] [] H')
section
variable {fv : A} {H H' : FHp} {Q : Exit → S → Prop} {t0 t12 t14 t15 t4 t21 t20 t22 t1 t5 t39 t38 t40 t6 t53 t54 t7 t74 t75 t8 t86 t85 t87 t9 t100 t101 t10 t107 t106 t108 t11 : T}
theorem walk_l2 (es sq : List (List C)) (i off : Nat) (kids : List Ex) (sp : List (List C)) (hl : kids.length ≤ maxLen) (hlen : off + 5 < (es[i]?.getD []).length) (hval : (es[i]?.getD [])[off + 5]'hlen = .sl (kids.map Ex.row) sp)
    (hk : ∀ k ∈ kids, WalksEx G fv k) (hc : Ch G fv (kids.flatMap Ex.terms) H H') (hQ : ∀ t86 t87 t9, Q (.exit 5) (ks126 t0 t12 t14 t15 t4 t21 t20 t22 (.k true (.x (.one fv))) t5 t39 t38 t40 t6 t53 t54 t7 t74 t75 (.k true (.x (.one (.elem es sq i off)))) t86 (tI .i64 kids.length) t87 t9 t100 t101 t10 t107 t106 t108 t11 [] [] H')) :
    wpI Tryd.prog G (.loop ic126l2) Q (ks126 t0 t12 t14 t15 t4 t21 t20 t22 (.k true (.x (.one fv))) t5 t39 t38 t40 t6 t53 t54 t7 t74 t75 (.k true (.x (.one (.elem es sq i off)))) (tI .i64 0) (tI .i64 kids.length) t87 t9 t100 t101 t10 t107 t106 t108 t11 [] [] H) := by
  refine w_loopK (fun n σ => ∃ (j : Nat) (H1 : FHp) (t87 t9 : T), j + n = kids.length ∧ Ch G fv ((kids.drop j).flatMap Ex.terms) H1 H' ∧ σ = ks126 t0 t12 t14 t15 t4 t21 t20 t22 (.k true (.x (.one fv))) t5 t39 t38 t40 t6 t53 t54 t7 t74 t75 (.k true (.x (.one (.elem es sq i off)))) (tI .i64 j) (tI .i64 kids.length) t87 t9 t100 t101 t10 t107 t106 t108 t11 [] [] H1)
    kids.length ⟨0, H, _, _, by simp, by simpa using hc, rfl⟩ ?_
  rintro n σ1 K hK ⟨j, H1, t87, t9, hj, hd, rfl⟩
  obtain hlt | hge := Nat.lt_or_ge j kids.length
  · rw [List.drop_eq_getElem_cons hlt, List.flatMap_cons] at hd
    obtain ⟨H2, c1, c2⟩ := hd.split
    have hpt : PtAt (kids.map Ex.row) j 0 kids[j].row := ⟨kids[j].row, by simp [hlt], by rw [List.drop_zero, List.take_of_length_le (Nat.le_refl _)]⟩
    have hm := hk kids[j] (List.getElem_mem hlt) (kids.map Ex.row) sp j 0 H1 H2 hpt c1
    have hs := c1.same
    simp [ic126l2, hlt, hlen, hval]
    refine r_callC (MeetsV.of_fun hm) hs rfl rfl rfl (by simp) (by simp) (by simp) ?_
    simp [wrap_next hlt (by unfold maxLen at hl; omega)]
    exact hK _ (n - 1) (by omega) ⟨j + 1, H2, _, _, by omega, c2, rfl⟩
  · rw [List.drop_eq_nil_of_le hge] at hd
    cases hd
    simp [ic126l2, Nat.not_lt.mpr hge]
    exact hQ _ _ _
end
theorem m126_ex {fv : A} (hfv : fv.only farKey (fun _ => False)) : ∀ e : Ex, e.small 1048576 → WalksEx G fv e := by
  refine Ex.ind fun op t kids sp ih hs => ?_
  obtain ⟨hl, hk⟩ := Ex.small_mk.1 hs
  have hw : ∀ k ∈ kids, WalksEx G fv k := fun k hk' => ih k hk' (hk k hk')
  intro es sq i off H H' hp1 hc
  rw [Ex.row_mk] at hp1
  rw [Ex.terms_mk] at hc
  cases hc with
  | @cons _ _ _ H1 _ h1 hs1 hc =>
  have hlen : off + 5 < (es[i]?.getD []).length := by rcases hp1.len with h | h <;> simp at h; omega
  have hval : (es[i]?.getD [])[off + 5]'hlen = .sl (kids.map Ex.row) sp := (List.getElem?_eq_some_iff.1 (hp1.at 5 (by simp))).2
  have hpt : PtTo es i (off + 1) t := by
    obtain ⟨r, r1, r2⟩ := hp1
    refine ⟨r, r1, ?_⟩
    have h := congrArg (fun l => (l.drop 1).take 4) r2
    simp only [List.length_cons, List.length_nil, List.drop_succ_cons, List.drop_zero, List.take_succ_cons, List.take_zero] at h
    rw [List.drop_take, List.take_take, List.drop_drop] at h
    simpa [Tm.row, Nat.add_comm] using h
  have hm := h1 es sq i (off + 1) hpt
  refine meetsH [] Tryd.func126 ie126 ig126 (Nat.le_of_ble_eq_true rfl) (by simp) (by simp) ?_ (by simp) (by simp) (sameKeys_trans hs1 hc.same) (by simp) (by simp) ?_
  · simp
    exact A.only_mono (fun _ => far_not_own) (fun _ h => h.elim) hfv
  simp [ic126, ir126, hlen, hval]
  refine r_callC hm hs1 rfl rfl rfl (by simp) (by simp) (by simp) ?_
  simp [hlen, hval]
  refine walk_l2 es sq i off kids sp (by unfold maxLen; omega) hlen hval hw hc ?_
  intro t86 t87 t9
  simp
  exact ret_st (by simp) (by simp) (by simp) (by simp) (by simp) (by simp)
end Go.Proofs.YtiomojlcnemnhaaDoor

namespace Go.Proofs.YtiomojlcnemnhaaDoor
open Go.Fx
def ic59f : IC :=
 (.seq
 (.region [1] [] [0, 1, 2] [⟨some 1, (.box 88 (.t 0)), none, none⟩,⟨some 2, (.move (.k (.x (.one .nil)))), none, none⟩])
 (.seq
 (.region [] [.fz [1]] [0, 1, 2] [⟨some 3, (.mki 184 (.t 1)), none, none⟩,⟨some 4, (.call (.k (rF 118)) [(.t 3)]), none, none⟩,⟨some 2, (.move (.t 4)), none, none⟩])
 .ret))
def ir59f : List IRes := [.tmp 2]
theorem ie59f : cmpFunc Go.Proofs.Tryd.prog ⟨[(4, none)], [(3, .fz [1])]⟩ Go.Proofs.Tryd.f59 [0, 1, 2] = some ic59f := by kernel_rfl
theorem ig59f : cmpRes Go.Proofs.Tryd.prog Go.Proofs.Tryd.f59.results.toList = some ir59f := by kernel_rfl
end Go.Proofs.YtiomojlcnemnhaaDoor

namespace Go.Proofs.YtiomojlcnemnhaaDoor
open Go.Fx Go.RowKit Go.Ped
variable {G : World → Prop}
theorem PtAt.sub {es : List (List C)} {i off : Nat} {cs : List C} (h : PtAt es i off cs) (j : Nat) {ds : List C} (hd : (cs.drop j).take ds.length = ds) (hj : j + ds.length ≤ cs.length) : PtAt es i (off + j) ds := by
  obtain ⟨r, h1, h2⟩ := h
  refine ⟨r, h1, ?_⟩
  rw [← h2, List.drop_take, List.take_take, List.drop_drop, Nat.min_eq_left (by omega)] at hd
  exact hd
theorem m126_lit {fv : A} (hfv : fv.only farKey (fun _ => False)) (x : Lit) (hs : x.small 1048576) (es sq : List (List C)) (i off : Nat) (H H' : FHp) (hp1 : PtAt es i off x.row) (hc : Ch G fv x.terms H H') :
    MeetsH Tryd.prog G 126 [.one (.ifc 184 (.elem es sq i off)), .one fv] (hp [] [] H) (.tup []) (hp [] [] H') := by
  obtain ⟨kind, p, l, sp, rel, left, right⟩ := x
  obtain ⟨h1, h2, h3⟩ := hs
  have h1 : l.length ≤ 1048576 := h1
  have hrow : (Lit.mk kind p l sp rel left right).row = [cI .i8 kind, cS (bs p), .sl (l.map Tm.row) sp, cI .i8 rel] ++ left.row ++ right.row := rfl
  have hterms : (Lit.mk kind p l sp rel left right).terms = l ++ left.terms ++ right.terms := rfl
  rw [hrow] at hp1
  rw [hterms] at hc
  have l1 := Ex.row_length left
  have l2 := Ex.row_length right
  obtain ⟨H2, c12, c3⟩ := hc.split
  obtain ⟨H1, c1, c2⟩ := c12.split
  have pA : PtAt es i (off + 1) [cS (bs p), .sl (l.map Tm.row) sp] := hp1.sub 1 (by simp) (by simp [l1, l2])
  have pL : PtAt es i (off + 4) left.row := hp1.sub 4 (by simp [l1]) (by simp [l1, l2])
  have pR : PtAt es i (off + 10) right.row := hp1.sub 10 (by
    rw [show (10 : Nat) = ([cI .i8 kind, cS (bs p), .sl (l.map Tm.row) sp, cI .i8 rel] ++ left.row).length by simp [l1], List.drop_left, List.take_of_length_le (Nat.le_refl _)]) (by simp [l1, l2])
  have mA := m126_atom (G := G) hfv es sq i (off + 1) p l sp (by unfold maxLen; omega) pA c1
  have mL := m126_ex (G := G) hfv left h2 es sq i (off + 4) H1 H2 pL c2
  have mR := m126_ex (G := G) hfv right h3 es sq i (off + 10) H2 H' pR c3
  refine meetsH [] Tryd.func126 ie126 ig126 (Nat.le_of_ble_eq_true rfl) (by simp) (by simp) ?_ (by simp) (by simp) hc.same (by simp) (by simp) ?_
  · simp
    exact A.only_mono (fun _ => far_not_own) (fun _ h => h.elim) hfv
  simp [ic126, ir126]
  refine r_callC (MeetsV.of_fun mA) c1.same rfl rfl rfl (by simp) (by simp) (by simp) ?_
  simp
  refine r_callC (MeetsV.of_fun mL) c2.same rfl rfl rfl (by simp) (by simp) (by simp) ?_
  simp
  refine r_callC (MeetsV.of_fun mR) c3.same rfl rfl rfl (by simp) (by simp) (by simp) ?_
  simp
  exact ret_st (by simp) (by simp) (by simp) (by simp) (by simp) (by simp)
theorem m59 (x : Lit) (hs : x.small 1048576) (hl : x.terms.length ≤ 2000000) : Meets Tryd.prog G 59 [.agg x.row] (.x (.one (.sl ((tmVars x.terms).map nmRow) []))) := by
  refine meets Tryd.func59 ie59f ig59f (Nat.le_of_ble_eq_true rfl) ?_
  have hlen : x.row.length = 16 := by simp [Lit.row]
  have hw : Walks G (.ifc 184 (.elem [x.row] [] 0 0)) x.terms := fun fv H H' hfv hc => m126_lit hfv x hs [x.row] [] 0 0 H H' ⟨x.row, rfl, by rw [List.drop_zero, List.take_of_length_le (Nat.le_refl _)]⟩ hc
  generalize x.row = r at *
  simp [ic59f, ir59f, freeze_st, fzL, freezeO, maxLen, closeL, A.close]
  refine r_call0 (MeetsV.of_fun (m118 _ x.terms (by simp) (fun _ => rfl) (fun _ => rfl) (fun _ => rfl) hl hw)) rfl rfl rfl (by simp) (by simp) (by simp) ?_
  simp
end Go.Proofs.YtiomojlcnemnhaaDoor

namespace Go.Proofs.YtiomojlcnemnhaaDoor
open Go.Fx
end Go.Proofs.YtiomojlcnemnhaaDoor

namespace Go.Proofs.YtiomojlcnemnhaaDoor
open Go.Fx Go.RowKit Go.Ped
variable {G : World → Prop}
end Go.Proofs.YtiomojlcnemnhaaDoor

namespace Go.Proofs.YtiomojlcnemnhaaDoor
open Go.Fx Go.RowKit Go.Ped
variable {G : World → Prop}
def swF (a b k : Nat) : Nat := if k = a then b else if k = b then a else k
theorem swF_swF (a b k : Nat) : swF a b (swF a b k) = k := by
  unfold swF; split <;> (try split) <;> (try split) <;> (try split) <;> simp_all
def swR (a b : Nat) : Ren := ⟨swF a b, swF a b, swF_swF a b, swF_swF a b⟩
@[simp] theorem swR_f (a b : Nat) : (swR a b).f = swF a b := rfl
end Go.Proofs.YtiomojlcnemnhaaDoor

namespace Go.Proofs.YtiomojlcnemnhaaDoor
open Go.Fx Go.RowKit Go.Ped
variable {G : World → Prop}
end Go.Proofs.YtiomojlcnemnhaaDoor

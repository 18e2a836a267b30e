import Derived.Test.YtiomojlcnemnhaaDoorWDxW5
import Derived.Test.YtiomojlcnemnhaaDoorWDxIcH
namespace Go.Proofs.YtiomojlcnemnhaaDoor
open Go.Fx Go.RowKit Go.Ped
variable {G : World → Prop}
theorem m126_rule {fv : A} (hfv : fv.only farKey (fun _ => False)) (r : Rule) (hs : r.small 1048576) (es sq : List (List C)) (i off : Nat) (H H' : FHp) (hp1 : PtAt es i off r.row) (hc : Ch G fv r.terms H H') :
    MeetsH Tryd.prog G 126 [.one (.ifc 191 (.elem es sq i off)), .one fv] (hp [] [] H) (.tup []) (hp [] [] H') := by
  obtain ⟨H1, c1, c2⟩ := hc.split
  obtain ⟨hs1, hs2, hs3⟩ := hs
  have hlen : off + 2 < (es[i]?.getD []).length := by
    have h := hp1.len
    simp [Rule.row] at h
    omega
  have hlen1 : off + 1 < (es[i]?.getD []).length := by omega
  have hval1 : (es[i]?.getD [])[off + 1]'hlen1 = .sl (r.head.map Arg.row) r.hsp := (List.getElem?_eq_some_iff.1 (hp1.at 1 (by simp))).2
  have hval2 : (es[i]?.getD [])[off + 2]'hlen = .sl (r.body.map Lit.row) r.bsp := (List.getElem?_eq_some_iff.1 (hp1.at 2 (by simp))).2
  refine meetsH [] Tryd.func126 ie126 ig126 (Nat.le_of_ble_eq_true rfl) (by simp) (by simp) ?_ (by simp) (by simp) hc.same (by simp) (by simp) ?_
  · simp
    exact A.only_mono (fun _ => far_not_own) (fun _ h => h.elim) hfv
  simp [ic126, ir126, hlen1, hval1]
  refine w_loopA [] [] [21, 20, 1, 4] (by simp)
    (fun a : Nat × FHp => st [(21, tI .i64 a.1), (20, tI .i64 r.head.length), (1, .k true (.x (.one fv))), (4, .k true (.x (.one (.elem es sq i off))))] [] [] a.2) (fun a => r.head.length - a.1)
    (fun a => a.1 ≤ r.head.length ∧ Ch G fv ((r.head.drop a.1).map Arg.t) a.2 H1) (0, H) (by simp) ⟨by simp, by simpa using c1⟩ ?_
  rintro ⟨j, H2⟩ K hK ⟨hj, hd⟩
  simp only at hj hd
  obtain hlt | hge := Nat.lt_or_ge j r.head.length
  · rw [List.drop_eq_getElem_cons hlt, List.map_cons] at hd
    cases hd with
    | @cons _ _ _ H3 _ h1 hk1 hd =>
    have hm := h1 (r.head.map Arg.row) r.hsp j 1 ⟨r.head[j].row, by simp [hlt], rfl⟩
    simp [ic126l0, hlt, hlen1, hval1]
    refine r_callC hm hk1 rfl rfl rfl (by simp) (by simp) (by simp) ?_
    simp
    simp (disch := omega) only [wrap64]
    exact hK (j + 1, H3) _ (by simp) ⟨by simp; omega, hd⟩ (by simp; omega)
  · rw [List.drop_eq_nil_of_le hge] at hd
    cases hd
    simp [ic126l0, Nat.not_lt.mpr hge, hlen, hval2]
    refine w_loopA [] [] [39, 38, 1, 4] (by simp)
      (fun a : Nat × FHp => st [(39, tI .i64 a.1), (38, tI .i64 r.body.length), (1, .k true (.x (.one fv))), (4, .k true (.x (.one (.elem es sq i off))))] [] [] a.2) (fun a => r.body.length - a.1)
      (fun a => a.1 ≤ r.body.length ∧ Ch G fv ((r.body.drop a.1).flatMap Lit.terms) a.2 H') (0, H1) (by simp) ⟨by simp, by simpa using c2⟩ ?_
    rintro ⟨k, H3⟩ K2 hK2 ⟨hk, hd⟩
    simp only at hk hd
    obtain hlt | hge := Nat.lt_or_ge k r.body.length
    · rw [List.drop_eq_getElem_cons hlt, List.flatMap_cons] at hd
      obtain ⟨H4, d1, d2⟩ := hd.split
      have hm := m126_lit (G := G) hfv r.body[k] (hs3 _ (List.getElem_mem hlt)) (r.body.map Lit.row) r.bsp k 0 H3 H4 ⟨r.body[k].row, by simp [hlt], by rw [List.drop_zero, List.take_of_length_le (Nat.le_refl _)]⟩ d1
      simp [ic126l1, hlt, hlen, hval2]
      refine r_callC (MeetsV.of_fun hm) d1.same rfl rfl rfl (by simp) (by simp) (by simp) ?_
      simp
      simp (disch := omega) only [wrap64]
      exact hK2 (k + 1, H4) _ (by simp) ⟨by simp; omega, d2⟩ (by simp; omega)
    · rw [List.drop_eq_nil_of_le hge] at hd
      cases hd
      simp [ic126l1, Nat.not_lt.mpr hge]
      exact ret_st (by simp) (by simp) (by simp) (by simp) (by simp) (by simp)
theorem m68 (r : Rule) (hs : r.small 1048576) (hl : r.terms.length ≤ 2000000) : Meets Tryd.prog G 68 [.agg r.row] (.x (.one (.sl ((tmVars r.terms).map nmRow) []))) := by
  refine meets Tryd.func68 ie68 ig68 (Nat.le_of_ble_eq_true rfl) ?_
  have hw : Walks G (.ifc 191 (.elem [r.row] [] 0 0)) r.terms := fun fv H H' hfv hc => m126_rule hfv r hs [r.row] [] 0 0 H H' ⟨r.row, rfl, rfl⟩ hc
  simp [ic68, ir68, freeze_st, fzL, freezeO, maxLen]
  refine r_call0 (MeetsV.of_fun (m118 _ r.terms (by simp) (fun _ => rfl) (fun _ => rfl) (fun _ => rfl) hl hw)) rfl rfl rfl (by simp) (by simp) (by simp) ?_
  simp
end Go.Proofs.YtiomojlcnemnhaaDoor

namespace Go.Proofs.YtiomojlcnemnhaaDoor
open Go.Fx Go.RowKit Go.Ped
variable {G : World → Prop}
theorem m134 (a : Arg) : Meets Tryd.prog G 134 [.agg a.row] (.x (.one (cB (argOk a)))) := by
  refine meets Tryd.func134 ie134 ig134 (Nat.le_of_ble_eq_true rfl) ?_
  have h3 := m183 (G := G) a.t
  by_cases a0 : a.agg = 0
  · simp [ic134, ir134, a0]
    refine call_of h3 ?_
    simp [argOk, a0]
  by_cases a1 : a.agg = 1
  · simp [ic134, ir134, a1]
    refine call_of (m180 a.t) ?_
    simp [argOk, a1]
  by_cases a2 : a.agg = 2 ∨ a.agg = 3 ∨ a.agg = 4
  · have hk : argOk a = (a.t.v != [] && solidOk a.t) := by rcases a2 with h | h | h <;> simp [argOk, h]
    rw [hk]
    rcases a2 with h | h | h <;> simp [ic134, ir134, h]
    all_goals
      refine call_i (fun _ => h3) ?_
      simp
  · have hk : argOk a = false := by simp [argOk, a0, a1, a2]
    rw [hk]
    simp only [not_or] at a2
    simp [ic134, ir134, a0, a1, a2]
theorem all_not {α : Type} {p : α → Bool} {l : List α} {x : α} (h : x ∈ l) (hp : p x = false) : l.all p = false := by
  rw [Bool.eq_false_iff]; intro h1; have := List.all_eq_true.1 h1 x h; rw [hp] at this; cases this
theorem m66 (r : Rule) (hs : r.small 1048576) (hle : r.terms.length ≤ 2000000) : Meets Tryd.prog G 66 [.agg r.row] (.x (.one (cI .i64 (if ruleOk r then 0 else 40)))) := by
  refine meets Tryd.func66 ie66 ig66 (Nat.le_of_ble_eq_true rfl) ?_
  have h68 := m68 (G := G) r hs hle
  obtain ⟨hs1, hs2, hs3⟩ := hs
  simp [ic66, ir66]
  refine call_of (m114 r.p) ?_
  simp
  refine condI_of (fun h => ?_) (fun h => ?_)
  · have : ruleOk r = false := by
      simp at h
      rcases h with (h | h) | h <;> simp [ruleOk, h]
      · have : ¬ r.head.length ≤ 24 := by omega
        simp [this]
      · have : ¬ r.body.length ≤ 16 := by omega
        simp [this]
    simp [this]
  simp at h
  obtain ⟨⟨h1, h2⟩, h3⟩ := h
  have hok : ruleOk r = (r.head.all argOk && r.body.all litOk && decide ((varsOf r.terms).length ≤ 24)) := by
    have a2 : r.head.length ≤ 24 := by omega
    have a3 : r.body.length ≤ 16 := by omega
    simp [ruleOk, h1, a2, a3]
  simp
  refine w_loopA [] [4] [1, 25, 26, 27] (by simp [ownKey]) (fun i : Nat => st [(1, .k true (.x (.one (.ref 1 0 0)))), (25, .k true (.x (.one (.c (.sl (r.head.map Arg.row) r.hsp))))), (26, tI .i64 r.head.length), (27, tI .i64 i)] [(1, ⟨96, 3, [r.row.map A.c], none⟩)] [] F0) (fun i => r.head.length - i)
    (fun i => i ≤ r.head.length ∧ (r.head.take i).all argOk = true) 0 (by simp) (by simp) ?_
  rintro i K hK ⟨hi, hd⟩
  obtain hlt | hge := Nat.lt_or_ge i r.head.length
  · simp [ic66l0, hlt]
    refine call_of (m134 r.head[i]) ?_
    simp
    refine condI_of (fun h => ?_) (fun h => ?_)
    · simp at h
      have hR : ruleOk r = false := by rw [hok, all_not (List.getElem_mem hlt) h]; rfl
      simp [hR]
    · simp at h
      simp
      simp (disch := omega) only [wrap64]
      exact hK (i + 1) _ (by simp) ⟨by omega, by rw [List.take_succ_eq_append_getElem hlt, List.all_append, hd]; simp [h]⟩ (by omega)
  · rw [List.take_of_length_le hge] at hd
    simp [ic66l0, Nat.not_lt.mpr hge]
    refine w_loopA [] [6] [1, 36, 37, 38] (by simp [ownKey]) (fun i : Nat => st [(1, .k true (.x (.one (.ref 1 0 0)))), (36, .k true (.x (.one (.c (.sl (r.body.map Lit.row) r.bsp))))), (37, tI .i64 r.body.length), (38, tI .i64 i)] [(1, ⟨96, 3, [r.row.map A.c], none⟩)] [] F0) (fun i => r.body.length - i)
      (fun i => i ≤ r.body.length ∧ (r.body.take i).all litOk = true) 0 (by simp) (by simp) ?_
    rintro j K2 hK2 ⟨hj, hd2⟩
    obtain hlt | hge := Nat.lt_or_ge j r.body.length
    · simp [ic66l1, hlt]
      refine call_of (m57 r.body[j] (hs3 _ (List.getElem_mem hlt))) ?_
      simp
      refine condI_of (fun h => ?_) (fun h => ?_)
      · simp at h
        have hR : ruleOk r = false := by rw [hok, hd, all_not (List.getElem_mem hlt) h]; rfl
        simp [hR, h]
      · simp at h
        simp
        simp (disch := omega) only [wrap64]
        exact hK2 (j + 1) _ (by simp) ⟨by omega, by rw [List.take_succ_eq_append_getElem hlt, List.all_append, hd2]; simp [h]⟩ (by omega)
    · rw [List.take_of_length_le hge] at hd2
      have hR : ruleOk r = decide ((tmVars r.terms).length ≤ 24) := by rw [hok, hd, hd2]; rfl
      simp [ic66l1, Nat.not_lt.mpr hge]
      refine call_of h68 ?_
      simp
      refine call_of (m113 _) ?_
      have e24 : ((tmVars r.terms).length : Int) ≤ 24 ↔ (tmVars r.terms).length ≤ 24 := by omega
      simp [hR, e24]
end Go.Proofs.YtiomojlcnemnhaaDoor

namespace Go.Proofs.YtiomojlcnemnhaaDoor
open Go.Fx Go.RowKit Go.Ped
variable {G : World → Prop}
theorem m62 (r : Rule) (hs : r.small 1048576) : Meets Tryd.prog G 62 [.agg r.row] (.x (.one (cB (decide (ruleParts r 1048576 > 1048576))))) := by
  refine meets Tryd.func62 ie62 ig62 (Nat.le_of_ble_eq_true rfl) ?_
  simp [ic62, ir62]
  refine call_of (m119 r 1048576 (by omega) (by omega) hs) ?_
  simp
end Go.Proofs.YtiomojlcnemnhaaDoor

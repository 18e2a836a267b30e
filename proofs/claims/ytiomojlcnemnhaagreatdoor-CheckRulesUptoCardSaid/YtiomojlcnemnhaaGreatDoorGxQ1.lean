/- Contracts, on: may a rule be used, does it make values: the document's, the program's; the law. (Labels of 2000 and more: seat ZD.) -/
import Derived.Test.YtiomojlcnemnhaaGreatDoorGxK1
import Derived.Test.YtiomojlcnemnhaaGreatDoorGxIcR
namespace Go.Proofs.YtiomojlcnemnhaaGreatDoor
open Go.Fx Go.RowKit Go.Ped
variable {G : World → Prop}

theorem m2027 (r : Rule) (hr : r.fit) : Meets Tryz.prog G 27 [.agg r.row] (.x (.one (cI .i64 (ruleErr r)))) := by
  obtain ⟨hs, hf, hl, hb⟩ := hr
  refine meets Tryz.func27 ie2027 ig2027 (Nat.le_of_ble_eq_true rfl) ?_
  have hv := tmVars_len r.terms
  have hq : (limitsOf r.body).length ≤ maxLen := by
    have h1 := goRounds_len (eqsOf r.body) (atomsOn [] r.body)
    have h2 := atomsOn_len r.body []
    have h3 := eqsOf_len r.body
    have h4 := hs.2.1
    simp only [List.length_nil] at h2
    unfold maxLen limitsOf; omega
  simp [ic2027, ir2027]
  refine call_of (m67 r hs hl) ?_
  simp
  by_cases hk : ruleOk r = true
  · simp [hk]
    refine call_of (m69 r hs hl) ?_
    simp
    refine call_of (m51 r.body r.bsp hf hs.2.1 hb) ?_
    simp
    refine call_of (m179 (tmVars r.terms) (limitsOf r.body) [] [] (by unfold maxLen; omega) hq) ?_
    simp
    refine condI_of (fun h => ?_) (fun h => ?_)
    · simp at h
      simp [ruleErr, hk, h]
    · simp at h
      simp [ruleErr, hk, h]
  · simp [hk, ruleErr]

/-- The head alone. -/
def Rule.bare (r : Rule) : Rule := ⟨[], r.head, r.hsp, [], []⟩
theorem bare_terms (r : Rule) : r.bare.terms = r.head.map Arg.t := by simp [Rule.bare, Rule.terms]
theorem bare_small {r : Rule} (h : r.small 1048576) : r.bare.small 1048576 := ⟨h.1, by simp [Rule.bare], by simp [Rule.bare]⟩
theorem makes_eq {r : Rule} (h : ruleErr r = 0) : makesOf r = (r.body.any works && !allIn (tmVars r.bare.terms) (atomsOn [] r.body)) := by
  rw [bare_terms]; simp [makesOf, h]
theorem take_all_any {α : Type} (p : α → Bool) (l : List α) (i : Nat) (h : l.length ≤ i) : (l.take i).any p = l.any p := by rw [List.take_of_length_le h]
theorem any_step {α : Type} (p : α → Bool) {l : List α} {i : Nat} (h : i < l.length) : (l.take (i + 1)).any p = ((l.take i).any p || p l[i]) := by
  rw [List.take_succ_eq_append_getElem h, List.any_append]; simp
theorem filter_step {α : Type} (p : α → Bool) {l : List α} {i : Nat} (h : i < l.length) : (l.take (i + 1)).filter p = (l.take i).filter p ++ (if p l[i] then [l[i]] else []) := by
  rw [List.take_succ_eq_append_getElem h, List.filter_append]
  cases hp : p l[i] <;> simp [hp]
theorem filter_sum (p : Lit → Bool) : ∀ l : List Lit, ((l.filter p).map fun x => x.l.length).sum ≤ (l.map fun x => x.l.length).sum
  | [] => Nat.le_refl _
  | x :: l => by
    have := filter_sum p l
    cases hp : p x
    · rw [List.filter_cons_of_neg (by simp [hp])]; simp only [List.map_cons, List.sum_cons]; omega
    · rw [List.filter_cons_of_pos hp]; simp only [List.map_cons, List.sum_cons]; omega

theorem m2029 (r : Rule) (hr : r.fit) : Meets Tryz.prog G 29 [.agg r.row] (.x (.one (cB (makesOf r)))) := by
  have h27 := m2027 (G := G) r hr
  obtain ⟨hs, hf, hl, hb⟩ := hr
  refine meets Tryz.func29 ie2029 ig2029 (Nat.le_of_ble_eq_true rfl) ?_
  have hv := tmVars_len r.bare.terms
  have hv2 : r.bare.terms.length ≤ 1048576 := by rw [bare_terms]; simpa using hs.1
  have h69 := m69 (G := G) r.bare (bare_small hs) hv2
  have h0 := atomsOn_len r.body []
  have hbl := hs.2.1
  simp only [List.length_nil] at h0
  rw [show r.bare.row = [cS (bs []), .sl (r.head.map Arg.row) r.hsp, .sl [] []] from rfl] at h69
  simp [ic2029, ir2029]
  refine call_of h27 ?_
  simp
  by_cases hk : ruleErr r = 0
  · rw [makes_eq hk]
    simp [hk]
    refine w_loopA [] [] [1, 4, 3] (by simp)
      (fun a : Nat × Bool => st [(1, .k true (.x (.one (.ref 1 0 0)))), (4, tI .i64 a.1), (3, tB a.2)] [(1, ⟨29, 3, [r.row.map A.c], none⟩)] [] F0) (fun a => r.body.length - a.1)
      (fun a => a.1 ≤ r.body.length ∧ a.2 = (r.body.take a.1).any works) (0, false) (by simp) (by simp) ?_
    rintro ⟨i, w⟩ K hK ⟨hi, hw⟩
    simp only at hi hw
    obtain hlt | hge := Nat.lt_or_ge i r.body.length
    · simp [ic2029l0, hlt]
      refine ⟨⟨fun h => by revert h; cases w <;> simp, fun h => by revert h; cases r.body[i].kind == 3 <;> simp⟩, ?_⟩
      rw [wrap64 (by omega) (by omega)]
      refine hK (i + 1, w || works r.body[i]) _ ?_ ⟨by simp; omega, by simp only; rw [hw, any_step works hlt]⟩ (by simp; omega)
      simp [works]
    · rw [take_all_any works r.body i hge] at hw
      subst hw
      simp [ic2029l0, Nat.not_lt.mpr hge]
      cases hw : r.body.any works with
      | false =>
        simp
        refine call_no (.x (.one (.sl [] []))) ?_
        simp
        refine r_callVF (.x (.one .nil)) rfl ?_
        simp
        refine call_no (.x (.one (cB false))) ?_
        simp
      | true =>
        simp
        refine call_of h69 ?_
        simp
        refine r_callW _ _ [] [] _ [] _ (MeetsV.of_fun (m122 (G := G) r.body r.bsp (fun x hx => (hf x hx).1) hs.2.1 (by omega))) rfl rfl rfl (by simp) (by simp) ?_
        simp
        refine call_of (m179 (tmVars r.bare.terms) (atomsOn [] r.body) [] [] (by unfold maxLen; omega) (by unfold maxLen; omega)) ?_
        simp
  · have : makesOf r = false := by simp [makesOf, hk]
    rw [this]
    simp [hk]

theorem m2028 (r : Rule) (hr : r.fit) : Meets Tryz.prog G 28 [.agg r.row] (.x (.one (cB (makesOf r)))) := by
  have h85 := m85 (G := G) r hr
  obtain ⟨hs, hf, hl, hb⟩ := hr
  refine meets Tryz.func28 ie2028 ig2028 (Nat.le_of_ble_eq_true rfl) ?_
  have hv := tmVars_len r.bare.terms
  have hv2 : r.bare.terms.length ≤ 1048576 := by rw [bare_terms]; simpa using hs.1
  have h68 := m68 (G := G) r.bare (bare_small hs) (by omega)
  have hbl := hs.2.1
  rw [show r.bare.row = [cS (bs []), .sl (r.head.map Arg.row) r.hsp, .sl [] []] from rfl] at h68
  simp [ic2028, ir2028]
  refine call_of h85 ?_
  simp
  by_cases hk : ruleErr r = 0
  · rw [makes_eq hk]
    simp [hk]
    refine w_loopA [.t 24 3 107 16] [6, 23] [1, 11, 12, 13, 3, 4] (by simp [ownKey])
      (fun a : Nat × List Lit × Bool => st [(1, .k true (.x (.one (.ref 1 0 0)))), (11, .k true (.x (.one (.c (.sl (r.body.map Lit.row) r.bsp))))), (12, tI .i64 r.body.length), (13, tI .i64 a.1), (3, .k true (.x (.one (.own 24 (a.2.1.map Lit.row))))), (4, tB a.2.2)] [(1, ⟨29, 3, [r.row.map A.c], none⟩)] [(24, ⟨107, 16, a.2.1.length⟩)] F0) (fun a => r.body.length - a.1)
      (fun a => a.1 ≤ r.body.length ∧ a.2.1 = (r.body.take a.1).filter (fun x => x.kind == 1) ∧ a.2.2 = (r.body.take a.1).any works) (0, [], false) (by simp) (by simp) ?_
    rintro ⟨i, E, w⟩ K hK ⟨hi, hE, hw⟩
    simp only at hi hE hw
    obtain hlt | hge := Nat.lt_or_ge i r.body.length
    · have hEl : E.length ≤ i := by
        rw [hE]; exact Nat.le_trans (List.length_filter_le _ _) (by simp; omega)
      have hst := filter_step (fun x : Lit => x.kind == 1) hlt
      have han := any_step works hlt
      by_cases k1 : r.body[i].kind = 1
      · simp [ic2028l0, hlt, k1]
        refine ⟨by unfold maxLen; omega, by unfold maxBytes; omega, ?_⟩
        simp (disch := omega) only [wrap64]
        exact hK (i + 1, E ++ [r.body[i]], w) _ (by simp) ⟨by simp; omega, by simp only; rw [hst, hE]; simp [k1], by simp only; rw [han, hw]; simp [works, k1]⟩ (by simp; omega)
      by_cases k3 : r.body[i].kind = 3
      · simp [ic2028l0, hlt, k3]
        simp (disch := omega) only [wrap64]
        refine hK (i + 1, E, w || works r.body[i]) _ ?_ ⟨by simp; omega, by simp only; rw [hst, hE]; simp [k3], by simp only; rw [han, hw]⟩ (by simp; omega)
        simp [works, k3, Bool.or_assoc]
      · simp [ic2028l0, hlt, k1, k3]
        simp (disch := omega) only [wrap64]
        exact hK (i + 1, E, w) _ (by simp) ⟨by simp; omega, by simp only; rw [hst, hE]; simp [k1], by simp only; rw [han, hw]; simp [works, k3]⟩ (by simp; omega)
    · rw [take_all_any works r.body i hge] at hw
      rw [List.take_of_length_le hge] at hE
      have hfit : ∀ x ∈ E, x.fit := fun x hx => hf x (by rw [hE] at hx; exact (List.mem_filter.1 hx).1)
      have hsum : (E.map fun x => x.l.length).sum ≤ 10000000 := by rw [hE]; exact Nat.le_trans (filter_sum _ _) hb
      have hEl : E.length ≤ 1048576 := by rw [hE]; exact Nat.le_trans (List.length_filter_le _ _) hbl
      have hlim : limitsOf E = atomsOn [] r.body := by rw [hE]; exact limitsOf_pos _
      have h121 := m121 (G := G) E [] hfit hEl hsum
      rw [hlim] at h121
      subst hw
      simp [ic2028l0, Nat.not_lt.mpr hge]
      cases hw : r.body.any works with
      | false =>
        simp
        refine r_callVF (.x (.one .nil)) rfl ?_
        simp
        refine call_no (.x (.one (.sl [] []))) ?_
        simp
        refine r_callVF (rB false) rfl ?_
        simp
      | true =>
        simp
        refine r_callN [7, 9, 22] _ _ [] [] _ (OF 9 7 22 (atomsOn [] r.body)) (UF 22 (atomsOn [] r.body)) (MeetsV.of_fun h121) rfl rfl rfl (by simp [X.fits, A.fits]) (by simp) (by simp) ?_
        simp
        refine call_of h68 ?_
        simp
        refine r_callN [7, 9, 22] _ _ (OF 9 7 22 (atomsOn [] r.body)) (UF 22 (atomsOn [] r.body)) _ (OF 9 7 22 (atomsOn [] r.body)) (UF 22 (atomsOn [] r.body)) (c155 _ (tmVars r.bare.terms) [] (by unfold maxLen; omega)) rfl rfl rfl (by simp [X.fits, A.fits]) (by simp) (by simp) ?_
        simp
  · have : makesOf r = false := by simp [makesOf, hk]
    rw [this]
    simp [hk]

theorem fit_twr {r : Rule} (h : r.fit) : r.tw.fit := ⟨Rule.small_tw h.1, fun x hx => by
  obtain ⟨y, hy, rfl⟩ := List.mem_map.1 hx
  exact fit_tw (h.2.1 y hy), by rw [Rule.terms_tw]; exact h.2.2.1, by
  show ((r.body.map Lit.tw).map fun x => x.l.length).sum ≤ _
  rw [List.map_map]; exact h.2.2.2⟩

theorem m2004 (r : Rule) (hr : r.fit) : Meets Tryz.prog GT 4 [.agg r.row] (.x (.one (cB true))) := by
  have hr' := fit_twr hr
  have h85 := m85 (G := GT) r.tw hr'
  have h28 := m2028 (G := GT) r.tw hr'
  rw [ruleErr_tw] at h85
  rw [makesOf_tw] at h28
  have hs := hr.1
  refine meets Tryz.func4 ie2004 ig2004 (Nat.le_of_ble_eq_true rfl) ?_
  simp [ic2004, ir2004]
  refine call_of (m62 r hs) ?_
  simp
  refine condI_of (fun h => ?_) (fun h => ?_)
  · simp
  simp
  refine call_of (m63 r hs) ?_
  simp
  refine call_of h85 ?_
  simp
  refine call_of (m2027 r hr) ?_
  simp
  refine call_of h28 ?_
  simp
  refine call_of (m2029 r hr) ?_
  simp
  refine call_of (m70 r hs) ?_
  simp
end Go.Proofs.YtiomojlcnemnhaaGreatDoor

import Derived.Test.YtiomojlcnemnhaaDoorKDxM3
import Derived.Test.YtiomojlcnemnhaaDoorKDxItoa
import Derived.Test.YtiomojlcnemnhaaDoorKFxSd
/- Contracts, on: the marks. -/
namespace Go.Proofs.YtiomojlcnemnhaaDoor
open Go.Fx Go.RowKit
variable {G : World → Prop}
end Go.Proofs.YtiomojlcnemnhaaDoor

/- Contracts, on: copies of lists of terms, values, binds, and looking at them again. -/
namespace Go.Proofs.YtiomojlcnemnhaaDoor
open Go.Fx Go.RowKit Go.Ped
variable {G : World → Prop}

theorem m30 (x : Name) (l : List Name) (sp : List (List C)) (hl : l.length ≤ maxLen) : Meets Tryd.prog G 30 [.one (cS (bs x)), .one (.sl (l.map fun v => [cS (bs v)]) sp)] (.x (.one (cB (l.contains x)))) := by
  refine meets Tryd.func30 ie30 ig30 (Nat.le_of_ble_eq_true rfl) ?_
  simp [ic30, ir30]
  refine w_loopK (fun n σ => ∃ (i : Nat) (t9 t17 : T), i + n = l.length ∧ (x ∈ l ↔ x ∈ l.drop i) ∧ σ = ks30 (tI .i64 i) (.k true (.x (.one (.c (.sl (l.map fun v => [cS (bs v)]) sp))))) t9 (tS x) t17 (tB false) [] [] F0)
    l.length ⟨0, _, _, by simp, by simp, rfl⟩ ?_
  rintro n σ1 K hK ⟨i, t9, t17, hi, hd, rfl⟩
  obtain hlt | hge := Nat.lt_or_ge i l.length
  · obtain ⟨c, hc, hdr⟩ := at_list hlt
    obtain ⟨_, rfl⟩ := List.getElem?_eq_some_iff.1 hc
    rw [hdr] at hd
    have hI : ∀ t9 t17, (x ∈ l ↔ x ∈ l.drop (i + 1)) → K (ks30 (tI .i64 (i + 1)) (.k true (.x (.one (.c (.sl (l.map fun v => [cS (bs v)]) sp))))) t9 (tS x) t17 (tB false) [] [] F0) :=
      fun t9 t17 h => hK _ (n - 1) (by omega) ⟨i + 1, t9, t17, by omega, h, rfl⟩
    clear hK
    simp [ic30l0, hlt, wrap_next hlt (by unfold maxLen at hl; omega)]
    constructor
    · intro h
      exact h ▸ List.getElem_mem _
    · intro h
      refine hI _ _ ?_
      rw [hd, List.mem_cons]
      simp [Ne.symm h]
  · simp [ic30l0, Nat.not_lt.mpr hge, hd, List.drop_eq_nil_of_le hge]
end Go.Proofs.YtiomojlcnemnhaaDoor

/- Contracts, on: the document's atoms, variables, and what is bound. -/
namespace Go.Proofs.YtiomojlcnemnhaaDoor
open Go.Fx Go.RowKit Go.Ped
variable {G : World → Prop}

/-- The variables of a list, each once. -/
abbrev tmVars (l : List Tm) : List Name := varsOn [] (l.map Tm.v)
abbrev nmRow (v : Name) : List C := [cS (bs v)]

theorem varsOn_length : ∀ (l acc : List Name), (varsOn acc l).length ≤ acc.length + l.length
  | [], acc => by simp [varsOn]
  | v :: l, acc => by
    simp only [varsOn]
    split
    · have := varsOn_length l (acc ++ [v]); simp at this ⊢; omega
    · have := varsOn_length l acc; simp; omega

theorem m98 (l : List Tm) (sp : List (List C)) (hl : l.length ≤ 1048576) :
    Meets Tryd.prog G 98 [.one (.sl (l.map Tm.row) sp)] (.x (.one (.sl ((tmVars l).map nmRow) []))) := by
  refine meets Tryd.func98 ie98 ig98 (Nat.le_of_ble_eq_true rfl) ?_
  simp [ic98, ir98]
  refine w_loopK (fun n σ => ∃ (i : Nat) (acc : List Name) (t9 t5 t28 : T) (a : A) (U : List (Nat × Tok)), i + n = l.length ∧ tmVars l = varsOn acc ((l.drop i).map Tm.v) ∧ acc.length ≤ i ∧ AccS 32 31 9 1 (acc.map nmRow) a U ∧ σ = ks98 (tI .i64 i) (.k true (.x (.one (.c (.sl (l.map Tm.row) sp))))) t9 t5 (.k true (.x (.one a))) t28 (.k true (.x (.one .nil))) [] U F0)
    l.length ⟨0, [], _, _, _, _, _, by simp, by simp, by simp, .nil, rfl⟩ ?_
  rintro n σ1 K hK ⟨i, acc, t9, t5, t28, a, U, hi, hd, hn, hacc, rfl⟩
  obtain hlt | hge := Nat.lt_or_ge i l.length
  · obtain ⟨c, hc, hdr⟩ := at_list hlt
    obtain ⟨_, rfl⟩ := List.getElem?_eq_some_iff.1 hc
    rw [hdr] at hd
    have hI : ∀ acc t9 t5 t28 a U, tmVars l = varsOn acc ((l.drop (i + 1)).map Tm.v) → acc.length ≤ i + 1 → AccS 32 31 9 1 (acc.map nmRow) a U → K (ks98 (tI .i64 (i + 1)) (.k true (.x (.one (.c (.sl (l.map Tm.row) sp))))) t9 t5 (.k true (.x (.one a))) t28 (.k true (.x (.one .nil))) [] U F0) :=
      fun acc t9 t5 t28 a U h1 h2 h3 => hK _ (n - 1) (by omega) ⟨i + 1, acc, t9, t5, t28, a, U, by omega, h1, h2, h3, rfl⟩
    clear hK
    simp only [List.map_cons, varsOn] at hd
    generalize hv : l[i].v = v at *
    by_cases h1 : v = []
    · simp [ic98l0, hlt, Tm.row, hv, h1]
      refine r_callF (.x (.one (cB false))) rfl ?_
      simp [wrap_next hlt (by omega)]
      exact hI _ _ _ _ _ _ (by rw [hd]; simp [Ped.isVar, h1]) (by omega) hacc
    by_cases h2 : v = [95]
    · simp [ic98l0, hlt, Tm.row, hv, h2]
      refine r_callF (.x (.one (cB false))) rfl ?_
      simp [wrap_next hlt (by omega)]
      exact hI _ _ _ _ _ _ (by rw [hd]; simp [Ped.isVar, us, h2]) (by omega) hacc
    have hiv : Ped.isVar v = true := by simp [Ped.isVar, h1, us, h2]
    simp [ic98l0, hlt, Tm.row, hv, h1, h2]
    refine r_call 30 true _ _ (m30 v acc [] (by unfold maxLen; omega)) rfl rfl rfl (by simp [-X.close, -A.close, hacc.args, X.close_c]) ?_
    simp
    refine ⟨fun h => ?_, fun h => ?_⟩
    · have hnew : tmVars l = varsOn (acc ++ [v]) ((l.drop (i + 1)).map Tm.v) := by rw [hd]; simp [h, hiv]
      rcases hacc with ⟨h, rfl, rfl⟩ | ⟨rfl, rfl⟩ | ⟨rfl, rfl⟩
      · obtain rfl : acc = [] := by simpa using h
        refine k_row rfl rfl (by simp) (by simp) ?_
        refine k_app0 rfl rfl rfl (by simp) (by simp) (by simp [maxLen]) (by simp [maxBytes]) ?_
        simp [wrap_next hlt (by omega)]
        exact hI _ _ _ _ _ _ hnew (by simp) (.own rfl)
      all_goals
        refine k_row rfl rfl (by simp) (by simp) ?_
        refine k_app (q := ⟨9, 1, acc.length⟩) rfl rfl rfl (by simp) (by simp) rfl rfl (by simp) (by simp [maxLen]; omega) (by simp [maxBytes]; omega) trivial ?_
        simp [wrap_next hlt (by omega)]
        refine hI (acc ++ [v]) _ _ _ _ _ hnew (by simp; omega) ?_
        simp
        exact .own' (by simp)
    · simp [wrap_next hlt (by omega)]
      exact hI _ _ _ _ _ _ (by rw [hd]; simp [h]) (by omega) hacc
  · simp [ic98l0, Nat.not_lt.mpr hge]
    rw [hd, List.drop_eq_nil_of_le hge]
    rcases hacc with ⟨h, rfl, rfl⟩ | ⟨rfl, rfl⟩ | ⟨rfl, rfl⟩
    · simp [h, varsOn]
    · simp [varsOn]
    · simp [varsOn]
end Go.Proofs.YtiomojlcnemnhaaDoor

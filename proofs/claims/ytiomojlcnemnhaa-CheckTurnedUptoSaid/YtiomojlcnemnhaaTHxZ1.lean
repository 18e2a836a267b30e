/- Contracts, on: variables that are found; lone sides of equations. -/
import Derived.Test.YtiomojlcnemnhaaTHxY3
import Derived.Test.YtiomojlcnemnhaaTHxIcI
import Derived.Test.YtiomojlcnemnhaaTFxWd
namespace Go.Proofs.Ytiomojlcnemnhaa
open Go.Fx Go.RowKit Go.Ped
variable {G : World → Prop}

/-- All of a list, each once, behind what is there. -/
def addAll (acc : List Name) : List Name → List Name
  | [] => acc
  | v :: l => addAll (if acc.contains v then acc else acc ++ [v]) l
theorem addAll_len : ∀ (l acc : List Name), (addAll acc l).length ≤ acc.length + l.length
  | [], acc => by simp [addAll]
  | v :: l, acc => by
    have := addAll_len l (if acc.contains v then acc else acc ++ [v])
    have h2 : (if acc.contains v then acc else acc ++ [v]).length ≤ acc.length + 1 := by split <;> simp
    simp only [addAll, List.length_cons]
    omega

abbrev OF (a b c : Nat) (acc : List Name) : List (Nat × Box) := [(a, ⟨193, 2, [[.own c (acc.map nmRow), .mapr b]], none⟩), (b, ⟨0, 2, thr 0 acc, some (.string, true)⟩)]
abbrev UF (c : Nat) (acc : List Name) : List (Nat × Tok) := [(c, ⟨9, 1, acc.length⟩)]
attribute [simp] thr_strike thr_get OF UF

theorem midF {U : List (Nat × Tok)} {H : FHp} (acc : List Name) (hU : lookT U 10022 ≠ none) : ∀ p ∈ OF 10009 10007 10022 acc, midKey p.1 ∧ ∀ r ∈ p.2.rows, onlyL (fun k => ¬ ownKey k) (fun k => (lookT U k).or (H.toks k) ≠ none) r := by
  intro p hp
  simp only [List.mem_cons, List.not_mem_nil, or_false] at hp
  rcases hp with rfl | rfl
  · refine ⟨by unfold midKey; omega, ?_⟩
    simp only [List.mem_singleton, forall_eq, onlyL, A.only, and_true]
    refine ⟨?_, by simp [ownKey]⟩
    cases h : lookT U 10022 with
    | none => exact absurd h hU
    | some q => simp
  · exact ⟨by unfold midKey; omega, fun r hr => thr_only _ _ r hr⟩
theorem midF2 {O2 : List (Nat × Box)} {U2 : List (Nat × Tok)} {H2 : FHp} (acc : List Name) (hU : lookT U2 10022 ≠ none) : ∀ p ∈ OF 10009 10007 10022 acc, ∀ r ∈ p.2.rows, onlyL (fun k => ¬ ownKey k ∨ lookO O2 k ≠ none) (fun k => (lookT U2 k).or (H2.toks k) ≠ none) r := fun p hp r hr =>
  onlyL_mono (fun _ h => .inl h) (fun _ h => h) ((midF acc hU p hp).2 r hr)

theorem has_eq (acc : List Name) (v : Name) : decide (0 < thrAt 0 acc v) = acc.contains v := by
  rw [Bool.eq_iff_iff]; simp [thrAt_pos]

theorem m200 (acc : List Name) (v : Name) : MeetsH Try.prog G 136 [.one (.ref 10009 0 0), .one (.c (cS (bs v)))] (hp (OF 10009 10007 10022 acc) (UF 10022 acc) F0) (rB (acc.contains v)) (hp (OF 10009 10007 10022 acc) (UF 10022 acc) F0) := by
  refine meetsH [] Try.func136 ie200 ig200 (Nat.le_of_ble_eq_true rfl) (midF acc (by simp)) (by simp [midKey]) (by simp [ownKey]) (by simp) (by simp) (sameKeys_refl F0) (midF2 acc (by simp)) (by simp) ?_
  simp [ic200, ir200]
  refine ret_st (by simp) ?_ (by simp) (by simp) (by simp) (by simp)
  simp [has_eq]

theorem m155 (acc l : List Name) (sp : Sp) (hl : l.length ≤ maxLen) : MeetsH Try.prog G 110 [.one (.ref 10009 0 0), .one (.c (.sl (l.map nmRow) sp))] (hp (OF 10009 10007 10022 acc) (UF 10022 acc) F0) (rB (allIn l acc)) (hp (OF 10009 10007 10022 acc) (UF 10022 acc) F0) := by
  refine meetsH [] Try.func110 ie155 ig155 (Nat.le_of_ble_eq_true rfl) (midF acc (by simp)) (by simp [midKey]) (by simp [ownKey]) (by simp) (by simp) (sameKeys_refl F0) (midF2 acc (by simp)) (by simp) ?_
  simp [ic155, ir155]
  unfold maxLen at hl
  refine w_loopA [] [] [0, 7, 8, 9] (by simp) (fun i : Nat => st [(0, .k true (.x (.one (.ref 10009 0 0)))), (7, .k true (.x (.one (.c (.sl (l.map nmRow) sp))))), (8, tI .i64 l.length), (9, tI .i64 i)] (OF 10009 10007 10022 acc) (UF 10022 acc) F0) (fun i => l.length - i)
    (fun i => i ≤ l.length ∧ allIn (l.take i) acc = true) 0 (by simp) (by simp [allIn]) ?_
  rintro i K hK ⟨hi, hd⟩
  obtain hlt | hge := Nat.lt_or_ge i l.length
  · simp [ic155l0, hlt]
    refine r_callV _ _ (OF 10009 10007 10022 acc) (UF 10022 acc) _ (OF 10009 10007 10022 acc) (UF 10022 acc) F0 (MeetsV.of_fun (m200 acc l[i])) rfl rfl rfl (by simp) (by simp) (by simp) (by simp) (by simp) (by simp) (by simp) (by simp) (by simp) (sameKeys_refl F0) rfl ?_
    simp
    refine condI_of (fun h => ?_) (fun h => ?_)
    · have hb : allIn l acc = false := all_not (List.getElem_mem hlt) (by simpa using h)
      simp
      refine ret_st (by simp) ?_ (by simp) (by simp) (by simp) (by simp)
      simp [hb]
    · simp
      simp (disch := omega) only [wrap64]
      exact hK (i + 1) _ (by simp) ⟨by omega, by rw [List.take_succ_eq_append_getElem hlt, allIn, List.all_append]; simp [allIn] at hd h ⊢; exact ⟨hd, h⟩⟩ (by omega)
  · rw [List.take_of_length_le hge] at hd
    simp [ic155l0, Nat.not_lt.mpr hge]
    refine ret_st (by simp) ?_ (by simp) (by simp) (by simp) (by simp)
    simp [hd]

theorem m173 (acc l : List Name) (sp : Sp) (hl : acc.length + l.length ≤ 100000000) : MeetsH Try.prog G 112 [.one (.ref 10009 0 0), .one (.c (.sl (l.map nmRow) sp))] (hp (OF 10009 10007 10022 acc) (UF 10022 acc) F0) (.tup []) (hp (OF 10009 10007 10022 (addAll acc l)) (UF 10022 (addAll acc l)) F0) := by
  refine meetsH [] Try.func112 ie173 ig173 (Nat.le_of_ble_eq_true rfl) (midF acc (by simp)) (by simp [midKey]) (by simp [ownKey]) (by simp) (by simp) (sameKeys_refl F0) (midF2 _ (by simp)) (by simp) ?_
  simp [ic173, ir173]
  refine w_loopA [] [22] [0, 6, 7, 8] (by simp [ownKey]) (fun a : Nat × List Name => st [(0, .k true (.x (.one (.ref 10009 0 0)))), (6, .k true (.x (.one (.c (.sl (l.map nmRow) sp))))), (7, tI .i64 l.length), (8, tI .i64 a.1)] (OF 10009 10007 10022 a.2) (UF 10022 a.2) F0) (fun a => l.length - a.1)
    (fun a => a.1 ≤ l.length ∧ addAll acc l = addAll a.2 (l.drop a.1) ∧ a.2.length ≤ acc.length + a.1) (0, acc) (by simp) (by simp) ?_
  rintro ⟨i, f⟩ K hK ⟨hi, hd, hf⟩
  simp only at hi hd hf
  obtain hlt | hge := Nat.lt_or_ge i l.length
  · rw [List.drop_eq_getElem_cons hlt, addAll] at hd
    simp [ic173l0, hlt]
    refine r_callV _ _ (OF 10009 10007 10022 f) (UF 10022 f) _ (OF 10009 10007 10022 f) (UF 10022 f) F0 (MeetsV.of_fun (m200 f l[i])) rfl rfl rfl (by simp) (by simp) (by simp) (by simp) (by simp) (by simp) (by simp) (by simp) (by simp) (sameKeys_refl F0) rfl ?_
    simp
    refine condI_of (fun h => ?_) (fun h => ?_)
    · have hn : l[i] ∉ f := by simpa using h
      simp
      refine ⟨by unfold maxLen; omega, by unfold maxBytes; omega, ?_⟩
      simp [thr_put l[i] f hn]
      simp (disch := omega) only [wrap64]
      exact hK (i + 1, f ++ [l[i]]) _ (by simp) ⟨by simp; omega, by simpa [hn] using hd, by simp; omega⟩ (by simp; omega)
    · have hn : l[i] ∈ f := by simpa using h
      simp
      simp (disch := omega) only [wrap64]
      exact hK (i + 1, f) _ (by simp) ⟨by simp; omega, by simpa [hn] using hd, by simp; omega⟩ (by simp; omega)
  · rw [List.drop_eq_nil_of_le hge, addAll] at hd
    simp [ic173l0, Nat.not_lt.mpr hge, hd]
    exact ret_st (by simp) (by simp) (by simp) (by simp) (by simp) (by simp)
end Go.Proofs.Ytiomojlcnemnhaa

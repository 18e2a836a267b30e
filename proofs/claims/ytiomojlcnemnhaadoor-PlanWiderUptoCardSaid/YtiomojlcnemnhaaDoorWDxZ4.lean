import Derived.Test.YtiomojlcnemnhaaDoorWDxY3
import Derived.Test.YtiomojlcnemnhaaDoorWDxIcI
import Derived.Test.YtiomojlcnemnhaaDoorWDxW5
namespace Go.Proofs.YtiomojlcnemnhaaDoor
open Go.Fx Go.RowKit Go.Ped
variable {G : World → Prop}
def addAll (acc : List Name) : List Name → List Name
  | [] => acc
  | v :: l => addAll (if acc.contains v then acc else acc ++ [v]) l
theorem addAll_len : ∀ (l acc : List Name), (addAll acc l).length ≤ acc.length + l.length
  | [], acc => by simp [addAll]
  | v :: l, acc => by
    have := addAll_len l (if acc.contains v then acc else acc ++ [v])
    have h2 : (if acc.contains v then acc else acc ++ [v]).length ≤ acc.length + 1 := by split <;> simp
    simp only [addAll, List.length_cons]
    omega
abbrev OF (a b c : Nat) (acc : List Name) : List (Nat × Box) := [(a, ⟨174, 2, [[.own c (acc.map nmRow), .mapr b]], none⟩), (b, ⟨0, 2, thr 0 acc, some (.string, true)⟩)]
abbrev UF (c : Nat) (acc : List Name) : List (Nat × Fx.Tok) := [(c, ⟨9, 1, acc.length⟩)]
attribute [simp] thr_strike thr_get OF UF
theorem midF {U : List (Nat × Fx.Tok)} {H : FHp} (acc : List Name) (hU : lookT U 10022 ≠ none) : ∀ p ∈ OF 10009 10007 10022 acc, midKey p.1 ∧ ∀ r ∈ p.2.rows, onlyL (fun k => ¬ ownKey k) (fun k => (lookT U k).or (H.toks k) ≠ none) r := by
  intro p hp
  simp only [List.mem_cons, List.not_mem_nil, or_false] at hp
  rcases hp with rfl | rfl
  · refine ⟨by unfold midKey; omega, ?_⟩
    simp only [List.mem_singleton, forall_eq, onlyL, A.only, and_true]
    refine ⟨?_, by simp [ownKey]⟩
    cases h : lookT U 10022 with
    | none => exact absurd h hU
    | some q => simp
  · exact ⟨by unfold midKey; omega, fun r hr => thr_only _ _ r hr⟩
theorem midF2 {O2 : List (Nat × Box)} {U2 : List (Nat × Fx.Tok)} {H2 : FHp} (acc : List Name) (hU : lookT U2 10022 ≠ none) : ∀ p ∈ OF 10009 10007 10022 acc, ∀ r ∈ p.2.rows, onlyL (fun k => ¬ ownKey k ∨ lookO O2 k ≠ none) (fun k => (lookT U2 k).or (H2.toks k) ≠ none) r := fun p hp r hr =>
  onlyL_mono (fun _ h => .inl h) (fun _ h => h) ((midF acc hU p hp).2 r hr)
theorem has_eq (acc : List Name) (v : Name) : decide (0 < thrAt 0 acc v) = acc.contains v := by
  rw [Bool.eq_iff_iff]; simp [thrAt_pos]
theorem m200 (acc : List Name) (v : Name) : MeetsH Tryd.prog G 200 [.one (.ref 10009 0 0), .one (.c (cS (bs v)))] (hp (OF 10009 10007 10022 acc) (UF 10022 acc) F0) (rB (acc.contains v)) (hp (OF 10009 10007 10022 acc) (UF 10022 acc) F0) := by
  refine meetsH [] Tryd.func200 ie200 ig200 (Nat.le_of_ble_eq_true rfl) (midF acc (by simp)) (by simp [midKey]) (by simp [ownKey]) (by simp) (by simp) (sameKeys_refl F0) (midF2 acc (by simp)) (by simp) ?_
  simp [ic200, ir200]
  refine ret_st (by simp) ?_ (by simp) (by simp) (by simp) (by simp)
  simp [has_eq]
theorem m155 (acc l : List Name) (sp : Sp) (hl : l.length ≤ maxLen) : MeetsH Tryd.prog G 155 [.one (.ref 10009 0 0), .one (.c (.sl (l.map nmRow) sp))] (hp (OF 10009 10007 10022 acc) (UF 10022 acc) F0) (rB (allIn l acc)) (hp (OF 10009 10007 10022 acc) (UF 10022 acc) F0) := by
  refine meetsH [] Tryd.func155 ie155 ig155 (Nat.le_of_ble_eq_true rfl) (midF acc (by simp)) (by simp [midKey]) (by simp [ownKey]) (by simp) (by simp) (sameKeys_refl F0) (midF2 acc (by simp)) (by simp) ?_
  simp [ic155, ir155]
  unfold maxLen at hl
  refine w_loopA [] [] [0, 7, 8, 9] (by simp) (fun i : Nat => st [(0, .k true (.x (.one (.ref 10009 0 0)))), (7, .k true (.x (.one (.c (.sl (l.map nmRow) sp))))), (8, tI .i64 l.length), (9, tI .i64 i)] (OF 10009 10007 10022 acc) (UF 10022 acc) F0) (fun i => l.length - i)
    (fun i => i ≤ l.length ∧ allIn (l.take i) acc = true) 0 (by simp) (by simp [allIn]) ?_
  rintro i K hK ⟨hi, hd⟩
  obtain hlt | hge := Nat.lt_or_ge i l.length
  · simp [ic155l0, hlt]
    refine r_callV _ _ (OF 10009 10007 10022 acc) (UF 10022 acc) _ (OF 10009 10007 10022 acc) (UF 10022 acc) F0 (MeetsV.of_fun (m200 acc l[i])) rfl rfl rfl (by simp) (by simp) (by simp) (by simp) (by simp) (by simp) (by simp) (by simp) (by simp) (sameKeys_refl F0) rfl ?_
    simp
    refine condI_of (fun h => ?_) (fun h => ?_)
    · have hb : allIn l acc = false := all_not (List.getElem_mem hlt) (by simpa using h)
      simp
      refine ret_st (by simp) ?_ (by simp) (by simp) (by simp) (by simp)
      simp [hb]
    · simp
      simp (disch := omega) only [wrap64]
      exact hK (i + 1) _ (by simp) ⟨by omega, by rw [List.take_succ_eq_append_getElem hlt, allIn, List.all_append]; simp [allIn] at hd h ⊢; exact ⟨hd, h⟩⟩ (by omega)
  · rw [List.take_of_length_le hge] at hd
    simp [ic155l0, Nat.not_lt.mpr hge]
    refine ret_st (by simp) ?_ (by simp) (by simp) (by simp) (by simp)
    simp [hd]
theorem m173 (acc l : List Name) (sp : Sp) (hl : acc.length + l.length ≤ 100000000) : MeetsH Tryd.prog G 173 [.one (.ref 10009 0 0), .one (.c (.sl (l.map nmRow) sp))] (hp (OF 10009 10007 10022 acc) (UF 10022 acc) F0) (.tup []) (hp (OF 10009 10007 10022 (addAll acc l)) (UF 10022 (addAll acc l)) F0) := by
  refine meetsH [] Tryd.func173 ie173 ig173 (Nat.le_of_ble_eq_true rfl) (midF acc (by simp)) (by simp [midKey]) (by simp [ownKey]) (by simp) (by simp) (sameKeys_refl F0) (midF2 _ (by simp)) (by simp) ?_
  simp [ic173, ir173]
  refine w_loopA [] [22] [0, 6, 7, 8] (by simp [ownKey]) (fun a : Nat × List Name => st [(0, .k true (.x (.one (.ref 10009 0 0)))), (6, .k true (.x (.one (.c (.sl (l.map nmRow) sp))))), (7, tI .i64 l.length), (8, tI .i64 a.1)] (OF 10009 10007 10022 a.2) (UF 10022 a.2) F0) (fun a => l.length - a.1)
    (fun a => a.1 ≤ l.length ∧ addAll acc l = addAll a.2 (l.drop a.1) ∧ a.2.length ≤ acc.length + a.1) (0, acc) (by simp) (by simp) ?_
  rintro ⟨i, f⟩ K hK ⟨hi, hd, hf⟩
  simp only at hi hd hf
  obtain hlt | hge := Nat.lt_or_ge i l.length
  · rw [List.drop_eq_getElem_cons hlt, addAll] at hd
    simp [ic173l0, hlt]
    refine r_callV _ _ (OF 10009 10007 10022 f) (UF 10022 f) _ (OF 10009 10007 10022 f) (UF 10022 f) F0 (MeetsV.of_fun (m200 f l[i])) rfl rfl rfl (by simp) (by simp) (by simp) (by simp) (by simp) (by simp) (by simp) (by simp) (by simp) (sameKeys_refl F0) rfl ?_
    simp
    refine condI_of (fun h => ?_) (fun h => ?_)
    · have hn : l[i] ∉ f := by simpa using h
      simp
      refine ⟨by unfold maxLen; omega, by unfold maxBytes; omega, ?_⟩
      simp [thr_put l[i] f hn]
      simp (disch := omega) only [wrap64]
      exact hK (i + 1, f ++ [l[i]]) _ (by simp) ⟨by simp; omega, by simpa [hn] using hd, by simp; omega⟩ (by simp; omega)
    · have hn : l[i] ∈ f := by simpa using h
      simp
      simp (disch := omega) only [wrap64]
      exact hK (i + 1, f) _ (by simp) ⟨by simp; omega, by simpa [hn] using hd, by simp; omega⟩ (by simp; omega)
  · rw [List.drop_eq_nil_of_le hge, addAll] at hd
    simp [ic173l0, Nat.not_lt.mpr hge, hd]
    exact ret_st (by simp) (by simp) (by simp) (by simp) (by simp) (by simp)
end Go.Proofs.YtiomojlcnemnhaaDoor

namespace Go.Proofs.YtiomojlcnemnhaaDoor
open Go.Fx Go.RowKit Go.Ped
variable {G : World → Prop}
theorem hp_ofA {O O' : List (Nat × Box)} {U U' : List (Nat × Fx.Tok)} {hO : ∀ p ∈ O', farKey p.1 ∧ ∀ r ∈ p.2.rows, onlyL farKey (fun k => lookT U' k ≠ none) r} {hU : ∀ p ∈ U', farKey p.1} : hp O U (FHp.of O' U' hO hU) = hp (O ++ O') (U ++ U') F0 := by
  have e1 : ∀ (A : List (Nat × Box)) (k : Nat), lookO (A ++ O') k = (lookO A k).or (lookO O' k) := by
    intro A k
    induction A with
    | nil => rfl
    | cons p A ih => obtain ⟨d, b⟩ := p; simp only [List.cons_append, lookO_cons, ih]; split <;> simp
  have e2 : ∀ (A : List (Nat × Fx.Tok)) (k : Nat), lookT (A ++ U') k = (lookT A k).or (lookT U' k) := by
    intro A k
    induction A with
    | nil => rfl
    | cons p A ih => obtain ⟨d, b⟩ := p; simp only [List.cons_append, lookT_cons, ih]; split <;> simp
  unfold hp FHp.of
  simp only [Hp.mk.injEq]
  refine ⟨funext fun k => ?_, funext fun k => ?_, rfl⟩
  · rw [e1]; show _ = Option.or _ none; simp
  · rw [e2]; show _ = Option.or _ none; simp
def Eqn.row (q : Eqn) : List C := [cS (bs q.left), cS (bs q.right), .sl (q.lefts.map nmRow) [], .sl (q.rights.map nmRow) []]
@[simp] theorem eqn_len (q : Eqn) : (Eqn.row q).length = 4 := rfl
def foundBy (acc : List Name) (q : Eqn) : List Name := match take acc q with | some v => acc ++ [v] | none => acc
theorem addAll_one (acc : List Name) (v : Name) (h : v ∉ acc) : addAll acc [v] = acc ++ [v] := by simp [addAll, h]
theorem m177 (acc : List Name) (q : Eqn) (h1 : q.lefts.length ≤ 1048576) (h2 : q.rights.length ≤ 1048576) (hl : acc.length ≤ 50000000) :
    MeetsH Tryd.prog G 177 [.one (.ref 10009 0 0), .agg ((Eqn.row q).map A.c)] (hp (OF 10009 10007 10022 acc) (UF 10022 acc) F0) (rB (take acc q).isSome) (hp (OF 10009 10007 10022 (foundBy acc q)) (UF 10022 (foundBy acc q)) F0) := by
  refine meetsH [] Tryd.func177 ie177 ig177 (Nat.le_of_ble_eq_true rfl) (midF acc (by simp)) (by simp [midKey]) (by simp [ownKey, Eqn.row]) (by simp) (by simp) (sameKeys_refl F0) (midF2 _ (by simp)) (by simp) ?_
  have has := fun v => m200 (G := G) acc v
  have all1 := m155 (G := G) acc q.lefts [] (by unfold maxLen; omega)
  have all2 := m155 (G := G) acc q.rights [] (by unfold maxLen; omega)
  have add1 := fun v => m173 (G := G) acc [v] [] (by simp; omega)
  obtain ⟨l, r, ls, rs⟩ := q
  simp only [Eqn.row] at *
  simp [ic177, ir177]
  refine r_callQ (gd1 true (!List.isEmpty l)) _ _ (OF 10009 10007 10022 acc) (UF 10022 acc) _ (fun _ => MeetsV.of_fun (has l)) rfl rfl (by simp) (by simp) (by simp) (by simp) (by simp) (by simp) ?_
  simp
  refine r_callQ (gd1 true (!List.isEmpty l && !decide (l ∈ acc))) _ _ (OF 10009 10007 10022 acc) (UF 10022 acc) _ (fun _ => MeetsV.of_fun all2) rfl rfl (by simp) (by simp) (by simp) (by simp) (by simp) (by simp) ?_
  simp
  refine condI_of (fun h => ?_) (fun h => ?_)
  · simp at h
    obtain ⟨⟨g1, g2⟩, g3⟩ := h
    have e : take acc ⟨l, r, ls, rs⟩ = some l := by simp [take, g1, g2, g3]
    have e2 := addAll_one acc l g2
    simp
    refine r_callW _ _ (OF 10009 10007 10022 acc) (UF 10022 acc) _ (OF 10009 10007 10022 (addAll acc [l])) (UF 10022 (addAll acc [l])) (MeetsV.of_fun (add1 l)) rfl rfl rfl (by simp [X.fits, A.fits]) (by simp) ?_
    simp [foundBy, e, e2]
    exact ret_st (by simp) (by simp) (by simp) (by simp) (by simp) (by simp)
  · simp
    refine r_callQ (gd1 true (!List.isEmpty r)) _ _ (OF 10009 10007 10022 acc) (UF 10022 acc) _ (fun _ => MeetsV.of_fun (has r)) rfl rfl (by simp) (by simp) (by simp) (by simp) (by simp) (by simp) ?_
    simp
    refine r_callQ (gd1 true (!List.isEmpty r && !decide (r ∈ acc))) _ _ (OF 10009 10007 10022 acc) (UF 10022 acc) _ (fun _ => MeetsV.of_fun all1) rfl rfl (by simp) (by simp) (by simp) (by simp) (by simp) (by simp) ?_
    simp
    have hn : (l != [] && !acc.contains l && allIn rs acc) = false := by
      simpa using h
    refine condI_of (fun h2 => ?_) (fun h2 => ?_)
    · simp at h2
      obtain ⟨⟨g1, g2⟩, g3⟩ := h2
      have e : take acc ⟨l, r, ls, rs⟩ = some r := by
        unfold take
        rw [if_neg (by rw [hn]; simp)]
        simp [g1, g2, g3]
      have e2 := addAll_one acc r g2
      simp
      refine r_callW _ _ (OF 10009 10007 10022 acc) (UF 10022 acc) _ (OF 10009 10007 10022 (addAll acc [r])) (UF 10022 (addAll acc [r])) (MeetsV.of_fun (add1 r)) rfl rfl rfl (by simp [X.fits, A.fits]) (by simp) ?_
      simp [foundBy, e, e2]
      exact ret_st (by simp) (by simp) (by simp) (by simp) (by simp) (by simp)
    · have hn2 : (r != [] && !acc.contains r && allIn ls acc) = false := by simpa using h2
      have e : take acc ⟨l, r, ls, rs⟩ = none := by
        unfold take
        rw [if_neg (by rw [hn]; simp), if_neg (by rw [hn2]; simp)]
      simp [foundBy, e]
      exact ret_st (by simp) (by simp) (by simp) (by simp) (by simp) (by simp)
theorem hOF (acc : List Name) : ∀ p ∈ OF 15009 15007 15022 acc, farKey p.1 ∧ ∀ r ∈ p.2.rows, onlyL farKey (fun k => lookT (UF 15022 acc) k ≠ none) r := by
  intro p hp
  simp only [List.mem_cons, List.not_mem_nil, or_false] at hp
  rcases hp with rfl | rfl
  · exact ⟨by unfold farKey; omega, by simp [farKey]⟩
  · exact ⟨by unfold farKey; omega, fun r hr => thr_only _ _ r hr⟩
theorem hUF (acc : List Name) : ∀ p ∈ UF 15022 acc, farKey p.1 := by
  intro p hp
  simp only [List.mem_cons, List.not_mem_nil, or_false] at hp
  subst hp; unfold farKey; omega
def Hf (acc : List Name) : FHp := FHp.of (OF 15009 15007 15022 acc) (UF 15022 acc) (hOF acc) (hUF acc)
abbrev fv177 : A := .clo 177 [.ref 15009 0 0] []
theorem Hf_same (a b : List Name) : sameKeys (Hf a) (Hf b) := by
  refine ⟨fun k => ⟨?_, ?_⟩, rfl⟩
  · show lookO (OF 15009 15007 15022 a) k = none ↔ lookO (OF 15009 15007 15022 b) k = none
    simp only [lookO_cons]
    split <;> (try split) <;> simp
  · show lookT (UF 15022 a) k = none ↔ lookT (UF 15022 b) k = none
    simp only [lookT_cons]
    split <;> simp
theorem c177 (acc : List Name) (q : Eqn) (h1 : q.lefts.length ≤ 1048576) (h2 : q.rights.length ≤ 1048576) (hl : acc.length ≤ 50000000) :
    MeetsV Tryd.prog G fv177 [.agg ((Eqn.row q).map A.c)] (hp [] [] (Hf acc)) (rB (take acc q).isSome) (hp [] [] (Hf (foundBy acc q))) := by
  have h := (clo_of (f := 177) (fs := [.ref 10009 0 0]) (args := [.agg ((Eqn.row q).map A.c)]) (cs := []) rfl (m177 (G := G) acc q h1 h2 hl)).ren (π := midFar)
  simp [mfF, thr_ren] at h
  unfold Hf
  rw [hp_of, hp_of]
  simpa using h
theorem goRound_cons (f : List Name) (q : Eqn) (l : List Eqn) : goRound f (q :: l) = ((goRound (foundBy f q) l).1, if (take f q).isSome then (goRound (foundBy f q) l).2 else q :: (goRound (foundBy f q) l).2) := by
  simp only [goRound, foundBy]
  cases take f q <;> rfl
theorem foundBy_len (f : List Name) (q : Eqn) : (foundBy f q).length ≤ f.length + 1 := by
  unfold foundBy; split <;> simp
abbrev Oring (a : A) : List (Nat × Box) := [(10004, ⟨224, 1, [[a]], none⟩)]
theorem m176 (acc : List Name) (wait : List Eqn) (hw : ∀ q ∈ wait, q.lefts.length ≤ 1048576 ∧ q.rights.length ≤ 1048576) (hl : acc.length + wait.length ≤ 50000000) :
    MeetsH Tryd.prog G 176 [.one (.ref 10004 0 0), .one fv177] (hp (Oring (.c (.sl (wait.map Eqn.row) []))) [] (Hf acc)) (rB (decide ((goRound acc wait).2.length < wait.length)))
      (hp (Oring (.own 30 ((goRound acc wait).2.map Eqn.row))) [(30, ⟨228, 4, (goRound acc wait).2.length⟩)] (Hf (goRound acc wait).1)) := by
  refine meetsH [] Tryd.func176 ie176 ig176 (Nat.le_of_ble_eq_true rfl) (by simp [midKey]) (by simp) (by simp [ownKey]) (by simp) (by simp) (Hf_same _ _) (by simp) (by simp) ?_
  simp [ic176, ir176]
  generalize hN : wait.length = N
  refine w_loopA [.t 30 6 228 4] [8, 29] [0, 1, 5, 6, 17, 18, 19] (by simp [ownKey])
    (fun a : Nat × List Eqn × List Name => st [(0, .k true (.x (.one (.ref 10004 0 0)))), (1, .k true (.x (.one fv177))), (5, tI .i64 N), (6, .k true (.x (.one (.own 30 (a.2.1.map Eqn.row))))), (17, .k true (.x (.one (.c (.sl (wait.map Eqn.row) []))))), (18, tI .i64 N), (19, tI .i64 a.1)]
      (Oring (.c (.sl (wait.map Eqn.row) []))) [(30, ⟨228, 4, a.2.1.length⟩)] (Hf a.2.2)) (fun a => N - a.1)
    (fun a => a.1 ≤ N ∧ a.2.2.length ≤ acc.length + a.1 ∧ a.2.1.length ≤ a.1 ∧ goRound acc wait = ((goRound a.2.2 (wait.drop a.1)).1, a.2.1 ++ (goRound a.2.2 (wait.drop a.1)).2)) (0, [], acc) (by simp) (by simp) ?_
  rintro ⟨i, w, f⟩ K hK ⟨hi, hf, hwl, hd⟩
  simp only at hi hf hwl hd
  obtain hlt | hge := Nat.lt_or_ge i wait.length
  · rw [List.drop_eq_getElem_cons hlt, goRound_cons] at hd
    have hq := hw wait[i] (List.getElem_mem hlt)
    have hlt' : i < N := by omega
    simp [ic176l0, hlt, hlt']
    refine r_callC (c177 (G := G) f wait[i] hq.1 hq.2 (by omega)) (Hf_same _ _) rfl rfl rfl (by simp [take_all]) (by simp) (by simp) ?_
    simp
    refine condI_of (fun h => ?_) (fun h => ?_)
    · simp at h
      simp [take_all]
      refine ⟨by unfold maxLen; omega, by unfold maxBytes; omega, ?_⟩
      simp (disch := omega) only [wrap64]
      exact hK (i + 1, w ++ [wait[i]], foundBy f wait[i]) _ (by simp) ⟨by simp; omega, by have := foundBy_len f wait[i]; simp; omega, by simp; omega, by simpa [h] using hd⟩ (by simp; omega)
    · simp at h
      simp
      simp (disch := omega) only [wrap64]
      exact hK (i + 1, w, foundBy f wait[i]) _ (by simp) ⟨by simp; omega, by have := foundBy_len f wait[i]; simp; omega, by simp; omega, by simpa [h] using hd⟩ (by simp; omega)
  · rw [List.drop_eq_nil_of_le hge, goRound] at hd
    simp at hd
    rw [hd]
    have hge' : ¬ i < N := by omega
    simp [ic176l0, hge']
    refine ret_st (by simp) ?_ (by simp) (by simp) (by simp) (by simp)
    simp
end Go.Proofs.YtiomojlcnemnhaaDoor

namespace Go.Proofs.YtiomojlcnemnhaaDoor
open Go.Fx Go.RowKit Go.Ped
variable {G : World → Prop}
def loneOf (e : Ex) : Name := if e.op = 0 ∧ e.kids = [] ∧ e.t.v ≠ us then e.t.v else []
def eqnOf (x : Lit) : Eqn := ⟨loneOf x.left, loneOf x.right, tmVars x.left.terms, tmVars x.right.terms⟩
def isEqn (x : Lit) : Bool := x.kind == 3 && x.rel == 1
def eqsOf (l : List Lit) : List Eqn := (l.filter isEqn).map eqnOf
def atomsOn (acc : List Name) : List Lit → List Name
  | [] => acc
  | x :: l => atomsOn (if x.kind = 1 then addAll acc (tmVars x.l) else acc) l
theorem m175 (e : Ex) (hs : e.small 1048576) (hl : e.terms.length ≤ 2000000) : Meets Tryd.prog G 175 [.agg e.row] (.x (.one (.sl ((tmVars e.terms).map nmRow) []))) := by
  refine meets Tryd.func175 ie175 ig175 (Nat.le_of_ble_eq_true rfl) ?_
  have hw : Walks G (.ifc 232 (.elem [e.row] [] 0 0)) e.terms := fun fv H H' hfv hc => m126_ex hfv e hs [e.row] [] 0 0 H H' ⟨e.row, rfl, by rw [List.drop_zero, List.take_of_length_le (Nat.le_refl _)]⟩ hc
  simp [ic175, ir175, freeze_st, fzL, freezeO, maxLen]
  refine r_call0 (MeetsV.of_fun (m118 _ e.terms (by simp) (fun _ => rfl) (fun _ => rfl) (fun _ => rfl) hl hw)) rfl rfl rfl (by simp) (by simp) (by simp) ?_
  simp
theorem m174 (e : Ex) : Meets Tryd.prog G 174 [.agg e.row] (.x (.one (cS (bs (loneOf e))))) := by
  refine meets Tryd.func174 ie174 ig174 (Nat.le_of_ble_eq_true rfl) ?_
  simp [ic174, ir174]
  refine condI_of (fun h => ?_) (fun h => ?_)
  · have : loneOf e = [] := by
      simp at h
      unfold loneOf
      rw [if_neg]
      rintro ⟨a, b, c⟩
      rcases h with (h | h) | h
      · exact h a
      · simp [b] at h
      · exact c (by simpa [us] using h)
    simp [this]
  · have : loneOf e = e.t.v := by
      simp at h
      unfold loneOf
      rw [if_pos]
      exact ⟨h.1.1, by simpa using h.1.2, by simpa [us] using h.2⟩
    simp [this]
theorem tmVars_len (l : List Tm) : (tmVars l).length ≤ l.length := by
  have h2 := varsOn_length (l.map Tm.v) []
  simp only [List.length_nil, List.length_map, Nat.zero_add] at h2
  exact h2
end Go.Proofs.YtiomojlcnemnhaaDoor

namespace Go.Proofs.YtiomojlcnemnhaaDoor
open Go.Fx Go.RowKit Go.Ped
variable {G : World → Prop}
theorem c173 (acc l : List Name) (sp : Sp) (hl : acc.length + l.length ≤ 100000000) :
    MeetsV Tryd.prog G (fnA 173) [.one (.ref 9 0 0), .one (.c (.sl (l.map nmRow) sp))] (hp (OF 9 7 22 acc) (UF 22 acc) F0) (.tup []) (hp (OF 9 7 22 (addAll acc l)) (UF 22 (addAll acc l)) F0) := by
  have h := (((MeetsV.of_fun (m173 (G := G) acc l sp hl)).ren (π := swR 10009 9)).ren (π := swR 10007 7)).ren (π := swR 10022 22)
  simp [swF, thr_ren] at h
  simpa using h
theorem c176 (acc : List Name) (wait : List Eqn) (hw : ∀ q ∈ wait, q.lefts.length ≤ 1048576 ∧ q.rights.length ≤ 1048576) (hl : acc.length + wait.length ≤ 50000000) :
    MeetsV Tryd.prog G (fnA 176) [.one (.ref 4 0 0), .one (.clo 177 [.ref 9 0 0] [])] (hp ((4, ⟨224, 1, [[.c (.sl (wait.map Eqn.row) [])]], none⟩) :: OF 9 7 22 acc) (UF 22 acc) F0) (rB (decide ((goRound acc wait).2.length < wait.length)))
      (hp ((4, ⟨224, 1, [[.own 30 ((goRound acc wait).2.map Eqn.row)]], none⟩) :: OF 9 7 22 (goRound acc wait).1) ((30, ⟨228, 4, (goRound acc wait).2.length⟩) :: UF 22 (goRound acc wait).1) F0) := by
  have h := m176 (G := G) acc wait hw hl
  unfold Hf at h
  rw [hp_ofA, hp_ofA] at h
  have h2 := ((((MeetsV.of_fun h).ren (π := swR 10004 4)).ren (π := swR 15009 9)).ren (π := swR 15007 7)).ren (π := swR 15022 22)
  simp [swF, thr_ren] at h2
  simpa using h2
def Lit.fit (x : Lit) : Prop := x.small 1048576 ∧ x.left.terms.length ≤ 1048576 ∧ x.right.terms.length ≤ 1048576
theorem goRound_sub : ∀ (l : List Eqn) (f : List Name), ∀ q ∈ (goRound f l).2, q ∈ l
  | [], _ => by simp [goRound]
  | p :: l, f => fun q hq => by
    rw [goRound_cons] at hq
    simp only at hq
    split at hq
    · exact List.mem_cons_of_mem _ (goRound_sub l _ q hq)
    · rcases List.mem_cons.1 hq with rfl | hq
      · exact List.mem_cons_self ..
      · exact List.mem_cons_of_mem _ (goRound_sub l _ q hq)
theorem eqn_fit {x : Lit} (h : x.fit) : (eqnOf x).lefts.length ≤ 1048576 ∧ (eqnOf x).rights.length ≤ 1048576 := by
  have h1 := tmVars_len x.left.terms
  have h2 := tmVars_len x.right.terms
  obtain ⟨_, h3, h4⟩ := h
  exact ⟨by show (tmVars x.left.terms).length ≤ _; omega, by show (tmVars x.right.terms).length ≤ _; omega⟩
theorem eqsOf_yes {x : Lit} {l : List Lit} (h : isEqn x = true) : eqsOf (x :: l) = eqnOf x :: eqsOf l := by simp [eqsOf, h]
theorem eqsOf_no {x : Lit} {l : List Lit} (h : isEqn x = false) : eqsOf (x :: l) = eqsOf l := by simp [eqsOf, h]
theorem eqsOf_mem {q : Eqn} {l : List Lit} (h : q ∈ eqsOf l) : ∃ x ∈ l, isEqn x = true ∧ eqnOf x = q := by
  simp only [eqsOf, List.mem_map, List.mem_filter] at h
  obtain ⟨x, ⟨h1, h2⟩, h3⟩ := h
  exact ⟨x, h1, h2, h3⟩
def limitsOf (l : List Lit) : List Name := goRounds (atomsOn [] l) (eqsOf l)
theorem m121 (l : List Lit) (sp : Sp) (hs : ∀ x ∈ l, x.fit) (hl : l.length ≤ 1048576) (hb : (l.map fun x => x.l.length).sum ≤ 10000000) :
    MeetsH Tryd.prog G 121 [.one (.c (.sl (l.map Lit.row) sp))] (hp [] [] F0) (.x (.one (.ref 9 0 0))) (hp (OF 9 7 22 (limitsOf l)) (UF 22 (limitsOf l)) F0) := by
  refine meetsH [] Tryd.func121 ie121 ig121 (Nat.le_of_ble_eq_true rfl) (by simp) (by simp) (by simp [ownKey]) (by simp) (by simp) (sameKeys_refl F0) ?_ (by simp) ?_
  · intro p hp r hr
    simp only [List.mem_cons, List.not_mem_nil, or_false] at hp
    rcases hp with rfl | rfl
    · simp only [List.mem_singleton] at hr
      subst hr
      simp [ownKey]
    · exact thr_only _ _ r hr
  generalize hR : limitsOf l = R
  unfold limitsOf at hR
  simp [ic121, ir121]
  refine w_loopA [.o 22 9 0 9 1, .o 50 4 0 228 4] [6, 49] [0, 3, 4, 10, 11, 12] (by simp [ownKey])
    (fun a : Nat × List Name × List Eqn => st [(0, .k true (.x (.one (.c (.sl (l.map Lit.row) sp))))), (3, .k true (.x (.one (.ref 9 0 0)))), (4, .k true (.x (.one (.ref 4 0 0)))), (10, .k true (.x (.one (.c (.sl (l.map Lit.row) sp))))), (11, tI .i64 l.length), (12, tI .i64 a.1)]
      ((4, ⟨224, 1, [[.own 50 (a.2.2.map Eqn.row)]], none⟩) :: OF 9 7 22 a.2.1) ((50, ⟨228, 4, a.2.2.length⟩) :: UF 22 a.2.1) F0) (fun a => l.length - a.1)
    (fun a => a.1 ≤ l.length ∧ atomsOn [] l = atomsOn a.2.1 (l.drop a.1) ∧ eqsOf l = a.2.2 ++ eqsOf (l.drop a.1) ∧ a.2.1.length + ((l.drop a.1).map fun x => x.l.length).sum ≤ 10000000 ∧ a.2.2.length ≤ a.1) (0, [], []) (by simp [thr]) (by simp; exact hb) ?_
  · rintro ⟨i, f, E⟩ K hK ⟨hi, hd, he, hf, hE⟩
    simp only at hi hd he hf hE
    obtain hlt | hge := Nat.lt_or_ge i l.length
    · rw [List.drop_eq_getElem_cons hlt] at hd he hf
      simp only [atomsOn, List.map_cons, List.sum_cons] at hd hf
      have hx := hs l[i] (List.getElem_mem hlt)
      by_cases hk : l[i].kind = 1
      · have hn : isEqn l[i] = false := by simp [isEqn, hk]
        rw [eqsOf_no hn] at he
        rw [if_pos hk] at hd
        have h1 := addAll_len (tmVars l[i].l) f
        have h2 := tmVars_len l[i].l
        simp [ic121l0, hlt, hk]
        refine call_of (m46 l[i].p l[i].l l[i].sp hx.1.1) ?_
        simp
        refine r_callW _ _ (OF 9 7 22 f) (UF 22 f) _ (OF 9 7 22 (addAll f (tmVars l[i].l))) (UF 22 (addAll f (tmVars l[i].l))) (c173 f (tmVars l[i].l) [] (by omega)) rfl rfl rfl (by simp [X.fits, A.fits]) (by simp) ?_
        simp
        simp (disch := omega) only [wrap64]
        exact hK (i + 1, addAll f (tmVars l[i].l), E) _ (by simp) ⟨by simp; omega, hd, he, by simp only; omega, by simp only; omega⟩ (by simp; omega)
      · rw [if_neg hk] at hd
        simp [ic121l0, hlt, hk]
        refine condI_of (fun h => ?_) (fun h => ?_)
        · have hn : isEqn l[i] = true := by simpa [isEqn] using h
          rw [eqsOf_yes hn] at he
          simp
          refine call_of (m174 l[i].left) ?_
          simp
          refine call_of (m174 l[i].right) ?_
          simp
          refine call_of (m175 l[i].left hx.1.2.1 (by have := hx.2.1; omega)) ?_
          simp
          refine call_of (m175 l[i].right hx.1.2.2 (by have := hx.2.2; omega)) ?_
          simp
          refine ⟨by unfold maxLen; omega, by unfold maxBytes; omega, ?_⟩
          simp (disch := omega) only [wrap64]
          exact hK (i + 1, f, E ++ [eqnOf l[i]]) _ (by simp [Eqn.row, eqnOf]) ⟨by simp; omega, hd, by simpa using he, by simp only; omega, by simp; omega⟩ (by simp; omega)
        · have hn : isEqn l[i] = false := by simpa [isEqn] using h
          rw [eqsOf_no hn] at he
          simp
          simp (disch := omega) only [wrap64]
          exact hK (i + 1, f, E) _ (by simp) ⟨by simp; omega, hd, he, by simp only; omega, by simp only; omega⟩ (by simp; omega)
    · rw [List.drop_eq_nil_of_le hge] at hd he hf
      simp only [atomsOn, List.map_nil, List.sum_nil] at hd hf
      have he' : eqsOf l = E := by simpa [eqsOf] using he
      simp [ic121l0, Nat.not_lt.mpr hge]
      rw [hd, he'] at hR
      have hq : ∀ q ∈ E, q.lefts.length ≤ 1048576 ∧ q.rights.length ≤ 1048576 := fun q hq => by
        rw [← he'] at hq
        obtain ⟨x, hx, _, rfl⟩ := eqsOf_mem hq
        exact eqn_fit (hs x hx)
      refine w_loopA [] [30, 50] [3, 4] (by simp [ownKey])
        (fun a : List Name × List Eqn => st [(3, .k true (.x (.one (.ref 9 0 0)))), (4, .k true (.x (.one (.ref 4 0 0))))] ((4, ⟨224, 1, [[.c (.sl (a.2.map Eqn.row) [])]], none⟩) :: OF 9 7 22 a.1) (UF 22 a.1) F0) (fun a => a.2.length)
        (fun a => goRounds a.1 a.2 = R ∧ (∀ q ∈ a.2, q.lefts.length ≤ 1048576 ∧ q.rights.length ≤ 1048576) ∧ a.1.length + a.2.length ≤ 50000000) (f, E) (by simp) ⟨hR, hq, by simp only; omega⟩ ?_
      rintro ⟨g, w⟩ K2 hK2 ⟨h1, h2, h3⟩
      simp only at h1 h2 h3
      have hc := goRound_count w g
      have hsub : ∀ q ∈ (goRound g w).2, q ∈ w := goRound_sub w g
      rw [goRounds] at h1
      simp [ic121l1]
      refine r_callW _ _ ((4, ⟨224, 1, [[.c (.sl (w.map Eqn.row) [])]], none⟩) :: OF 9 7 22 g) (UF 22 g) _ _ _ (c176 g w h2 h3) rfl rfl rfl (by simp) (by simp) ?_
      simp
      refine condI_of (fun h => ?_) (fun h => ?_)
      · have hlt : (goRound g w).2.length < w.length := by simpa using h
        rw [dif_pos hlt] at h1
        simp
        exact hK2 _ _ (by simp) ⟨h1, fun q hq => h2 q (hsub q hq), by first | omega | (simp only; omega)⟩ hlt
      · have hlt : ¬ (goRound g w).2.length < w.length := by simpa using h
        rw [dif_neg hlt] at h1
        simp
        refine ret_st (by simp) (by simp) ?_ (by simp [h1]) (by simp) (by simp)
        simp [h1]
theorem m50 (l : List Lit) (sp : Sp) (hs : ∀ x ∈ l, x.fit) (hl : l.length ≤ 1048576) (hb : (l.map fun x => x.l.length).sum ≤ 10000000) :
    Meets Tryd.prog G 50 [.one (.sl (l.map Lit.row) sp)] (.x (.one (.sl ((limitsOf l).map nmRow) []))) := by
  refine meets Tryd.func50 ie50 ig50 (Nat.le_of_ble_eq_true rfl) ?_
  simp [ic50, ir50]
  refine r_callW _ _ [] [] _ (OF 9 7 22 (limitsOf l)) (UF 22 (limitsOf l)) (MeetsV.of_fun (m121 l sp hs hl hb)) rfl rfl rfl (by simp) (by simp) ?_
  simp
theorem lone_wf {e : Ex} (h : loneOf e ≠ []) : tmVars e.terms = [loneOf e] := by
  obtain ⟨op, t, kids, sp⟩ := e
  unfold loneOf at h ⊢
  split at h
  · rename_i hc
    rw [if_pos hc]
    obtain ⟨_, h2, h3⟩ := hc
    simp only [Ex.kids] at h2
    subst h2
    have hv : t.v ≠ [] := h
    have hu : t.v ≠ us := h3
    simp [Ex.terms_mk, tmVars, varsOn, Ped.isVar, hv, hu, Ex.t]
  · exact absurd rfl h
theorem eqn_wf (x : Lit) : (eqnOf x).wf := ⟨fun h => lone_wf h, fun h => lone_wf h⟩
theorem eqs_wf (l : List Lit) : ∀ q ∈ eqsOf l, q.wf := fun q hq => by
  obtain ⟨x, _, _, rfl⟩ := eqsOf_mem hq
  exact eqn_wf x
end Go.Proofs.YtiomojlcnemnhaaDoor

import Derived.Test.YtiomojlcnemnhaaGreatDoorJGxZ2
/- Contracts, on: the variables that a body limits; the law on limits. -/
namespace Go.Proofs.YtiomojlcnemnhaaGreatDoor
open Go.Fx Go.RowKit Go.Ped
variable {G : World → Prop}

def loneOf (e : Ex) : Name := if e.op = 0 ∧ e.kids = [] ∧ e.t.v ≠ us then e.t.v else []
def eqnOf (x : Lit) : Eqn := ⟨loneOf x.left, loneOf x.right, tmVars x.left.terms, tmVars x.right.terms⟩
def isEqn (x : Lit) : Bool := x.kind == 3 && x.rel == 1
def eqsOf (l : List Lit) : List Eqn := (l.filter isEqn).map eqnOf
def atomsOn (acc : List Name) : List Lit → List Name
  | [] => acc
  | x :: l => atomsOn (if x.kind = 1 then addAll acc (tmVars x.l) else acc) l

theorem m175 (e : Ex) (hs : e.small 1048576) (hl : e.terms.length ≤ 2000000) : Meets Tryz.prog G 190 [.agg e.row] (.x (.one (.sl ((tmVars e.terms).map nmRow) []))) := by
  refine meets Tryz.func190 ie175 ig175 (Nat.le_of_ble_eq_true rfl) ?_
  have hw : Walks G (.ifc 222 (.elem [e.row] [] 0 0)) e.terms := fun fv H H' hfv hc => m126_ex hfv e hs [e.row] [] 0 0 H H' ⟨e.row, rfl, by rw [List.drop_zero, List.take_of_length_le (Nat.le_refl _)]⟩ hc
  simp [ic175, ir175, freeze_st, fzL, freezeO, maxLen]
  refine r_call0 (MeetsV.of_fun (m118 _ e.terms (by simp) (fun _ => rfl) (fun _ => rfl) (fun _ => rfl) hl hw)) rfl rfl rfl (by simp) (by simp) (by simp) ?_
  simp

theorem m28 (e : Ex) (hs : e.small 1048576) (hl : e.terms.length ≤ 1048576) : Meets Tryz.prog G 166 [.agg e.row] (.x (.one (.sl ((tmVars e.terms).map nmRow) []))) := by
  refine meets Tryz.func166 ie28 ig28 (Nat.le_of_ble_eq_true rfl) ?_
  simp [ic28, ir28]
  refine r_callW _ _ [] [] _ [] _ (MeetsV.of_fun (m99n (G := G) e hs (by omega))) rfl rfl rfl (by simp) (by simp) ?_
  simp
  refine call_of (m98 e.terms [] hl) ?_
  simp

theorem m174 (e : Ex) : Meets Tryz.prog G 189 [.agg e.row] (.x (.one (cS (bs (loneOf e))))) := by
  refine meets Tryz.func189 ie174 ig174 (Nat.le_of_ble_eq_true rfl) ?_
  simp [ic174, ir174]
  refine condI_of (fun h => ?_) (fun h => ?_)
  · have : loneOf e = [] := by
      simp at h
      unfold loneOf
      rw [if_neg]
      rintro ⟨a, b, c⟩
      rcases h with (h | h) | h
      · exact h a
      · simp [b] at h
      · exact c (by simpa [us] using h)
    simp [this]
  · have : loneOf e = e.t.v := by
      simp at h
      unfold loneOf
      rw [if_pos]
      exact ⟨h.1.1, by simpa using h.1.2, by simpa [us] using h.2⟩
    simp [this]

theorem m178 (e : Ex) : Meets Tryz.prog G 165 [.agg e.row] (.tup [.one (cS (bs (loneOf e))), .one (cB (loneOf e != []))]) := by
  refine meets Tryz.func165 ie178 ig178 (Nat.le_of_ble_eq_true rfl) ?_
  simp [ic178, ir178]
  refine condI_of (fun h => ?_) (fun h => ?_)
  · have : loneOf e = [] := by
      simp at h
      unfold loneOf
      split
      · rename_i hc
        obtain ⟨a, b, c⟩ := hc
        rcases h with ((h | h) | h) | h
        · exact absurd a h
        · exact absurd b h
        · exact h
        · exact absurd (by simpa [us] using h) c
      · rfl
    simp [this]
  · simp at h
    have : loneOf e = e.t.v := by
      unfold loneOf
      rw [if_pos]
      exact ⟨h.1.1.1, h.1.1.2, by simpa [us] using h.2⟩
    simp [this, h.1.2]

theorem m179 (l f : List Name) (sp sq : Sp) (hl : l.length ≤ maxLen) (hf : f.length ≤ maxLen) : Meets Tryz.prog G 66 [.one (.sl (l.map nmRow) sp), .one (.sl (f.map nmRow) sq)] (.x (.one (cB (allIn l f)))) := by
  refine meets Tryz.func66 ie179 ig179 (Nat.le_of_ble_eq_true rfl) ?_
  unfold maxLen at hl
  simp [ic179, ir179]
  refine w_loopA [] [] [0, 1, 5] (by simp) (fun i : Nat => st [(0, .k true (.x (.one (.c (.sl (l.map nmRow) sp))))), (1, .k true (.x (.one (.c (.sl (f.map nmRow) sq))))), (5, tI .i64 i)] [] [] F0) (fun i => l.length - i)
    (fun i => i ≤ l.length ∧ allIn (l.take i) f = true) 0 (by simp) (by simp [allIn]) ?_
  rintro i K hK ⟨hi, hd⟩
  obtain hlt | hge := Nat.lt_or_ge i l.length
  · simp [ic179l0, hlt]
    refine call_of (m30 l[i] f sq hf) ?_
    simp
    refine condI_of (fun h => ?_) (fun h => ?_)
    · have hb : allIn l f = false := all_not (List.getElem_mem hlt) (by simpa using h)
      simp [hb]
    · simp
      simp (disch := omega) only [wrap64]
      exact hK (i + 1) _ (by simp) ⟨by omega, by rw [List.take_succ_eq_append_getElem hlt, allIn, List.all_append]; simp [allIn] at hd h ⊢; exact ⟨hd, h⟩⟩ (by omega)
  · rw [List.take_of_length_le hge] at hd
    simp [ic179l0, Nat.not_lt.mpr hge, hd]

theorem tmVars_len (l : List Tm) : (tmVars l).length ≤ l.length := by
  have h2 := varsOn_length (l.map Tm.v) []
  simp only [List.length_nil, List.length_map, Nat.zero_add] at h2
  exact h2
/-- What one side gives. -/
def givesOf (a b : Ex) (f : List Name) : Bool := loneOf a != [] && !f.contains (loneOf a) && allIn (tmVars b.terms) f
theorem m123 (a b : Ex) (f : List Name) (sp : Sp) (hb : b.small 1048576) (hl : b.terms.length ≤ 1048576) (hf : f.length ≤ maxLen) :
    Meets Tryz.prog G 195 [.agg a.row, .agg b.row, .one (.sl (f.map nmRow) sp)] (.tup [.one (cS (bs (if givesOf a b f then loneOf a else []))), .one (cB (givesOf a b f))]) := by
  refine meets Tryz.func195 ie123 ig123 (Nat.le_of_ble_eq_true rfl) ?_
  have hv := varsOn_length (b.terms.map Tm.v) []
  simp only [List.length_nil, List.length_map] at hv
  generalize hg : givesOf a b f = g
  simp [ic123, ir123]
  refine call_of (m178 a) ?_
  simp
  refine call_i (fun _ => m30 (loneOf a) f sp hf) ?_
  simp
  refine call_i (fun _ => m28 b hb hl) ?_
  simp
  refine call_i (fun _ => m179 _ f [] sp (by have := tmVars_len b.terms; unfold maxLen; omega) hf) ?_
  simp
  refine condI_of (fun h => ?_) (fun h => ?_)
  · have : g = true := by rw [← hg]; simpa [givesOf] using h
    simp [this]
  · have : g = false := by rw [← hg]; simpa [givesOf] using h
    simp [this]

theorem take_eq (x : Lit) (f : List Name) : take f (eqnOf x) = if givesOf x.left x.right f then some (loneOf x.left) else if givesOf x.right x.left f then some (loneOf x.right) else none := rfl

theorem atomsOn_len : ∀ (l : List Lit) (acc : List Name), (atomsOn acc l).length ≤ acc.length + (l.map fun x => x.l.length).sum
  | [], acc => by simp [atomsOn]
  | x :: l, acc => by
    have h := atomsOn_len l (if x.kind = 1 then addAll acc (tmVars x.l) else acc)
    have h1 : (if x.kind = 1 then addAll acc (tmVars x.l) else acc).length ≤ acc.length + x.l.length := by
      split
      · exact Nat.le_trans (addAll_len (tmVars x.l) acc) (Nat.add_le_add_left (tmVars_len x.l) _)
      · omega
    simp only [atomsOn, List.map_cons, List.sum_cons]
    omega

theorem m122 (l : List Lit) (sp : Sp) (hs : ∀ x ∈ l, x.small 1048576) (hl : l.length ≤ 1048576) (hb : (l.map fun x => x.l.length).sum ≤ 50000000) :
    MeetsH Tryz.prog G 65 [.one (.c (.sl (l.map Lit.row) sp))] (hp [] [] F0) (.x (.one (.own 44 ((atomsOn [] l).map nmRow)))) (hp [] [(44, ⟨9, 1, (atomsOn [] l).length⟩)] F0) := by
  refine meetsH [] Tryz.func65 ie122 ig122 (Nat.le_of_ble_eq_true rfl) (by simp) (by simp) (by simp) (by simp) (by simp) (sameKeys_refl F0) (by simp) (by simp) ?_
  generalize hR : atomsOn [] l = R
  simp [ic122, ir122]
  refine w_loopA [.t 44 3 9 1] [43] [0, 3, 4] (by simp [ownKey]) (fun a : Nat × List Name => st [(0, .k true (.x (.one (.c (.sl (l.map Lit.row) sp))))), (3, .k true (.x (.one (.own 44 (a.2.map nmRow))))), (4, tI .i64 a.1)] [] [(44, ⟨9, 1, a.2.length⟩)] F0) (fun a => l.length - a.1)
    (fun a => a.1 ≤ l.length ∧ R = atomsOn a.2 (l.drop a.1) ∧ a.2.length + ((l.drop a.1).map fun x => x.l.length).sum ≤ 50000000) (0, []) (by simp) (by simp; exact ⟨hR.symm, hb⟩) ?_
  rintro ⟨i, f⟩ K hK ⟨hi, hd, hf⟩
  simp only at hi hd hf
  obtain hlt | hge := Nat.lt_or_ge i l.length
  · rw [List.drop_eq_getElem_cons hlt] at hd hf
    simp only [atomsOn, List.map_cons, List.sum_cons] at hd hf
    have hx := hs l[i] (List.getElem_mem hlt)
    by_cases hk : l[i].kind = 1
    · rw [if_pos hk] at hd
      simp [ic122l1, hlt, hk]
      refine call_of (m47 l[i].p l[i].l l[i].sp hx.1) ?_
      simp
      have hv2 := tmVars_len l[i].l
      have hv3 := hx.1
      generalize hvs : tmVars l[i].l = vs at *
      refine w_loopA [] [43] [0, 3, 4, 5, 6] (by simp [ownKey]) (fun a : Nat × List Name => st [(0, .k true (.x (.one (.c (.sl (l.map Lit.row) sp))))), (3, .k true (.x (.one (.own 44 (a.2.map nmRow))))), (4, tI .i64 i), (5, .k true (.x (.one (.c (.sl (vs.map nmRow) []))))), (6, tI .i64 a.1)] [] [(44, ⟨9, 1, a.2.length⟩)] F0) (fun a => vs.length - a.1)
        (fun a => a.1 ≤ vs.length ∧ addAll f vs = addAll a.2 (vs.drop a.1) ∧ a.2.length ≤ f.length + a.1) (0, f) (by simp) (by simp) ?_
      rintro ⟨j, g⟩ K2 hK2 ⟨hj, hd2, hg⟩
      simp only at hj hd2 hg
      obtain hlt2 | hge2 := Nat.lt_or_ge j vs.length
      · rw [List.drop_eq_getElem_cons hlt2, addAll] at hd2
        simp [ic122l0, hlt2]
        refine call_of (m30 vs[j] g [] (by unfold maxLen; omega)) ?_
        simp
        refine condI_of (fun h => ?_) (fun h => ?_)
        · have hn : vs[j] ∉ g := by simpa using h
          simp [hlt2]
          refine ⟨by unfold maxLen; omega, by unfold maxBytes; omega, ?_⟩
          simp (disch := omega) only [wrap64]
          exact hK2 (j + 1, g ++ [vs[j]]) _ (by simp) ⟨by simp; omega, by simpa [hn] using hd2, by simp; omega⟩ (by simp; omega)
        · have hn : vs[j] ∈ g := by simpa using h
          simp
          simp (disch := omega) only [wrap64]
          exact hK2 (j + 1, g) _ (by simp) ⟨by simp; omega, by simpa [hn] using hd2, by simp; omega⟩ (by simp; omega)
      · rw [List.drop_eq_nil_of_le hge2, addAll] at hd2
        simp [ic122l0, Nat.not_lt.mpr hge2]
        simp (disch := omega) only [wrap64]
        exact hK (i + 1, g) _ (by simp) ⟨by simp; omega, by simp only; rw [hd, hd2], by simp only; omega⟩ (by simp; omega)
    · rw [if_neg hk] at hd
      simp [ic122l1, hlt, hk]
      simp (disch := omega) only [wrap64]
      exact hK (i + 1, f) _ (by simp) ⟨by simp; omega, hd, by simp only; omega⟩ (by simp; omega)
  · rw [List.drop_eq_nil_of_le hge, atomsOn] at hd
    simp [ic122l1, Nat.not_lt.mpr hge, hd]
    exact ret_st (by simp) (by simp) (by simp) (by simp) (by simp) (by simp)
end Go.Proofs.YtiomojlcnemnhaaGreatDoor

/- Contracts, on: what a body limits, the program's rounds and the document's; the law on limits. -/
namespace Go.Proofs.YtiomojlcnemnhaaGreatDoor
open Go.Fx Go.RowKit Go.Ped
variable {G : World → Prop}

theorem c173 (acc l : List Name) (sp : Sp) (hl : acc.length + l.length ≤ 100000000) :
    MeetsV Tryz.prog G (fnA 188) [.one (.ref 9 0 0), .one (.c (.sl (l.map nmRow) sp))] (hp (OF 9 7 22 acc) (UF 22 acc) F0) (.tup []) (hp (OF 9 7 22 (addAll acc l)) (UF 22 (addAll acc l)) F0) := by
  have h := (((MeetsV.of_fun (m173 (G := G) acc l sp hl)).ren (π := swR 10009 9)).ren (π := swR 10007 7)).ren (π := swR 10022 22)
  simp [swF, thr_ren] at h
  simpa using h

theorem c176 (acc : List Name) (wait : List Eqn) (hw : ∀ q ∈ wait, q.lefts.length ≤ 1048576 ∧ q.rights.length ≤ 1048576) (hl : acc.length + wait.length ≤ 50000000) :
    MeetsV Tryz.prog G (fnA 191) [.one (.ref 4 0 0), .one (.clo 192 [.ref 9 0 0] [])] (hp ((4, ⟨230, 1, [[.c (.sl (wait.map Eqn.row) [])]], none⟩) :: OF 9 7 22 acc) (UF 22 acc) F0) (rB (decide ((goRound acc wait).2.length < wait.length)))
      (hp ((4, ⟨230, 1, [[.own 30 ((goRound acc wait).2.map Eqn.row)]], none⟩) :: OF 9 7 22 (goRound acc wait).1) ((30, ⟨234, 4, (goRound acc wait).2.length⟩) :: UF 22 (goRound acc wait).1) F0) := by
  have h := m176 (G := G) acc wait hw hl
  unfold Hf at h
  rw [hp_ofA, hp_ofA] at h
  have h2 := ((((MeetsV.of_fun h).ren (π := swR 10004 4)).ren (π := swR 15009 9)).ren (π := swR 15007 7)).ren (π := swR 15022 22)
  simp [swF, thr_ren] at h2
  simpa using h2

/-- A literal whose expressions are not too great. -/
def Lit.fit (x : Lit) : Prop := x.small 1048576 ∧ x.left.terms.length ≤ 1048576 ∧ x.right.terms.length ≤ 1048576
theorem goRound_sub : ∀ (l : List Eqn) (f : List Name), ∀ q ∈ (goRound f l).2, q ∈ l
  | [], _ => by simp [goRound]
  | p :: l, f => fun q hq => by
    rw [goRound_cons] at hq
    simp only at hq
    split at hq
    · exact List.mem_cons_of_mem _ (goRound_sub l _ q hq)
    · rcases List.mem_cons.1 hq with rfl | hq
      · exact List.mem_cons_self ..
      · exact List.mem_cons_of_mem _ (goRound_sub l _ q hq)
theorem goRounds_len (w : List Eqn) (f : List Name) : (goRounds f w).length ≤ f.length + w.length := by
  induction hn : w.length using Nat.strongRecOn generalizing w f with
  | ind n ih =>
    have hc := goRound_count w f
    rw [goRounds]
    split
    · rename_i h
      have := ih _ (by omega) (goRound f w).2 (goRound f w).1 rfl
      omega
    · omega
theorem eqn_fit {x : Lit} (h : x.fit) : (eqnOf x).lefts.length ≤ 1048576 ∧ (eqnOf x).rights.length ≤ 1048576 := by
  have h1 := tmVars_len x.left.terms
  have h2 := tmVars_len x.right.terms
  obtain ⟨_, h3, h4⟩ := h
  exact ⟨by show (tmVars x.left.terms).length ≤ _; omega, by show (tmVars x.right.terms).length ≤ _; omega⟩
theorem eqsOf_yes {x : Lit} {l : List Lit} (h : isEqn x = true) : eqsOf (x :: l) = eqnOf x :: eqsOf l := by simp [eqsOf, h]
theorem eqsOf_no {x : Lit} {l : List Lit} (h : isEqn x = false) : eqsOf (x :: l) = eqsOf l := by simp [eqsOf, h]
theorem eqsOf_len (l : List Lit) : (eqsOf l).length ≤ l.length := by simp only [eqsOf, List.length_map]; exact List.length_filter_le _ _
theorem eqsOf_mem {q : Eqn} {l : List Lit} (h : q ∈ eqsOf l) : ∃ x ∈ l, isEqn x = true ∧ eqnOf x = q := by
  simp only [eqsOf, List.mem_map, List.mem_filter] at h
  obtain ⟨x, ⟨h1, h2⟩, h3⟩ := h
  exact ⟨x, h1, h2, h3⟩
/-- What a body limits. -/
def limitsOf (l : List Lit) : List Name := goRounds (atomsOn [] l) (eqsOf l)

theorem m121 (l : List Lit) (sp : Sp) (hs : ∀ x ∈ l, x.fit) (hl : l.length ≤ 1048576) (hb : (l.map fun x => x.l.length).sum ≤ 10000000) :
    MeetsH Tryz.prog G 94 [.one (.c (.sl (l.map Lit.row) sp))] (hp [] [] F0) (.x (.one (.ref 9 0 0))) (hp (OF 9 7 22 (limitsOf l)) (UF 22 (limitsOf l)) F0) := by
  refine meetsH [] Tryz.func94 ie121 ig121 (Nat.le_of_ble_eq_true rfl) (by simp) (by simp) (by simp [ownKey]) (by simp) (by simp) (sameKeys_refl F0) ?_ (by simp) ?_
  · intro p hp r hr
    simp only [List.mem_cons, List.not_mem_nil, or_false] at hp
    rcases hp with rfl | rfl
    · simp only [List.mem_singleton] at hr
      subst hr
      simp [ownKey]
    · exact thr_only _ _ r hr
  generalize hR : limitsOf l = R
  unfold limitsOf at hR
  simp [ic121, ir121]
  refine w_loopA [.o 22 9 0 9 1, .o 50 4 0 234 4] [6, 49] [0, 3, 4, 10, 11, 12] (by simp [ownKey])
    (fun a : Nat × List Name × List Eqn => st [(0, .k true (.x (.one (.c (.sl (l.map Lit.row) sp))))), (3, .k true (.x (.one (.ref 9 0 0)))), (4, .k true (.x (.one (.ref 4 0 0)))), (10, .k true (.x (.one (.c (.sl (l.map Lit.row) sp))))), (11, tI .i64 l.length), (12, tI .i64 a.1)]
      ((4, ⟨230, 1, [[.own 50 (a.2.2.map Eqn.row)]], none⟩) :: OF 9 7 22 a.2.1) ((50, ⟨234, 4, a.2.2.length⟩) :: UF 22 a.2.1) F0) (fun a => l.length - a.1)
    (fun a => a.1 ≤ l.length ∧ atomsOn [] l = atomsOn a.2.1 (l.drop a.1) ∧ eqsOf l = a.2.2 ++ eqsOf (l.drop a.1) ∧ a.2.1.length + ((l.drop a.1).map fun x => x.l.length).sum ≤ 10000000 ∧ a.2.2.length ≤ a.1) (0, [], []) (by simp [thr]) (by simp; exact hb) ?_
  · rintro ⟨i, f, E⟩ K hK ⟨hi, hd, he, hf, hE⟩
    simp only at hi hd he hf hE
    obtain hlt | hge := Nat.lt_or_ge i l.length
    · rw [List.drop_eq_getElem_cons hlt] at hd he hf
      simp only [atomsOn, List.map_cons, List.sum_cons] at hd hf
      have hx := hs l[i] (List.getElem_mem hlt)
      by_cases hk : l[i].kind = 1
      · have hn : isEqn l[i] = false := by simp [isEqn, hk]
        rw [eqsOf_no hn] at he
        rw [if_pos hk] at hd
        have h1 := addAll_len (tmVars l[i].l) f
        have h2 := tmVars_len l[i].l
        simp [ic121l0, hlt, hk]
        refine call_of (m46 l[i].p l[i].l l[i].sp hx.1.1) ?_
        simp
        refine r_callW _ _ (OF 9 7 22 f) (UF 22 f) _ (OF 9 7 22 (addAll f (tmVars l[i].l))) (UF 22 (addAll f (tmVars l[i].l))) (c173 f (tmVars l[i].l) [] (by omega)) rfl rfl rfl (by simp [X.fits, A.fits]) (by simp) ?_
        simp
        simp (disch := omega) only [wrap64]
        exact hK (i + 1, addAll f (tmVars l[i].l), E) _ (by simp) ⟨by simp; omega, hd, he, by simp only; omega, by simp only; omega⟩ (by simp; omega)
      · rw [if_neg hk] at hd
        simp [ic121l0, hlt, hk]
        refine condI_of (fun h => ?_) (fun h => ?_)
        · have hn : isEqn l[i] = true := by simpa [isEqn] using h
          rw [eqsOf_yes hn] at he
          simp
          refine call_of (m174 l[i].left) ?_
          simp
          refine call_of (m174 l[i].right) ?_
          simp
          refine call_of (m175 l[i].left hx.1.2.1 (by have := hx.2.1; omega)) ?_
          simp
          refine call_of (m175 l[i].right hx.1.2.2 (by have := hx.2.2; omega)) ?_
          simp
          refine ⟨by unfold maxLen; omega, by unfold maxBytes; omega, ?_⟩
          simp (disch := omega) only [wrap64]
          exact hK (i + 1, f, E ++ [eqnOf l[i]]) _ (by simp [Eqn.row, eqnOf]) ⟨by simp; omega, hd, by simpa using he, by simp only; omega, by simp; omega⟩ (by simp; omega)
        · have hn : isEqn l[i] = false := by simpa [isEqn] using h
          rw [eqsOf_no hn] at he
          simp
          simp (disch := omega) only [wrap64]
          exact hK (i + 1, f, E) _ (by simp) ⟨by simp; omega, hd, he, by simp only; omega, by simp only; omega⟩ (by simp; omega)
    · rw [List.drop_eq_nil_of_le hge] at hd he hf
      simp only [atomsOn, List.map_nil, List.sum_nil] at hd hf
      have he' : eqsOf l = E := by simpa [eqsOf] using he
      simp [ic121l0, Nat.not_lt.mpr hge]
      rw [hd, he'] at hR
      have hq : ∀ q ∈ E, q.lefts.length ≤ 1048576 ∧ q.rights.length ≤ 1048576 := fun q hq => by
        rw [← he'] at hq
        obtain ⟨x, hx, _, rfl⟩ := eqsOf_mem hq
        exact eqn_fit (hs x hx)
      refine w_loopA [] [30, 50] [3, 4] (by simp [ownKey])
        (fun a : List Name × List Eqn => st [(3, .k true (.x (.one (.ref 9 0 0)))), (4, .k true (.x (.one (.ref 4 0 0))))] ((4, ⟨230, 1, [[.c (.sl (a.2.map Eqn.row) [])]], none⟩) :: OF 9 7 22 a.1) (UF 22 a.1) F0) (fun a => a.2.length)
        (fun a => goRounds a.1 a.2 = R ∧ (∀ q ∈ a.2, q.lefts.length ≤ 1048576 ∧ q.rights.length ≤ 1048576) ∧ a.1.length + a.2.length ≤ 50000000) (f, E) (by simp) ⟨hR, hq, by simp only; omega⟩ ?_
      rintro ⟨g, w⟩ K2 hK2 ⟨h1, h2, h3⟩
      simp only at h1 h2 h3
      have hc := goRound_count w g
      have hsub : ∀ q ∈ (goRound g w).2, q ∈ w := goRound_sub w g
      rw [goRounds] at h1
      simp [ic121l1]
      refine r_callW _ _ ((4, ⟨230, 1, [[.c (.sl (w.map Eqn.row) [])]], none⟩) :: OF 9 7 22 g) (UF 22 g) _ _ _ (c176 g w h2 h3) rfl rfl rfl (by simp) (by simp) ?_
      simp
      refine condI_of (fun h => ?_) (fun h => ?_)
      · have hlt : (goRound g w).2.length < w.length := by simpa using h
        rw [dif_pos hlt] at h1
        simp
        exact hK2 _ _ (by simp) ⟨h1, fun q hq => h2 q (hsub q hq), by first | omega | (simp only; omega)⟩ hlt
      · have hlt : ¬ (goRound g w).2.length < w.length := by simpa using h
        rw [dif_neg hlt] at h1
        simp
        refine ret_st (by simp) (by simp) ?_ (by simp [h1]) (by simp) (by simp)
        simp [h1]

theorem lone_wf {e : Ex} (h : loneOf e ≠ []) : tmVars e.terms = [loneOf e] := by
  obtain ⟨op, t, kids, sp⟩ := e
  unfold loneOf at h ⊢
  split at h
  · rename_i hc
    rw [if_pos hc]
    obtain ⟨_, h2, h3⟩ := hc
    simp only [Ex.kids] at h2
    subst h2
    have hv : t.v ≠ [] := h
    have hu : t.v ≠ us := h3
    simp [Ex.terms_mk, tmVars, varsOn, Ped.isVar, hv, hu, Ex.t]
  · exact absurd rfl h
theorem eqn_wf (x : Lit) : (eqnOf x).wf := ⟨fun h => lone_wf h, fun h => lone_wf h⟩
theorem eqs_wf (l : List Lit) : ∀ q ∈ eqsOf l, q.wf := fun q hq => by
  obtain ⟨x, _, _, rfl⟩ := eqsOf_mem hq
  exact eqn_wf x

theorem refRound_cons (f : List Name) (q : Eqn) (l : List Eqn) : refRound f (q :: l) = refRound (foundBy f q) l := by
  simp only [refRound, foundBy]
  cases take f q <;> rfl

theorem m51 (l : List Lit) (sp : Sp) (hs : ∀ x ∈ l, x.fit) (hl : l.length ≤ 1048576) (hb : (l.map fun x => x.l.length).sum ≤ 10000000) :
    Meets Tryz.prog G 97 [.one (.sl (l.map Lit.row) sp)] (.x (.one (.sl ((limitsOf l).map nmRow) []))) := by
  refine meets Tryz.func97 ie51 ig51 (Nat.le_of_ble_eq_true rfl) ?_
  generalize hR : limitsOf l = R
  unfold limitsOf at hR
  have h0 := atomsOn_len l []
  simp only [List.length_nil] at h0
  have h1 := eqsOf_len l
  simp [ic51, ir51]
  refine r_callW _ _ [] [] _ [] _ (MeetsV.of_fun (m122 (G := G) l sp (fun x hx => (hs x hx).1) hl (by omega))) rfl rfl rfl (by simp) (by simp) ?_
  simp
  generalize hA : atomsOn [] l = A0 at *
  refine w_loopA [] [] [0, 3] (by simp)
    (fun a : List Name × List Eqn => st [(0, .k true (.x (.one (.c (.sl (l.map Lit.row) sp))))), (3, .k true (.x (.one (.own 44 (a.1.map nmRow)))))] [] [(44, ⟨9, 1, a.1.length⟩)] F0) (fun a => a.2.length)
    (fun a => goRounds a.1 a.2 = R ∧ Waits a.1 (eqsOf l) a.2 ∧ a.1.length + a.2.length ≤ 50000000) (A0, eqsOf l) (by simp) ⟨hR, Waits.refl _ _, by simp only; omega⟩ ?_
  rintro ⟨f, w⟩ K hK ⟨h1, h2, h3⟩
  simp only at h1 h2 h3
  obtain ⟨r1, r2⟩ := round_same h2 (fun _ h => h) (eqs_wf l)
  have hc := goRound_count w f
  have hle := goRound_le w f
  rw [goRounds] at h1
  simp [ic51l1]
  refine w_loopA [] [6, 54] [0, 3, 4, 5] (by simp [ownKey])
    (fun a : Nat × List Name => st [(0, .k true (.x (.one (.c (.sl (l.map Lit.row) sp))))), (3, .k true (.x (.one (.own 44 (a.2.map nmRow))))), (4, tI .i64 f.length), (5, tI .i64 a.1)] [] [(44, ⟨9, 1, a.2.length⟩)] F0) (fun a => l.length - a.1)
    (fun a => a.1 ≤ l.length ∧ refRound f (eqsOf l) = refRound a.2 (eqsOf (l.drop a.1)) ∧ a.2.length ≤ f.length + a.1) (0, f) (by simp) (by simp) ?_
  rintro ⟨i, g⟩ K2 hK2 ⟨hi, hd, hg⟩
  simp only at hi hd hg
  obtain hlt | hge := Nat.lt_or_ge i l.length
  · rw [List.drop_eq_getElem_cons hlt] at hd
    have hx := hs l[i] (List.getElem_mem hlt)
    simp [ic51l0, hlt]
    refine condI_of (fun h => ?_) (fun h => ?_)
    · have hn : isEqn l[i] = false := by
        simp only [isEqn]
        revert h
        cases l[i].kind == 3 <;> cases l[i].rel == 1 <;> simp
      rw [eqsOf_no hn] at hd
      simp
      simp (disch := omega) only [wrap64]
      exact hK2 (i + 1, g) _ (by simp) ⟨by simp; omega, hd, by simp only; omega⟩ (by simp; omega)
    · have hn : isEqn l[i] = true := by
        simp only [isEqn]
        revert h
        cases l[i].kind == 3 <;> cases l[i].rel == 1 <;> simp
      rw [eqsOf_yes hn, refRound_cons] at hd
      have ht := take_eq l[i] g
      have hgl : g.length ≤ maxLen := by unfold maxLen; omega
      simp
      refine call_of (m123 l[i].left l[i].right g [] hx.1.2.2 hx.2.2 hgl) ?_
      cases g1 : givesOf l[i].left l[i].right g with
      | true =>
        rw [g1] at ht
        simp only [if_true] at ht
        simp [foundBy, ht] at hd
        simp
        refine ⟨by unfold maxLen; omega, by unfold maxBytes; omega, ?_⟩
        simp (disch := omega) only [wrap64]
        exact hK2 (i + 1, g ++ [loneOf l[i].left]) _ (by simp) ⟨by simp; omega, hd, by simp; omega⟩ (by simp; omega)
      | false =>
        rw [g1] at ht
        simp
        refine call_of (m123 l[i].right l[i].left g [] hx.1.2.1 hx.2.1 hgl) ?_
        cases g2 : givesOf l[i].right l[i].left g with
        | true =>
          rw [g2] at ht
          simp at ht
          simp [foundBy, ht] at hd
          simp
          refine ⟨by unfold maxLen; omega, by unfold maxBytes; omega, ?_⟩
          simp (disch := omega) only [wrap64]
          exact hK2 (i + 1, g ++ [loneOf l[i].right]) _ (by simp) ⟨by simp; omega, hd, by simp; omega⟩ (by simp; omega)
        | false =>
          rw [g2] at ht
          simp at ht
          simp [foundBy, ht] at hd
          simp
          simp (disch := omega) only [wrap64]
          exact hK2 (i + 1, g) _ (by simp) ⟨by simp; omega, hd, by simp only; omega⟩ (by simp; omega)
  · rw [List.drop_eq_nil_of_le hge] at hd
    have hd' : refRound f (eqsOf l) = g := by simpa [eqsOf, refRound] using hd
    rw [hd'] at r1
    subst r1
    simp [ic51l0, Nat.not_lt.mpr hge]
    refine condI_of (fun h => ?_) (fun h => ?_)
    · have hne : ¬ (goRound f w).2.length < w.length := by
        have : (goRound f w).1.length = f.length := by simp at h; omega
        omega
      rw [dif_neg hne] at h1
      simp [h1]
    · have hne : (goRound f w).2.length < w.length := by
        have : ¬ (goRound f w).1.length = f.length := by simp at h; omega
        omega
      rw [dif_pos hne] at h1
      simp
      exact hK ((goRound f w).1, (goRound f w).2) _ (by simp) ⟨h1, r2, by simp only; omega⟩ hne

theorem loneOf_mk (op : Int) (t : Tm) (kids : List Ex) (sp : Sp) : loneOf (.mk op t kids sp) = if op = 0 ∧ kids = [] ∧ t.v ≠ us then t.v else [] := rfl
theorem lone_tw (e : Ex) (mk : List C) : loneOf (e.twin mk) = loneOf e := by
  obtain ⟨op, t, kids, sp⟩ := e
  rw [Ex.twin_mk, loneOf_mk, loneOf_mk]
  simp only [List.map_eq_nil_iff]
theorem eqnOf_tw (x : Lit) : eqnOf x.tw = eqnOf x := by
  show Eqn.mk (loneOf (x.left.twin _)) (loneOf (x.right.twin _)) (tmVars (x.left.twin _).terms) (tmVars (x.right.twin _).terms) = _
  rw [lone_tw, lone_tw, Ex.terms_twin, Ex.terms_twin]
  rfl
theorem eqsOf_tw : ∀ l : List Lit, eqsOf (l.map Lit.tw) = eqsOf l
  | [] => rfl
  | x :: l => by
    have h : isEqn x.tw = isEqn x := rfl
    cases hx : isEqn x with
    | true => rw [List.map_cons, eqsOf_yes (h.trans hx), eqsOf_yes hx, eqnOf_tw, eqsOf_tw l]
    | false => rw [List.map_cons, eqsOf_no (h.trans hx), eqsOf_no hx, eqsOf_tw l]
theorem atomsOn_tw : ∀ (l : List Lit) (acc : List Name), atomsOn acc (l.map Lit.tw) = atomsOn acc l
  | [], _ => rfl
  | x :: l, acc => atomsOn_tw l _
theorem limitsOf_tw (l : List Lit) : limitsOf (l.map Lit.tw) = limitsOf l := by unfold limitsOf; rw [eqsOf_tw, atomsOn_tw]
theorem fit_tw {x : Lit} (h : x.fit) : x.tw.fit := ⟨Lit.small_twin h.1, by
  show (x.left.twin _).terms.length ≤ _
  rw [Ex.terms_twin]; exact h.2.1, by
  show (x.right.twin _).terms.length ≤ _
  rw [Ex.terms_twin]; exact h.2.2⟩

end Go.Proofs.YtiomojlcnemnhaaGreatDoor

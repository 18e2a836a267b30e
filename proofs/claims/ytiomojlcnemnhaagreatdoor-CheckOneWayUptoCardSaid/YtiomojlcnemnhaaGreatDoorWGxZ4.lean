import Derived.Test.YtiomojlcnemnhaaGreatDoorWGxZ2
/- Contracts, on: the variables that a body limits; the law on limits. -/
namespace Go.Proofs.YtiomojlcnemnhaaGreatDoor
open Go.Fx Go.RowKit Go.Ped
variable {G : World → Prop}

def loneOf (e : Ex) : Name := if e.op = 0 ∧ e.kids = [] ∧ e.t.v ≠ us then e.t.v else []
def eqnOf (x : Lit) : Eqn := ⟨loneOf x.left, loneOf x.right, tmVars x.left.terms, tmVars x.right.terms⟩
def isEqn (x : Lit) : Bool := x.kind == 3 && x.rel == 1
def eqsOf (l : List Lit) : List Eqn := (l.filter isEqn).map eqnOf
def atomsOn (acc : List Name) : List Lit → List Name
  | [] => acc
  | x :: l => atomsOn (if x.kind = 1 then addAll acc (tmVars x.l) else acc) l

theorem m175 (e : Ex) (hs : e.small 1048576) (hl : e.terms.length ≤ 2000000) : Meets Tryz.prog G 190 [.agg e.row] (.x (.one (.sl ((tmVars e.terms).map nmRow) []))) := by
  refine meets Tryz.func190 ie175 ig175 (Nat.le_of_ble_eq_true rfl) ?_
  have hw : Walks G (.ifc 222 (.elem [e.row] [] 0 0)) e.terms := fun fv H H' hfv hc => m126_ex hfv e hs [e.row] [] 0 0 H H' ⟨e.row, rfl, by rw [List.drop_zero, List.take_of_length_le (Nat.le_refl _)]⟩ hc
  simp [ic175, ir175, freeze_st, fzL, freezeO, maxLen]
  refine r_call0 (MeetsV.of_fun (m118 _ e.terms (by simp) (fun _ => rfl) (fun _ => rfl) (fun _ => rfl) hl hw)) rfl rfl rfl (by simp) (by simp) (by simp) ?_
  simp

theorem m174 (e : Ex) : Meets Tryz.prog G 189 [.agg e.row] (.x (.one (cS (bs (loneOf e))))) := by
  refine meets Tryz.func189 ie174 ig174 (Nat.le_of_ble_eq_true rfl) ?_
  simp [ic174, ir174]
  refine condI_of (fun h => ?_) (fun h => ?_)
  · have : loneOf e = [] := by
      simp at h
      unfold loneOf
      rw [if_neg]
      rintro ⟨a, b, c⟩
      rcases h with (h | h) | h
      · exact h a
      · simp [b] at h
      · exact c (by simpa [us] using h)
    simp [this]
  · have : loneOf e = e.t.v := by
      simp at h
      unfold loneOf
      rw [if_pos]
      exact ⟨h.1.1, by simpa using h.1.2, by simpa [us] using h.2⟩
    simp [this]

theorem m178 (e : Ex) : Meets Tryz.prog G 165 [.agg e.row] (.tup [.one (cS (bs (loneOf e))), .one (cB (loneOf e != []))]) := by
  refine meets Tryz.func165 ie178 ig178 (Nat.le_of_ble_eq_true rfl) ?_
  simp [ic178, ir178]
  refine condI_of (fun h => ?_) (fun h => ?_)
  · have : loneOf e = [] := by
      simp at h
      unfold loneOf
      split
      · rename_i hc
        obtain ⟨a, b, c⟩ := hc
        rcases h with ((h | h) | h) | h
        · exact absurd a h
        · exact absurd b h
        · exact h
        · exact absurd (by simpa [us] using h) c
      · rfl
    simp [this]
  · simp at h
    have : loneOf e = e.t.v := by
      unfold loneOf
      rw [if_pos]
      exact ⟨h.1.1.1, h.1.1.2, by simpa [us] using h.2⟩
    simp [this, h.1.2]

theorem tmVars_len (l : List Tm) : (tmVars l).length ≤ l.length := by
  have h2 := varsOn_length (l.map Tm.v) []
  simp only [List.length_nil, List.length_map, Nat.zero_add] at h2
  exact h2
theorem atomsOn_len : ∀ (l : List Lit) (acc : List Name), (atomsOn acc l).length ≤ acc.length + (l.map fun x => x.l.length).sum
  | [], acc => by simp [atomsOn]
  | x :: l, acc => by
    have h := atomsOn_len l (if x.kind = 1 then addAll acc (tmVars x.l) else acc)
    have h1 : (if x.kind = 1 then addAll acc (tmVars x.l) else acc).length ≤ acc.length + x.l.length := by
      split
      · exact Nat.le_trans (addAll_len (tmVars x.l) acc) (Nat.add_le_add_left (tmVars_len x.l) _)
      · omega
    simp only [atomsOn, List.map_cons, List.sum_cons]
    omega

end Go.Proofs.YtiomojlcnemnhaaGreatDoor

/- Contracts, on: what a body limits, the program's rounds and the document's; the law on limits. -/
namespace Go.Proofs.YtiomojlcnemnhaaGreatDoor
open Go.Fx Go.RowKit Go.Ped
variable {G : World → Prop}

theorem c173 (acc l : List Name) (sp : Sp) (hl : acc.length + l.length ≤ 100000000) :
    MeetsV Tryz.prog G (fnA 188) [.one (.ref 9 0 0), .one (.c (.sl (l.map nmRow) sp))] (hp (OF 9 7 22 acc) (UF 22 acc) F0) (.tup []) (hp (OF 9 7 22 (addAll acc l)) (UF 22 (addAll acc l)) F0) := by
  have h := (((MeetsV.of_fun (m173 (G := G) acc l sp hl)).ren (π := swR 10009 9)).ren (π := swR 10007 7)).ren (π := swR 10022 22)
  simp [swF, thr_ren] at h
  simpa using h

theorem c176 (acc : List Name) (wait : List Eqn) (hw : ∀ q ∈ wait, q.lefts.length ≤ 1048576 ∧ q.rights.length ≤ 1048576) (hl : acc.length + wait.length ≤ 50000000) :
    MeetsV Tryz.prog G (fnA 191) [.one (.ref 4 0 0), .one (.clo 192 [.ref 9 0 0] [])] (hp ((4, ⟨230, 1, [[.c (.sl (wait.map Eqn.row) [])]], none⟩) :: OF 9 7 22 acc) (UF 22 acc) F0) (rB (decide ((goRound acc wait).2.length < wait.length)))
      (hp ((4, ⟨230, 1, [[.own 30 ((goRound acc wait).2.map Eqn.row)]], none⟩) :: OF 9 7 22 (goRound acc wait).1) ((30, ⟨234, 4, (goRound acc wait).2.length⟩) :: UF 22 (goRound acc wait).1) F0) := by
  have h := m176 (G := G) acc wait hw hl
  unfold Hf at h
  rw [hp_ofA, hp_ofA] at h
  have h2 := ((((MeetsV.of_fun h).ren (π := swR 10004 4)).ren (π := swR 15009 9)).ren (π := swR 15007 7)).ren (π := swR 15022 22)
  simp [swF, thr_ren] at h2
  simpa using h2

/-- A literal whose expressions are not too great. -/
def Lit.fit (x : Lit) : Prop := x.small 1048576 ∧ x.left.terms.length ≤ 1048576 ∧ x.right.terms.length ≤ 1048576
theorem goRound_sub : ∀ (l : List Eqn) (f : List Name), ∀ q ∈ (goRound f l).2, q ∈ l
  | [], _ => by simp [goRound]
  | p :: l, f => fun q hq => by
    rw [goRound_cons] at hq
    simp only at hq
    split at hq
    · exact List.mem_cons_of_mem _ (goRound_sub l _ q hq)
    · rcases List.mem_cons.1 hq with rfl | hq
      · exact List.mem_cons_self ..
      · exact List.mem_cons_of_mem _ (goRound_sub l _ q hq)
theorem eqn_fit {x : Lit} (h : x.fit) : (eqnOf x).lefts.length ≤ 1048576 ∧ (eqnOf x).rights.length ≤ 1048576 := by
  have h1 := tmVars_len x.left.terms
  have h2 := tmVars_len x.right.terms
  obtain ⟨_, h3, h4⟩ := h
  exact ⟨by show (tmVars x.left.terms).length ≤ _; omega, by show (tmVars x.right.terms).length ≤ _; omega⟩
theorem eqsOf_yes {x : Lit} {l : List Lit} (h : isEqn x = true) : eqsOf (x :: l) = eqnOf x :: eqsOf l := by simp [eqsOf, h]
theorem eqsOf_no {x : Lit} {l : List Lit} (h : isEqn x = false) : eqsOf (x :: l) = eqsOf l := by simp [eqsOf, h]
theorem eqsOf_mem {q : Eqn} {l : List Lit} (h : q ∈ eqsOf l) : ∃ x ∈ l, isEqn x = true ∧ eqnOf x = q := by
  simp only [eqsOf, List.mem_map, List.mem_filter] at h
  obtain ⟨x, ⟨h1, h2⟩, h3⟩ := h
  exact ⟨x, h1, h2, h3⟩
/-- What a body limits. -/
def limitsOf (l : List Lit) : List Name := goRounds (atomsOn [] l) (eqsOf l)

theorem m121 (l : List Lit) (sp : Sp) (hs : ∀ x ∈ l, x.fit) (hl : l.length ≤ 1048576) (hb : (l.map fun x => x.l.length).sum ≤ 10000000) :
    MeetsH Tryz.prog G 94 [.one (.c (.sl (l.map Lit.row) sp))] (hp [] [] F0) (.x (.one (.ref 9 0 0))) (hp (OF 9 7 22 (limitsOf l)) (UF 22 (limitsOf l)) F0) := by
  refine meetsH [] Tryz.func94 ie121 ig121 (Nat.le_of_ble_eq_true rfl) (by simp) (by simp) (by simp [ownKey]) (by simp) (by simp) (sameKeys_refl F0) ?_ (by simp) ?_
  · intro p hp r hr
    simp only [List.mem_cons, List.not_mem_nil, or_false] at hp
    rcases hp with rfl | rfl
    · simp only [List.mem_singleton] at hr
      subst hr
      simp [ownKey]
    · exact thr_only _ _ r hr
  generalize hR : limitsOf l = R
  unfold limitsOf at hR
  simp [ic121, ir121]
  refine w_loopA [.o 22 9 0 9 1, .o 50 4 0 234 4] [6, 49] [0, 3, 4, 10, 11, 12] (by simp [ownKey])
    (fun a : Nat × List Name × List Eqn => st [(0, .k true (.x (.one (.c (.sl (l.map Lit.row) sp))))), (3, .k true (.x (.one (.ref 9 0 0)))), (4, .k true (.x (.one (.ref 4 0 0)))), (10, .k true (.x (.one (.c (.sl (l.map Lit.row) sp))))), (11, tI .i64 l.length), (12, tI .i64 a.1)]
      ((4, ⟨230, 1, [[.own 50 (a.2.2.map Eqn.row)]], none⟩) :: OF 9 7 22 a.2.1) ((50, ⟨234, 4, a.2.2.length⟩) :: UF 22 a.2.1) F0) (fun a => l.length - a.1)
    (fun a => a.1 ≤ l.length ∧ atomsOn [] l = atomsOn a.2.1 (l.drop a.1) ∧ eqsOf l = a.2.2 ++ eqsOf (l.drop a.1) ∧ a.2.1.length + ((l.drop a.1).map fun x => x.l.length).sum ≤ 10000000 ∧ a.2.2.length ≤ a.1) (0, [], []) (by simp [thr]) (by simp; exact hb) ?_
  · rintro ⟨i, f, E⟩ K hK ⟨hi, hd, he, hf, hE⟩
    simp only at hi hd he hf hE
    obtain hlt | hge := Nat.lt_or_ge i l.length
    · rw [List.drop_eq_getElem_cons hlt] at hd he hf
      simp only [atomsOn, List.map_cons, List.sum_cons] at hd hf
      have hx := hs l[i] (List.getElem_mem hlt)
      by_cases hk : l[i].kind = 1
      · have hn : isEqn l[i] = false := by simp [isEqn, hk]
        rw [eqsOf_no hn] at he
        rw [if_pos hk] at hd
        have h1 := addAll_len (tmVars l[i].l) f
        have h2 := tmVars_len l[i].l
        simp [ic121l0, hlt, hk]
        refine call_of (m46 l[i].p l[i].l l[i].sp hx.1.1) ?_
        simp
        refine r_callW _ _ (OF 9 7 22 f) (UF 22 f) _ (OF 9 7 22 (addAll f (tmVars l[i].l))) (UF 22 (addAll f (tmVars l[i].l))) (c173 f (tmVars l[i].l) [] (by omega)) rfl rfl rfl (by simp [X.fits, A.fits]) (by simp) ?_
        simp
        simp (disch := omega) only [wrap64]
        exact hK (i + 1, addAll f (tmVars l[i].l), E) _ (by simp) ⟨by simp; omega, hd, he, by simp only; omega, by simp only; omega⟩ (by simp; omega)
      · rw [if_neg hk] at hd
        simp [ic121l0, hlt, hk]
        refine condI_of (fun h => ?_) (fun h => ?_)
        · have hn : isEqn l[i] = true := by simpa [isEqn] using h
          rw [eqsOf_yes hn] at he
          simp
          refine call_of (m174 l[i].left) ?_
          simp
          refine call_of (m174 l[i].right) ?_
          simp
          refine call_of (m175 l[i].left hx.1.2.1 (by have := hx.2.1; omega)) ?_
          simp
          refine call_of (m175 l[i].right hx.1.2.2 (by have := hx.2.2; omega)) ?_
          simp
          refine ⟨by unfold maxLen; omega, by unfold maxBytes; omega, ?_⟩
          simp (disch := omega) only [wrap64]
          exact hK (i + 1, f, E ++ [eqnOf l[i]]) _ (by simp [Eqn.row, eqnOf]) ⟨by simp; omega, hd, by simpa using he, by simp only; omega, by simp; omega⟩ (by simp; omega)
        · have hn : isEqn l[i] = false := by simpa [isEqn] using h
          rw [eqsOf_no hn] at he
          simp
          simp (disch := omega) only [wrap64]
          exact hK (i + 1, f, E) _ (by simp) ⟨by simp; omega, hd, he, by simp only; omega, by simp only; omega⟩ (by simp; omega)
    · rw [List.drop_eq_nil_of_le hge] at hd he hf
      simp only [atomsOn, List.map_nil, List.sum_nil] at hd hf
      have he' : eqsOf l = E := by simpa [eqsOf] using he
      simp [ic121l0, Nat.not_lt.mpr hge]
      rw [hd, he'] at hR
      have hq : ∀ q ∈ E, q.lefts.length ≤ 1048576 ∧ q.rights.length ≤ 1048576 := fun q hq => by
        rw [← he'] at hq
        obtain ⟨x, hx, _, rfl⟩ := eqsOf_mem hq
        exact eqn_fit (hs x hx)
      refine w_loopA [] [30, 50] [3, 4] (by simp [ownKey])
        (fun a : List Name × List Eqn => st [(3, .k true (.x (.one (.ref 9 0 0)))), (4, .k true (.x (.one (.ref 4 0 0))))] ((4, ⟨230, 1, [[.c (.sl (a.2.map Eqn.row) [])]], none⟩) :: OF 9 7 22 a.1) (UF 22 a.1) F0) (fun a => a.2.length)
        (fun a => goRounds a.1 a.2 = R ∧ (∀ q ∈ a.2, q.lefts.length ≤ 1048576 ∧ q.rights.length ≤ 1048576) ∧ a.1.length + a.2.length ≤ 50000000) (f, E) (by simp) ⟨hR, hq, by simp only; omega⟩ ?_
      rintro ⟨g, w⟩ K2 hK2 ⟨h1, h2, h3⟩
      simp only at h1 h2 h3
      have hc := goRound_count w g
      have hsub : ∀ q ∈ (goRound g w).2, q ∈ w := goRound_sub w g
      rw [goRounds] at h1
      simp [ic121l1]
      refine r_callW _ _ ((4, ⟨230, 1, [[.c (.sl (w.map Eqn.row) [])]], none⟩) :: OF 9 7 22 g) (UF 22 g) _ _ _ (c176 g w h2 h3) rfl rfl rfl (by simp) (by simp) ?_
      simp
      refine condI_of (fun h => ?_) (fun h => ?_)
      · have hlt : (goRound g w).2.length < w.length := by simpa using h
        rw [dif_pos hlt] at h1
        simp
        exact hK2 _ _ (by simp) ⟨h1, fun q hq => h2 q (hsub q hq), by first | omega | (simp only; omega)⟩ hlt
      · have hlt : ¬ (goRound g w).2.length < w.length := by simpa using h
        rw [dif_neg hlt] at h1
        simp
        refine ret_st (by simp) (by simp) ?_ (by simp [h1]) (by simp) (by simp)
        simp [h1]

theorem m50 (l : List Lit) (sp : Sp) (hs : ∀ x ∈ l, x.fit) (hl : l.length ≤ 1048576) (hb : (l.map fun x => x.l.length).sum ≤ 10000000) :
    Meets Tryz.prog G 63 [.one (.sl (l.map Lit.row) sp)] (.x (.one (.sl ((limitsOf l).map nmRow) []))) := by
  refine meets Tryz.func63 ie50 ig50 (Nat.le_of_ble_eq_true rfl) ?_
  simp [ic50, ir50]
  refine r_callW _ _ [] [] _ (OF 9 7 22 (limitsOf l)) (UF 22 (limitsOf l)) (MeetsV.of_fun (m121 l sp hs hl hb)) rfl rfl rfl (by simp) (by simp) ?_
  simp

theorem lone_wf {e : Ex} (h : loneOf e ≠ []) : tmVars e.terms = [loneOf e] := by
  obtain ⟨op, t, kids, sp⟩ := e
  unfold loneOf at h ⊢
  split at h
  · rename_i hc
    rw [if_pos hc]
    obtain ⟨_, h2, h3⟩ := hc
    simp only [Ex.kids] at h2
    subst h2
    have hv : t.v ≠ [] := h
    have hu : t.v ≠ us := h3
    simp [Ex.terms_mk, tmVars, varsOn, Ped.isVar, hv, hu, Ex.t]
  · exact absurd rfl h
theorem eqn_wf (x : Lit) : (eqnOf x).wf := ⟨fun h => lone_wf h, fun h => lone_wf h⟩
theorem eqs_wf (l : List Lit) : ∀ q ∈ eqsOf l, q.wf := fun q hq => by
  obtain ⟨x, _, _, rfl⟩ := eqsOf_mem hq
  exact eqn_wf x

end Go.Proofs.YtiomojlcnemnhaaGreatDoor

import Derived.Test.YtiomojlcnemnhaaFHxZ2
import Derived.Test.YtiomojlcnemnhaaFHxZ1
import Derived.Test.YtiomojlcnemnhaaFFxWb
import Derived.Test.YtiomojlcnemnhaaProg
import Derived.KernelRfl
/- Contracts, on: the variables that a body limits; the law on limits. -/
namespace Go.Proofs.Ytiomojlcnemnhaa
open Go.Fx Go.RowKit Go.Ped
variable {G : World → Prop}

def loneOf (e : Ex) : Name := if e.op = 0 ∧ e.kids = [] ∧ e.t.v ≠ us then e.t.v else []
def eqnOf (x : Lit) : Eqn := ⟨loneOf x.left, loneOf x.right, tmVars x.left.terms, tmVars x.right.terms⟩
def isEqn (x : Lit) : Bool := x.kind == 3 && x.rel == 1
def eqsOf (l : List Lit) : List Eqn := (l.filter isEqn).map eqnOf
def atomsOn (acc : List Name) : List Lit → List Name
  | [] => acc
  | x :: l => atomsOn (if x.kind = 1 then addAll acc (tmVars x.l) else acc) l

theorem m175 (e : Ex) (hs : e.small 1048576) (hl : e.terms.length ≤ 2000000) : Meets Try.prog G 114 [.agg e.row] (.x (.one (.sl ((tmVars e.terms).map nmRow) []))) := by
  refine meets Try.func114 ie175 ig175 (Nat.le_of_ble_eq_true rfl) ?_
  have hw : Walks G (.ifc 272 (.elem [e.row] [] 0 0)) e.terms := fun fv H H' hfv hc => m126_ex hfv e hs [e.row] [] 0 0 H H' ⟨e.row, rfl, by rw [List.drop_zero, List.take_of_length_le (Nat.le_refl _)]⟩ hc
  simp [ic175, ir175, freeze_st, fzL, freezeO, maxLen]
  refine r_call0 (MeetsV.of_fun (m118 _ e.terms (by simp) (fun _ => rfl) (fun _ => rfl) (fun _ => rfl) hl hw)) rfl rfl rfl (by simp) (by simp) (by simp) ?_
  simp

theorem m174 (e : Ex) : Meets Try.prog G 113 [.agg e.row] (.x (.one (cS (bs (loneOf e))))) := by
  refine meets Try.func113 ie174 ig174 (Nat.le_of_ble_eq_true rfl) ?_
  simp [ic174, ir174]
  refine condI_of (fun h => ?_) (fun h => ?_)
  · have : loneOf e = [] := by
      simp at h
      unfold loneOf
      rw [if_neg]
      rintro ⟨a, b, c⟩
      rcases h with (h | h) | h
      · exact h a
      · simp [b] at h
      · exact c (by simpa [us] using h)
    simp [this]
  · have : loneOf e = e.t.v := by
      simp at h
      unfold loneOf
      rw [if_pos]
      exact ⟨h.1.1, by simpa using h.1.2, by simpa [us] using h.2⟩
    simp [this]

theorem tmVars_len (l : List Tm) : (tmVars l).length ≤ l.length := by
  have h2 := varsOn_length (l.map Tm.v) []
  simp only [List.length_nil, List.length_map, Nat.zero_add] at h2
  exact h2
end Go.Proofs.Ytiomojlcnemnhaa

/- Contracts, on: what a body limits, the program's rounds and the document's; the law on limits. -/
namespace Go.Proofs.Ytiomojlcnemnhaa
open Go.Fx Go.RowKit Go.Ped
variable {G : World → Prop}

theorem c173 (acc l : List Name) (sp : Sp) (hl : acc.length + l.length ≤ 100000000) :
    MeetsV Try.prog G (fnA 112) [.one (.ref 9 0 0), .one (.c (.sl (l.map nmRow) sp))] (hp (OF 9 7 22 acc) (UF 22 acc) F0) (.tup []) (hp (OF 9 7 22 (addAll acc l)) (UF 22 (addAll acc l)) F0) := by
  have h := (((MeetsV.of_fun (m173 (G := G) acc l sp hl)).ren (π := swR 10009 9)).ren (π := swR 10007 7)).ren (π := swR 10022 22)
  simp [swF, thr_ren] at h
  simpa using h

theorem c176 (acc : List Name) (wait : List Eqn) (hw : ∀ q ∈ wait, q.lefts.length ≤ 1048576 ∧ q.rights.length ≤ 1048576) (hl : acc.length + wait.length ≤ 50000000) :
    MeetsV Try.prog G (fnA 115) [.one (.ref 4 0 0), .one (.clo 116 [.ref 9 0 0] [])] (hp ((4, ⟨242, 1, [[.c (.sl (wait.map Eqn.row) [])]], none⟩) :: OF 9 7 22 acc) (UF 22 acc) F0) (rB (decide ((goRound acc wait).2.length < wait.length)))
      (hp ((4, ⟨242, 1, [[.own 30 ((goRound acc wait).2.map Eqn.row)]], none⟩) :: OF 9 7 22 (goRound acc wait).1) ((30, ⟨247, 4, (goRound acc wait).2.length⟩) :: UF 22 (goRound acc wait).1) F0) := by
  have h := m176 (G := G) acc wait hw hl
  unfold Hf at h
  rw [hp_ofA, hp_ofA] at h
  have h2 := ((((MeetsV.of_fun h).ren (π := swR 10004 4)).ren (π := swR 15009 9)).ren (π := swR 15007 7)).ren (π := swR 15022 22)
  simp [swF, thr_ren] at h2
  simpa using h2

/-- A literal whose expressions are not too great. -/
def Lit.fit (x : Lit) : Prop := x.small 1048576 ∧ x.left.terms.length ≤ 1048576 ∧ x.right.terms.length ≤ 1048576
theorem goRound_sub : ∀ (l : List Eqn) (f : List Name), ∀ q ∈ (goRound f l).2, q ∈ l
  | [], _ => by simp [goRound]
  | p :: l, f => fun q hq => by
    rw [goRound_cons] at hq
    simp only at hq
    split at hq
    · exact List.mem_cons_of_mem _ (goRound_sub l _ q hq)
    · rcases List.mem_cons.1 hq with rfl | hq
      · exact List.mem_cons_self ..
      · exact List.mem_cons_of_mem _ (goRound_sub l _ q hq)
theorem eqn_fit {x : Lit} (h : x.fit) : (eqnOf x).lefts.length ≤ 1048576 ∧ (eqnOf x).rights.length ≤ 1048576 := by
  have h1 := tmVars_len x.left.terms
  have h2 := tmVars_len x.right.terms
  obtain ⟨_, h3, h4⟩ := h
  exact ⟨by show (tmVars x.left.terms).length ≤ _; omega, by show (tmVars x.right.terms).length ≤ _; omega⟩
theorem eqsOf_yes {x : Lit} {l : List Lit} (h : isEqn x = true) : eqsOf (x :: l) = eqnOf x :: eqsOf l := by simp [eqsOf, h]
theorem eqsOf_no {x : Lit} {l : List Lit} (h : isEqn x = false) : eqsOf (x :: l) = eqsOf l := by simp [eqsOf, h]
theorem eqsOf_mem {q : Eqn} {l : List Lit} (h : q ∈ eqsOf l) : ∃ x ∈ l, isEqn x = true ∧ eqnOf x = q := by
  simp only [eqsOf, List.mem_map, List.mem_filter] at h
  obtain ⟨x, ⟨h1, h2⟩, h3⟩ := h
  exact ⟨x, h1, h2, h3⟩
/-- What a body limits. -/
def limitsOf (l : List Lit) : List Name := goRounds (atomsOn [] l) (eqsOf l)

theorem m121 (l : List Lit) (sp : Sp) (hs : ∀ x ∈ l, x.fit) (hl : l.length ≤ 1048576) (hb : (l.map fun x => x.l.length).sum ≤ 10000000) :
    MeetsH Try.prog G 66 [.one (.c (.sl (l.map Lit.row) sp))] (hp [] [] F0) (.x (.one (.ref 9 0 0))) (hp (OF 9 7 22 (limitsOf l)) (UF 22 (limitsOf l)) F0) := by
  refine meetsH [] Try.func66 ie121 ig121 (Nat.le_of_ble_eq_true rfl) (by simp) (by simp) (by simp [ownKey]) (by simp) (by simp) (sameKeys_refl F0) ?_ (by simp) ?_
  · intro p hp r hr
    simp only [List.mem_cons, List.not_mem_nil, or_false] at hp
    rcases hp with rfl | rfl
    · simp only [List.mem_singleton] at hr
      subst hr
      simp [ownKey]
    · exact thr_only _ _ r hr
  generalize hR : limitsOf l = R
  unfold limitsOf at hR
  simp [ic121, ir121]
  refine w_loopA [.o 22 9 0 9 1, .o 50 4 0 247 4] [6, 49] [0, 3, 4, 10, 11, 12] (by simp [ownKey])
    (fun a : Nat × List Name × List Eqn => st [(0, .k true (.x (.one (.c (.sl (l.map Lit.row) sp))))), (3, .k true (.x (.one (.ref 9 0 0)))), (4, .k true (.x (.one (.ref 4 0 0)))), (10, .k true (.x (.one (.c (.sl (l.map Lit.row) sp))))), (11, tI .i64 l.length), (12, tI .i64 a.1)]
      ((4, ⟨242, 1, [[.own 50 (a.2.2.map Eqn.row)]], none⟩) :: OF 9 7 22 a.2.1) ((50, ⟨247, 4, a.2.2.length⟩) :: UF 22 a.2.1) F0) (fun a => l.length - a.1)
    (fun a => a.1 ≤ l.length ∧ atomsOn [] l = atomsOn a.2.1 (l.drop a.1) ∧ eqsOf l = a.2.2 ++ eqsOf (l.drop a.1) ∧ a.2.1.length + ((l.drop a.1).map fun x => x.l.length).sum ≤ 10000000 ∧ a.2.2.length ≤ a.1) (0, [], []) (by simp [thr]) (by simp; exact hb) ?_
  · rintro ⟨i, f, E⟩ K hK ⟨hi, hd, he, hf, hE⟩
    simp only at hi hd he hf hE
    obtain hlt | hge := Nat.lt_or_ge i l.length
    · rw [List.drop_eq_getElem_cons hlt] at hd he hf
      simp only [atomsOn, List.map_cons, List.sum_cons] at hd hf
      have hx := hs l[i] (List.getElem_mem hlt)
      by_cases hk : l[i].kind = 1
      · have hn : isEqn l[i] = false := by simp [isEqn, hk]
        rw [eqsOf_no hn] at he
        rw [if_pos hk] at hd
        have h1 := addAll_len (tmVars l[i].l) f
        have h2 := tmVars_len l[i].l
        simp [ic121l0, hlt, hk]
        refine call_of (m46 l[i].p l[i].l l[i].sp hx.1.1) ?_
        simp
        refine r_callW _ _ (OF 9 7 22 f) (UF 22 f) _ (OF 9 7 22 (addAll f (tmVars l[i].l))) (UF 22 (addAll f (tmVars l[i].l))) (c173 f (tmVars l[i].l) [] (by omega)) rfl rfl rfl (by simp [X.fits, A.fits]) (by simp) ?_
        simp
        simp (disch := omega) only [wrap64]
        exact hK (i + 1, addAll f (tmVars l[i].l), E) _ (by simp) ⟨by simp; omega, hd, he, by simp only; omega, by simp only; omega⟩ (by simp; omega)
      · rw [if_neg hk] at hd
        simp [ic121l0, hlt, hk]
        refine condI_of (fun h => ?_) (fun h => ?_)
        · have hn : isEqn l[i] = true := by simpa [isEqn] using h
          rw [eqsOf_yes hn] at he
          simp
          refine call_of (m174 l[i].left) ?_
          simp
          refine call_of (m174 l[i].right) ?_
          simp
          refine call_of (m175 l[i].left hx.1.2.1 (by have := hx.2.1; omega)) ?_
          simp
          refine call_of (m175 l[i].right hx.1.2.2 (by have := hx.2.2; omega)) ?_
          simp
          refine ⟨by unfold maxLen; omega, by unfold maxBytes; omega, ?_⟩
          simp (disch := omega) only [wrap64]
          exact hK (i + 1, f, E ++ [eqnOf l[i]]) _ (by simp [Eqn.row, eqnOf]) ⟨by simp; omega, hd, by simpa using he, by simp only; omega, by simp; omega⟩ (by simp; omega)
        · have hn : isEqn l[i] = false := by simpa [isEqn] using h
          rw [eqsOf_no hn] at he
          simp
          simp (disch := omega) only [wrap64]
          exact hK (i + 1, f, E) _ (by simp) ⟨by simp; omega, hd, he, by simp only; omega, by simp only; omega⟩ (by simp; omega)
    · rw [List.drop_eq_nil_of_le hge] at hd he hf
      simp only [atomsOn, List.map_nil, List.sum_nil] at hd hf
      have he' : eqsOf l = E := by simpa [eqsOf] using he
      simp [ic121l0, Nat.not_lt.mpr hge]
      rw [hd, he'] at hR
      have hq : ∀ q ∈ E, q.lefts.length ≤ 1048576 ∧ q.rights.length ≤ 1048576 := fun q hq => by
        rw [← he'] at hq
        obtain ⟨x, hx, _, rfl⟩ := eqsOf_mem hq
        exact eqn_fit (hs x hx)
      refine w_loopA [] [30, 50] [3, 4] (by simp [ownKey])
        (fun a : List Name × List Eqn => st [(3, .k true (.x (.one (.ref 9 0 0)))), (4, .k true (.x (.one (.ref 4 0 0))))] ((4, ⟨242, 1, [[.c (.sl (a.2.map Eqn.row) [])]], none⟩) :: OF 9 7 22 a.1) (UF 22 a.1) F0) (fun a => a.2.length)
        (fun a => goRounds a.1 a.2 = R ∧ (∀ q ∈ a.2, q.lefts.length ≤ 1048576 ∧ q.rights.length ≤ 1048576) ∧ a.1.length + a.2.length ≤ 50000000) (f, E) (by simp) ⟨hR, hq, by simp only; omega⟩ ?_
      rintro ⟨g, w⟩ K2 hK2 ⟨h1, h2, h3⟩
      simp only at h1 h2 h3
      have hc := goRound_count w g
      have hsub : ∀ q ∈ (goRound g w).2, q ∈ w := goRound_sub w g
      rw [goRounds] at h1
      simp [ic121l1]
      refine r_callW _ _ ((4, ⟨242, 1, [[.c (.sl (w.map Eqn.row) [])]], none⟩) :: OF 9 7 22 g) (UF 22 g) _ _ _ (c176 g w h2 h3) rfl rfl rfl (by simp) (by simp) ?_
      simp
      refine condI_of (fun h => ?_) (fun h => ?_)
      · have hlt : (goRound g w).2.length < w.length := by simpa using h
        rw [dif_pos hlt] at h1
        simp
        exact hK2 _ _ (by simp) ⟨h1, fun q hq => h2 q (hsub q hq), by first | omega | (simp only; omega)⟩ hlt
      · have hlt : ¬ (goRound g w).2.length < w.length := by simpa using h
        rw [dif_neg hlt] at h1
        simp
        refine ret_st (by simp) (by simp) ?_ (by simp [h1]) (by simp) (by simp)
        simp [h1]

theorem m50 (l : List Lit) (sp : Sp) (hs : ∀ x ∈ l, x.fit) (hl : l.length ≤ 1048576) (hb : (l.map fun x => x.l.length).sum ≤ 10000000) :
    Meets Try.prog G 31 [.one (.sl (l.map Lit.row) sp)] (.x (.one (.sl ((limitsOf l).map nmRow) []))) := by
  refine meets Try.func31 ie50 ig50 (Nat.le_of_ble_eq_true rfl) ?_
  simp [ic50, ir50]
  refine r_callW _ _ [] [] _ (OF 9 7 22 (limitsOf l)) (UF 22 (limitsOf l)) (MeetsV.of_fun (m121 l sp hs hl hb)) rfl rfl rfl (by simp) (by simp) ?_
  simp

end Go.Proofs.Ytiomojlcnemnhaa

/- Plain words for the variables that a body limits, on: they are the least that hold what is found first and are closed under the equations; each is told once, behind its reason. -/
namespace Go.Ped

/-- Each one of a list behind a first part has its reason ahead of it. -/
def Just (l : List Eqn) (f e : List Name) : Prop := ∀ p v s, e = p ++ v :: s → ∃ q ∈ l, take (f ++ p) q = some v

theorem Just.nil {l : List Eqn} {f : List Name} : Just l f [] := fun p v s h => by simp at h
theorem Just.cons {l : List Eqn} {f e : List Name} {v : Name} {q : Eqn} (hq : q ∈ l) (ht : take f q = some v) (h : Just l (f ++ [v]) e) : Just l f (v :: e) := by
  intro p w s he
  cases p with
  | nil => simp at he; obtain ⟨rfl, rfl⟩ := he; exact ⟨q, hq, by simpa using ht⟩
  | cons u p =>
    simp at he
    obtain ⟨rfl, rfl⟩ := he
    obtain ⟨q', h1, h2⟩ := h p w s rfl
    exact ⟨q', h1, by simpa using h2⟩
theorem Just.append {l : List Eqn} : ∀ {e f e' : List Name}, Just l f e → Just l (f ++ e) e' → Just l f (e ++ e')
  | [], f, e', _, h => by simpa using h
  | v :: e, f, e', h, h' => by
    obtain ⟨q, hq, ht⟩ := h [] v e rfl
    refine Just.cons hq (by simpa using ht) (Just.append (fun p w s he => ?_) (by simpa using h'))
    obtain ⟨q', g1, g2⟩ := h (v :: p) w s (by simp [he])
    exact ⟨q', g1, by simpa using g2⟩
theorem Just.mono {l l' : List Eqn} {f e : List Name} (h : Just l f e) (hs : ∀ q ∈ l, q ∈ l') : Just l' f e := fun p v s he => by
  obtain ⟨q, h1, h2⟩ := h p v s he
  exact ⟨q, hs q h1, h2⟩

theorem goRound_sub : ∀ (w : List Eqn) (f : List Name), ∀ q ∈ (goRound f w).2, q ∈ w
  | [], f, q, h => by simp [goRound] at h
  | p :: w, f, q, h => by
    simp only [goRound] at h
    split at h
    · exact List.mem_cons_of_mem _ (goRound_sub w _ q h)
    · rcases List.mem_cons.1 h with rfl | h
      · exact List.mem_cons_self ..
      · exact List.mem_cons_of_mem _ (goRound_sub w _ q h)

theorem Waits.none {f : List Name} {eqs w : List Eqn} (h : Waits f eqs w) : (∀ q ∈ w, take f q = none) → ∀ q ∈ eqs, take f q = none := by
  induction h with
  | nil => intro _ q hq; cases hq
  | keep h ih =>
    intro g q hq
    rcases List.mem_cons.1 hq with rfl | hq
    · exact g _ (List.mem_cons_self ..)
    · exact ih (fun p hp => g p (List.mem_cons_of_mem _ hp)) q hq
  | gone hd h ih =>
    intro g q hq
    rcases List.mem_cons.1 hq with rfl | hq
    · exact hd _ fun _ hv => hv
    · exact ih g q hq

/-- Is a set closed under equations? -/
def Closed (S : Name → Prop) (eqs : List Eqn) : Prop := ∀ q ∈ eqs, (q.left ≠ [] → (∀ u ∈ q.rights, S u) → S q.left) ∧ (q.right ≠ [] → (∀ u ∈ q.lefts, S u) → S q.right)

end Go.Ped

/- What a body limits, on: plain words for CheckRules, CheckFixed and CheckTurned; no program in sight. -/
namespace Go.Proofs.Ytiomojlcnemnhaa
open Go.Fx Go.RowKit Go.Ped

theorem goRounds_nil (f : List Name) : goRounds f [] = f := by
  rw [goRounds]; rfl
/-- The error of a rule, as it is; does it make values? -/
def ruleErr (r : Rule) : Int := if ruleOk r then (if allIn (tmVars r.terms) (limitsOf r.body) then 0 else 73) else 40
end Go.Proofs.Ytiomojlcnemnhaa

/- Functions of the seat, as the small language has them. -/
namespace Go.Proofs.Ytiomojlcnemnhaa
open Go.Fx

/-- pedigree/check.Rule -/
def ic85 : IC :=
 (.seq
 (.region [1] [] [0, 1, 3, 7, 15, 2] [
 ⟨(some 1), (.box 186 (.t 0)), none, none⟩,
 ⟨(some 2), (.move (.k (rI .i64 0))), none, none⟩])
 (.seq
 (.seq
 (.region [] [] [0, 1, 3, 7, 15, 2] [
 ⟨(some 4), (.load (some 3) (.t 1)), none, none⟩,
 ⟨(some 5), (.callp (.k (rF 109)) [(.t 4)]), none, none⟩,
 ⟨(some 3), (.move (.t 5)), none, none⟩])
 (.seq
 (.region [] [] [0, 1, 3, 7, 15, 2] [
 ⟨(some 6), (.move (.t 3)), none, none⟩,
 ⟨(some 7), (.bin .neq (.t 6) (.k (rI .i64 0))), none, none⟩])
 (.cond (.t 7)
 (.seq
 (.region [] [] [0, 1, 3, 7, 15, 2] [
 ⟨(some 8), (.move (.t 3)), none, none⟩,
 ⟨(some 2), (.move (.t 8)), none, none⟩])
 .ret)
 .skip)))
 (.seq
 (.seq
 (.region [] [] [0, 1, 3, 7, 15, 2] [
 ⟨(some 9), (.faddr 2 (.t 1)), none, none⟩,
 ⟨(some 10), (.load none (.t 9)), none, none⟩,
 ⟨(some 11), (.call (.k (rF 66)) [(.t 10)]), none, (some [7, 9, 22])⟩,
 ⟨(some 12), (.load (some 3) (.t 1)), none, (some [1])⟩,
 ⟨(some 13), (.callp (.k (rF 111)) [(.t 12)]), none, none⟩,
 ⟨(some 14), (.call (.k (rF 110)) [(.t 11), (.t 13)]), none, (some [7, 9, 22])⟩,
 ⟨(some 15), (.un .not (.t 14)), none, none⟩])
 (.cond (.t 15)
 (.seq
 (.region [] [] [0, 1, 3, 7, 15, 2] [
 ⟨(some 2), (.move (.k (rI .i64 73))), none, none⟩])
 .ret)
 .skip))
 (.seq
 (.region [] [] [0, 1, 3, 7, 15, 2] [
 ⟨(some 2), (.move (.k (rI .i64 0))), none, none⟩])
 .ret))))
def ir85 : List IRes := [.tmp 2]
theorem ie85 : cmpFunc Go.Proofs.Try.prog ⟨[(11, (some [7, 9, 22])), (12, (some [1])), (14, (some [7, 9, 22])), (11, none), (14, none)], []⟩ Go.Proofs.Try.f65 [0, 1, 3, 7, 15, 2] = some ic85 := by kernel_rfl
theorem ig85 : cmpRes Go.Proofs.Try.prog Go.Proofs.Try.f65.results.toList = some ir85 := by kernel_rfl

end Go.Proofs.Ytiomojlcnemnhaa

/- Contracts, on: may a rule be used? -/
namespace Go.Proofs.Ytiomojlcnemnhaa
open Go.Fx Go.RowKit Go.Ped
variable {G : World → Prop}

theorem c155 (acc l : List Name) (sp : Sp) (hl : l.length ≤ maxLen) :
    MeetsV Try.prog G (fnA 110) [.one (.ref 9 0 0), .one (.c (.sl (l.map nmRow) sp))] (hp (OF 9 7 22 acc) (UF 22 acc) F0) (rB (allIn l acc)) (hp (OF 9 7 22 acc) (UF 22 acc) F0) := by
  have h := (((MeetsV.of_fun (m155 (G := G) acc l sp hl)).ren (π := swR 10009 9)).ren (π := swR 10007 7)).ren (π := swR 10022 22)
  simp [swF, thr_ren] at h
  simpa using h

/-- A rule that is not too great. -/
def Rule.fit (r : Rule) : Prop := r.small 1048576 ∧ (∀ x ∈ r.body, x.fit) ∧ r.terms.length ≤ 1048576 ∧ (r.body.map fun x => x.l.length).sum ≤ 10000000

theorem m85 (r : Rule) (hr : r.fit) : Meets Try.prog G 65 [.agg r.row] (.x (.one (cI .i64 (ruleErr r)))) := by
  obtain ⟨hs, hf, hl, hb⟩ := hr
  refine meets Try.func65 ie85 ig85 (Nat.le_of_ble_eq_true rfl) ?_
  have hv := tmVars_len r.terms
  simp [ic85, ir85]
  refine call_of (m66 r hs (by omega)) ?_
  simp
  by_cases hk : ruleOk r = true
  · simp [hk]
    refine r_callN [7, 9, 22] _ _ [] [] _ (OF 9 7 22 (limitsOf r.body)) (UF 22 (limitsOf r.body)) (MeetsV.of_fun (m121 r.body r.bsp hf hs.2.1 hb)) rfl rfl rfl (by simp) (by simp) (by simp) ?_
    simp
    refine call_of (m68 r hs (by omega)) ?_
    simp
    refine r_callN [7, 9, 22] _ _ (OF 9 7 22 (limitsOf r.body)) (UF 22 (limitsOf r.body)) _ (OF 9 7 22 (limitsOf r.body)) (UF 22 (limitsOf r.body)) (c155 _ (tmVars r.terms) [] (by unfold maxLen; omega)) rfl rfl rfl (by simp [X.fits, A.fits]) (by simp) (by simp) ?_
    simp
    refine condI_of (fun h => ?_) (fun h => ?_)
    · simp at h
      simp [ruleErr, hk, h]
    · simp at h
      simp [ruleErr, hk, h]
  · simp [hk, ruleErr]
end Go.Proofs.Ytiomojlcnemnhaa

/- Functions of the seat, as the small language has them. -/
namespace Go.Proofs.Ytiomojlcnemnhaa
open Go.Fx

end Go.Proofs.Ytiomojlcnemnhaa

/- Contracts, on: may a rule be used, does it make values: the document's, the program's; the law. (Labels of 2000 and more: seat ZD.) -/
namespace Go.Proofs.Ytiomojlcnemnhaa
open Go.Fx Go.RowKit Go.Ped
variable {G : World → Prop}

/-- The head alone. -/
def Rule.bare (r : Rule) : Rule := ⟨[], r.head, r.hsp, [], []⟩
end Go.Proofs.Ytiomojlcnemnhaa

import Derived.Test.YtiomojlcnemnhaaFHxV2
import Derived.Test.YtiomojlcnemnhaaFHxIcW
import Derived.Test.YtiomojlcnemnhaaFHxQ1
import Derived.Test.YtiomojlcnemnhaaFHxIcS
/- Contracts, on: what is fewer; a query of blanks. (Labels of 3000 and more: the plain seat.) -/
namespace Go.Proofs.Ytiomojlcnemnhaa
open Go.Fx Go.RowKit Go.Ped
variable {G : World → Prop}

/-- Turned round, without every k-th. -/
def fewN {α : Type} (k : Int) (l : List α) : Nat → List α
  | 0 => []
  | n + 1 => (match l[n]? with | some x => if k ≤ 0 ∨ Int.tmod n k ≠ 0 then [x] else [] | none => []) ++ fewN k l n
theorem fewN_mem {α : Type} {k : Int} {l : List α} : ∀ {n : Nat} {x : α}, x ∈ fewN k l n → x ∈ l
  | n + 1, x, h => by
    rw [fewN] at h
    rcases List.mem_append.1 h with h | h
    · split at h
      · rename_i y hy
        split at h
        · rw [List.mem_singleton.1 h]; exact List.mem_of_getElem? hy
        · cases h
      · cases h
    · exact fewN_mem h
theorem fewN_len {α : Type} {k : Int} {l : List α} : ∀ n : Nat, (fewN k l n).length ≤ n
  | 0 => Nat.le_refl _
  | n + 1 => by
    have := fewN_len (k := k) (l := l) n
    rw [fewN, List.length_append]
    split
    · split <;> simp <;> omega
    · simp; omega
abbrev few {α : Type} (k : Int) (l : List α) : List α := fewN k l l.length

/-- A query of blanks. -/
def tB_ : Tm := ⟨[95], zeroV⟩
def blankP : List Rule → List Fc → Name
  | r :: _, _ => r.p
  | [], f :: _ => f.p
  | [], [] => [112]
def blankN : List Rule → List Fc → Nat
  | r :: _, _ => r.head.length
  | [], f :: _ => f.l.length
  | [], [] => 0
def blankQ (rules : List Rule) (facts : List Fc) : Qy := ⟨blankP rules facts, List.replicate (blankN rules facts) tB_, []⟩
theorem m3038 (rules : List Rule) (sp : Sp) (facts : List Fc) (sq : Sp) (hs : ∀ r ∈ rules, r.small 1048576) (hf : ∀ f ∈ facts, f.l.length ≤ 1048576) (hl : rules.length ≤ 1048576) (hfl : facts.length ≤ 1048576) :
    Meets Try.prog G 38 [.one (.sl (rules.map Rule.row) sp), .one (.sl (facts.map Fc.row) sq)] (.x (.agg (blankQ rules facts).row)) := by
  have hN : blankN rules facts ≤ 1048576 := by
    cases rules with
    | cons r l => exact (hs r (List.mem_cons_self ..)).1
    | nil => cases facts with
      | cons f l => exact hf f (List.mem_cons_self ..)
      | nil => simp [blankN]
  refine meets Try.func38 ie3038 ig3038 (Nat.le_of_ble_eq_true rfl) ?_
  generalize hQ : (blankQ rules facts).row = Q
  have hQ' : Q = [cS (bs (blankP rules facts)), .sl ((List.replicate (blankN rules facts) tB_).map Tm.row) []] := by rw [← hQ]; rfl
  clear hQ
  subst hQ'
  rcases rules with _ | ⟨r, rs⟩
  · rcases facts with _ | ⟨f, fs⟩
    · simp [ic3038, ir3038, blankP, blankN] at hN ⊢
      refine w_loopA [.o 300 5 1 27 4] [43] [4, 5, 6, 7] (by simp [ownKey])
        (fun a : Nat × List (List C) => st [(4, .k true (.x (.one (.ref 4 0 0)))), (5, .k true (.x (.one (.ref 5 0 0)))), (6, tI .i64 (0 : Nat)), (7, tI .i64 a.1)] [(5, ⟨122, 2, [[.c (cS (bs [112])), .own 300 a.2]], none⟩), (4, ⟨122, 2, [[.c (cS (bs [])), .nil]], none⟩)] [(300, ⟨27, 4, a.2.length⟩)] F0) (fun a => 0 - a.1)
        (fun a => a.1 = 0 ∧ a.2 = []) (0, []) (by simp; try rfl) (by simp) ?_
      rintro ⟨i, E⟩ K hK ⟨hi, hE⟩
      simp only at hi hE
      subst hi hE
      simp [ic3038l0]
    · simp [ic3038, ir3038, blankP, blankN] at hN ⊢
      refine w_loopA [.o 300 5 1 27 4] [43] [4, 5, 6, 7] (by simp [ownKey])
        (fun a : Nat × List (List C) => st [(4, .k true (.x (.one (.ref 4 0 0)))), (5, .k true (.x (.one (.ref 5 0 0)))), (6, tI .i64 (f.l.length : Nat)), (7, tI .i64 a.1)] [(5, ⟨122, 2, [[.c (cS (bs f.p)), .own 300 a.2]], none⟩), (4, ⟨122, 2, [[.c (cS (bs [])), .nil]], none⟩)] [(300, ⟨27, 4, a.2.length⟩)] F0) (fun a => f.l.length - a.1)
        (fun a => a.1 ≤ f.l.length ∧ a.2 = List.replicate a.1 tB_.row) (0, []) (by simp; try rfl) (by simp) ?_
      rintro ⟨i, E⟩ K hK ⟨hi, hE⟩
      simp only at hi hE
      have hEl : E.length = i := by rw [hE]; simp
      obtain hlt | hge := Nat.lt_or_ge i (f.l.length)
      · simp [ic3038l0, hlt]
        refine ⟨by unfold maxLen; omega, by unfold maxBytes; omega, ?_⟩
        simp (disch := omega) only [wrap64]
        exact hK (i + 1, E ++ [tB_.row]) _ (by simp; try rfl) ⟨by simp; omega, by simp only; rw [hE, List.replicate_succ']⟩ (by simp; omega)
      · have he : i = f.l.length := by omega
        subst he
        simp [ic3038l0, hE]
  · simp [ic3038, ir3038, blankP, blankN] at hN ⊢
    refine w_loopA [.o 300 5 1 27 4] [43] [4, 5, 6, 7] (by simp [ownKey])
      (fun a : Nat × List (List C) => st [(4, .k true (.x (.one (.ref 4 0 0)))), (5, .k true (.x (.one (.ref 5 0 0)))), (6, tI .i64 (r.head.length : Nat)), (7, tI .i64 a.1)] [(5, ⟨122, 2, [[.c (cS (bs r.p)), .own 300 a.2]], none⟩), (4, ⟨122, 2, [[.c (cS (bs [])), .nil]], none⟩)] [(300, ⟨27, 4, a.2.length⟩)] F0) (fun a => r.head.length - a.1)
      (fun a => a.1 ≤ r.head.length ∧ a.2 = List.replicate a.1 tB_.row) (0, []) (by simp; try rfl) (by simp) ?_
    rintro ⟨i, E⟩ K hK ⟨hi, hE⟩
    simp only at hi hE
    have hEl : E.length = i := by rw [hE]; simp
    obtain hlt | hge := Nat.lt_or_ge i (r.head.length)
    · simp [ic3038l0, hlt]
      refine ⟨by unfold maxLen; omega, by unfold maxBytes; omega, ?_⟩
      simp (disch := omega) only [wrap64]
      exact hK (i + 1, E ++ [tB_.row]) _ (by simp; try rfl) ⟨by simp; omega, by simp only; rw [hE, List.replicate_succ']⟩ (by simp; omega)
    · have he : i = r.head.length := by omega
      subst he
      simp [ic3038l0, hE]
end Go.Proofs.Ytiomojlcnemnhaa

/- Plain: a query of blanks; what an input is answered if less of it is handed in. (Labels of 3000 and more: the plain seat.) -/
namespace Go.Proofs.Ytiomojlcnemnhaa
open Go.Fx Go.RowKit Go.Ped

theorem ruleErr_72 (r : Rule) : ruleErr r ≠ 72 := by
  unfold ruleErr
  split
  · split <;> decide
  · decide
theorem refErr_72 (r : Rule) : refErr r ≠ 72 := by
  unfold refErr
  split
  · split
    · decide
    · split
      · decide
      · exact ruleErr_72 r
  · decide
theorem sizeErr_72 (v : Name) (n : Int) : sizeErr v n ≠ 72 := by
  unfold sizeErr
  split
  · decide
  · split <;> decide
theorem queryErr_72 (p : Name) (l : List Tm) : queryErr p l ≠ 72 := by
  unfold queryErr
  split
  · split
    · decide
    · exact sizeErr_72 _ _
  · decide

theorem tB_ok : tB_.ok = true := by kernel_rfl
theorem query_blank {p : Name} {n : Nat} (h1 : nameOk p = true) (h2 : n ≤ 24) (h3 : sizeErr p n = 0) : queryErr p (List.replicate n tB_) = 0 := by
  have ha : atomOk p (List.replicate n tB_) = true := by
    simp [atomOk, h1, h2, tB_ok]
  have hv : (tmVars (List.replicate n tB_)).any longN = false := by
    rw [List.any_eq_false]
    intro v hv
    have := (mem_varsOn.1 hv).resolve_left (by simp)
    have h := this.2
    simp at h
    rw [h.2]
    decide
  unfold queryErr
  rw [if_pos ha, hv, List.length_replicate]
  simpa using h3
theorem rule_size {r : Rule} (h : refErr r = 0) : nameOk r.p = true ∧ r.head.length ≤ 24 ∧ sizeErr r.p r.head.length = 0 := by
  obtain ⟨h1, _, h2, h3⟩ := ref_ok h
  simp only [ruleOk, Bool.and_eq_true, decide_eq_true_eq] at h1
  refine ⟨h1.1.1.1.1.1, h1.1.1.1.1.2, ?_⟩
  rw [sizeErr_eq]
  have hm : (⟨r.p, r.head.length⟩ : Pd) ∈ standOf r := List.mem_cons_self ..
  simp only [refBad, Bool.or_eq_false_iff] at h2
  have a1 := List.any_eq_false.1 h2.1.2 _ hm
  have a2 := List.any_eq_false.1 h2.2.2 _ hm
  have a3 := List.any_eq_false.1 h3 _ hm
  have b1 : decide ((r.head.length : Int) > 8) = false := by simpa [wideP] using a1
  have b2 : longN r.p = false := by simpa using a2
  have b3 : qq.isPrefixOf r.p = false := Bool.eq_false_iff.2 a3
  rw [b1, b2, b3]
  rfl
theorem fact_size {f : Fc} (h : factErr f = 0) : nameOk f.p = true ∧ f.l.length ≤ 24 ∧ sizeErr f.p f.l.length = 0 := by
  obtain ⟨h1, h2⟩ := fact_ok h
  simp only [factOk, Bool.and_eq_true, decide_eq_true_eq] at h1
  exact ⟨h1.1.1, h1.1.2, h2⟩
/-- Nothing is wrong with a query of blanks, if nothing is with what it is made of. -/
theorem blank_ok {rules : List Rule} {facts : List Fc} (hr : ∀ r ∈ rules, refErr r = 0) (hf : rules = [] → ∀ f ∈ facts, factErr f = 0) :
    queryErr (blankP rules facts) (List.replicate (blankN rules facts) tB_) = 0 ∧ (okPd (allPd rules facts) → okPd (allPd rules facts ++ [⟨blankP rules facts, (List.replicate (blankN rules facts) tB_).length⟩])) := by
  have sub : ∀ {l : List Pd} {p : Pd}, p ∈ l → okPd l → okPd (l ++ [p]) := fun hp h => okPd_sub h fun q hq => (List.mem_append.1 hq).elim id fun hq => by rw [List.mem_singleton.1 hq]; exact hp
  cases rules with
  | cons r l =>
    obtain ⟨h1, h2, h3⟩ := rule_size (hr r (List.mem_cons_self ..))
    refine ⟨query_blank h1 h2 h3, fun h => ?_⟩
    rw [List.length_replicate]
    exact sub (mem_allPd.2 (.inl ⟨r, List.mem_cons_self .., List.mem_cons_self ..⟩)) h
  | nil => cases facts with
    | cons f l =>
      obtain ⟨h1, h2, h3⟩ := fact_size (hf rfl f (List.mem_cons_self ..))
      refine ⟨query_blank h1 h2 h3, fun h => ?_⟩
      rw [List.length_replicate]
      exact sub (mem_allPd.2 (.inr ⟨f, List.mem_cons_self .., rfl⟩)) h
    | nil => exact ⟨by kernel_rfl, fun _ a ha b hb _ => by simp [allPd] at ha hb; rw [ha, hb]⟩
abbrev inB (rules : List Rule) (facts : List Fc) (q : Qy) : List C := inE rules facts q.p q.l
theorem in_blank {rules : List Rule} {facts : List Fc} (h : ProgOk rules) (hf : facts.length ≤ 65536) (h0 : ∀ f ∈ facts, factErr f = 0) (h1 : okPd (allPd rules facts)) (rules' : List Rule) (facts' : List Fc)
    (e : (rules' = rules ∧ facts' = facts) ∨ (rules' = rules ∧ rules ≠ [])) : inB rules facts (blankQ rules' facts') = refuse 0 0 0 := by
  rcases e with ⟨rfl, rfl⟩ | ⟨rfl, hne⟩
  · obtain ⟨b1, b2⟩ := blank_ok h.2.1 fun _ => h0
    exact in_ok h hf h0 b1 (b2 h1)
  · have e2 : blankQ rules' facts' = blankQ rules' facts := by
      cases rules' with
      | nil => exact absurd rfl hne
      | cons r l => rfl
    rw [e2]
    obtain ⟨b1, b2⟩ := blank_ok h.2.1 fun _ => h0
    exact in_ok h hf h0 b1 (b2 h1)
theorem prog_take {rules : List Rule} {k : Nat} (h5 : rules.length ≤ 500) (hr : ∀ r ∈ rules.take k, refErr r = 0) (ho : okPd ((rules.take k).flatMap standOf)) : ProgOk (rules.take k) :=
  ⟨by rw [List.length_take]; omega, hr, ho⟩
/-- What stands ahead of a rule with an error. -/
theorem in_ahead {rules : List Rule} {k : Nat} (h5 : rules.length ≤ 500) (hr : ∀ r ∈ rules.take k, refErr r = 0) : inB (rules.take k) [] (blankQ (rules.take k) []) = refuse 0 0 0 ∨ ∃ j, inB (rules.take k) [] (blankQ (rules.take k) []) = refuse 1 72 j := by
  by_cases ho : okPd ((rules.take k).flatMap standOf)
  · left
    have hp := prog_take h5 hr ho
    exact in_blank hp (by simp) (by simp) (by simpa [allPd] using ho) _ _ (.inl ⟨rfl, rfl⟩)
  · right
    have hc := in_case (rules.take k) [] (blankQ (rules.take k) []).p (blankQ (rules.take k) []).l
    generalize hx : inE (rules.take k) [] (blankQ (rules.take k) []).p (blankQ (rules.take k) []).l = x at hc
    have hlen : (rules.take k).length ≤ 500 := by rw [List.length_take]; omega
    cases hc with
    | ok h => exact absurd h.2.2 ho
    | rules h => omega
    | rule _ j hj _ he => exact absurd (hr _ (List.getElem_mem hj)) he
    | pred _ _ j => exact ⟨j, hx⟩
    | facts h => exact absurd h.2.2 ho
    | fact h => exact absurd h.2.2 ho
    | met h => exact absurd h.2.2 ho
    | query h => exact absurd h.2.2 ho
    | arity h => exact absurd h.2.2 ho
theorem in_three (rules : List Rule) (facts : List Fc) (q : Qy) : ∃ a b c, inB rules facts q = [cI .i8 a, cI .i64 b, cI .i64 c] := by
  have hc := in_case rules facts q.p q.l
  show ∃ a b c, inE rules facts q.p q.l = _
  generalize inE rules facts q.p q.l = x at hc
  cases hc <;> exact ⟨_, _, _, rfl⟩
theorem queryErr_own {p : Name} {l : List Tm} (h : queryErr p l ≠ 0) : inE [] [] p l = refuse 3 (queryErr p l) 0 :=
  in_query ⟨by simp, by simp, fun a ha => by simp at ha⟩ (by simp) (by simp) (fun a ha => by simp [allPd] at ha) h
end Go.Proofs.Ytiomojlcnemnhaa

/- Contracts, on: rules that are worked with, as far as one is refused; some answers that are fixed; equations that give a variable; the law CheckFixed. (Labels of 2000 and more: seat ZD.) -/
namespace Go.Proofs.Ytiomojlcnemnhaa
open Go.Fx Go.RowKit Go.Ped
variable {G : World → Prop}

def firstErr : List Rule → Int
  | [] => 0
  | r :: l => if ruleErr r = 0 then firstErr l else ruleErr r

theorem m2058e (l : List Rule) (sp : Sp) (fs sq : List (List C)) (hs : ∀ r ∈ l, r.fit) (hl : l.length ≤ 1048576) (he : firstErr l ≠ 0) :
    Meets Try.prog G 34 [.one (.sl (l.map Rule.row) sp), .one (.sl fs sq)] (.x (.one (cI .i64 (firstErr l)))) := by
  refine meets Try.func34 ie2058 ig2058 (Nat.le_of_ble_eq_true rfl) ?_
  simp [ic2058, ir2058]
  refine w_loopA [] [6] [13, 14, 15] (by simp [ownKey])
    (fun i : Nat => st [(13, .k true (.x (.one (.c (.sl (l.map Rule.row) sp))))), (14, tI .i64 l.length), (15, tI .i64 i)] [] [] F0) (fun i => l.length - i)
    (fun i => i ≤ l.length ∧ firstErr l = firstErr (l.drop i)) 0 (by simp) (by simp) ?_
  rintro i K hK ⟨hi, hd⟩
  obtain hlt | hge := Nat.lt_or_ge i l.length
  · rw [List.drop_eq_getElem_cons hlt, firstErr] at hd
    simp [ic2058l0, hlt]
    refine call_of (m85 l[i] (hs _ (List.getElem_mem hlt))) ?_
    simp
    by_cases h0 : ruleErr l[i] = 0
    · rw [if_pos h0] at hd
      simp [h0]
      simp (disch := omega) only [wrap64]
      exact hK (i + 1) _ (by simp) ⟨by omega, hd⟩ (by omega)
    · rw [if_neg h0] at hd
      simp [h0, hd]
  · rw [List.drop_eq_nil_of_le hge, firstErr] at hd
    exact absurd hd he

def tX : Tm := ⟨[88], zeroV⟩
def livesQ : Lit := ⟨1, [113], [tX], [], 0, exZ, exZ⟩
def livesR : Rule := ⟨[112], [⟨0, tX⟩], [], [livesQ], []⟩
def livesB : Rule := ⟨[112], [⟨0, tX⟩], [], [], []⟩
abbrev rowX : List C := [cS (bs [88]), cI .i8 0, cI .i64 0, cS (bs [])]
abbrev rowQ : List C := [cI .i8 1, cS (bs [113]), .sl [rowX] [], cI .i8 0, cI .i8 0, cS (bs []), cI .i8 0, cI .i64 0, cS (bs []), .sl [] [], cI .i8 0, cS (bs []), cI .i8 0, cI .i64 0, cS (bs []), .sl [] []]
abbrev rowH : List C := [cI .i8 0, cS (bs [88]), cI .i8 0, cI .i64 0, cS (bs [])]
theorem livesQ_row : livesQ.row = rowQ := by
  simp [livesQ, Lit.row, exZ_row]; rfl
theorem livesR_row : livesR.row = [cS (bs [112]), .sl [rowH] [], .sl [rowQ] []] := by
  simp only [livesR, Rule.row, List.map_cons, List.map_nil, livesQ_row]; rfl
theorem livesB_row : livesB.row = [cS (bs [112]), .sl [rowH] [], .sl [] []] := rfl
theorem exZ_small : exZ.small 1048576 := Ex.small_mk.2 ⟨by simp, by simp⟩
theorem exZ_terms : exZ.terms = [zeroT] := by rw [exZ, Ex.terms_mk]; rfl
theorem livesQ_fit : livesQ.fit := ⟨⟨by simp [livesQ], exZ_small, exZ_small⟩, by simp [livesQ, exZ_terms], by simp [livesQ, exZ_terms]⟩
theorem livesR_fit : livesR.fit := ⟨⟨by simp [livesR], by simp [livesR], fun x hx => by simp [livesR] at hx; subst hx; exact livesQ_fit.1⟩, fun x hx => by simp [livesR] at hx; subst hx; exact livesQ_fit, by simp [livesR, Rule.terms, Lit.terms, livesQ, exZ_terms], by simp [livesR, livesQ]⟩
theorem livesB_fit : livesB.fit := ⟨⟨by simp [livesB], by simp [livesB], by simp [livesB]⟩, by simp [livesB], by simp [livesB, Rule.terms], by simp [livesB]⟩
theorem livesR_lim : limitsOf livesR.body = [[88]] := by
  unfold limitsOf
  rw [show eqsOf livesR.body = [] from rfl, goRounds_nil]; rfl
theorem livesR_ok : ruleOk livesR = true := by kernel_rfl
theorem livesB_ok : ruleOk livesB = true := by kernel_rfl
theorem livesR_vars : tmVars livesR.terms = [[88]] := by kernel_rfl
theorem livesB_vars : tmVars livesB.terms = [[88]] := by kernel_rfl
theorem livesR_err : ruleErr livesR = 0 := by
  unfold ruleErr
  rw [if_pos livesR_ok, livesR_lim, livesR_vars]; rfl
theorem livesB_err : ruleErr livesB = 73 := by
  unfold ruleErr
  rw [if_pos livesB_ok, livesB_vars, show limitsOf livesB.body = [] from by unfold limitsOf; rw [show eqsOf livesB.body = [] from rfl, goRounds_nil]; rfl]; rfl
theorem lives_job : firstErr [livesR, livesB] = 73 := by simp [firstErr, livesR_err, livesB_err]

theorem m2062 : Meets Try.prog G 30 [] (.x (.one (cB true))) := by
  have h50 := m50 (G := G) livesR.body [] livesR_fit.2.1 (by simp [livesR]) livesR_fit.2.2.2
  have hr := m85 (G := G) livesR livesR_fit
  have hb := m85 (G := G) livesB livesB_fit
  have hj := m2058e (G := G) [livesR, livesB] [] [] [] (fun r hr => by simp at hr; rcases hr with rfl | rfl; exact livesR_fit; exact livesB_fit) (by simp) (by rw [lives_job]; decide)
  rw [livesR_lim] at h50
  rw [lives_job] at hj
  rw [livesR_err] at hr
  rw [livesB_err] at hb
  simp only [List.map_cons, List.map_nil, livesR_row, livesB_row] at hr hb hj
  simp only [show livesR.body = [livesQ] from rfl, List.map_cons, List.map_nil, livesQ_row] at h50
  refine meets Try.func30 ie2062 ig2062 (Nat.le_of_ble_eq_true rfl) ?_
  simp [ic2062, ir2062]
  refine call_of h50 ?_
  simp
  refine call_of hr ?_
  simp
  refine call_of hb ?_
  simp
  refine k_rowg (g := true) rfl rfl rfl (by simp) ?_
  simp
  refine call_of hj ?_
  simp

end Go.Proofs.Ytiomojlcnemnhaa

import Derived.Test.YtiomojlcnemnhaaLHxV2
import Derived.Test.YtiomojlcnemnhaaLHxIcW
import Derived.Test.YtiomojlcnemnhaaLHxQ1
import Derived.Test.YtiomojlcnemnhaaLPedD
import Derived.Test.YtiomojlcnemnhaaLHxQg
/- Contracts, on: what is fewer; a query of blanks. (Labels of 3000 and more: the plain seat.) -/
namespace Go.Proofs.Ytiomojlcnemnhaa
open Go.Fx Go.RowKit Go.Ped
variable {G : World → Prop}

/-- Turned round, without every k-th. -/
def fewN {α : Type} (k : Int) (l : List α) : Nat → List α
  | 0 => []
  | n + 1 => (match l[n]? with | some x => if k ≤ 0 ∨ Int.tmod n k ≠ 0 then [x] else [] | none => []) ++ fewN k l n
theorem fewN_mem {α : Type} {k : Int} {l : List α} : ∀ {n : Nat} {x : α}, x ∈ fewN k l n → x ∈ l
  | n + 1, x, h => by
    rw [fewN] at h
    rcases List.mem_append.1 h with h | h
    · split at h
      · rename_i y hy
        split at h
        · rw [List.mem_singleton.1 h]; exact List.mem_of_getElem? hy
        · cases h
      · cases h
    · exact fewN_mem h
theorem fewN_len {α : Type} {k : Int} {l : List α} : ∀ n : Nat, (fewN k l n).length ≤ n
  | 0 => Nat.le_refl _
  | n + 1 => by
    have := fewN_len (k := k) (l := l) n
    rw [fewN, List.length_append]
    split
    · split <;> simp <;> omega
    · simp; omega
theorem fewN_all {α : Type} {l : List α} : ∀ {n : Nat} {j : Nat} (hj : j < l.length), j < n → l[j] ∈ fewN 0 l n
  | n + 1, j, hj, h => by
    rw [fewN]
    by_cases e : j = n
    · subst e
      rw [List.getElem?_eq_getElem hj]
      simp
    · exact List.mem_append_right _ (fewN_all hj (by omega))
theorem few0 {α : Type} {l : List α} : ∀ x ∈ l, x ∈ fewN 0 l l.length := fun x hx => by
  obtain ⟨j, hj, rfl⟩ := List.mem_iff_getElem.1 hx
  exact fewN_all hj hj
abbrev few {α : Type} (k : Int) (l : List α) : List α := fewN k l l.length

theorem m3035 (rules : List Rule) (sp : Sp) (facts : List Fc) (sq : Sp) (k : Int) (hk1 : -9223372036854775808 ≤ k) (hk2 : k ≤ 9223372036854775807) (hl : rules.length ≤ 1048576) (hfl : facts.length ≤ 1048576) :
    MeetsH Try.prog G 35 [.one (.c (.sl (rules.map Rule.row) sp)), .one (.c (.sl (facts.map Fc.row) sq)), .one (.c (cI .i64 k))] (hp [] [] F0)
      (.tup [.one (.own 300 ((few k rules).map Rule.row)), .one (.own 301 ((few k facts).map Fc.row))]) (hp [] [(301, ⟨201, 2, (few k facts).length⟩), (300, ⟨186, 3, (few k rules).length⟩)] F0) := by
  refine meetsH [] Try.func35 ie3035 ig3035 (Nat.le_of_ble_eq_true rfl) (by simp) (by simp) (by simp) (by simp) (by simp) (sameKeys_refl F0) (by simp) (by simp) ?_
  generalize hA : few k rules = A'
  generalize hB : few k facts = B'
  simp [ic3035, ir3035]
  simp (disch := omega) only [wrap64]
  refine w_loopA [.t 300 8 186 3] [32] [0, 1, 2, 8, 9, 10] (by simp [ownKey])
    (fun a : Nat × List Rule => st [(0, .k true (.x (.one (.c (.sl (rules.map Rule.row) sp))))), (1, .k true (.x (.one (.c (.sl (facts.map Fc.row) sq))))), (2, .k true (.x (.one (.c (cI .i64 k))))), (8, .k true (.x (.one (.own 300 (a.2.map Rule.row))))), (9, .k true (.x (.one .nil))), (10, tI .i64 ((a.1 : Int) - 1))] [] [(300, ⟨186, 3, a.2.length⟩)] F0) (fun a => a.1)
    (fun a => a.1 ≤ rules.length ∧ A' = a.2 ++ fewN k rules a.1 ∧ a.2.length + a.1 ≤ rules.length) (rules.length, []) (by simp [promoteT_st]) (by simp [← hA]) ?_
  rintro ⟨n, E⟩ K hK ⟨hn, hd, hE⟩
  simp only at hn hd hE
  cases n with
  | succ n =>
    have hlt : n < rules.length := by omega
    rw [fewN, List.getElem?_eq_getElem hlt] at hd
    simp only at hd
    have hz : impG (gd1 false (decide (k ≤ 0))) (¬ k = 0) := by
      by_cases h : k ≤ 0
      · simp [h]
      · simp [h]; omega
    by_cases hc : k ≤ 0 ∨ Int.tmod n k ≠ 0
    · have hc' : (decide (k ≤ 0) || !Int.tmod n k == 0) = true := by simpa using hc
      rw [if_pos hc] at hd
      simp [ic3035l0, hz, hc', hlt]
      refine ⟨by unfold maxLen; omega, by unfold maxBytes; omega, ?_⟩
      simp (disch := omega) only [wrap64]
      exact hK (n, E ++ [rules[n]]) _ (by simp) ⟨by simp only; omega, by simpa using hd, by simp; omega⟩ (by simp)
    · have hc' : (decide (k ≤ 0) || !Int.tmod n k == 0) = false := by simpa using hc
      rw [if_neg hc] at hd
      simp [ic3035l0, hz, hc']
      simp (disch := omega) only [wrap64]
      exact hK (n, E) _ (by simp) ⟨by simp only; omega, by simpa using hd, by simp only; omega⟩ (by simp)
  | zero =>
    have hd' : A' = E := by simpa [fewN] using hd
    subst hd'
    simp [ic3035l0]
    simp (disch := omega) only [wrap64]
    refine w_loopA [.t 301 9 201 2] [54] [1, 2, 8, 9, 11] (by simp [ownKey])
      (fun a : Nat × List Fc => st [(1, .k true (.x (.one (.c (.sl (facts.map Fc.row) sq))))), (2, .k true (.x (.one (.c (cI .i64 k))))), (8, .k true (.x (.one (.own 300 (A'.map Rule.row))))), (9, .k true (.x (.one (.own 301 (a.2.map Fc.row))))), (11, tI .i64 ((a.1 : Int) - 1))] [] [(301, ⟨201, 2, a.2.length⟩), (300, ⟨186, 3, A'.length⟩)] F0) (fun a => a.1)
      (fun a => a.1 ≤ facts.length ∧ B' = a.2 ++ fewN k facts a.1 ∧ a.2.length + a.1 ≤ facts.length) (facts.length, []) (by simp [promoteT_st]) (by simp [← hB]) ?_
    rintro ⟨n, E⟩ K hK ⟨hn, hd, hE⟩
    simp only at hn hd hE
    cases n with
    | succ n =>
      have hlt : n < facts.length := by omega
      rw [fewN, List.getElem?_eq_getElem hlt] at hd
      simp only at hd
      have hz : impG (gd1 false (decide (k ≤ 0))) (¬ k = 0) := by
        by_cases h : k ≤ 0
        · simp [h]
        · simp [h]; omega
      by_cases hc : k ≤ 0 ∨ Int.tmod n k ≠ 0
      · have hc' : (decide (k ≤ 0) || !Int.tmod n k == 0) = true := by simpa using hc
        rw [if_pos hc] at hd
        simp [ic3035l1, hz, hc', hlt]
        refine ⟨by unfold maxLen; omega, by unfold maxBytes; omega, ?_⟩
        simp (disch := omega) only [wrap64]
        exact hK (n, E ++ [facts[n]]) _ (by simp) ⟨by simp only; omega, by simpa using hd, by simp; omega⟩ (by simp)
      · have hc' : (decide (k ≤ 0) || !Int.tmod n k == 0) = false := by simpa using hc
        rw [if_neg hc] at hd
        simp [ic3035l1, hz, hc']
        simp (disch := omega) only [wrap64]
        exact hK (n, E) _ (by simp) ⟨by simp only; omega, by simpa using hd, by simp only; omega⟩ (by simp)
    | zero =>
      have hd' : B' = E := by simpa [fewN] using hd
      subst hd'
      simp [ic3035l1]
      exact ret_st (by simp) (by simp) (by simp) (by simp) (by simp) (by simp)

end Go.Proofs.Ytiomojlcnemnhaa

/- Plain: a query of blanks; what an input is answered if less of it is handed in. (Labels of 3000 and more: the plain seat.) -/
namespace Go.Proofs.Ytiomojlcnemnhaa
open Go.Fx Go.RowKit Go.Ped

abbrev inB (rules : List Rule) (facts : List Fc) (q : Qy) : List C := inE rules facts q.p q.l
theorem in_three (rules : List Rule) (facts : List Fc) (q : Qy) : ∃ a b c, inB rules facts q = [cI .i8 a, cI .i64 b, cI .i64 c] := by
  have hc := in_case rules facts q.p q.l
  show ∃ a b c, inE rules facts q.p q.l = _
  generalize inE rules facts q.p q.l = x at hc
  cases hc <;> exact ⟨_, _, _, rfl⟩
end Go.Proofs.Ytiomojlcnemnhaa

/- Contracts, on: rules that are worked with, as far as one is refused; some answers that are fixed; equations that give a variable; the law CheckFixed. (Labels of 2000 and more: seat ZD.) -/
namespace Go.Proofs.Ytiomojlcnemnhaa
open Go.Fx Go.RowKit Go.Ped
variable {G : World → Prop}

def firstErr : List Rule → Int
  | [] => 0
  | r :: l => if ruleErr r = 0 then firstErr l else ruleErr r

theorem m2058e (l : List Rule) (sp : Sp) (fs sq : List (List C)) (hs : ∀ r ∈ l, r.fit) (hl : l.length ≤ 1048576) (he : firstErr l ≠ 0) :
    Meets Try.prog G 34 [.one (.sl (l.map Rule.row) sp), .one (.sl fs sq)] (.x (.one (cI .i64 (firstErr l)))) := by
  refine meets Try.func34 ie2058 ig2058 (Nat.le_of_ble_eq_true rfl) ?_
  simp [ic2058, ir2058]
  refine w_loopA [] [6] [13, 14, 15] (by simp [ownKey])
    (fun i : Nat => st [(13, .k true (.x (.one (.c (.sl (l.map Rule.row) sp))))), (14, tI .i64 l.length), (15, tI .i64 i)] [] [] F0) (fun i => l.length - i)
    (fun i => i ≤ l.length ∧ firstErr l = firstErr (l.drop i)) 0 (by simp) (by simp) ?_
  rintro i K hK ⟨hi, hd⟩
  obtain hlt | hge := Nat.lt_or_ge i l.length
  · rw [List.drop_eq_getElem_cons hlt, firstErr] at hd
    simp [ic2058l0, hlt]
    refine call_of (m85 l[i] (hs _ (List.getElem_mem hlt))) ?_
    simp
    by_cases h0 : ruleErr l[i] = 0
    · rw [if_pos h0] at hd
      simp [h0]
      simp (disch := omega) only [wrap64]
      exact hK (i + 1) _ (by simp) ⟨by omega, hd⟩ (by omega)
    · rw [if_neg h0] at hd
      simp [h0, hd]
  · rw [List.drop_eq_nil_of_le hge, firstErr] at hd
    exact absurd hd he

def tX : Tm := ⟨[88], zeroV⟩
def livesQ : Lit := ⟨1, [113], [tX], [], 0, exZ, exZ⟩
def livesR : Rule := ⟨[112], [⟨0, tX⟩], [], [livesQ], []⟩
def livesB : Rule := ⟨[112], [⟨0, tX⟩], [], [], []⟩
abbrev rowX : List C := [cS (bs [88]), cI .i8 0, cI .i64 0, cS (bs [])]
abbrev rowQ : List C := [cI .i8 1, cS (bs [113]), .sl [rowX] [], cI .i8 0, cI .i8 0, cS (bs []), cI .i8 0, cI .i64 0, cS (bs []), .sl [] [], cI .i8 0, cS (bs []), cI .i8 0, cI .i64 0, cS (bs []), .sl [] []]
abbrev rowH : List C := [cI .i8 0, cS (bs [88]), cI .i8 0, cI .i64 0, cS (bs [])]
theorem livesQ_row : livesQ.row = rowQ := by
  simp [livesQ, Lit.row, exZ_row]; rfl
theorem livesR_row : livesR.row = [cS (bs [112]), .sl [rowH] [], .sl [rowQ] []] := by
  simp only [livesR, Rule.row, List.map_cons, List.map_nil, livesQ_row]; rfl
theorem livesB_row : livesB.row = [cS (bs [112]), .sl [rowH] [], .sl [] []] := rfl
theorem exZ_small : exZ.small 1048576 := Ex.small_mk.2 ⟨by simp, by simp⟩
theorem exZ_terms : exZ.terms = [zeroT] := by rw [exZ, Ex.terms_mk]; rfl
theorem livesQ_fit : livesQ.fit := ⟨⟨by simp [livesQ], exZ_small, exZ_small⟩, by simp [livesQ, exZ_terms], by simp [livesQ, exZ_terms]⟩
theorem livesR_fit : livesR.fit := ⟨⟨by simp [livesR], by simp [livesR], fun x hx => by simp [livesR] at hx; subst hx; exact livesQ_fit.1⟩, fun x hx => by simp [livesR] at hx; subst hx; exact livesQ_fit, by simp [livesR, Rule.terms, Lit.terms, livesQ, exZ_terms], by simp [livesR, livesQ]⟩
theorem livesB_fit : livesB.fit := ⟨⟨by simp [livesB], by simp [livesB], by simp [livesB]⟩, by simp [livesB], by simp [livesB, Rule.terms], by simp [livesB]⟩
theorem livesR_lim : limitsOf livesR.body = [[88]] := by
  unfold limitsOf
  rw [show eqsOf livesR.body = [] from rfl, goRounds_nil]; rfl
theorem livesR_ok : ruleOk livesR = true := by kernel_rfl
theorem livesB_ok : ruleOk livesB = true := by kernel_rfl
theorem livesR_vars : tmVars livesR.terms = [[88]] := by kernel_rfl
theorem livesB_vars : tmVars livesB.terms = [[88]] := by kernel_rfl
theorem livesR_err : ruleErr livesR = 0 := by
  unfold ruleErr
  rw [if_pos livesR_ok, livesR_lim, livesR_vars]; rfl
theorem livesB_err : ruleErr livesB = 73 := by
  unfold ruleErr
  rw [if_pos livesB_ok, livesB_vars, show limitsOf livesB.body = [] from by unfold limitsOf; rw [show eqsOf livesB.body = [] from rfl, goRounds_nil]; rfl]; rfl
theorem lives_job : firstErr [livesR, livesB] = 73 := by simp [firstErr, livesR_err, livesB_err]

theorem m2062 : Meets Try.prog G 30 [] (.x (.one (cB true))) := by
  have h50 := m50 (G := G) livesR.body [] livesR_fit.2.1 (by simp [livesR]) livesR_fit.2.2.2
  have hr := m85 (G := G) livesR livesR_fit
  have hb := m85 (G := G) livesB livesB_fit
  have hj := m2058e (G := G) [livesR, livesB] [] [] [] (fun r hr => by simp at hr; rcases hr with rfl | rfl; exact livesR_fit; exact livesB_fit) (by simp) (by rw [lives_job]; decide)
  rw [livesR_lim] at h50
  rw [lives_job] at hj
  rw [livesR_err] at hr
  rw [livesB_err] at hb
  simp only [List.map_cons, List.map_nil, livesR_row, livesB_row] at hr hb hj
  simp only [show livesR.body = [livesQ] from rfl, List.map_cons, List.map_nil, livesQ_row] at h50
  refine meets Try.func30 ie2062 ig2062 (Nat.le_of_ble_eq_true rfl) ?_
  simp [ic2062, ir2062]
  refine call_of h50 ?_
  simp
  refine call_of hr ?_
  simp
  refine call_of hb ?_
  simp
  refine k_rowg (g := true) rfl rfl rfl (by simp) ?_
  simp
  refine call_of hj ?_
  simp

end Go.Proofs.Ytiomojlcnemnhaa

/- Contracts, on: the law CheckFirst. (Labels of 3000 and more: the plain seat.) -/
namespace Go.Proofs.Ytiomojlcnemnhaa
open Go.Fx Go.RowKit Go.Ped
variable {G : World → Prop}

theorem n2038 (rules : List Rule) (sp : Sp) (facts : List Fc) (sq : Sp) (p : Name) (l : List Tm) (qs : Sp) (hs : ∀ r ∈ rules, r.fit) (hl : rules.length ≤ 1048576) (hf : ∀ f ∈ facts, f.l.length ≤ 1048576) (hfl : facts.length ≤ 1048576) (hq : l.length ≤ 1048576) {x : List C} (hx : inE rules facts p l = x) :
    Meets Try.prog G 36 [.agg [.sl (rules.map Rule.row) sp], .one (.sl (facts.map Fc.row) sq), .agg [cS (bs p), .sl (l.map Tm.row) qs]] (.x (.agg x)) := by
  have := m2038 (G := G) rules sp facts sq ⟨p, l, qs⟩ hs hl hf hfl hq
  rw [input_same] at this
  subst hx
  exact this
theorem row_take {α : Type} {row : α → List C} {l : List α} {k : Nat} (hk : k ≤ l.length) (sp : Sp) : (l.map row ++ sp).take k = (l.take k).map row := by
  rw [List.take_append_of_le_length (by rw [List.length_map]; exact hk), List.map_take]
theorem row_len {α : Type} {row : α → List C} {l : List α} {n : Nat} (h : ∀ x, (row x).length = n) {sp : Sp} (hsp : ∀ e ∈ sp, e.length = n) : ∀ e ∈ l.map row ++ sp, e.length = n := fun e he => by
  rcases List.mem_append.1 he with he | he
  · obtain ⟨x, _, rfl⟩ := List.mem_map.1 he; exact h x
  · exact hsp e he

end Go.Proofs.Ytiomojlcnemnhaa

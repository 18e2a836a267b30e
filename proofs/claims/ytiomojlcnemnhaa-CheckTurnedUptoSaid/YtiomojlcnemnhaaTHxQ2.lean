import Derived.Test.YtiomojlcnemnhaaTHxIcW
import Derived.Test.YtiomojlcnemnhaaTHxIcT
import Derived.Test.YtiomojlcnemnhaaTHxIcS
/- Contracts, on: what is fewer; a query of blanks. (Labels of 3000 and more: the plain seat.) -/
namespace Go.Proofs.Ytiomojlcnemnhaa
open Go.Fx Go.RowKit Go.Ped
variable {G : World → Prop}

end Go.Proofs.Ytiomojlcnemnhaa

/- Contracts, on: rules that are worked with, as far as one is refused; some answers that are fixed; equations that give a variable; the law CheckFixed. (Labels of 2000 and more: seat ZD.) -/
namespace Go.Proofs.Ytiomojlcnemnhaa
open Go.Fx Go.RowKit Go.Ped
variable {G : World → Prop}

def firstErr : List Rule → Int
  | [] => 0
  | r :: l => if ruleErr r = 0 then firstErr l else ruleErr r

theorem m2058e (l : List Rule) (sp : Sp) (fs sq : List (List C)) (hs : ∀ r ∈ l, r.fit) (hl : l.length ≤ 1048576) (he : firstErr l ≠ 0) :
    Meets Try.prog G 34 [.one (.sl (l.map Rule.row) sp), .one (.sl fs sq)] (.x (.one (cI .i64 (firstErr l)))) := by
  refine meets Try.func34 ie2058 ig2058 (Nat.le_of_ble_eq_true rfl) ?_
  simp [ic2058, ir2058]
  refine w_loopA [] [6] [13, 14, 15] (by simp [ownKey])
    (fun i : Nat => st [(13, .k true (.x (.one (.c (.sl (l.map Rule.row) sp))))), (14, tI .i64 l.length), (15, tI .i64 i)] [] [] F0) (fun i => l.length - i)
    (fun i => i ≤ l.length ∧ firstErr l = firstErr (l.drop i)) 0 (by simp) (by simp) ?_
  rintro i K hK ⟨hi, hd⟩
  obtain hlt | hge := Nat.lt_or_ge i l.length
  · rw [List.drop_eq_getElem_cons hlt, firstErr] at hd
    simp [ic2058l0, hlt]
    refine call_of (m85 l[i] (hs _ (List.getElem_mem hlt))) ?_
    simp
    by_cases h0 : ruleErr l[i] = 0
    · rw [if_pos h0] at hd
      simp [h0]
      simp (disch := omega) only [wrap64]
      exact hK (i + 1) _ (by simp) ⟨by omega, hd⟩ (by omega)
    · rw [if_neg h0] at hd
      simp [h0, hd]
  · rw [List.drop_eq_nil_of_le hge, firstErr] at hd
    exact absurd hd he

def tX : Tm := ⟨[88], zeroV⟩
def livesQ : Lit := ⟨1, [113], [tX], [], 0, exZ, exZ⟩
def livesR : Rule := ⟨[112], [⟨0, tX⟩], [], [livesQ], []⟩
def livesB : Rule := ⟨[112], [⟨0, tX⟩], [], [], []⟩
abbrev rowX : List C := [cS (bs [88]), cI .i8 0, cI .i64 0, cS (bs [])]
abbrev rowQ : List C := [cI .i8 1, cS (bs [113]), .sl [rowX] [], cI .i8 0, cI .i8 0, cS (bs []), cI .i8 0, cI .i64 0, cS (bs []), .sl [] [], cI .i8 0, cS (bs []), cI .i8 0, cI .i64 0, cS (bs []), .sl [] []]
abbrev rowH : List C := [cI .i8 0, cS (bs [88]), cI .i8 0, cI .i64 0, cS (bs [])]
theorem livesQ_row : livesQ.row = rowQ := by
  simp [livesQ, Lit.row, exZ_row]; rfl
theorem livesR_row : livesR.row = [cS (bs [112]), .sl [rowH] [], .sl [rowQ] []] := by
  simp only [livesR, Rule.row, List.map_cons, List.map_nil, livesQ_row]; rfl
theorem livesB_row : livesB.row = [cS (bs [112]), .sl [rowH] [], .sl [] []] := rfl
theorem exZ_small : exZ.small 1048576 := Ex.small_mk.2 ⟨by simp, by simp⟩
theorem exZ_terms : exZ.terms = [zeroT] := by rw [exZ, Ex.terms_mk]; rfl
theorem livesQ_fit : livesQ.fit := ⟨⟨by simp [livesQ], exZ_small, exZ_small⟩, by simp [livesQ, exZ_terms], by simp [livesQ, exZ_terms]⟩
theorem livesR_fit : livesR.fit := ⟨⟨by simp [livesR], by simp [livesR], fun x hx => by simp [livesR] at hx; subst hx; exact livesQ_fit.1⟩, fun x hx => by simp [livesR] at hx; subst hx; exact livesQ_fit, by simp [livesR, Rule.terms, Lit.terms, livesQ, exZ_terms], by simp [livesR, livesQ]⟩
theorem livesB_fit : livesB.fit := ⟨⟨by simp [livesB], by simp [livesB], by simp [livesB]⟩, by simp [livesB], by simp [livesB, Rule.terms], by simp [livesB]⟩
theorem livesR_lim : limitsOf livesR.body = [[88]] := by
  unfold limitsOf
  rw [show eqsOf livesR.body = [] from rfl, goRounds_nil]; rfl
theorem livesR_ok : ruleOk livesR = true := by kernel_rfl
theorem livesB_ok : ruleOk livesB = true := by kernel_rfl
theorem livesR_vars : tmVars livesR.terms = [[88]] := by kernel_rfl
theorem livesB_vars : tmVars livesB.terms = [[88]] := by kernel_rfl
theorem livesR_err : ruleErr livesR = 0 := by
  unfold ruleErr
  rw [if_pos livesR_ok, livesR_lim, livesR_vars]; rfl
theorem livesB_err : ruleErr livesB = 73 := by
  unfold ruleErr
  rw [if_pos livesB_ok, livesB_vars, show limitsOf livesB.body = [] from by unfold limitsOf; rw [show eqsOf livesB.body = [] from rfl, goRounds_nil]; rfl]; rfl
theorem lives_job : firstErr [livesR, livesB] = 73 := by simp [firstErr, livesR_err, livesB_err]

theorem m2062 : Meets Try.prog G 30 [] (.x (.one (cB true))) := by
  have h50 := m50 (G := G) livesR.body [] livesR_fit.2.1 (by simp [livesR]) livesR_fit.2.2.2
  have hr := m85 (G := G) livesR livesR_fit
  have hb := m85 (G := G) livesB livesB_fit
  have hj := m2058e (G := G) [livesR, livesB] [] [] [] (fun r hr => by simp at hr; rcases hr with rfl | rfl; exact livesR_fit; exact livesB_fit) (by simp) (by rw [lives_job]; decide)
  rw [livesR_lim] at h50
  rw [lives_job] at hj
  rw [livesR_err] at hr
  rw [livesB_err] at hb
  simp only [List.map_cons, List.map_nil, livesR_row, livesB_row] at hr hb hj
  simp only [show livesR.body = [livesQ] from rfl, List.map_cons, List.map_nil, livesQ_row] at h50
  refine meets Try.func30 ie2062 ig2062 (Nat.le_of_ble_eq_true rfl) ?_
  simp [ic2062, ir2062]
  refine call_of h50 ?_
  simp
  refine call_of hr ?_
  simp
  refine call_of hb ?_
  simp
  refine k_rowg (g := true) rfl rfl rfl (by simp) ?_
  simp
  refine call_of hj ?_
  simp

end Go.Proofs.Ytiomojlcnemnhaa

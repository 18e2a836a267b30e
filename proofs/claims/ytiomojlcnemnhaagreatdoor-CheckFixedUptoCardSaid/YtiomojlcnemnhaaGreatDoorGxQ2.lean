/- Contracts, on: rules that are worked with, as far as one is refused; some answers that are fixed; equations that give a variable; the law CheckFixed. (Labels of 2000 and more: seat ZD.) -/
import Derived.Test.YtiomojlcnemnhaaGreatDoorGxK1
import Derived.Test.YtiomojlcnemnhaaGreatDoorGxIcS
namespace Go.Proofs.YtiomojlcnemnhaaGreatDoor
open Go.Fx Go.RowKit Go.Ped
variable {G : World → Prop}

def firstErr : List Rule → Int
  | [] => 0
  | r :: l => if ruleErr r = 0 then firstErr l else ruleErr r

theorem m2058e (l : List Rule) (sp : Sp) (fs sq : List (List C)) (hs : ∀ r ∈ l, r.fit) (hl : l.length ≤ 1048576) (he : firstErr l ≠ 0) :
    Meets Tryz.prog G 58 [.one (.sl (l.map Rule.row) sp), .one (.sl fs sq)] (.x (.one (cI .i64 (firstErr l)))) := by
  refine meets Tryz.func58 ie2058 ig2058 (Nat.le_of_ble_eq_true rfl) ?_
  simp [ic2058, ir2058]
  refine w_loopA [] [6] [13, 14, 15] (by simp [ownKey])
    (fun i : Nat => st [(13, .k true (.x (.one (.c (.sl (l.map Rule.row) sp))))), (14, tI .i64 l.length), (15, tI .i64 i)] [] [] F0) (fun i => l.length - i)
    (fun i => i ≤ l.length ∧ firstErr l = firstErr (l.drop i)) 0 (by simp) (by simp) ?_
  rintro i K hK ⟨hi, hd⟩
  obtain hlt | hge := Nat.lt_or_ge i l.length
  · rw [List.drop_eq_getElem_cons hlt, firstErr] at hd
    simp [ic2058l0, hlt]
    refine call_of (m85 l[i] (hs _ (List.getElem_mem hlt))) ?_
    simp
    by_cases h0 : ruleErr l[i] = 0
    · rw [if_pos h0] at hd
      simp [h0]
      simp (disch := omega) only [wrap64]
      exact hK (i + 1) _ (by simp) ⟨by omega, hd⟩ (by omega)
    · rw [if_neg h0] at hd
      simp [h0, hd]
  · rw [List.drop_eq_nil_of_le hge, firstErr] at hd
    exact absurd hd he

def tX : Tm := ⟨[88], zeroV⟩
def livesQ : Lit := ⟨1, [113], [tX], [], 0, exZ, exZ⟩
def livesR : Rule := ⟨[112], [⟨0, tX⟩], [], [livesQ], []⟩
def livesB : Rule := ⟨[112], [⟨0, tX⟩], [], [], []⟩
abbrev rowX : List C := [cS (bs [88]), cI .i8 0, cI .i64 0, cS (bs [])]
abbrev rowQ : List C := [cI .i8 1, cS (bs [113]), .sl [rowX] [], cI .i8 0, cI .i8 0, cS (bs []), cI .i8 0, cI .i64 0, cS (bs []), .sl [] [], cI .i8 0, cS (bs []), cI .i8 0, cI .i64 0, cS (bs []), .sl [] []]
abbrev rowH : List C := [cI .i8 0, cS (bs [88]), cI .i8 0, cI .i64 0, cS (bs [])]
theorem livesQ_row : livesQ.row = rowQ := by
  simp [livesQ, Lit.row, exZ_row]; rfl
theorem livesR_row : livesR.row = [cS (bs [112]), .sl [rowH] [], .sl [rowQ] []] := by
  simp only [livesR, Rule.row, List.map_cons, List.map_nil, livesQ_row]; rfl
theorem livesB_row : livesB.row = [cS (bs [112]), .sl [rowH] [], .sl [] []] := rfl
theorem exZ_small : exZ.small 1048576 := Ex.small_mk.2 ⟨by simp, by simp⟩
theorem exZ_terms : exZ.terms = [zeroT] := by rw [exZ, Ex.terms_mk]; rfl
theorem livesQ_fit : livesQ.fit := ⟨⟨by simp [livesQ], exZ_small, exZ_small⟩, by simp [livesQ, exZ_terms], by simp [livesQ, exZ_terms]⟩
theorem livesR_fit : livesR.fit := ⟨⟨by simp [livesR], by simp [livesR], fun x hx => by simp [livesR] at hx; subst hx; exact livesQ_fit.1⟩, fun x hx => by simp [livesR] at hx; subst hx; exact livesQ_fit, by simp [livesR, Rule.terms, Lit.terms, livesQ, exZ_terms], by simp [livesR, livesQ]⟩
theorem livesB_fit : livesB.fit := ⟨⟨by simp [livesB], by simp [livesB], by simp [livesB]⟩, by simp [livesB], by simp [livesB, Rule.terms], by simp [livesB]⟩
theorem livesR_lim : limitsOf livesR.body = [[88]] := by
  unfold limitsOf
  rw [show eqsOf livesR.body = [] from rfl, goRounds_nil]; rfl
theorem livesR_ok : ruleOk livesR = true := by kernel_rfl
theorem livesB_ok : ruleOk livesB = true := by kernel_rfl
theorem livesR_vars : tmVars livesR.terms = [[88]] := by kernel_rfl
theorem livesB_vars : tmVars livesB.terms = [[88]] := by kernel_rfl
theorem livesR_err : ruleErr livesR = 0 := by
  unfold ruleErr
  rw [if_pos livesR_ok, livesR_lim, livesR_vars]; rfl
theorem livesB_err : ruleErr livesB = 73 := by
  unfold ruleErr
  rw [if_pos livesB_ok, livesB_vars, show limitsOf livesB.body = [] from by unfold limitsOf; rw [show eqsOf livesB.body = [] from rfl, goRounds_nil]; rfl]; rfl
theorem lives_job : firstErr [livesR, livesB] = 73 := by simp [firstErr, livesR_err, livesB_err]

theorem m2062 : Meets Tryz.prog G 62 [] (.x (.one (cB true))) := by
  have h50 := m50 (G := G) livesR.body [] livesR_fit.2.1 (by simp [livesR]) livesR_fit.2.2.2
  have hr := m85 (G := G) livesR livesR_fit
  have hb := m85 (G := G) livesB livesB_fit
  have hj := m2058e (G := G) [livesR, livesB] [] [] [] (fun r hr => by simp at hr; rcases hr with rfl | rfl; exact livesR_fit; exact livesB_fit) (by simp) (by rw [lives_job]; decide)
  rw [livesR_lim] at h50
  rw [lives_job] at hj
  rw [livesR_err] at hr
  rw [livesB_err] at hb
  simp only [List.map_cons, List.map_nil, livesR_row, livesB_row] at hr hb hj
  simp only [show livesR.body = [livesQ] from rfl, List.map_cons, List.map_nil, livesQ_row] at h50
  refine meets Tryz.func62 ie2062 ig2062 (Nat.le_of_ble_eq_true rfl) ?_
  simp [ic2062, ir2062]
  refine call_of h50 ?_
  simp
  refine call_of hr ?_
  simp
  refine call_of hb ?_
  simp
  refine k_rowg (g := true) rfl rfl rfl (by simp) ?_
  simp
  refine call_of hj ?_
  simp

def eqAt (v : Name) (f : List Name) (x : Lit) : Bool := isEqn x && ((loneOf x.left != [] && loneOf x.left == v && allIn (tmVars x.right.terms) f) || (loneOf x.right != [] && loneOf x.right == v && allIn (tmVars x.left.terms) f))
theorem equated_any (l : List Lit) (v : Name) (f : List Name) : equated l v f = l.any (eqAt v f) := rfl

theorem m2068 (l : List Lit) (v : Name) (f : List Name) (sp sq : Sp) (hs : ∀ x ∈ l, x.fit) (hl : l.length ≤ 1048576) (hf : f.length ≤ maxLen) :
    Meets Tryz.prog G 68 [.one (.sl (l.map Lit.row) sp), .one (cS (bs v)), .one (.sl (f.map nmRow) sq)] (.x (.one (cB (equated l v f)))) := by
  refine meets Tryz.func68 ie2068 ig2068 (Nat.le_of_ble_eq_true rfl) ?_
  rw [equated_any]
  generalize hR : l.any (eqAt v f) = R
  simp [ic2068, ir2068]
  refine w_loopA [] [] [0, 1, 2, 7] (by simp)
    (fun i : Nat => st [(0, .k true (.x (.one (.c (.sl (l.map Lit.row) sp))))), (1, .k true (.x (.one (.c (cS (bs v)))))), (2, .k true (.x (.one (.c (.sl (f.map nmRow) sq))))), (7, tI .i64 i)] [] [] F0) (fun i => l.length - i)
    (fun i => i ≤ l.length ∧ R = (l.drop i).any (eqAt v f)) 0 (by simp) (by simp [hR]) ?_
  rintro i K hK ⟨hi, hd⟩
  obtain hlt | hge := Nat.lt_or_ge i l.length
  · rw [List.drop_eq_getElem_cons hlt, List.any_cons] at hd
    have hx := hs l[i] (List.getElem_mem hlt)
    have hv1 := tmVars_len l[i].left.terms
    have hv2 := tmVars_len l[i].right.terms
    obtain ⟨hx1, hx2, hx3⟩ := hx
    simp [ic2068l0, hlt]
    refine condI_of (fun h => ?_) (fun h => ?_)
    · have hn : isEqn l[i] = false := by
        simp only [isEqn]
        revert h
        cases l[i].kind == 3 <;> cases l[i].rel == 1 <;> simp
      simp
      simp (disch := omega) only [wrap64]
      exact hK (i + 1) _ (by simp) ⟨by omega, by rw [hd]; simp [eqAt, hn]⟩ (by omega)
    · have hn : isEqn l[i] = true := by
        simp only [isEqn]
        revert h
        cases l[i].kind == 3 <;> cases l[i].rel == 1 <;> simp
      simp [hlt]
      refine call_of (m178 l[i].left) ?_
      simp [hlt]
      refine call_i (fun _ => m28 l[i].right hx1.2.2 hx3) ?_
      simp [hlt]
      refine call_i (fun _ => m179 (tmVars l[i].right.terms) f [] sq (by unfold maxLen; omega) hf) ?_
      simp
      refine condI_of (fun h1 => ?_) (fun h1 => ?_)
      · have : eqAt v f l[i] = true := by simp [eqAt, hn] at h1 ⊢; grind
        simp [hd, this]
      · simp [hlt]
        refine call_of (m178 l[i].right) ?_
        simp [hlt]
        refine call_i (fun _ => m28 l[i].left hx1.2.1 hx2) ?_
        simp [hlt]
        refine call_i (fun _ => m179 (tmVars l[i].left.terms) f [] sq (by unfold maxLen; omega) hf) ?_
        simp
        refine condI_of (fun h2 => ?_) (fun h2 => ?_)
        · have : eqAt v f l[i] = true := by simp [eqAt, hn] at h1 h2 ⊢; grind
          simp [hd, this]
        · have : eqAt v f l[i] = false := by simp [eqAt, hn] at h1 h2 ⊢; grind
          simp
          simp (disch := omega) only [wrap64]
          exact hK (i + 1) _ (by simp) ⟨by omega, by rw [hd, this]; simp⟩ (by omega)
  · rw [List.drop_eq_nil_of_le hge] at hd
    simp [ic2068l0, Nat.not_lt.mpr hge, hd]

theorem m2011 (l : List Lit) (sp : Sp) (hs : ∀ x ∈ l, x.fit) (hl : l.length ≤ 1048576) (hb : (l.map fun x => x.l.length).sum ≤ 10000000) (ht : ∀ x ∈ l, x.terms.length ≤ 1048576) :
    Meets Tryz.prog GT 11 [.one (.sl (l.map Lit.row) sp)] (.x (.one (cB true))) := by
  have hs' : ∀ x ∈ l, x.small 1048576 := fun x hx => (hs x hx).1
  have h1 := goRounds_len (eqsOf l) (atomsOn [] l)
  have h2 := atomsOn_len l []
  have h3 := eqsOf_len l
  simp only [List.length_nil] at h2
  have hq : (limitsOf l).length ≤ maxLen := by unfold maxLen limitsOf; omega
  have h50 := m50 (G := GT) (l.map Lit.tw) [litMark.row] (fun x hx => by
    obtain ⟨y, hy, rfl⟩ := List.mem_map.1 hx
    exact fit_tw (hs y hy)) (by simpa using hl) (by rw [List.map_map]; exact hb)
  rw [limitsOf_tw] at h50
  have h49 := m49 l sp hl hs'
  generalize (l.map Lit.tw).map Lit.row = X at *
  have hat := limits_at l
  have hspec := limits_spec l
  have hin : ∀ v, equated l v (limitsOf l) = true → v ∈ limitsOf l := fun v => equated_in
  have hall : allIn (atomsOn [] l) (limitsOf l) = true := allIn_iff.2 hspec.1
  generalize limitsOf l = L at *
  have hal : (atomsOn [] l).length ≤ maxLen := by unfold maxLen; omega
  have hA := m122 (G := GT) l sp hs' hl (by omega)
  generalize atomsOn [] l = A at *
  have hq' : L.length ≤ maxLen := hq
  unfold maxLen at hq'
  refine meets Tryz.func11 ie2011 ig2011 (Nat.le_of_ble_eq_true rfl) ?_
  simp [ic2011, ir2011]
  refine call_of (m48 l sp hs' hl) ?_
  simp
  refine condI_of (fun h => ?_) (fun h => ?_)
  · simp
  simp
  refine call_of m2062 ?_
  simp
  refine call_of h49 ?_
  simp
  refine call_of h50 ?_
  simp
  refine r_callW _ _ [] [] _ [] _ (MeetsV.of_fun hA) rfl rfl rfl (by simp) (by simp) ?_
  simp
  refine call_of (m179 A L [] [] hal hq) ?_
  simp [hall]
  refine w_loopA [] [] [0, 3, 4, 5] (by simp)
    (fun i : Nat => st [(0, .k true (.x (.one (.c (.sl (l.map Lit.row) sp))))), (3, .k true (.x (.one (.c (.sl (L.map nmRow) []))))), (4, .k true (.x (.one (.own 44 (A.map nmRow))))), (5, tI .i64 i)] [] [(44, ⟨9, 1, A.length⟩)] F0) (fun i => L.length - i)
    (fun i => i ≤ L.length) 0 (by simp) (by simp) ?_
  rintro i K hK hi
  obtain hlt | hge := Nat.lt_or_ge i L.length
  · obtain ⟨g1, g2⟩ := hat i hlt
    have e30 := m30 (G := GT) L[i] (L.take i) ((L.drop i).map nmRow) (by simp; omega)
    have e68 := m2068 (G := GT) l L[i] (L.take i) sp ((L.drop i).map nmRow) hs hl (by simp; omega)
    rw [List.map_take] at e30 e68
    rw [List.map_drop] at e30 e68
    have c1 : (L.take i).contains L[i] = false := by simpa using g1
    rw [c1] at e30
    simp [ic2011l0, hlt]
    refine ⟨by omega, ?_⟩
    refine call_of e30 ?_
    simp [hlt]
    refine call_of (m30 L[i] A [] hal) ?_
    simp [hlt]
    by_cases hA2 : L[i] ∈ A
    · simp [hA2]
      refine call_no (.x (.one (cB false))) ?_
      simp
      simp (disch := omega) only [wrap64]
      exact hK (i + 1) _ (by simp) (by omega) (by omega)
    · have g3 := g2.resolve_left hA2
      rw [g3] at e68
      simp [hA2]
      refine ⟨by omega, ?_⟩
      refine call_of e68 ?_
      simp
      simp (disch := omega) only [wrap64]
      exact hK (i + 1) _ (by simp) (by omega) (by omega)
  simp [ic2011l0, Nat.not_lt.mpr hge]
  refine w_loopA [] [] [0, 3, 6] (by simp)
    (fun i : Nat => st [(0, .k true (.x (.one (.c (.sl (l.map Lit.row) sp))))), (3, .k true (.x (.one (.c (.sl (L.map nmRow) []))))), (6, tI .i64 i)] [] [(44, ⟨9, 1, A.length⟩)] F0) (fun i => l.length - i)
    (fun i => i ≤ l.length) 0 (by simp) (by simp) ?_
  rintro j K2 hK2 hj
  obtain hlt2 | hge2 := Nat.lt_or_ge j l.length
  · have hx := List.getElem_mem hlt2
    have hv := tmVars_len l[j].terms
    have htj := ht _ hx
    simp [ic2011l2, hlt2]
    refine call_of (m60 l[j] (hs' _ hx) htj) ?_
    simp
    generalize hvs : tmVars l[j].terms = vs at *
    refine w_loopA [] [] [0, 3, 6, 7, 8] (by simp)
      (fun i : Nat => st [(0, .k true (.x (.one (.c (.sl (l.map Lit.row) sp))))), (3, .k true (.x (.one (.c (.sl (L.map nmRow) []))))), (6, tI .i64 j), (7, .k true (.x (.one (.c (.sl (vs.map nmRow) []))))), (8, tI .i64 i)] [] [(44, ⟨9, 1, A.length⟩)] F0) (fun i => vs.length - i)
      (fun i => i ≤ vs.length) 0 (by simp) (by simp) ?_
    rintro k K3 hK3 hk
    obtain hlt3 | hge3 := Nat.lt_or_ge k vs.length
    · simp [ic2011l1, hlt3]
      refine call_of (m30 vs[k] L [] hq) ?_
      simp [hlt3]
      by_cases hm : vs[k] ∈ L
      · simp [hm]
        refine call_no (.x (.one (cB false))) ?_
        simp
        simp (disch := omega) only [wrap64]
        exact hK3 (k + 1) _ (by simp) (by omega) (by omega)
      · have e68 := m2068 (G := GT) l vs[k] L sp [] hs hl hq
        have he : equated l vs[k] L = false := by
          cases h : equated l vs[k] L with
          | false => rfl
          | true => exact absurd (hin _ h) hm
        rw [he] at e68
        simp [hm]
        refine call_of e68 ?_
        simp
        simp (disch := omega) only [wrap64]
        exact hK3 (k + 1) _ (by simp) (by omega) (by omega)
    · simp [ic2011l1, Nat.not_lt.mpr hge3]
      simp (disch := omega) only [wrap64]
      exact hK2 (j + 1) _ (by simp) (by omega) (by omega)
  · simp [ic2011l2, Nat.not_lt.mpr hge2]
end Go.Proofs.YtiomojlcnemnhaaGreatDoor

import Derived.Test.YtiomojlcnemnhaaDoorTDxJ1
import Derived.Test.YtiomojlcnemnhaaDoorTDxJ8
import Derived.Test.YtiomojlcnemnhaaDoorTDxIc1
import Derived.Test.YtiomojlcnemnhaaDoorTDxW5
import Derived.Test.YtiomojlcnemnhaaDoorTDxCardK
/- What the values of an expression hang on; plain. -/
namespace Go.Proofs.YtiomojlcnemnhaaDoor
open Go.Fx Go.RowKit Go.Ped

theorem mem_tmVars {l : List Tm} {t : Tm} (ht : t ∈ l) (hv : Ped.isVar t.v = true) : t.v ∈ tmVars l := mem_varsOn.2 (.inr ⟨hv, List.mem_map_of_mem ht⟩)
end Go.Proofs.YtiomojlcnemnhaaDoor

/- term.ApplyRule. -/
namespace Go.Proofs.YtiomojlcnemnhaaDoor
open Go.Fx Go.RowKit Go.Ped
variable {G : World → Prop}

theorem putP_pairs : ∀ (s m : List Pr) (v : Name), nextOf (pairsOn m s) v = (nextOf m v).or (if v = [] ∨ v = us then none else nextOf s v)
  | [], m, v => by simp [pairsOn, nextOf]
  | p :: l, m, v => by
    rw [pairsOn, putP_pairs l]
    by_cases h : nextOf m p.v = none ∧ p.v ≠ [] ∧ p.v ≠ us
    · rw [if_pos h]
      have hap : nextOf (m ++ [p]) v = (nextOf m v).or (if p.v == v then some p.t else none) := by
        unfold nextOf
        rw [List.find?_append]
        cases m.find? (·.v == v) <;> simp [List.find?_cons] <;> split <;> simp_all
      rw [hap]
      by_cases e : p.v = v
      · subst e
        simp [h.1, h.2.1, h.2.2, nextOf]
      · have e' : (p.v == v) = false := by simpa using e
        simp [e', nextOf, List.find?_cons]
    · rw [if_neg h]
      by_cases e : p.v = v
      · subst e
        cases hm : nextOf m p.v with
        | some y => simp
        | none =>
          have : p.v = [] ∨ p.v = us := by
            by_cases h0 : p.v = []
            · exact .inl h0
            · by_cases h1 : p.v = us
              · exact .inr h1
              · exact absurd ⟨hm, h0, h1⟩ h
          simp [this]
      · have e' : (p.v == v) = false := by simpa using e
        simp [nextOf, List.find?_cons, e']
/-- The map of pairs says what the document says. -/
theorem putP_eq (s : List Pr) (t : Tm) : putP (pairsOn [] s) t = putS s t := by
  unfold putP putS
  rw [putP_pairs]
  by_cases h : t.v = [] ∨ t.v = us
  · rw [if_pos h, if_pos h]; simp [nextOf]
  · rw [if_neg h, if_neg h]
    simp only [nextOf, List.find?_nil, Option.map_none, Option.none_or]
    cases s.find? (·.v == t.v) <;> rfl
theorem putP_fun (s : List Pr) : putP (pairsOn [] s) = putS s := funext (putP_eq s)

theorem applyR_form (f : Tm → Tm) (r : Rule) : ∃ (cells : List C) (n : Int), applyR f r = .tup [.agg cells, .one (cI .i64 n)] := by
  unfold applyR
  split
  · exact ⟨_, _, rfl⟩
  · exact ⟨_, _, rfl⟩
theorem v138 (m : List Pr) (r : Rule) (hs : r.small 1048576) (hle : r.terms.length ≤ 2000000) : MeetsV Tryd.prog G (fnA 138) [.one (.mapr 8), .agg (r.row.map A.c)] (hp (OP 8 m) [] F0) (applyR (putP m) r).open (hp (OP 8 m) [] F0) := by
  have h0 := MeetsV.of_fun (m138 (G := G) m r hs hle)
  obtain ⟨cells, n, hres⟩ := applyR_form (putP m) r
  rw [hres] at h0 ⊢
  have h := h0.ren (π := swR 10008 8)
  simp [swF, nx_ren2, CR.open, CX.open] at h
  simpa [CR.open, CX.open] using h

theorem m71 (s : List Pr) (ss : Sp) (r : Rule) (hsl : s.length ≤ maxLen) (hs : r.small 1048576) (hle : r.terms.length ≤ 2000000) : Meets Tryd.prog G 71 [.one (.sl (s.map Pr.row) ss), .agg r.row] (applyR (putS s) r) := by
  have h127 := m127 (G := G) s ss hsl
  have h138 := v138 (G := G) (pairsOn [] s) r hs hle
  rw [putP_fun] at h138
  generalize pairsOn [] s = m at *
  have hrow : r.row = [cS (bs r.p), .sl (r.head.map Arg.row) r.hsp, .sl (r.body.map Lit.row) r.bsp] := rfl
  have hres : ∃ a b c n, applyR (putS s) r = .tup [.agg [a, b, c], .one (cI .i64 n)] := by
    unfold applyR
    split
    · exact ⟨_, _, _, _, rfl⟩
    · exact ⟨_, _, _, _, rfl⟩
  obtain ⟨c1, c2, c3, n, hres⟩ := hres
  rw [hrow] at h138 ⊢
  rw [hres] at h138 ⊢
  refine meets Tryd.func71 ie71 ig71 (Nat.le_of_ble_eq_true rfl) ?_
  simp [ic71, ir71]
  refine r_callN [8] _ _ [] [] _ (OP 8 m) [] (MeetsV.of_fun h127) rfl rfl rfl (by simp) (by simp) (by simp) ?_
  simp
  refine r_callN [8] _ _ (OP 8 m) [] _ (OP 8 m) [] h138 rfl rfl rfl (by simp [X.fits, A.fits]) (by simp) (by simp) ?_
  simp [CR.open, CX.open]

/-- Two lists of pairs, one behind the other, as one. -/
def bothS (s t : List Pr) : List Pr := s.map (fun p => ⟨p.v, putS t p.t⟩) ++ t
theorem putS_both (s t : List Pr) (x : Tm) : putS t (putS s x) = putS (bothS s t) x := by
  unfold bothS
  by_cases h : x.v = [] ∨ x.v = us
  · have e : ∀ s : List Pr, putS s x = x := fun s => by unfold putS; rw [if_pos h]
    rw [e s, e t, e]
  · have e : ∀ s : List Pr, putS s x = match s.find? (·.v == x.v) with | some p => p.t | none => x := fun s => by
      unfold putS
      rw [if_neg h]
      cases s.find? (·.v == x.v) <;> rfl
    rw [e s, e (_ ++ t), List.find?_append]
    have hf : (s.map fun p => (⟨p.v, putS t p.t⟩ : Pr)).find? (·.v == x.v) = (s.find? (·.v == x.v)).map fun p => ⟨p.v, putS t p.t⟩ := by
      rw [List.find?_map]; rfl
    rw [hf]
    cases s.find? (·.v == x.v) with
    | some p => rfl
    | none => simp only [Option.map_none, Option.none_or]; exact e t
/-- Pairs for variables that do not stand there do nothing. -/
theorem putS_idle (s : List Pr) (l : List Tm) : l.map (putS (s.filter fun p => !(tmVars l).contains p.v)) = l := by
  have : ∀ x ∈ l, putS (s.filter fun p => !(tmVars l).contains p.v) x = x := fun x hx => by
    unfold putS
    split
    · rfl
    · rename_i h
      cases hf : (s.filter fun p => !(tmVars l).contains p.v).find? (·.v == x.v) with
      | none => rfl
      | some p =>
        have h1 := List.find?_some hf
        have h2 := List.mem_of_find?_eq_some hf
        rw [List.mem_filter] at h2
        have h3 : p.v = x.v := by simpa using h1
        have h4 : x.v ∉ tmVars l := by simpa [h3] using h2.2
        exact absurd (mem_tmVars hx (by simp only [Ped.isVar]; simp only [not_or] at h; simp [h.1, h.2])) h4
  conv => rhs; rw [← List.map_id l]
  exact List.map_congr_left this
theorem Ex.mapT_mapT (f g : Tm → Tm) : ∀ e : Ex, (e.mapT f).mapT g = e.mapT (g ∘ f) := by
  refine Ex.ind fun op t kids sp ih => ?_
  rw [Ex.mapT_mk, Ex.mapT_mk, Ex.mapT_mk, List.map_map]
  congr 1
  exact List.map_congr_left ih
theorem Rule.mapT_mapT (f g : Tm → Tm) (r : Rule) : (r.mapT f).mapT g = r.mapT (g ∘ f) := by
  unfold Rule.mapT
  simp only [List.map_map]
  congr 1
  refine List.map_congr_left fun x _ => ?_
  unfold Lit.mapT
  simp only [Function.comp_apply, List.map_map, Ex.mapT_mapT]
end Go.Proofs.YtiomojlcnemnhaaDoor

/- Contracts, on: is a rule the same as itself, looked at element by element (SameRule, and what it asks). -/
namespace Go.Proofs.YtiomojlcnemnhaaDoor
open Go.Fx Go.RowKit Go.Ped
variable {G : World → Prop}

theorem m225 (kids : List Ex) (sp sq : Sp) (hl : kids.length ≤ 1048576) (he : ∀ k ∈ kids, Meets Tryd.prog G 209 [.agg k.row, .agg k.row] (.x (.one (cB true)))) :
    Meets Tryd.prog G 225 [.one (.sl (kids.map Ex.row) sp), .one (.sl (kids.map Ex.row) sq)] (.x (.one (cB true))) := by
  refine meets Tryd.func225 ie225 ig225 (Nat.le_of_ble_eq_true rfl) ?_
  simp [ic225, ir225]
  refine w_loopA [] [] [0, 1, 5] (by simp)
    (fun i : Nat => st [(0, .k true (.x (.one (.c (.sl (kids.map Ex.row) sp))))), (1, .k true (.x (.one (.c (.sl (kids.map Ex.row) sq))))), (5, tI .i64 i)] [] [] F0) (fun i => kids.length - i) (fun i => i ≤ kids.length) 0 (by simp) (by simp) ?_
  rintro i K hK hi
  obtain hlt | hge := Nat.lt_or_ge i kids.length
  · have hm := he kids[i] (List.getElem_mem hlt)
    have k1 : (kids[i].row.map A.c).take 6 = kids[i].row.map A.c := List.take_of_length_le (by simp)
    simp [ic225l0, hlt, k1]
    refine call_of hm ?_
    simp
    simp (disch := omega) only [wrap64]
    exact hK (i + 1) _ (by simp) (by omega) (by omega)
  · simp [ic225l0, Nat.not_lt.mpr hge]
set_option maxHeartbeats 4000000 in
theorem m209 : ∀ e : Ex, e.small 1048576 → Meets Tryd.prog G 209 [.agg e.row, .agg e.row] (.x (.one (cB true))) := by
  refine Ex.ind fun op t kids sp ih hs => ?_
  obtain ⟨hl, hk⟩ := Ex.small_mk.1 hs
  have h := m225 (G := G) kids sp sp hl (fun k hk' => ih k hk' (hk k hk'))
  refine meets Tryd.func209 ie209 ig209 (Nat.le_of_ble_eq_true rfl) ?_
  rw [Ex.row_mk]
  generalize kids.map Ex.row = rs at *
  simp (config := { maxSteps := 4000000 }) [ic209, ir209]
  refine call_of h ?_
  simp
set_option maxHeartbeats 4000000 in
theorem m187 (x : Lit) (hs : x.small 1048576) : Meets Tryd.prog G 187 [.agg x.row, .agg x.row] (.x (.one (cB true))) := by
  obtain ⟨h1, h2, h3⟩ := hs
  have h55 := m55 (G := G) x.p x.p x.l x.l x.sp x.sp (by unfold maxLen; omega)
  simp only [BEq.rfl, decide_true, Bool.and_true] at h55
  have hl := m209 (G := G) x.left h2
  have hr := m209 (G := G) x.right h3
  refine meets Tryd.func187 ie187 ig187 (Nat.le_of_ble_eq_true rfl) ?_
  unfold Lit.row
  rw [Ex.row_eq] at hl hr ⊢
  rw [Ex.row_eq x.right]
  simp (config := { maxSteps := 4000000 }) [ic187, ir187]
  refine call_of h55 ?_
  simp
  refine call_of hl ?_
  simp
  refine call_of hr ?_
  simp
theorem m140 (l : List Lit) (sp sq : Sp) (hl : l.length ≤ 1048576) (he : ∀ k ∈ l, k.small 1048576) :
    Meets Tryd.prog G 140 [.one (.sl (l.map Lit.row) sp), .one (.sl (l.map Lit.row) sq)] (.x (.one (cB true))) := by
  refine meets Tryd.func140 ie140 ig140 (Nat.le_of_ble_eq_true rfl) ?_
  simp [ic140, ir140]
  refine w_loopA [] [] [0, 1, 5] (by simp)
    (fun i : Nat => st [(0, .k true (.x (.one (.c (.sl (l.map Lit.row) sp))))), (1, .k true (.x (.one (.c (.sl (l.map Lit.row) sq))))), (5, tI .i64 i)] [] [] F0) (fun i => l.length - i) (fun i => i ≤ l.length) 0 (by simp) (by simp) ?_
  rintro i K hK hi
  obtain hlt | hge := Nat.lt_or_ge i l.length
  · have hm := m187 (G := G) l[i] (he _ (List.getElem_mem hlt))
    have k1 : (l[i].row.map A.c).take 16 = l[i].row.map A.c := List.take_of_length_le (by simp)
    simp [ic140l0, hlt, k1]
    refine call_of hm ?_
    simp
    simp (disch := omega) only [wrap64]
    exact hK (i + 1) _ (by simp) (by omega) (by omega)
  · simp [ic140l0, Nat.not_lt.mpr hge]
theorem m72 (r : Rule) (hs : r.small 1048576) : Meets Tryd.prog G 72 [.agg r.row, .agg r.row] (.x (.one (cB true))) := by
  have h1 := m139' (G := G) r.head r.hsp r.hsp (by have := hs.1; unfold maxLen; omega)
  have h2 := m140 (G := G) r.body r.bsp r.bsp hs.2.1 hs.2.2
  refine meets Tryd.func72 ie72 ig72 (Nat.le_of_ble_eq_true rfl) ?_
  unfold Rule.row
  simp [ic72, ir72]
  refine call_of h1 ?_
  simp
  refine call_of h2 ?_
  simp
end Go.Proofs.YtiomojlcnemnhaaDoor

/- The law TermTwice. -/
namespace Go.Proofs.YtiomojlcnemnhaaDoor
open Go.Fx Go.RowKit Go.Ped
variable {G : World → Prop}

/-- What lies in a Case. -/
structure Cas where
  r : Rule
  r2 : Rule
  pa : Name
  la : List Tm
  sa : Sp
  pb : Name
  lb : List Tm
  sb : Sp
  s : List Pr
  ss : Sp
  t : List Pr
  st : Sp
  pf : Name
  lf : List Val
  sf : Sp
def Cas.row (c : Cas) : List C := c.r.row ++ c.r2.row ++ [cS (bs c.pa), .sl (c.la.map Tm.row) c.sa, cS (bs c.pb), .sl (c.lb.map Tm.row) c.sb, .sl (c.s.map Pr.row) c.ss, .sl (c.t.map Pr.row) c.st, cS (bs c.pf), .sl (c.lf.map Val.row) c.sf]

theorem m54s (s : List Pr) (ss : Sp) (p : Name) (ts : List Tm) (sp : Sp) (hs : s.length ≤ maxLen) (ht : ts.length ≤ 1048576) :
    Meets Tryd.prog G 54 [.one (.sl (s.map Pr.row) ss), .agg [cS (bs p), .sl (ts.map Tm.row) sp]] (.x (.agg [cS (bs p), .sl ((ts.map (putS s)).map Tm.row) []])) := by
  have h := m54 (G := G) s ss p ts sp hs ht
  rw [putP_fun] at h
  exact h
def idleS (la : List Tm) (s : List Pr) : List Pr := s.filter fun p => !(tmVars la).contains p.v
theorem idleS_snoc (la : List Tm) (s : List Pr) (p : Pr) : idleS la (s ++ [p]) = idleS la s ++ if (tmVars la).contains p.v = true then [] else [p] := by
  unfold idleS
  rw [List.filter_append]
  congr 1
  by_cases h : (tmVars la).contains p.v = true
  · rw [if_pos h, List.filter_cons, h]; rfl
  · rw [if_neg h, List.filter_cons]; simp only [Bool.not_eq_true] at h; rw [h]; rfl
theorem idleS_len (la : List Tm) (s : List Pr) : (idleS la s).length ≤ s.length := List.length_filter_le ..

set_option maxHeartbeats 4000000 in
theorem m13 (c : Cas) (hs : c.r.small 1048576) (hle : c.r.terms.length ≤ 1048576) (hla : c.la.length ≤ 1048576) (hsl : c.s.length + c.t.length ≤ 1048576) : Meets Tryd.prog GK 13 [.agg c.row] (.x (.one (cB true))) := by
  obtain ⟨r, r2, pa, la, sa, pb, lb, sb, s, ss, t, st', pf, lf, sf⟩ := c
  simp only at hs hle hla hsl
  have hvl : (tmVars la).length ≤ la.length := by
    have h2 := varsOn_length (la.map Tm.v) []
    simp only [List.length_nil, List.length_map, Nat.zero_add] at h2
    exact h2
  have h62 := m62 (G := GK) r hs
  generalize decide (ruleParts r 1048576 > 1048576) = big at h62
  have hr : r.row = [cS (bs r.p), .sl (r.head.map Arg.row) r.hsp, .sl (r.body.map Lit.row) r.bsp] := rfl
  have hr2 : r2.row = [cS (bs r2.p), .sl (r2.head.map Arg.row) r2.hsp, .sl (r2.body.map Lit.row) r2.bsp] := rfl
  have hrow : Cas.row ⟨r, r2, pa, la, sa, pb, lb, sb, s, ss, t, st', pf, lf, sf⟩ = [cS (bs r.p), .sl (r.head.map Arg.row) r.hsp, .sl (r.body.map Lit.row) r.bsp, cS (bs r2.p), .sl (r2.head.map Arg.row) r2.hsp, .sl (r2.body.map Lit.row) r2.bsp, cS (bs pa), .sl (la.map Tm.row) sa, cS (bs pb), .sl (lb.map Tm.row) sb, .sl (s.map Pr.row) ss, .sl (t.map Pr.row) st', cS (bs pf), .sl (lf.map Val.row) sf] := rfl
  rw [hrow]
  rw [hr] at h62
  refine meets Tryd.func13 ie13 ig13 (Nat.le_of_ble_eq_true rfl) ?_
  simp [ic13, ir13, freeze_st, fzL, freezeO, maxLen, closeL, A.close]
  refine call_of h62 ?_
  cases big with
  | true => simp
  | false =>
  simp
  refine call_of m19 ?_
  simp
  refine w_loopA [.t 300 7 65 5, .t 301 8 65 5] [10, 41, 59, 60, 75, 76] [3, 4, 5, 6, 7, 8, 9] (by simp [ownKey])
    (fun z : Nat × List (List C) × List (List C) => st [(3, .k true (.x (.one (.c (.sl (s.map Pr.row) ss))))), (4, .k true (.x (.one (.c (.sl (t.map Pr.row) st'))))), (5, .k true (.x (.one (.ref 5 0 0)))), (6, .k true (.x (.one (.ref 6 0 0)))), (7, .k true (.x (.one (.own 300 z.2.1)))), (8, .k true (.x (.one (.own 301 z.2.2)))), (9, tI .i64 z.1)]
      [(6, ⟨96, 3, [[.c (cS (bs r.p)), .c (.sl (r.head.map Arg.row) r.hsp), .c (.sl (r.body.map Lit.row) r.bsp)]], none⟩), (5, ⟨24, 2, [[.c (cS (bs pa)), .c (.sl (la.map Tm.row) sa)]], none⟩)] [(301, ⟨65, 5, z.2.2.length⟩), (300, ⟨65, 5, z.2.1.length⟩)] F0) (fun z => s.length - z.1)
    (fun z => z.1 ≤ s.length ∧ z.2.1 = ((s.take z.1).map fun p => (⟨p.v, putS t p.t⟩ : Pr)).map Pr.row ∧ z.2.2 = (idleS la (s.take z.1)).map Pr.row) (0, [], []) (by simp; try rfl) (by simp [idleS]) ?_
  rintro ⟨i, E, D⟩ K hK ⟨hi, hE, hD⟩
  simp only at hi hE hD
  have hEl : E.length = i := by rw [hE]; simp; omega
  have hDl : D.length ≤ i := by
    have := idleS_len la (s.take i)
    rw [hD, List.length_map]
    rw [List.length_take] at this
    omega
  obtain hlt | hge := Nat.lt_or_ge i s.length
  · have hr : s[i].row = [cS (bs s[i].v), cS (bs s[i].t.v), cI .i8 s[i].t.x.k, cI .i64 s[i].t.x.n, cS (bs s[i].t.x.s)] := rfl
    have h54 := m54s (G := GK) t st' [112] [s[i].t] [] (by unfold maxLen; omega) (by simp)
    simp only [List.map_cons, List.map_nil, Tm.row] at h54
    have hn1 : ((s.take (i + 1)).map fun p => (⟨p.v, putS t p.t⟩ : Pr)).map Pr.row = E ++ [[cS (bs s[i].v), cS (bs (putS t s[i].t).v), cI .i8 (putS t s[i].t).x.k, cI .i64 (putS t s[i].t).x.n, cS (bs (putS t s[i].t).x.s)]] := by
      rw [List.take_succ_eq_append_getElem hlt, List.map_append, List.map_append, ← hE]; rfl
    generalize putS t s[i].t = y at h54 hn1
    have hn2 := idleS_snoc la (s.take i) s[i]
    rw [← List.take_succ_eq_append_getElem hlt] at hn2
    have h47 := m47 (G := GK) pa la sa hla
    have h30 := m30 (G := GK) s[i].v (tmVars la) [] (by unfold maxLen; omega)
    simp [ic13l0, hlt, hr]
    refine call_of h54 ?_
    simp [hlt, hr]
    refine ⟨by unfold maxLen; omega, by unfold maxBytes; omega, ?_⟩
    refine call_of h47 ?_
    simp
    refine call_of h30 ?_
    by_cases hin : s[i].v ∈ tmVars la
    · rw [if_pos (by simpa using hin), List.append_nil] at hn2
      simp [hin]
      simp (disch := omega) only [wrap64]
      refine hK (i + 1, _, D) _ (by simp; try rfl) ⟨by simp only; omega, hn1.symm, by simp only; rw [hn2]; exact hD⟩ (by simp only; omega)
    · rw [if_neg (by simpa using hin)] at hn2
      simp [hin, hlt, hr]
      refine ⟨by unfold maxLen; omega, by unfold maxBytes; omega, ?_⟩
      simp (disch := omega) only [wrap64]
      refine hK (i + 1, _, D ++ [[cS (bs s[i].v), cS (bs s[i].t.v), cI .i8 s[i].t.x.k, cI .i64 s[i].t.x.n, cS (bs s[i].t.x.s)]]) _ (by simp; try rfl) ⟨by simp only; omega, hn1.symm, by simp only; rw [hn2, List.map_append, ← hD]; rfl⟩ (by simp only; omega)
  · have hi2 : i = s.length := by omega
    subst hi2
    rw [List.take_length] at hE hD
    have hEl2 : (E ++ t.map Pr.row) = (bothS s t).map Pr.row := by rw [hE, bothS, List.map_append]
    have hbl : (bothS s t).length ≤ 1048576 := by unfold bothS; rw [List.length_append, List.length_map]; exact hsl
    have hil : (idleS la s).length ≤ 1048576 := by have := idleS_len la s; omega
    have a1 := m54s (G := GK) s ss pa la sa (by unfold maxLen; omega) hla
    have a2 := m54s (G := GK) t st' pa (la.map (putS s)) [] (by unfold maxLen; omega) (by rw [List.length_map]; exact hla)
    have a3 := m54s (G := GK) (bothS s t) [] pa la sa (by unfold maxLen; omega) hla
    have e1 : (la.map (putS s)).map (putS t) = la.map (putS (bothS s t)) := by
      rw [List.map_map]
      exact List.map_congr_left fun x _ => putS_both s t x
    rw [e1] at a2
    have a4 := m54s (G := GK) (idleS la s) [] pa la sa (by unfold maxLen; omega) hla
    rw [show la.map (putS (idleS la s)) = la from putS_idle s la] at a4
    have b1 := m55 (G := GK) pa pa (la.map (putS (bothS s t))) (la.map (putS (bothS s t))) [] [] (by rw [List.length_map]; unfold maxLen; omega)
    have b2 := m55 (G := GK) pa pa la la [] sa (by unfold maxLen; omega)
    simp only [BEq.rfl, decide_true, Bool.and_true] at b1 b2
    generalize la.map (putS s) = la1 at a1 a2
    generalize la.map (putS (bothS s t)) = la2 at a2 a3 b1
    simp [ic13l0]
    refine ⟨by unfold maxLen; omega, by unfold maxBytes; omega, ?_⟩
    rw [hEl2, hD]
    generalize idleS la s = idl at *
    have c1 := m71 (G := GK) s ss r (by unfold maxLen; omega) hs (by omega)
    have c3 := m71 (G := GK) (bothS s t) [] r (by unfold maxLen; omega) hs (by omega)
    have hcomp : putS t ∘ putS s = putS (bothS s t) := funext fun x => putS_both s t x
    generalize bothS s t = bt at *
    refine call_of a1 ?_
    simp
    refine call_of a2 ?_
    simp
    refine call_of a3 ?_
    simp
    refine call_of b1 ?_
    simp
    refine call_of a4 ?_
    simp
    refine call_of b2 ?_
    simp
    unfold applyR at c1 c3
    by_cases hok : ruleOk r = true ∧ ruleOk (r.mapT (putS s)) = true
    · rw [if_pos hok] at c1
      have c2 := m71 (G := GK) t st' (r.mapT (putS s)) (by unfold maxLen; omega) (Rule.mapT_small _ hs) (by rw [Rule.mapT_terms, List.length_map]; omega)
      unfold applyR at c2
      rw [Rule.mapT_mapT, hcomp] at c2
      have hz : Meets Tryd.prog GK 72 [.agg zeroRule, .agg zeroRule] (.x (.one (cB true))) := m72 (G := GK) ⟨[], [], [], [], []⟩ ⟨by simp, by simp, by simp⟩
      have hx1 : (r.mapT (putS s)).row = [cS (bs (r.mapT (putS s)).p), .sl ((r.mapT (putS s)).head.map Arg.row) (r.mapT (putS s)).hsp, .sl ((r.mapT (putS s)).body.map Lit.row) (r.mapT (putS s)).bsp] := rfl
      have d1 := m72 (G := GK) (r.mapT (putS bt)) (Rule.mapT_small _ hs)
      have d2 := m67 (G := GK) (r.mapT (putS bt)) (Rule.mapT_small _ hs) (by rw [Rule.mapT_terms, List.length_map]; omega)
      have hx2 : (r.mapT (putS bt)).row = [cS (bs (r.mapT (putS bt)).p), .sl ((r.mapT (putS bt)).head.map Arg.row) (r.mapT (putS bt)).hsp, .sl ((r.mapT (putS bt)).body.map Lit.row) (r.mapT (putS bt)).bsp] := rfl
      rw [hx1] at c1 c2
      rw [hx2] at c2 c3 d1 d2
      rw [hr] at c1 c3
      generalize (r.mapT (putS s)).p = n1 at *
      generalize (r.mapT (putS s)).head.map Arg.row = n2 at *
      generalize (r.mapT (putS s)).hsp = n3 at *
      generalize (r.mapT (putS s)).body.map Lit.row = n4 at *
      generalize (r.mapT (putS s)).bsp = n5 at *
      generalize (r.mapT (putS bt)).p = o1 at *
      generalize (r.mapT (putS bt)).head.map Arg.row = o2 at *
      generalize (r.mapT (putS bt)).hsp = o3 at *
      generalize (r.mapT (putS bt)).body.map Lit.row = o4 at *
      generalize (r.mapT (putS bt)).bsp = o5 at *
      refine call_of c1 ?_
      simp
      by_cases hok2 : ruleOk (r.mapT (putS bt)) = true
      · rw [if_pos ⟨hok.2, hok2⟩] at c2
        rw [if_pos ⟨hok.1, hok2⟩] at c3
        rw [if_pos hok2] at d2
        refine call_of c2 ?_
        simp
        refine call_of c3 ?_
        simp
        refine call_of d1 ?_
        simp
        refine call_of d2 ?_
        simp
      · rw [if_neg fun h => hok2 h.2] at c2 c3
        refine call_of c2 ?_
        simp
        refine call_of c3 ?_
        simp
        refine call_of hz ?_
        simp
        refine call_no (.x (.one (cI .i64 0))) ?_
        simp
    · rw [if_neg hok] at c1
      rw [hr] at c1
      refine call_of c1 ?_
      simp
end Go.Proofs.YtiomojlcnemnhaaDoor

/- What the row of TermTwice opens: a Case. -/
namespace Go.Proofs.YtiomojlcnemnhaaDoor
open Go.Fx Go.RowKit Go.Ped

theorem ty_pr {cs : List C} (h : Typed Tryd.prog 65 cs) : ∃ p : Pr, cs = p.row := by
  obtain ⟨a, r, rfl, ha, b, r', rfl, hb, hr⟩ := h.asStruct Tryd.underlying65
  cases hr
  obtain ⟨v, rfl⟩ := ty_str ha
  obtain ⟨t, rfl⟩ := ty_tm hb
  exact ⟨⟨v, t⟩, rfl⟩
theorem ty_prs {cs : List C} (h : Typed Tryd.prog 58 cs) : ∃ (l : List Pr) (sp : Sp), cs = [.sl (l.map Pr.row) sp] := by
  obtain ⟨es, sp, rfl, hes, _⟩ := h.asSlice Tryd.underlying58
  obtain ⟨l, rfl⟩ := list_of (row := Pr.row) (es := es) fun x hx => ty_pr (hes x (List.mem_append_left _ hx))
  exact ⟨l, sp, rfl⟩
theorem ty_case {cs : List C} (h : Typed Tryd.prog 105 cs) : ∃ c : Cas, cs = c.row := by
  obtain ⟨a, r1, rfl, ha, b, r2, rfl, hb, c, r3, rfl, hc, d, r4, rfl, hd, e, r5, rfl, he, f, r6, rfl, hf, g, r7, rfl, hg, hr⟩ := h.asStruct Tryd.underlying105
  cases hr
  obtain ⟨x, rfl⟩ := ty_rule ha
  obtain ⟨x2, rfl⟩ := ty_rule hb
  obtain ⟨pa, la, sa, rfl⟩ := ty_atom hc
  obtain ⟨pb, lb, sb, rfl⟩ := ty_atom hd
  obtain ⟨s, ss, rfl⟩ := ty_prs he
  obtain ⟨t, st, rfl⟩ := ty_prs hf
  obtain ⟨pf, lf, sf, rfl⟩ := ty_fact hg
  exact ⟨⟨x, x2, pa, la, sa, pb, lb, sb, s, ss, t, st, pf, lf, sf⟩, by simp [Cas.row]⟩
theorem pr_bulk (p : Pr) : 1 ≤ rowBulk p.row := by simp only [Pr.row, rowBulk, C.bulk]; omega
theorem case_bulk (c : Cas) : rowBulk c.r.row + rowsBulk (c.la.map Tm.row) + rowsBulk (c.s.map Pr.row) + rowsBulk (c.t.map Pr.row) ≤ rowBulk c.row := by
  have hr : c.r.row = [cS (bs c.r.p), .sl (c.r.head.map Arg.row) c.r.hsp, .sl (c.r.body.map Lit.row) c.r.bsp] := rfl
  have hr2 : c.r2.row = [cS (bs c.r2.p), .sl (c.r2.head.map Arg.row) c.r2.hsp, .sl (c.r2.body.map Lit.row) c.r2.bsp] := rfl
  unfold Cas.row
  rw [hr, hr2]
  simp only [List.cons_append, List.nil_append, rowBulk, C.bulk]
  omega
end Go.Proofs.YtiomojlcnemnhaaDoor

/- Contracts of CheckOneWay, on: do all equations hold; what they make of the variables. (Seat ZD.) -/
import Derived.Test.YtiomojlcnemnhaaGreatDoorWGxP2
namespace Go.Proofs.YtiomojlcnemnhaaGreatDoor
open Go.Fx Go.RowKit Go.Ped
variable {G : World → Prop}

theorem m122p (l : List Lit) (sp : Sp) (hs : ∀ x ∈ l, x.small 1048576) (hl : l.length ≤ 1048576) (hb : (l.map fun x => x.l.length).sum ≤ 50000000) :
    Meets Tryz.prog G 65 [.one (.sl (l.map Lit.row) sp)] (.x (.one (.sl ((atomsOn [] l).map nmRow) []))) := by
  refine meets Tryz.func65 ie122 ig122 (Nat.le_of_ble_eq_true rfl) ?_
  generalize hR : atomsOn [] l = R
  simp [ic122, ir122]
  refine w_loopA [.t 44 3 9 1] [43] [0, 3, 4] (by simp [ownKey]) (fun a : Nat × List Name => st [(0, .k true (.x (.one (.c (.sl (l.map Lit.row) sp))))), (3, .k true (.x (.one (.own 44 (a.2.map nmRow))))), (4, tI .i64 a.1)] [] [(44, ⟨9, 1, a.2.length⟩)] F0) (fun a => l.length - a.1)
    (fun a => a.1 ≤ l.length ∧ R = atomsOn a.2 (l.drop a.1) ∧ a.2.length + ((l.drop a.1).map fun x => x.l.length).sum ≤ 50000000) (0, []) (by simp) (by simp; exact ⟨hR.symm, hb⟩) ?_
  rintro ⟨i, f⟩ K hK ⟨hi, hd, hf⟩
  simp only at hi hd hf
  obtain hlt | hge := Nat.lt_or_ge i l.length
  · rw [List.drop_eq_getElem_cons hlt] at hd hf
    simp only [atomsOn, List.map_cons, List.sum_cons] at hd hf
    have hx := hs l[i] (List.getElem_mem hlt)
    by_cases hk : l[i].kind = 1
    · rw [if_pos hk] at hd
      simp [ic122l1, hlt, hk]
      refine call_of (m47 l[i].p l[i].l l[i].sp hx.1) ?_
      simp
      have hv2 := tmVars_len l[i].l
      have hv3 := hx.1
      generalize hvs : tmVars l[i].l = vs at *
      refine w_loopA [] [43] [0, 3, 4, 5, 6] (by simp [ownKey]) (fun a : Nat × List Name => st [(0, .k true (.x (.one (.c (.sl (l.map Lit.row) sp))))), (3, .k true (.x (.one (.own 44 (a.2.map nmRow))))), (4, tI .i64 i), (5, .k true (.x (.one (.c (.sl (vs.map nmRow) []))))), (6, tI .i64 a.1)] [] [(44, ⟨9, 1, a.2.length⟩)] F0) (fun a => vs.length - a.1)
        (fun a => a.1 ≤ vs.length ∧ addAll f vs = addAll a.2 (vs.drop a.1) ∧ a.2.length ≤ f.length + a.1) (0, f) (by simp) (by simp) ?_
      rintro ⟨j, g⟩ K2 hK2 ⟨hj, hd2, hg⟩
      simp only at hj hd2 hg
      obtain hlt2 | hge2 := Nat.lt_or_ge j vs.length
      · rw [List.drop_eq_getElem_cons hlt2, addAll] at hd2
        simp [ic122l0, hlt2]
        refine call_of (m30 vs[j] g [] (by unfold maxLen; omega)) ?_
        simp
        refine condI_of (fun h => ?_) (fun h => ?_)
        · have hn : vs[j] ∉ g := by simpa using h
          simp [hlt2]
          refine ⟨by unfold maxLen; omega, by unfold maxBytes; omega, ?_⟩
          try simp (disch := omega) only [wrap64]
          exact hK2 (j + 1, g ++ [vs[j]]) _ (by simp) ⟨by simp; omega, by simpa [hn] using hd2, by simp; omega⟩ (by simp; omega)
        · have hn : vs[j] ∈ g := by simpa using h
          simp
          try simp (disch := omega) only [wrap64]
          exact hK2 (j + 1, g) _ (by simp) ⟨by simp; omega, by simpa [hn] using hd2, by simp; omega⟩ (by simp; omega)
      · rw [List.drop_eq_nil_of_le hge2, addAll] at hd2
        simp [ic122l0, Nat.not_lt.mpr hge2]
        try simp (disch := omega) only [wrap64]
        exact hK (i + 1, g) _ (by simp) ⟨by simp; omega, by simp only; rw [hd, hd2], by simp only; omega⟩ (by simp; omega)
    · rw [if_neg hk] at hd
      simp [ic122l1, hlt, hk]
      try simp (disch := omega) only [wrap64]
      exact hK (i + 1, f) _ (by simp) ⟨by simp; omega, hd, by simp only; omega⟩ (by simp; omega)
  · rw [List.drop_eq_nil_of_le hge, atomsOn] at hd
    simp [ic122l1, Nat.not_lt.mpr hge, hd]
theorem m26E (e : Ex) (L : List Tm) (sp : Sp) (hs : e.small 1048576) (hL : L.length ≤ 1048576) : Meets Tryz.prog GK 139 [.agg e.row, .one (.sl (L.map Tm.row) sp)] (optR (evalE L e)) := m26 e L sp hs hL
/-- What is limited stands in the rule. -/
theorem limits_sub (r : Rule) : ∀ v ∈ limitsOf r.body, v ∈ tmVars r.terms := by
  have hin : ∀ x ∈ r.body, ∀ t ∈ x.terms, t ∈ r.terms := fun x hx t ht => List.mem_append_right _ (List.mem_flatMap.2 ⟨x, hx, ht⟩)
  refine (limits_spec r.body).2.2.1 (· ∈ tmVars r.terms) (fun q hq => ?_) fun v hv => ?_
  · obtain ⟨x, hx, he, rfl⟩ := mem_eqsOf.1 hq
    have key : ∀ e : Ex, (∀ t ∈ e.terms, t ∈ x.terms) → loneOf e ≠ [] → loneOf e ∈ tmVars r.terms := fun e h h0 => by
      obtain ⟨_, _, t, ht, hv, hi⟩ := lone_val (m := []) (e := e) rfl h0
      rw [← hv]
      exact mem_tmVars (hin x hx t (h t ht)) hi
    exact ⟨fun h _ => key x.left (fun t ht => List.mem_append_left _ (List.mem_append_right _ ht)) h, fun h _ => key x.right (fun t ht => List.mem_append_right _ ht) h⟩
  · rcases mem_atomsOn.1 hv with hv | ⟨x, hx, _, hv⟩
    · cases hv
    · rcases mem_varsOn.1 hv with h | ⟨h1, h2⟩
      · cases h
      · obtain ⟨t, ht, rfl⟩ := List.mem_map.1 h2
        exact mem_tmVars (hin x hx t (List.mem_append_left _ (List.mem_append_left _ ht))) h1
theorem limits_ne (r : Rule) : ∀ v ∈ limitsOf r.body, v ≠ [] := fun v hv e => by
  rcases mem_varsOn.1 (limits_sub r v hv) with h | ⟨h1, _⟩
  · cases h
  · rw [e] at h1; simp [Ped.isVar] at h1
theorem limits_few (r : Rule) : (limitsOf r.body).length ≤ r.terms.length := Nat.le_trans (nodup_len (limits_spec r.body).2.2.2 (limits_sub r)) (tmVars_len r.terms)
theorem solve_len (B : List Lit) (A : List Name) (l : List Tm) : ∀ (V : List Name) (out : List Tm), (V.foldl (solveS B A l) out).length ≤ out.length + V.length
  | [], out => Nat.le_refl _
  | v :: V, out => by
    rw [List.foldl_cons]
    refine Nat.le_trans (solve_len B A l V _) ?_
    have : (solveS B A l out v).length ≤ out.length + 1 := by
      unfold solveS
      split
      · simp
      · split
        · simp
        · omega
    simp only [List.length_cons]
    omega
theorem solved_len (r : Rule) (l : List Tm) : (solvedOf r.body l).length ≤ r.terms.length := by
  have := solve_len r.body (atomsOn [] r.body) l (limitsOf r.body) []
  have h := limits_few r
  simp only [List.length_nil, Nat.zero_add] at this
  exact Nat.le_trans this h

theorem m2071 (B : List Lit) (sp : Sp) (L : List Tm) (sq : Sp) (hs : ∀ x ∈ B, x.small 1048576) (hB : B.length ≤ 1048576) (hL : L.length ≤ 1048576) : Meets Tryz.prog GK 71 [.one (.sl (B.map Lit.row) sp), .one (.sl (L.map Tm.row) sq)] (.x (.one (cB (equalOf L B)))) := by
  refine meets Tryz.func71 ie2071 ig2071 (Nat.le_of_ble_eq_true rfl) ?_
  generalize hR : equalOf L B = R
  unfold equalOf at hR
  simp [ic2071, ir2071]
  refine w_loopA [] [6, 8] [0, 1, 5] (by simp [ownKey])
    (fun i : Nat => st [(0, .k true (.x (.one (.c (.sl (B.map Lit.row) sp))))), (1, .k true (.x (.one (.c (.sl (L.map Tm.row) sq))))), (5, tI .i64 i)] [] [] F0) (fun i => B.length - i)
    (fun i => i ≤ B.length ∧ R = (B.drop i).all fun x => !isEqn x || holdsQ L x) 0 (by simp) (by simp [hR]) ?_
  rintro i K hK ⟨hi, hd⟩
  obtain hlt | hge := Nat.lt_or_ge i B.length
  · rw [List.drop_eq_getElem_cons hlt, List.all_cons] at hd
    have hx := hs B[i] (List.getElem_mem hlt)
    have h1 := m26E B[i].left L sq hx.2.1 hL
    have h2 := m26E B[i].right L sq hx.2.2 hL
    have hq : holdsQ L B[i] = match evalE L B[i].left, evalE L B[i].right with | some a, some b => same a b | _, _ => false := rfl
    generalize evalE L B[i].left = a at *
    generalize evalE L B[i].right = b at *
    simp [ic2071l0, hlt]
    refine condI_of (fun h => ?_) (fun h => ?_)
    · have hn : isEqn B[i] = false := by
        simp only [isEqn]
        revert h
        cases B[i].kind == 3 <;> cases B[i].rel == 1 <;> simp
      simp
      try simp (disch := omega) only [wrap64]
      exact hK (i + 1) _ (by simp) ⟨by omega, by rw [hd]; simp [hn]⟩ (by omega)
    · have hn : isEqn B[i] = true := by
        simp only [isEqn]
        revert h
        cases B[i].kind == 3 <;> cases B[i].rel == 1 <;> simp
      rw [hn, Bool.not_true, Bool.false_or] at hd
      cases a with
      | none =>
        simp only [optR, Option.getD_none, Option.isSome_none, zeroV, Val.row] at h1
        have hf : R = false := by rw [hd, hq]; rfl
        cases b with
        | none =>
          simp only [optR, Option.getD_none, Option.isSome_none, zeroV, Val.row] at h2
          simp [hlt]
          refine call_of h1 ?_
          simp [hlt]
          refine call_of h2 ?_
          simp
          refine call_no (.x (.one (cB false))) ?_
          simp [hf]
        | some b =>
          simp only [optR, Option.getD_some, Option.isSome_some, Val.row] at h2
          simp [hlt]
          refine call_of h1 ?_
          simp [hlt]
          refine call_of h2 ?_
          simp
          refine call_no (.x (.one (cB false))) ?_
          simp [hf]
      | some a =>
        simp only [optR, Option.getD_some, Option.isSome_some, Val.row] at h1
        cases b with
        | none =>
          simp only [optR, Option.getD_none, Option.isSome_none, zeroV, Val.row] at h2
          have hf : R = false := by rw [hd, hq]; rfl
          simp [hlt]
          refine call_of h1 ?_
          simp [hlt]
          refine call_of h2 ?_
          simp
          refine call_no (.x (.one (cB false))) ?_
          simp [hf]
        | some b =>
          simp only [optR, Option.getD_some, Option.isSome_some, Val.row] at h2
          have h3 := m2168 (G := GK) a b
          simp only [Val.row] at h3
          rw [hq] at hd
          simp only at hd
          generalize same a b = q at *
          simp [hlt]
          refine call_of h1 ?_
          simp [hlt]
          refine call_of h2 ?_
          simp
          refine call_i (fun _ => h3) ?_
          simp
          cases q
          · simp [hd]
          · simp
            try simp (disch := omega) only [wrap64]
            exact hK (i + 1) _ (by simp) ⟨by omega, by rw [hd]; simp⟩ (by omega)
  · rw [List.drop_eq_nil_of_le hge] at hd
    simp [ic2071l0, Nat.not_lt.mpr hge, hd]

set_option maxHeartbeats 4000000 in
theorem m2070 (r : Rule) (l : List Tm) (sq : Sp) (hr : r.fit) (hl : l.length ≤ 1048576) : Meets Tryz.prog GK 70 [.agg r.row, .one (.sl (l.map Tm.row) sq)] (.x (.one (.sl ((solvedOf r.body l).map Tm.row) []))) := by
  obtain ⟨hs, hf, ht, hb⟩ := hr
  have hs' : ∀ x ∈ r.body, x.small 1048576 := fun x hx => (hf x hx).1
  have hvl := Nat.le_trans (limits_few r) ht
  have h50 := m50 (G := GK) r.body r.bsp hf hs.2.1 hb
  have h122 := m122p (G := GK) r.body r.bsp hs' hs.2.1 (by omega)
  have hAl : (atomsOn [] r.body).length ≤ maxLen := by
    have h2 := atomsOn_len r.body []
    simp only [List.length_nil] at h2
    unfold maxLen; omega
  have h89 := m89 (G := GK) 0
  refine meets Tryz.func70 ie2070 ig2070 (Nat.le_of_ble_eq_true rfl) ?_
  generalize hR : solvedOf r.body l = R
  unfold solvedOf at hR
  have hne := limits_ne r
  generalize limitsOf r.body = V at *
  generalize hA : atomsOn [] r.body = A at *
  obtain ⟨pn, hd0, hsp, B, bsp⟩ := r
  simp only at h50 h122 hs hs' hf hb hR hA
  obtain ⟨_, hB, _⟩ := hs
  replace hB : B.length ≤ 1048576 := hB
  simp [ic2070, ir2070, Rule.row]
  refine call_of h50 ?_
  simp
  refine w_loopA [.t 300 5 210 4] [8, 13, 17, 55, 118, 158] [1, 2, 5, 6, 7] (by simp [ownKey])
    (fun z : Nat × List Tm => st [(1, .k true (.x (.one (.c (.sl (l.map Tm.row) sq))))), (2, .k true (.x (.one (.ref 2 0 0)))), (5, .k true (.x (.one (.own 300 (z.2.map Tm.row))))), (6, .k true (.x (.one (.c (.sl (V.map nmRow) []))))), (7, tI .i64 z.1)]
      [(2, ⟨29, 3, [[.c (cS (bs pn)), .c (.sl (hd0.map Arg.row) hsp), .c (.sl (B.map Lit.row) bsp)]], none⟩)] [(300, ⟨210, 4, z.2.length⟩)] F0) (fun z => V.length - z.1)
    (fun z => z.1 ≤ V.length ∧ z.2.length ≤ z.1 ∧ R = (V.drop z.1).foldl (solveS B A l) z.2) (0, []) (by simp) (by simp [hR]) ?_
  rintro ⟨i, out⟩ K hK ⟨hi, hol, hd⟩
  simp only at hi hol hd
  obtain hlt | hge := Nat.lt_or_ge i V.length
  · rw [List.drop_eq_getElem_cons hlt, List.foldl_cons] at hd
    have hv0 := hne V[i] (List.getElem_mem hlt)
    have h30 := m30 (G := GK) V[i] A [] hAl
    have h72 := m2072 (G := GK) l sq V[i] (by unfold maxLen; omega)
    have hbk := bound_bok (l := l) hv0
    generalize boundOf l ⟨V[i], zeroV⟩ = Q at *
    have hst : solveS B A l out V[i] = if A.contains V[i] then out ++ [⟨V[i], (bokOf l V[i]).getD num0⟩] else match pickE out V[i] B with | some x => out ++ [⟨V[i], x⟩] | none => out := rfl
    rw [hst] at hd
    clear hst
    simp [ic2070l1, hlt]
    refine call_of h122 ?_
    simp
    refine call_of h30 ?_
    simp
    by_cases hA2 : A.contains V[i] = true
    · rw [if_pos hA2, hbk] at hd
      have hA2' : V[i] ∈ A := by simpa using hA2
      obtain ⟨⟨qk, qn, qs⟩, qo⟩ := Q
      simp [hA2', hlt]
      refine call_of h72 ?_
      cases qo with
      | true =>
        simp [Val.row, hlt]
        refine ⟨by unfold maxLen; omega, by unfold maxBytes; omega, ?_⟩
        try simp (disch := omega) only [wrap64]
        exact hK (i + 1, out ++ [⟨V[i], ⟨qk, qn, qs⟩⟩]) _ (by simp [Tm.row]) ⟨by simp only; omega, by simp; omega, by simpa using hd⟩ (by simp only; omega)
      | false =>
        simp [Val.row]
        refine call_of h89 ?_
        simp [hlt]
        refine ⟨by unfold maxLen; omega, by unfold maxBytes; omega, ?_⟩
        try simp (disch := omega) only [wrap64]
        exact hK (i + 1, out ++ [⟨V[i], num0⟩]) _ (by simp [Tm.row, num0]) ⟨by simp only; omega, by simp; omega, by simpa using hd⟩ (by simp only; omega)
    · rw [if_neg hA2] at hd
      have hA2' : V[i] ∉ A := by simpa using hA2
      simp [hA2']
      generalize hvi : V[i] = v at *
      refine w_loopA [] [8, 13, 17, 55, 118, 158] [1, 2, 5, 6, 7, 10] (by simp [ownKey])
        (fun k : Nat => st [(1, .k true (.x (.one (.c (.sl (l.map Tm.row) sq))))), (2, .k true (.x (.one (.ref 2 0 0)))), (5, .k true (.x (.one (.own 300 (out.map Tm.row))))), (6, .k true (.x (.one (.c (.sl (V.map nmRow) []))))), (7, tI .i64 i), (10, tI .i64 k)]
          [(2, ⟨29, 3, [[.c (cS (bs pn)), .c (.sl (hd0.map Arg.row) hsp), .c (.sl (B.map Lit.row) bsp)]], none⟩)] [(300, ⟨210, 4, out.length⟩)] F0) (fun k => B.length - k)
        (fun k => k ≤ B.length ∧ pickE out v B = pickE out v (B.drop k)) 0 (by simp) (by simp) ?_
      rintro k K2 hK2 ⟨hk, hp⟩
      obtain hlt2 | hge2 := Nat.lt_or_ge k B.length
      · rw [List.drop_eq_getElem_cons hlt2, pickE] at hp
        have hx := hs' B[k] (List.getElem_mem hlt2)
        have h1 := m26E B[k].left out [] hx.2.1 (by omega)
        have h2 := m26E B[k].right out [] hx.2.2 (by omega)
        have hq : pick1 out v B[k] = if isEqn B[k] then
            (if loneOf B[k].left = v then (match evalE out B[k].right with | some a => some a | none => if loneOf B[k].right = v then evalE out B[k].left else none)
            else if loneOf B[k].right = v then evalE out B[k].left else none) else none := rfl
        generalize evalE out B[k].left = ea at *
        generalize evalE out B[k].right = eb at *
        have hl1 := m178 (G := GK) B[k].left
        have hl2 := m178 (G := GK) B[k].right
        generalize loneOf B[k].left = la at *
        generalize loneOf B[k].right = lb at *
        simp [ic2070l0, hlt2]
        refine condI_of (fun h => ?_) (fun h => ?_)
        · have hn : isEqn B[k] = false := by
            simp only [isEqn]
            revert h
            cases B[k].kind == 3 <;> cases B[k].rel == 1 <;> simp
          rw [hq, hn] at hp
          simp only [Bool.false_eq_true, if_false] at hp
          try simp
          try simp (disch := omega) only [wrap64]
          exact hK2 (k + 1) _ (by simp) ⟨by omega, hp⟩ (by omega)
        · have hn : isEqn B[k] = true := by
            simp only [isEqn]
            revert h
            cases B[k].kind == 3 <;> cases B[k].rel == 1 <;> simp
          rw [hq, hn] at hp
          simp only [if_true] at hp
          by_cases hla : la = v
          · subst hla
            have e1 : (la != []) = true := by simpa using hv0
            rw [e1] at hl1
            simp only [if_true] at hp
            cases eb with
            | some x =>
              obtain ⟨xk, xn, xs⟩ := x
              simp only [optR, Option.getD_some, Option.isSome_some, Val.row] at h2
              simp only at hp
              simp [hlt2]
              refine call_of hl1 ?_
              simp [hlt, hlt2, hvi]
              refine call_of h2 ?_
              simp [hlt, hvi]
              refine ⟨by unfold maxLen; omega, by unfold maxBytes; omega, ?_⟩
              rw [hp] at hd
              simp only at hd
              try simp (disch := omega) only [wrap64]
              exact hK (i + 1, out ++ [⟨la, ⟨xk, xn, xs⟩⟩]) _ (by simp [Tm.row]) ⟨by simp only; omega, by simp; omega, hd⟩ (by simp only; omega)
            | none =>
              simp only [optR, Option.getD_none, Option.isSome_none, zeroV, Val.row] at h2
              simp only at hp
              have e2 : (lb != []) = decide (lb ≠ []) := by cases lb <;> rfl
              by_cases hlb : lb = la
              · subst hlb
                have e3 : (lb != []) = true := by simpa using hv0
                rw [e3] at hl2
                simp only [if_true] at hp
                cases ea with
                | none =>
                  simp only [optR, Option.getD_none, Option.isSome_none, zeroV, Val.row] at h1
                  simp only at hp
                  simp [hlt2]
                  refine call_of hl1 ?_
                  simp [hlt, hlt2, hvi]
                  refine call_of h2 ?_
                  simp [hlt2]
                  refine call_of hl2 ?_
                  simp [hlt, hlt2, hvi]
                  refine call_of h1 ?_
                  simp
                  try simp (disch := omega) only [wrap64]
                  exact hK2 (k + 1) _ (by simp) ⟨by omega, hp⟩ (by omega)
                | some x =>
                  obtain ⟨xk, xn, xs⟩ := x
                  simp only [optR, Option.getD_some, Option.isSome_some, Val.row] at h1
                  simp only at hp
                  simp [hlt2]
                  refine call_of hl1 ?_
                  simp [hlt, hlt2, hvi]
                  refine call_of h2 ?_
                  simp [hlt2]
                  refine call_of hl2 ?_
                  simp [hlt, hlt2, hvi]
                  refine call_of h1 ?_
                  simp [hlt, hvi]
                  refine ⟨by unfold maxLen; omega, by unfold maxBytes; omega, ?_⟩
                  rw [hp] at hd
                  simp only at hd
                  try simp (disch := omega) only [wrap64]
                  exact hK (i + 1, out ++ [⟨lb, ⟨xk, xn, xs⟩⟩]) _ (by simp [Tm.row]) ⟨by simp only; omega, by simp; omega, hd⟩ (by simp only; omega)
              · rw [if_neg hlb] at hp
                simp only at hp
                simp [hlt2]
                refine call_of hl1 ?_
                simp [hlt, hlt2, hvi]
                refine call_of h2 ?_
                simp [hlt2]
                refine call_of hl2 ?_
                simp [hlt, hvi, hlb]
                try simp (disch := omega) only [wrap64]
                exact hK2 (k + 1) _ (by simp) ⟨by omega, hp⟩ (by omega)
          · rw [if_neg hla] at hp
            have e2 : (lb != []) = decide (lb ≠ []) := by cases lb <;> rfl
            by_cases hlb : lb = v
            · subst hlb
              have e3 : (lb != []) = true := by simpa using hv0
              rw [e3] at hl2
              simp only [if_true] at hp
              cases ea with
              | none =>
                simp only [optR, Option.getD_none, Option.isSome_none, zeroV, Val.row] at h1
                simp only at hp
                simp [hlt2]
                refine call_of hl1 ?_
                simp [hlt, hlt2, hvi, hla]
                refine call_of hl2 ?_
                simp [hlt, hlt2, hvi]
                refine call_of h1 ?_
                simp
                try simp (disch := omega) only [wrap64]
                exact hK2 (k + 1) _ (by simp) ⟨by omega, hp⟩ (by omega)
              | some x =>
                obtain ⟨xk, xn, xs⟩ := x
                simp only [optR, Option.getD_some, Option.isSome_some, Val.row] at h1
                simp only at hp
                simp [hlt2]
                refine call_of hl1 ?_
                simp [hlt, hlt2, hvi, hla]
                refine call_of hl2 ?_
                simp [hlt, hlt2, hvi]
                refine call_of h1 ?_
                simp [hlt, hvi]
                refine ⟨by unfold maxLen; omega, by unfold maxBytes; omega, ?_⟩
                rw [hp] at hd
                simp only at hd
                try simp (disch := omega) only [wrap64]
                exact hK (i + 1, out ++ [⟨lb, ⟨xk, xn, xs⟩⟩]) _ (by simp [Tm.row]) ⟨by simp only; omega, by simp; omega, hd⟩ (by simp only; omega)
            · rw [if_neg hlb] at hp
              simp only at hp
              simp [hlt2]
              refine call_of hl1 ?_
              simp [hlt, hlt2, hvi, hla]
              refine call_of hl2 ?_
              simp [hlt, hvi, hlb]
              try simp (disch := omega) only [wrap64]
              exact hK2 (k + 1) _ (by simp) ⟨by omega, hp⟩ (by omega)
      · rw [List.drop_eq_nil_of_le hge2, pickE] at hp
        rw [hp] at hd
        simp only at hd
        simp [ic2070l0, Nat.not_lt.mpr hge2]
        try simp (disch := omega) only [wrap64]
        exact hK (i + 1, out) _ (by simp) ⟨by simp only; omega, by simp only; omega, hd⟩ (by simp only; omega)
  · rw [List.drop_eq_nil_of_le hge, List.foldl_nil] at hd
    simp [ic2070l1, Nat.not_lt.mpr hge, hd]

set_option maxHeartbeats 4000000 in
theorem m2012 (r : Rule) (l : List Tm) (sq : Sp) (hr : r.fit) (hl : l.length ≤ 1048576) : Meets Tryz.prog GK 12 [.agg r.row, .one (.sl (l.map Tm.row) sq)] (.x (.one (cB true))) := by
  have h62 := m62 (G := GK) r hr.1
  have h67 := m67 (G := GK) r hr.1 hr.2.2.1
  have h85 := m85 (G := GK) r hr
  have h69 := m69 (G := GK) r hr.1 hr.2.2.1
  have hT : ∀ (T : List Tm) (sT : Sp), T.length ≤ 1048576 → Meets Tryz.prog GK 71 [.one (.sl (r.body.map Lit.row) r.bsp), .one (.sl (T.map Tm.row) sT)] (.x (.one (cB (equalOf T r.body)))) := fun T sT h => m2071 r.body r.bsp T sT (fun x hx => (hr.2.1 x hx).1) hr.1.2.1 h
  have hS : ∀ (T : List Tm) (sT : Sp), T.length ≤ 1048576 → Meets Tryz.prog GK 70 [.agg r.row, .one (.sl (T.map Tm.row) sT)] (.x (.one (.sl ((solvedOf r.body T).map Tm.row) []))) := fun T sT h => m2070 r T sT hr h
  have hlen : ∀ T, (solvedOf r.body T).length ≤ 1048576 := fun T => Nat.le_trans (solved_len r T) hr.2.2.1
  have hvars := tmVars_len r.terms
  have hone : ruleErr r = 0 → ∀ T, equalOf T r.body = true → oneWay (tmVars r.terms) T (solvedOf r.body T) = true := fun h0 T he => by
    refine oneWay_of ?_ he
    unfold ruleErr at h0
    split at h0
    · split at h0
      · assumption
      · cases h0
    · cases h0
  have hvne : ∀ v ∈ tmVars r.terms, v ≠ [] := fun v hv e => by
    rcases mem_varsOn.1 hv with h | ⟨h1, _⟩
    · cases h
    · rw [e] at h1; simp [Ped.isVar] at h1
  have herr : ruleErr r = 0 ∨ ruleErr r = 73 ∨ (ruleErr r = 40 ∧ ruleOk r = false) := by
    unfold ruleErr
    split
    · split
      · exact .inl rfl
      · exact .inr (.inl rfl)
    · rename_i h; exact .inr (.inr ⟨rfl, by simpa using h⟩)
  have hok : ruleOk r = true → ruleErr r = 0 ∨ ruleErr r = 73 := fun h => by
    rcases herr with h1 | h1 | ⟨_, h1⟩
    · exact .inl h1
    · exact .inr h1
    · rw [h] at h1; cases h1
  have hno : ruleOk r = false → ruleErr r = 40 := fun h => by unfold ruleErr; rw [h]; rfl
  have hvt : (tmVars r.terms).length ≤ 1048576 := Nat.le_trans hvars hr.2.2.1
  generalize tmVars r.terms = V at *
  generalize ruleErr r = E at *
  generalize decide (ruleParts r 1048576 > 1048576) = big at *
  clear hr herr hvars
  obtain ⟨pn, hd0, hsp, B, bsp⟩ := r
  simp only [Rule.row] at *
  generalize hM : solvedOf B l = M at *
  have hMl : M.length ≤ 1048576 := by rw [← hM]; exact hlen l
  refine meets Tryz.func12 ie2012 ig2012 (Nat.le_of_ble_eq_true rfl) ?_
  simp [ic2012, ir2012]
  refine call_of h62 ?_
  simp
  refine condI_of (fun h => ?_) (fun h => ?_)
  · simp
  simp
  refine call_of m2062 ?_
  simp
  refine call_of h67 ?_
  cases hk : ruleOk ⟨pn, hd0, hsp, B, bsp⟩ with
  | false =>
    have hE := hno hk
    subst hE
    simp
    refine call_of h85 ?_
    simp
  | true =>
    rcases hok hk with rfl | rfl
    · simp
      refine call_of h85 ?_
      simp
      refine call_of (hS l sq hl) ?_
      simp
      rw [hM]
      refine w_loopA [] [11, 13] [1, 2, 5, 6] (by simp [ownKey])
        (fun n : Nat => st [(1, .k true (.x (.one (.c (.sl (l.map Tm.row) sq))))), (2, .k true (.x (.one (.ref 2 0 0)))), (5, .k true (.x (.one (.c (.sl (M.map Tm.row) []))))), (6, tI .i64 n)]
          [(2, ⟨29, 3, [[.c (cS (bs pn)), .c (.sl (hd0.map Arg.row) hsp), .c (.sl (B.map Lit.row) bsp)]], none⟩)] [] F0) (fun n => 2 - n)
        (fun n => n ≤ 2) 0 (by simp) (by simp) ?_
      rintro n K hK hn
      obtain rfl | rfl | rfl : n = 0 ∨ n = 1 ∨ n = 2 := by omega
      · simp [ic2012l1]
        refine call_of (hT l sq hl) ?_
        cases he : equalOf l B with
        | false =>
          simp
          exact hK 1 _ (by simp [show IntKind.i64.wrap 1 = 1 from rfl]) (by omega) (by omega)
        | true =>
          simp
          refine call_of (hS l sq hl) ?_
          simp
          refine call_of h69 ?_
          simp
          have hw := hone rfl l he
          have hAl := hlen l
          rw [hM] at hw hAl
          rw [hM]
          refine w_loopA [] [11, 13] [1, 2, 5, 6, 7, 8, 9, 10] (by simp [ownKey])
            (fun k : Nat => st [(1, .k true (.x (.one (.c (.sl (l.map Tm.row) sq))))), (2, .k true (.x (.one (.ref 2 0 0)))), (5, .k true (.x (.one (.c (.sl (M.map Tm.row) []))))), (6, tI .i64 0), (7, .k true (.x (.one (.c (.sl (l.map Tm.row) sq))))), (8, .k true (.x (.one (.c (.sl (M.map Tm.row) []))))), (9, .k true (.x (.one (.c (.sl (V.map nmRow) []))))), (10, tI .i64 k)]
              [(2, ⟨29, 3, [[.c (cS (bs pn)), .c (.sl (hd0.map Arg.row) hsp), .c (.sl (B.map Lit.row) bsp)]], none⟩)] [] F0) (fun k => V.length - k)
            (fun k => k ≤ V.length) 0 (by simp) (by simp) ?_
          rintro k K2 hK2 hkV
          obtain hlt | hge := Nat.lt_or_ge k V.length
          · have hv := List.all_eq_true.1 hw V[k] (List.getElem_mem hlt)
            have hv0 := hvne V[k] (List.getElem_mem hlt)
            have h1 := m2072 (G := GK) l sq V[k] (by unfold maxLen; omega)
            have h2 := m2072 (G := GK) M [] V[k] (by unfold maxLen; omega)
            rw [bound_bok hv0, bound_bok hv0] at hv
            generalize boundOf l ⟨V[k], zeroV⟩ = Q1 at *
            generalize boundOf M ⟨V[k], zeroV⟩ = Q2 at *
            obtain ⟨⟨k1, n1, s1⟩, o1⟩ := Q1
            obtain ⟨⟨k2, n2, s2⟩, o2⟩ := Q2
            simp only [Val.row] at h1 h2
            cases o2 with
            | false => simp at hv
            | true =>
              cases o1 with
              | false =>
                simp [ic2012l0, hlt]
                refine call_of h1 ?_
                simp [hlt]
                refine call_of h2 ?_
                simp
                try simp (disch := omega) only [wrap64]
                exact hK2 (k + 1) _ (by simp) (by omega) (by omega)
              | true =>
                simp at hv
                obtain ⟨rfl, rfl, rfl⟩ := hv
                simp [ic2012l0, hlt]
                refine call_of h1 ?_
                simp [hlt]
                refine call_of h2 ?_
                simp
                try simp (disch := omega) only [wrap64]
                exact hK2 (k + 1) _ (by simp) (by omega) (by omega)
          · simp [ic2012l0, Nat.not_lt.mpr hge]
            exact hK 1 _ (by simp [show IntKind.i64.wrap 1 = 1 from rfl]) (by omega) (by omega)
      · simp [ic2012l1]
        refine call_of (hT M [] hMl) ?_
        cases he : equalOf M B with
        | false =>
          simp
          exact hK 2 _ (by simp [show IntKind.i64.wrap 2 = 2 from rfl]) (by omega) (by omega)
        | true =>
          simp
          refine call_of (hS M [] hMl) ?_
          simp
          refine call_of h69 ?_
          simp
          have hw := hone rfl M he
          have hAl := hlen M
          generalize solvedOf B M = A2 at *
          skip
          refine w_loopA [] [11, 13] [1, 2, 5, 6, 7, 8, 9, 10] (by simp [ownKey])
            (fun k : Nat => st [(1, .k true (.x (.one (.c (.sl (l.map Tm.row) sq))))), (2, .k true (.x (.one (.ref 2 0 0)))), (5, .k true (.x (.one (.c (.sl (M.map Tm.row) []))))), (6, tI .i64 1), (7, .k true (.x (.one (.c (.sl (M.map Tm.row) []))))), (8, .k true (.x (.one (.c (.sl (A2.map Tm.row) []))))), (9, .k true (.x (.one (.c (.sl (V.map nmRow) []))))), (10, tI .i64 k)]
              [(2, ⟨29, 3, [[.c (cS (bs pn)), .c (.sl (hd0.map Arg.row) hsp), .c (.sl (B.map Lit.row) bsp)]], none⟩)] [] F0) (fun k => V.length - k)
            (fun k => k ≤ V.length) 0 (by simp) (by simp) ?_
          rintro k K2 hK2 hkV
          obtain hlt | hge := Nat.lt_or_ge k V.length
          · have hv := List.all_eq_true.1 hw V[k] (List.getElem_mem hlt)
            have hv0 := hvne V[k] (List.getElem_mem hlt)
            have h1 := m2072 (G := GK) M [] V[k] (by unfold maxLen; omega)
            have h2 := m2072 (G := GK) A2 [] V[k] (by unfold maxLen; omega)
            rw [bound_bok hv0, bound_bok hv0] at hv
            generalize boundOf M ⟨V[k], zeroV⟩ = Q1 at *
            generalize boundOf A2 ⟨V[k], zeroV⟩ = Q2 at *
            obtain ⟨⟨k1, n1, s1⟩, o1⟩ := Q1
            obtain ⟨⟨k2, n2, s2⟩, o2⟩ := Q2
            simp only [Val.row] at h1 h2
            cases o2 with
            | false => simp at hv
            | true =>
              cases o1 with
              | false =>
                simp [ic2012l0, hlt]
                refine call_of h1 ?_
                simp [hlt]
                refine call_of h2 ?_
                simp
                try simp (disch := omega) only [wrap64]
                exact hK2 (k + 1) _ (by simp) (by omega) (by omega)
              | true =>
                simp at hv
                obtain ⟨rfl, rfl, rfl⟩ := hv
                simp [ic2012l0, hlt]
                refine call_of h1 ?_
                simp [hlt]
                refine call_of h2 ?_
                simp
                try simp (disch := omega) only [wrap64]
                exact hK2 (k + 1) _ (by simp) (by omega) (by omega)
          · simp [ic2012l0, Nat.not_lt.mpr hge]
            exact hK 2 _ (by simp [show IntKind.i64.wrap 2 = 2 from rfl]) (by omega) (by omega)
      · simp [ic2012l1]
    · simp
      refine call_of h85 ?_
      simp
      refine call_of h85 ?_
      simp
end Go.Proofs.YtiomojlcnemnhaaGreatDoor

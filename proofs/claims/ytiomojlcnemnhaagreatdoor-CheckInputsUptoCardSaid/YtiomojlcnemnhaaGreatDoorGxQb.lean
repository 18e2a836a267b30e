import Derived.Test.YtiomojlcnemnhaaGreatDoorGxQ9
/- Contracts, on: the document's errors of a user's rule, fact, query. (Labels of 2000 and more: seat ZD.) -/
namespace Go.Proofs.YtiomojlcnemnhaaGreatDoor
open Go.Fx Go.RowKit Go.Ped
variable {G : World → Prop}

theorem m2211 (r : Rule) (hr : r.fit) : Meets Tryz.prog G 211 [.agg r.row] (.x (.one (cI .i64 (refErr r)))) := by
  have h27 := m2027 (G := G) r hr
  obtain ⟨hs, hf, hl, hb⟩ := hr
  have h67 := m67 (G := G) r hs hl
  have h31 := m2131 (G := G) r hs
  have hbl := hs.2.1
  refine meets Tryz.func211 ie2211h ig2211h (Nat.le_of_ble_eq_true rfl) ?_
  simp [ic2211h, ir2211h]
  refine call_of h67 ?_
  simp
  by_cases hk : ruleOk r = true
  · have h24 := ok_small hk
    have hu : refErr r = if refBad r = true then 70 else if refRes r = true then 71 else ruleErr r := by unfold refErr; rw [if_pos hk]
    have hsl : (standOf r).length ≤ 17 := by
      simp only [ruleOk, Bool.and_eq_true, decide_eq_true_eq] at hk
      have := List.length_filter_le isAtom r.body
      simp [standOf]
      omega
    have e1 : refBad r = ((decide (r.body.length > 12) || (standOf r).any wideP) || (tmVars r.terms ++ (standOf r).map Pd.name).any longN) := by
      unfold refBad
      rw [List.any_append, List.any_map]
      rfl
    have e2 : refRes r = (standOf r).any resP := rfl
    rw [hu, e1, e2]
    have hm69 := m69h (G := G) r hs hl
    clear e1 e2 hu
    generalize standOf r = L at *
    generalize tmVars r.terms = V at *
    generalize hB : ((decide (r.body.length > 12) || L.any wideP) || (V ++ L.map Pd.name).any longN) = B
    generalize hQ : L.any resP = Q
    simp [hk]
    refine call_of h31 ?_
    simp
    refine r_callW _ _ [] [] _ [] _ (MeetsV.of_fun hm69) rfl rfl rfl (by simp [X.fits, A.fits]) (by simp) ?_
    simp
    have hW : ∃ W0, decide (r.body.length > 12) = W0 := ⟨_, rfl⟩
    obtain ⟨W0, hW⟩ := hW
    have hW' : decide ((12 : Int) < (r.body.length : Int)) = W0 := by rw [← hW, decide_eq_decide]; omega
    rw [hW']
    refine w_loopA [] [31] [1, 3, 4, 5, 6, 7] (by simp [ownKey])
      (fun a : Nat × List Name × Bool × Bool => st [(1, .k true (.x (.one (.ref 1 0 0)))), (3, .k true (.x (.one (.c (.sl (L.map pdC) []))))), (4, .k true (.x (.one (.own 32 (a.2.1.map nmRow))))), (5, tB a.2.2.1), (6, tB a.2.2.2), (7, tI .i64 a.1)] [(1, ⟨29, 3, [r.row.map A.c], none⟩)] [(32, ⟨9, 1, a.2.1.length⟩)] F0) (fun a => L.length - a.1)
      (fun a => a.1 ≤ L.length ∧ a.2.1 = V ++ (L.take a.1).map Pd.name ∧ a.2.2.1 = (W0 || (L.take a.1).any wideP) ∧ a.2.2.2 = (L.take a.1).any resP) (0, V, W0, false) (by simp) (by simp) ?_
    rintro ⟨i, N, w, q⟩ K hK ⟨hi, hN, hw, hq⟩
    simp only at hi hN hw hq
    obtain hlt | hge := Nat.lt_or_ge i L.length
    · have hNl : N.length ≤ 24 + 17 := by rw [hN]; simp; omega
      have hst := any_step wideP hlt
      have hsr := any_step resP hlt
      have hsm : (L.take (i + 1)).map Pd.name = (L.take i).map Pd.name ++ [L[i].name] := by rw [List.take_succ_eq_append_getElem hlt, List.map_append]; rfl
      simp [ic2211l0h, hlt]
      refine ⟨by unfold maxLen; omega, by unfold maxBytes; omega, ?_⟩
      refine call_i (fun _ => m2212 L[i].name) ?_
      simp
      simp (disch := omega) only [wrap64]
      refine hK (i + 1, N ++ [L[i].name], w || wideP L[i], q || resP L[i]) _ ?_ ⟨by simp; omega, by simp only; rw [hN, hsm, List.append_assoc], by simp only; rw [hst, hw, Bool.or_assoc], by simp only; rw [hsr, hq]⟩ (by simp; omega)
      simp [wideP, resP]
    · rw [List.take_of_length_le hge] at hN hw hq
      have hNl : N.length ≤ 1048576 := by rw [hN]; simp; omega
      have eB : B = (w || N.any longN) := by rw [← hB, hW, ← hw, ← hN]
      have eQ : Q = q := by rw [← hQ, ← hq]
      simp [ic2211l0h, Nat.not_lt.mpr hge]
      refine call_i (fun _ => m2215 N [] hNl) ?_
      simp
      refine condI_of (fun h => ?_) (fun h => ?_)
      · have : B = true := by rw [eB]; simpa using h
        simp [this]
      · have e0 : B = false := by rw [eB]; simpa using h
        simp
        refine condI_of (fun h2 => ?_) (fun h2 => ?_)
        · have : Q = true := by rw [eQ]; simpa using h2
          simp [e0, this]
        · have e3 : Q = false := by rw [eQ]; simpa using h2
          simp
          refine call_of h27 ?_
          simp [e0, e3]
  · simp [hk, refErr]
end Go.Proofs.YtiomojlcnemnhaaGreatDoor

/- Contracts, on: the document's first thing that is wrong with what a user hands in. (Labels of 2000 and more: seat ZD.) -/
namespace Go.Proofs.YtiomojlcnemnhaaGreatDoor
open Go.Fx Go.RowKit Go.Ped
variable {G : World → Prop}

structure Fc where
  p : Name
  l : List Val
  sp : Sp
def Fc.row (f : Fc) : List C := [cS (bs f.p), .sl (f.l.map Val.row) f.sp]
@[simp] theorem Fc.row_len (f : Fc) : f.row.length = 2 := rfl
@[simp] theorem fc_row0 (f : Fc) : f.row[0]? = some (cS (bs f.p)) := rfl
@[simp] theorem fc_row0' (f : Fc) (h : 0 < f.row.length) : f.row[0]'h = cS (bs f.p) := rfl
@[simp] theorem fc_row1 (f : Fc) : f.row[1]? = some (.sl (f.l.map Val.row) f.sp) := rfl
@[simp] theorem fc_row1' (f : Fc) (h : 1 < f.row.length) : f.row[1]'h = .sl (f.l.map Val.row) f.sp := rfl
@[simp] theorem fc_take (f : Fc) : (f.row.map A.c).take 2 = f.row.map A.c := rfl
def Fc.pd (f : Fc) : Pd := ⟨f.p, f.l.length⟩
def factErr (f : Fc) : Int := if factOk f.p f.l then sizeErr f.p f.l.length else 10
def queryErr (p : Name) (l : List Tm) : Int := if atomOk p l then (if (tmVars l).any longN = true then 70 else sizeErr p l.length) else 40

theorem m2160 (f : Fc) (hl : f.l.length ≤ 1048576) : Meets Tryz.prog G 160 [.agg f.row] (.x (.one (cB (factOk f.p f.l)))) := by
  refine meets Tryz.func160 ie2160 ig2160 (Nat.le_of_ble_eq_true rfl) ?_
  simp [ic2160, ir2160]
  refine call_of (m156 f.p) ?_
  simp
  by_cases h1 : nameOk f.p = true
  · by_cases h2 : f.l.length ≤ 24
    · have h2' : ¬ (24 : Int) < f.l.length := by omega
      have hok : factOk f.p f.l = f.l.all Val.ok := by simp [factOk, h1, h2]
      rw [hok]
      generalize hB : f.l.all Val.ok = B
      simp [h1, h2']
      refine w_loopA [] [] [1, 3] (by simp)
        (fun i : Nat => st [(1, .k true (.x (.one (.ref 1 0 0)))), (3, tI .i64 i)] [(1, ⟨147, 2, [f.row.map A.c], none⟩)] [] F0) (fun i => f.l.length - i)
        (fun i => i ≤ f.l.length ∧ (f.l.take i).all Val.ok = true) 0 (by simp) (by simp) ?_
      rintro i K hK ⟨hi, hd⟩
      obtain hlt | hge := Nat.lt_or_ge i f.l.length
      · have hv := m29 (G := G) f.l[i].k f.l[i].n f.l[i].s
        have e1 : f.l[i].row = [cI .i8 f.l[i].k, cI .i64 f.l[i].n, cS (bs f.l[i].s)] := rfl
        simp [ic2160l0, hlt, e1]
        refine call_of hv ?_
        simp
        refine condI_of (fun h => ?_) (fun h => ?_)
        · simp at h
          have hb : B = false := by rw [← hB]; exact all_not (List.getElem_mem hlt) (by simpa [Val.ok] using h)
          simp [hb]
        · simp at h
          simp
          simp (disch := omega) only [wrap64]
          exact hK (i + 1) _ (by simp) ⟨by omega, by rw [List.take_succ_eq_append_getElem hlt, List.all_append, hd]; simp [Val.ok, h]⟩ (by omega)
      · rw [List.take_of_length_le hge, hB] at hd
        simp [ic2160l0, Nat.not_lt.mpr hge, hd]
    · have h2' : (24 : Int) < f.l.length := by omega
      have hok : factOk f.p f.l = false := by simp [factOk, h2]
      simp [h1, h2', hok]
  · have hok : factOk f.p f.l = false := by simp [factOk, h1]
    simp [h1, hok]

theorem m2126 (f : Fc) (hl : f.l.length ≤ 1048576) : Meets Tryz.prog G 126 [.agg f.row] (.x (.one (cI .i64 (factErr f)))) := by
  refine meets Tryz.func126 ie2126 ig2126 (Nat.le_of_ble_eq_true rfl) ?_
  simp [ic2126, ir2126]
  refine call_of (m2160 f hl) ?_
  simp
  by_cases h1 : factOk f.p f.l = true
  · have e : factErr f = sizeErr f.p f.l.length := by simp [factErr, h1]
    rw [e]
    by_cases h2 : f.p.length > 24
    · have h2' : (24 : Int) < f.p.length := by omega
      simp [h1, h2', sizeErr, h2]
    · have h2' : ¬ (24 : Int) < f.p.length := by omega
      by_cases h3 : f.l.length > 8
      · have h3' : (8 : Int) < f.l.length := by omega
        simp [h1, h2', h3', sizeErr]
      · have h3' : ¬ (8 : Int) < f.l.length := by omega
        simp [h1, h2', h3']
        refine call_of (m2212 f.p) ?_
        simp
        cases h4 : qq.isPrefixOf f.p <;> simp [sizeErr, h2, h3', h4]
  · simp [h1, factErr]

theorem m2128 (p : Name) (l : List Tm) (sp : Sp) (hl : l.length ≤ 1048576) : Meets Tryz.prog G 128 [.agg [cS (bs p), .sl (l.map Tm.row) sp]] (.x (.one (cI .i64 (queryErr p l)))) := by
  refine meets Tryz.func128 ie2128 ig2128 (Nat.le_of_ble_eq_true rfl) ?_
  have hv := tmVars_len l
  simp [ic2128, ir2128]
  refine call_of (m20 p l sp) ?_
  simp
  by_cases h1 : atomOk p l = true
  · have e : queryErr p l = if (tmVars l).any longN = true then 70 else sizeErr p l.length := by simp [queryErr, h1]
    rw [e]
    generalize hV : tmVars l = V at *
    generalize hW : V.any longN = W
    by_cases h2 : p.length > 24
    · have h2' : (24 : Int) < p.length := by omega
      simp [h1, h2']
      refine call_no (.x (.one (.sl [] []))) ?_
      simp
      refine call_no (.x (.one (cB false))) ?_
      simp [sizeErr, h2]
    · have h2' : ¬ (24 : Int) < p.length := by omega
      by_cases h3 : l.length > 8
      · have h3' : (8 : Int) < l.length := by omega
        simp [h1, h2', h3']
        refine call_no (.x (.one (.sl [] []))) ?_
        simp
        refine call_no (.x (.one (cB false))) ?_
        simp [sizeErr, h3']
      · have h3' : ¬ (8 : Int) < l.length := by omega
        simp [h1, h2', h3']
        refine call_of (m47 p l sp hl) ?_
        simp
        rw [hV]
        refine call_of (m2215 V [] (by omega)) ?_
        simp [hW]
        cases W with
        | true => simp
        | false =>
          simp
          refine call_of (m2212 p) ?_
          simp
          cases h4 : qq.isPrefixOf p <;> simp [sizeErr, h2, h3', h4]
  · simp [h1, queryErr]
end Go.Proofs.YtiomojlcnemnhaaGreatDoor

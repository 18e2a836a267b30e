/- Plain words for what fits an atom: the fact that it becomes under an assignment, and no other. -/
import Derived.Test.YtiomojlcnemnhaaDoorKPedB
namespace Go.Ped

section
variable (valOk : Val → Bool)

/-- What a column becomes: a value, the blank's, a variable's. -/
def gr (f : Name → Val) (nine : Val) (t : Tm) : Val := if t.v = [] then t.x else if t.v = us then nine else f t.v
/-- What a list says that a variable is: its first value that may be; the number 0, where there is none. -/
def isV (l : List Tm) (v : Name) : Val := ((l.find? fun b => b.v == v && valOk b.x).map (·.x)).getD ⟨1, 0, []⟩

theorem bindOf_mem {f : Name → Val} {v : Name} : ∀ {l : List Name}, v ∈ l → bindOf (l.map fun v => (⟨v, f v⟩ : Tm)) v = some (f v)
  | [], h => by cases h
  | w :: l, h => by
    unfold bindOf
    rw [List.map_cons, List.find?_cons]
    by_cases e : w = v
    · subst e; simp
    · have : ((⟨w, f w⟩ : Tm).v == v) = false := by simpa using e
      rw [this]
      exact bindOf_mem ((List.mem_cons.1 h).resolve_left fun h => e h.symm)

theorem refFine_map (out : List Tm) (g : Tm → Val) : ∀ ts : List Tm, refFine valOk out ts (ts.map g) = ts.all fun t => fineAt valOk out t (g t)
  | [] => rfl
  | t :: ts => by simp only [List.map_cons, refFine, refFine_map out g ts, List.all_cons]

theorem refFine_at (out : List Tm) : ∀ {ts : List Tm} {vs : List Val}, refFine valOk out ts vs = true → ∀ {i : Nat} {t : Tm} {v : Val}, ts[i]? = some t → vs[i]? = some v → fineAt valOk out t v = true
  | [], _, _, i, t, v, h, _ => by simp at h
  | _ :: _, [], _, i, t, v, _, h => by simp at h
  | t :: ts, v :: vs, hf, 0, t', v', h, h' => by
    simp only [refFine, Bool.and_eq_true] at hf
    simp at h h'; subst h h'; exact hf.1
  | t :: ts, v :: vs, hf, i + 1, t', v', h, h' => by
    simp only [refFine, Bool.and_eq_true] at hf
    exact refFine_at out hf.2 (i := i) (by simpa using h) (by simpa using h')

/-- An atom made a fact matches it, and what is found made it. -/
theorem match_ground (f : Name → Val) (nine : Val) (ts : List Tm) (h9 : valOk nine = true) (hf : ∀ v, valOk (f v) = true) (ht : ∀ t ∈ ts, t.v = [] → valOk t.x = true) :
    goMatch valOk [] ts (ts.map (gr f nine)) = some ((varsOn [] (ts.map Tm.v)).map fun v => ⟨v, f v⟩) := by
  rw [match_same valOk (by simp)]
  have hout : refOut ts (ts.map (gr f nine)) = (varsOn [] (ts.map Tm.v)).map fun v => ⟨v, f v⟩ := by
    unfold refOut
    refine List.map_congr_left fun v hv => ?_
    obtain ⟨hi, hm⟩ := (mem_varsOn.1 hv).resolve_left (by simp)
    obtain ⟨x, hx, he⟩ := List.mem_map.1 hm
    have hlt : ts.findIdx (·.v == v) < ts.length := List.findIdx_lt_length_of_exists ⟨x, hx, by simp [he]⟩
    have hv' : (ts[ts.findIdx (·.v == v)]).v = v := by simpa using List.findIdx_getElem (w := hlt)
    congr 1
    rw [List.getD_eq_getElem?_getD, List.getElem?_map, List.getElem?_eq_getElem hlt]
    simp only [Option.map_some, Option.getD_some, gr, hv']
    simp only [isVar, Bool.and_eq_true, bne_iff_ne, ne_eq] at hi
    rw [if_neg hi.1, if_neg hi.2]
  rw [hout, refFine_map, if_pos]
  rw [List.all_eq_true]
  intro t hm
  unfold fineAt gr
  by_cases h1 : t.v = []
  · simp [h1, ht t hm h1, boundV]
  · by_cases h2 : t.v = us
    · simp [h1, h2, h9, us]
    · have hb : bindOf ((varsOn [] (ts.map Tm.v)).map fun v => (⟨v, f v⟩ : Tm)) t.v = some (f t.v) := bindOf_mem (mem_varsOn.2 (.inr ⟨by simp [isVar, h1, h2], List.mem_map_of_mem hm⟩))
      simp [h1, h2, hf, boundV, hb]

/-- What matches is what the binds make, but for blanks. -/
theorem match_only (nine : Val) {ts : List Tm} {vs : List Val} {out : List Tm} (hl : ts.length = vs.length) (h : goMatch valOk [] ts vs = some out) {i : Nat} {t : Tm} {v : Val} (hi : ts[i]? = some t) (hv : vs[i]? = some v) (hb : t.v ≠ us) :
    v = gr (isV valOk out) nine t := by
  rw [match_same valOk hl] at h
  split at h
  · rename_i hf
    injection h with h
    have hfi := refFine_at valOk _ hf hi hv
    rw [h] at hfi
    simp only [fineAt, Bool.and_eq_true, Bool.or_eq_true, beq_iff_eq] at hfi
    obtain ⟨h1, h2⟩ := hfi
    have h2 := h2.resolve_left hb
    unfold gr
    by_cases h0 : t.v = []
    · rw [if_pos h0]; simp [boundV, h0] at h2; exact h2.symm
    · rw [if_neg h0, if_neg hb]
      have hin : t.v ∈ out.map Tm.v := by
        rw [← h]
        simp only [refOut, List.map_map, Function.comp_def, List.map_id']
        exact mem_varsOn.2 (.inr ⟨by simp [isVar, h0, hb], List.mem_map_of_mem (List.mem_of_getElem? hi)⟩)
      cases hbo : bindOf out t.v with
      | none => exact absurd hin (bindOf_none.1 hbo)
      | some w =>
        have hw : w = v := by simpa [boundV, h0, hbo] using h2
        subst hw
        unfold bindOf at hbo
        obtain ⟨p, hp, hpx⟩ := Option.map_eq_some_iff.1 hbo
        unfold isV
        have : (out.find? fun b => b.v == t.v && valOk b.x) = some p := by
          rw [List.find?_eq_some_iff_append] at hp ⊢
          obtain ⟨g1, as, bs, g2, g3⟩ := hp
          refine ⟨by simp only [Bool.and_eq_true]; exact ⟨g1, by rw [hpx]; exact h1⟩, as, bs, g2, fun a ha => ?_⟩
          have := g3 a ha
          simp only [Bool.not_eq_true', Bool.not_eq_eq_eq_not] at this ⊢
          simp only [this, Bool.false_and]
          first | rfl | simp
        rw [this]; simp [hpx]
  · cases h

/-- A fact that is otherwise in one column that no blank has fits still just if a variable stands there that stands nowhere else. -/
theorem match_turned (f : Name → Val) (nine : Val) (ts : List Tm) (h9 : valOk nine = true) (hf : ∀ v, valOk (f v) = true) (ht : ∀ t ∈ ts, t.v = [] → valOk t.x = true) (i : Nat) (t : Tm) (w : Val) (hi : ts[i]? = some t) (hb : t.v ≠ us)
    (hw : w ≠ gr f nine t) (hok : valOk w = true) : (goMatch valOk [] ts ((ts.map (gr f nine)).set i w)).isSome = (t.v != [] && (ts.map Tm.v).count t.v == 1) := by
  have hlt : i < ts.length := (List.getElem?_eq_some_iff.1 hi).1
  have hti : ts[i] = t := (List.getElem?_eq_some_iff.1 hi).2
  have hlen : ts.length = ((ts.map (gr f nine)).set i w).length := by simp
  have hseti : ((ts.map (gr f nine)).set i w)[i]? = some w := by rw [List.getElem?_set_self (by simpa using hlt)]
  by_cases h0 : t.v = []
  · have : goMatch valOk [] ts ((ts.map (gr f nine)).set i w) = none := by
      cases hg : goMatch valOk [] ts ((ts.map (gr f nine)).set i w) with
      | none => rfl
      | some out =>
        have := match_only valOk nine hlen hg hi hseti hb
        simp [gr, h0] at this hw
        exact absurd this hw
    rw [this]; simp [h0]
  · by_cases hc : (ts.map Tm.v).count t.v = 1
    · have hne : ∀ (j : Nat) (x : Tm), ts[j]? = some x → j ≠ i → x.v ≠ t.v := by
        intro j x hj hji e
        have hsplit : ts.map Tm.v = (ts.map Tm.v).take i ++ t.v :: (ts.map Tm.v).drop (i + 1) := by
          have : (ts.map Tm.v)[i]'(by simpa using hlt) = t.v := by simp [hti]
          rw [← this, ← List.drop_eq_getElem_cons, List.take_append_drop]
        rw [hsplit, List.count_append, List.count_cons_self] at hc
        have hc1 : ((ts.map Tm.v).take i).count t.v = 0 := by omega
        have hc2 : ((ts.map Tm.v).drop (i + 1)).count t.v = 0 := by omega
        rw [List.count_eq_zero] at hc1 hc2
        rcases Nat.lt_or_gt_of_ne hji with hlt' | hgt
        · refine hc1 (List.mem_of_getElem? (i := j) ?_)
          rw [List.getElem?_take, if_pos hlt', List.getElem?_map, hj, ← e]; rfl
        · refine hc2 (List.mem_of_getElem? (i := j - (i + 1)) ?_)
          rw [List.getElem?_drop, show i + 1 + (j - (i + 1)) = j by omega, List.getElem?_map, hj, ← e]; rfl
      have hset : (ts.map (gr f nine)).set i w = ts.map (gr (fun u => if u = t.v then w else f u) nine) := by
        apply List.ext_getElem?
        intro j
        by_cases hji : j = i
        · subst hji
          rw [hseti, List.getElem?_map, hi]
          simp [gr, h0, hb]
        · rw [List.getElem?_set_ne (Ne.symm hji), List.getElem?_map, List.getElem?_map]
          cases hx : ts[j]? with
          | none => rfl
          | some x =>
            have := hne j x hx hji
            simp [gr, this]
      rw [hset, match_ground valOk _ nine ts h9 (fun u => by split; exact hok; exact hf u) ht]
      simp [h0, hc]
    · have hmem : t.v ∈ ts.map Tm.v := List.mem_map_of_mem (List.mem_of_getElem? hi)
      have hex : ∃ (j : Nat) (x : Tm), ts[j]? = some x ∧ j ≠ i ∧ x.v = t.v := by
        apply Classical.byContradiction
        intro hno
        apply hc
        have hsplit : ts.map Tm.v = (ts.map Tm.v).take i ++ t.v :: (ts.map Tm.v).drop (i + 1) := by
          have : (ts.map Tm.v)[i]'(by simpa using hlt) = t.v := by simp [hti]
          rw [← this, ← List.drop_eq_getElem_cons, List.take_append_drop]
        rw [hsplit, List.count_append, List.count_cons_self]
        have z1 : ((ts.map Tm.v).take i).count t.v = 0 := by
          rw [List.count_eq_zero]
          intro hm
          obtain ⟨j, hj⟩ := List.mem_iff_getElem?.1 hm
          rw [List.getElem?_take] at hj
          split at hj
          · rename_i hji
            rw [List.getElem?_map] at hj
            cases hx : ts[j]? with
            | none => rw [hx] at hj; cases hj
            | some x => rw [hx] at hj; simp at hj; exact hno ⟨j, x, hx, by omega, hj⟩
          · cases hj
        have z2 : ((ts.map Tm.v).drop (i + 1)).count t.v = 0 := by
          rw [List.count_eq_zero]
          intro hm
          obtain ⟨j, hj⟩ := List.mem_iff_getElem?.1 hm
          rw [List.getElem?_drop, List.getElem?_map] at hj
          cases hx : ts[i + 1 + j]? with
          | none => rw [hx] at hj; cases hj
          | some x => rw [hx] at hj; simp at hj; exact hno ⟨i + 1 + j, x, hx, by omega, hj⟩
        omega
      obtain ⟨j, x, hx, hji, he⟩ := hex
      have : goMatch valOk [] ts ((ts.map (gr f nine)).set i w) = none := by
        cases hg : goMatch valOk [] ts ((ts.map (gr f nine)).set i w) with
        | none => rfl
        | some out =>
          have e1 := match_only valOk nine hlen hg hi hseti hb
          have hsetj : ((ts.map (gr f nine)).set i w)[j]? = some (gr f nine x) := by
            rw [List.getElem?_set_ne (Ne.symm hji), List.getElem?_map, hx]; rfl
          have e2 := match_only valOk nine hlen hg hx hsetj (by rw [he]; exact hb)
          have h3 : ∀ (g : Name → Val), gr g nine x = gr g nine t := fun g => by simp [gr, he, h0, hb]
          rw [h3, h3, ← e1] at e2
          exact absurd e2.symm hw
      rw [this]; simp [h0, hc]

end
end Go.Ped

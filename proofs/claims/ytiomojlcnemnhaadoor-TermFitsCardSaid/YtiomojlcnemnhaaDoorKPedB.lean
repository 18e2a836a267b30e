/- Plain words for values, terms and atoms, and what matching is; no program in sight. -/
namespace Go.Ped

structure Val where
  k : Int
  n : Int
  s : List UInt8
  deriving DecidableEq, Inhabited
structure Tm where
  v : List UInt8
  x : Val
  deriving DecidableEq, Inhabited

abbrev Name := List UInt8
/-- The blank. -/
def us : Name := [95]
def isVar (v : Name) : Bool := v != [] && v != us
def zeroV : Val := ⟨0, 0, []⟩

/-- The variables among names, each once, as they come, behind those that came before. -/
def varsOn : List Name → List Name → List Name
  | acc, [] => acc
  | acc, v :: l => varsOn (if isVar v && !acc.contains v then acc ++ [v] else acc) l

theorem varsOn_append : ∀ (acc l m : List Name), varsOn acc (l ++ m) = varsOn (varsOn acc l) m
  | _, [], _ => rfl
  | acc, v :: l, m => by simp only [List.cons_append, varsOn]; exact varsOn_append _ l m

theorem mem_varsOn : ∀ {acc l : List Name} {v : Name}, v ∈ varsOn acc l ↔ v ∈ acc ∨ (isVar v = true ∧ v ∈ l)
  | acc, [], v => by simp [varsOn]
  | acc, u :: l, v => by
    simp only [varsOn]
    split
    · rename_i h
      simp only [Bool.and_eq_true] at h
      rw [mem_varsOn, List.mem_append, List.mem_singleton, List.mem_cons]
      constructor
      · rintro ((h1 | rfl) | h1)
        · exact .inl h1
        · exact .inr ⟨h.1, .inl rfl⟩
        · exact .inr ⟨h1.1, .inr h1.2⟩
      · rintro (h1 | ⟨h1, rfl | h2⟩)
        · exact .inl (.inl h1)
        · exact .inl (.inr rfl)
        · exact .inr ⟨h1, h2⟩
    · rename_i h
      rw [mem_varsOn, List.mem_cons]
      constructor
      · rintro (h1 | h1)
        · exact .inl h1
        · exact .inr ⟨h1.1, .inr h1.2⟩
      · rintro (h1 | ⟨h1, rfl | h2⟩)
        · exact .inl h1
        · simp only [h1, Bool.true_and, Bool.not_eq_true', List.contains_eq_mem, decide_eq_false_iff_not, Classical.not_not] at h
          exact .inl h
        · exact .inr ⟨h1, h2⟩

/-- What a list of binds says of a name: the first. -/
def bindOf (out : List Tm) (v : Name) : Option Val := (out.find? (·.v == v)).map (·.x)

theorem bindOf_append_some {out ext : List Tm} {v : Name} {x : Val} (h : bindOf out v = some x) : bindOf (out ++ ext) v = some x := by
  unfold bindOf at h ⊢
  rw [List.find?_append]
  cases hf : out.find? (·.v == v) with
  | none => rw [hf] at h; cases h
  | some t => rw [hf] at h; exact h

theorem bindOf_append_none {out ext : List Tm} {v : Name} (h : bindOf out v = none) : bindOf (out ++ ext) v = bindOf ext v := by
  unfold bindOf at h ⊢
  rw [List.find?_append]
  cases hf : out.find? (·.v == v) with
  | none => rfl
  | some t => rw [hf] at h; cases h

theorem bindOf_none {out : List Tm} {v : Name} : bindOf out v = none ↔ v ∉ out.map Tm.v := by
  unfold bindOf
  rw [Option.map_eq_none_iff, List.find?_eq_none]
  simp only [beq_iff_eq, List.mem_map, not_exists, not_and]

section
variable (valOk : Val → Bool)

/-- Matching, as the program does it: column by column. -/
def goMatch : List Tm → List Tm → List Val → Option (List Tm)
  | out, t :: ts, v :: vs =>
    if !valOk v || (t.v == [] && t.x != v) then none
    else if !isVar t.v then goMatch out ts vs
    else match bindOf out t.v with
      | some o => if o != v then none else goMatch out ts vs
      | none => goMatch (out ++ [⟨t.v, v⟩]) ts vs
  | out, _, _ => some out

/-- The binds, as the document has them: each variable is what stands in its first column. -/
def refOut (ts : List Tm) (vs : List Val) : List Tm := (varsOn [] (ts.map Tm.v)).map fun v => ⟨v, vs.getD (ts.findIdx (·.v == v)) zeroV⟩
def boundV (out : List Tm) (t : Tm) : Val := if t.v == [] then t.x else (bindOf out t.v).getD zeroV
def fineAt (out : List Tm) (t : Tm) (v : Val) : Bool := valOk v && (t.v == us || boundV out t == v)
def refFine (out : List Tm) : List Tm → List Val → Bool
  | t :: ts, v :: vs => fineAt valOk out t v && refFine out ts vs
  | _, _ => true

theorem refOut_snoc {ts : List Tm} {vs : List Val} (hl : ts.length = vs.length) (t : Tm) (v : Val) :
    refOut (ts ++ [t]) (vs ++ [v]) = if isVar t.v && !(refOut ts vs |>.map Tm.v).contains t.v then refOut ts vs ++ [⟨t.v, v⟩] else refOut ts vs := by
  have hmap : (refOut ts vs).map Tm.v = varsOn [] (ts.map Tm.v) := by simp [refOut, Function.comp_def]
  have hsame : ∀ w ∈ varsOn [] (ts.map Tm.v), (⟨w, (vs ++ [v]).getD ((ts ++ [t]).findIdx (·.v == w)) zeroV⟩ : Tm) = ⟨w, vs.getD (ts.findIdx (·.v == w)) zeroV⟩ := fun w hw => by
    have hin : ∃ x ∈ ts, (x.v == w) = true := by
      rcases mem_varsOn.1 hw with h | h
      · cases h
      · obtain ⟨x, h1, h2⟩ := List.mem_map.1 h.2; exact ⟨x, h1, by simp [h2]⟩
    have hlt : ts.findIdx (·.v == w) < ts.length := List.findIdx_lt_length_of_exists hin
    rw [List.findIdx_append, if_pos hlt]
    congr 1
    rw [List.getD_eq_getElem?_getD, List.getElem?_append_left (by omega), ← List.getD_eq_getElem?_getD]
  rw [hmap]
  unfold refOut
  rw [List.map_append, varsOn_append]
  simp only [List.map_cons, List.map_nil, varsOn]
  split
  · rename_i h
    rw [List.map_append, List.map_congr_left hsame]
    simp only [List.map_cons, List.map_nil, List.append_cancel_left_eq, List.cons.injEq, and_true]
    congr 1
    simp only [Bool.and_eq_true, Bool.not_eq_true', List.contains_eq_mem, decide_eq_false_iff_not] at h
    have hno : ts.findIdx (·.v == t.v) = ts.length := by
      rw [List.findIdx_eq_length]
      intro x hx
      have : x.v ≠ t.v := fun e => h.2 (mem_varsOn.2 (.inr ⟨h.1, e ▸ List.mem_map_of_mem hx⟩))
      simpa using this
    rw [List.findIdx_append, hno, if_neg (Nat.lt_irrefl _)]
    simp [hl]
  · rw [List.map_congr_left hsame]

theorem refOut_ext {ts : List Tm} {vs : List Val} (hl : ts.length = vs.length) : ∀ (ts' : List Tm) (vs' : List Val), ts'.length = vs'.length → ∃ ext, refOut (ts ++ ts') (vs ++ vs') = refOut ts vs ++ ext := by
  intro ts'
  induction ts' generalizing ts vs with
  | nil => intro vs' h; cases vs' with
    | nil => exact ⟨[], by simp⟩
    | cons _ _ => simp at h
  | cons t ts' ih =>
    intro vs' h
    cases vs' with
    | nil => simp at h
    | cons v vs' =>
      obtain ⟨ext, h1⟩ := ih (ts := ts ++ [t]) (vs := vs ++ [v]) (by simp [hl]) vs' (by simpa using h)
      simp only [List.append_assoc, List.singleton_append] at h1
      rw [h1, refOut_snoc hl]
      split
      · exact ⟨⟨t.v, v⟩ :: ext, by simp⟩
      · exact ⟨ext, rfl⟩

theorem refFine_false {out : List Tm} : ∀ (ts : List Tm) (vs : List Val) (t : Tm) (v : Val) (ts' : List Tm) (vs' : List Val), ts.length = vs.length → fineAt valOk out t v = false → refFine valOk out (ts ++ t :: ts') (vs ++ v :: vs') = false
  | [], [], t, v, ts', vs', _, h => by simp [refFine, h]
  | a :: ts, b :: vs, t, v, ts', vs', hl, h => by
    simp only [List.cons_append, refFine]
    rw [refFine_false ts vs t v ts' vs' (by simpa using hl) h, Bool.and_false]
  | [], _ :: _, _, _, _, _, hl, _ => by simp at hl
  | _ :: _, [], _, _, _, _, hl, _ => by simp at hl

theorem refFine_append {out : List Tm} : ∀ (ts : List Tm) (vs : List Val) (ts' : List Tm) (vs' : List Val), ts.length = vs.length → refFine valOk out (ts ++ ts') (vs ++ vs') = (refFine valOk out ts vs && refFine valOk out ts' vs')
  | [], [], ts', vs', _ => by simp [refFine]
  | a :: ts, b :: vs, ts', vs', hl => by
    simp only [List.cons_append, refFine, refFine_append ts vs ts' vs' (by simpa using hl), Bool.and_assoc]
  | [], _ :: _, _, _, hl => by simp at hl
  | _ :: _, [], _, _, hl => by simp at hl

/-- What has been fine goes on being fine. -/
theorem refFine_mono {out ext : List Tm} : ∀ (ts : List Tm) (vs : List Val), (∀ t ∈ ts, isVar t.v = true → (bindOf out t.v).isSome) → refFine valOk (out ++ ext) ts vs = refFine valOk out ts vs
  | [], [], _ => rfl
  | [], _ :: _, _ => rfl
  | _ :: _, [], _ => rfl
  | t :: ts, v :: vs, h => by
    simp only [refFine]
    rw [refFine_mono ts vs fun x hx => h x (List.mem_cons_of_mem _ hx)]
    congr 1
    unfold fineAt boundV
    by_cases h1 : t.v = []
    · simp [h1]
    · by_cases h2 : t.v = us
      · simp [h2]
      · have := h t (List.mem_cons_self ..) (by simp [isVar, h1, h2])
        cases hb : bindOf out t.v with
        | none => rw [hb] at this; cases this
        | some x => rw [bindOf_append_some hb]

theorem go_ref : ∀ (ts : List Tm) (vs : List Val) (pre : List Tm) (preV : List Val), pre.length = preV.length → ts.length = vs.length → refFine valOk (refOut pre preV) pre preV = true →
    goMatch valOk (refOut pre preV) ts vs = if refFine valOk (refOut (pre ++ ts) (preV ++ vs)) (pre ++ ts) (preV ++ vs) then some (refOut (pre ++ ts) (preV ++ vs)) else none
  | [], [], pre, preV, _, _, hf => by simp [goMatch, hf]
  | [], _ :: _, _, _, _, hl, _ => by simp at hl
  | _ :: _, [], _, _, _, hl, _ => by simp at hl
  | t :: ts, v :: vs, pre, preV, hp, hl, hf => by
    have hl' : ts.length = vs.length := by simpa using hl
    have hp' : (pre ++ [t]).length = (preV ++ [v]).length := by simp [hp]
    have ih := go_ref ts vs (pre ++ [t]) (preV ++ [v]) hp' hl'
    simp only [List.append_assoc, List.singleton_append] at ih
    have hsn := refOut_snoc hp t v
    obtain ⟨ext, hext⟩ := refOut_ext hp' ts vs hl'
    simp only [List.append_assoc, List.singleton_append] at hext
    -- every variable of the first columns is bound
    have hbound : ∀ x ∈ pre ++ [t], isVar x.v = true → (bindOf (refOut (pre ++ [t]) (preV ++ [v])) x.v).isSome := fun x hx hv => by
      cases hb : bindOf (refOut (pre ++ [t]) (preV ++ [v])) x.v with
      | some _ => rfl
      | none =>
        rw [bindOf_none] at hb
        exact absurd (by simp only [refOut, List.map_map, Function.comp_def, List.map_id']; exact mem_varsOn.2 (.inr ⟨hv, List.mem_map_of_mem hx⟩)) hb
    have hboundP : ∀ x ∈ pre, isVar x.v = true → (bindOf (refOut pre preV) x.v).isSome := fun x hx hv => by
      cases hb : bindOf (refOut pre preV) x.v with
      | some _ => rfl
      | none =>
        rw [bindOf_none] at hb
        exact absurd (by simp only [refOut, List.map_map, Function.comp_def, List.map_id']; exact mem_varsOn.2 (.inr ⟨hv, List.mem_map_of_mem hx⟩)) hb
    -- the column t, v, told by what the first columns bind
    have hcol : fineAt valOk (refOut (pre ++ t :: ts) (preV ++ v :: vs)) t v = fineAt valOk (refOut (pre ++ [t]) (preV ++ [v])) t v := by
      have := refFine_mono valOk (out := refOut (pre ++ [t]) (preV ++ [v])) (ext := ext) [t] [v] (fun x hx => hbound x (by simp only [List.mem_singleton] at hx; subst hx; simp))
      simp only [refFine, Bool.and_true] at this
      rw [hext]; exact this
    have fail : fineAt valOk (refOut (pre ++ [t]) (preV ++ [v])) t v = false → none = if refFine valOk (refOut (pre ++ t :: ts) (preV ++ v :: vs)) (pre ++ t :: ts) (preV ++ v :: vs) then some (refOut (pre ++ t :: ts) (preV ++ v :: vs)) else none := fun h => by
      rw [refFine_false valOk pre preV t v ts vs hp (by rw [hcol]; exact h)]; rfl
    have go : fineAt valOk (refOut (pre ++ [t]) (preV ++ [v])) t v = true → refFine valOk (refOut (pre ++ [t]) (preV ++ [v])) (pre ++ [t]) (preV ++ [v]) = true := fun h => by
      rw [refFine_append valOk pre preV [t] [v] hp]
      simp only [refFine, Bool.and_true, h]
      have : ∃ e, refOut (pre ++ [t]) (preV ++ [v]) = refOut pre preV ++ e := by
        rw [hsn]; split
        · exact ⟨_, rfl⟩
        · exact ⟨[], by simp⟩
      obtain ⟨e, he⟩ := this
      rw [he, refFine_mono valOk pre preV hboundP]; exact hf
    have hmem : ∀ w, w ∈ (refOut pre preV).map Tm.v ↔ ¬ bindOf (refOut pre preV) w = none := fun w => by rw [bindOf_none, Classical.not_not]
    simp only [goMatch]
    by_cases hv : valOk v = true
    · by_cases h0 : t.v = []
      · have hiv : isVar t.v = false := by simp [isVar, h0]
        have hsn' : refOut (pre ++ [t]) (preV ++ [v]) = refOut pre preV := by rw [hsn, hiv]; simp
        by_cases hx : t.x = v
        · have hfin : fineAt valOk (refOut (pre ++ [t]) (preV ++ [v])) t v = true := by simp [fineAt, boundV, h0, hx, hv]
          rw [if_neg (by simp [hv, hx]), if_pos (by simp [hiv])]
          rw [hsn'] at ih
          exact ih (hsn' ▸ go hfin)
        · rw [if_pos (by simp [h0, hx])]
          exact fail (by simp [fineAt, boundV, h0, hx, us])
      · rw [if_neg (by simp [hv, h0])]
        by_cases h1 : t.v = us
        · have hiv : isVar t.v = false := by simp [isVar, h1]
          have hsn' : refOut (pre ++ [t]) (preV ++ [v]) = refOut pre preV := by rw [hsn, hiv]; simp
          rw [if_pos (by simp [hiv])]
          rw [hsn'] at ih
          exact ih (hsn' ▸ go (by simp [fineAt, h1, hv]))
        · have hiv : isVar t.v = true := by simp [isVar, h0, h1]
          rw [if_neg (by simp [hiv])]
          cases hb : bindOf (refOut pre preV) t.v with
          | some o =>
            have hin : t.v ∈ (refOut pre preV).map Tm.v := (hmem _).2 (by rw [hb]; simp)
            have hsn' : refOut (pre ++ [t]) (preV ++ [v]) = refOut pre preV := by rw [hsn, if_neg (by simp [hiv, hin])]
            simp only
            by_cases ho : o = v
            · rw [if_neg (by simp [ho])]
              rw [hsn'] at ih
              exact ih (hsn' ▸ go (by rw [hsn']; simp [fineAt, boundV, h0, hb, ho, hv]))
            · rw [if_pos (by simp [ho])]
              exact fail (by rw [hsn']; simp [fineAt, boundV, h0, h1, hb, ho])
          | none =>
            have hin : t.v ∉ (refOut pre preV).map Tm.v := fun h => (hmem _).1 h hb
            have hsn' : refOut (pre ++ [t]) (preV ++ [v]) = refOut pre preV ++ [⟨t.v, v⟩] := by rw [hsn, if_pos (by simp [hiv, hin])]
            simp only
            rw [hsn'] at ih
            refine ih (hsn' ▸ go ?_)
            rw [hsn']
            have : bindOf (refOut pre preV ++ [⟨t.v, v⟩]) t.v = some v := by rw [bindOf_append_none hb]; simp [bindOf]
            simp [fineAt, boundV, h0, this, hv]
    · rw [if_pos (by simp [hv])]
      exact fail (by simp [fineAt, hv])

/-- Matching column by column is the document's matching. -/
theorem match_same {ts : List Tm} {vs : List Val} (hl : ts.length = vs.length) : goMatch valOk [] ts vs = if refFine valOk (refOut ts vs) ts vs then some (refOut ts vs) else none :=
  go_ref valOk ts vs [] [] rfl hl rfl

end
end Go.Ped

/- Plain words for making two atoms one: chains of what a variable became, against pairs that are kept solved. -/
namespace Go.Ped

/-- A name and a term. -/
structure Pr where
  v : Name
  t : Tm
  deriving DecidableEq, Inhabited

def keys (c : List Pr) : List Name := c.map (·.v)
/-- What a name became when it was replaced. -/
def nextOf (c : List Pr) (v : Name) : Option Tm := (c.find? (·.v == v)).map (·.t)
/-- The end of a term's way. -/
def endOf : List Pr → Tm → Tm
  | [], t => t
  | p :: c, t => if t.v = p.v then endOf c p.t else endOf c t

/-- The document's: a term with its variable replaced; a term takes a variable's place in all pairs. -/
def putS (s : List Pr) (t : Tm) : Tm := if t.v = [] ∨ t.v = us then t else match s.find? (·.v == t.v) with | some p => p.t | none => t
def takes (s : List Pr) (v : Name) (t : Tm) : List Pr := (s.map fun p => if p.t.v = v then ⟨p.v, t⟩ else p) ++ [⟨v, t⟩]

/-- A variable has no value. -/
def Tm.bare (t : Tm) : Prop := t.v ≠ [] → t.x = zeroV

/-- A chain as the program makes it: no key is empty or the blank; each pair's term names no key up to its own. -/
inductive Good : List Pr → Prop
  | nil : Good []
  | snoc {c : List Pr} {v : Name} {t : Tm} (h : Good c) (h1 : v ≠ []) (h2 : v ≠ us) (h3 : v ∉ keys c) (h4 : t.v ∉ keys c) (h5 : t.v ≠ v) (h6 : t.bare) : Good (c ++ [⟨v, t⟩])

theorem endOf_snoc : ∀ (c : List Pr) (p : Pr) (t : Tm), endOf (c ++ [p]) t = if (endOf c t).v = p.v then p.t else endOf c t
  | [], p, t => rfl
  | q :: c, p, t => by
    simp only [List.cons_append, endOf]
    split <;> exact endOf_snoc c p _

theorem endOf_out : ∀ {c : List Pr} {t : Tm}, t.v ∉ keys c → endOf c t = t
  | [], _, _ => rfl
  | p :: c, t, h => by
    simp only [keys, List.map_cons, List.mem_cons, not_or] at h
    simp only [endOf]
    rw [if_neg h.1]
    exact endOf_out h.2

theorem keys_snoc (c : List Pr) (p : Pr) : keys (c ++ [p]) = keys c ++ [p.v] := by simp [keys]

/-- Where the way ends no key stands. -/
theorem Good.end_out {c : List Pr} (h : Good c) : ∀ t, (endOf c t).v ∉ keys c := by
  induction h with
  | nil => intro t hv; cases hv
  | @snoc c v u h h1 h2 h3 h4 h5 h6 ih =>
    intro t
    rw [endOf_snoc, keys_snoc, List.mem_append, List.mem_singleton]
    split
    · rintro (h7 | h7)
      · exact h4 h7
      · exact h5 h7
    · rename_i hne
      rintro (h7 | h7)
      · exact ih t h7
      · exact hne h7

theorem Good.end_bare {c : List Pr} (h : Good c) : ∀ {t : Tm}, t.bare → (endOf c t).bare := by
  induction h with
  | nil => intro t ht; exact ht
  | snoc h h1 h2 h3 h4 h5 h6 ih =>
    intro t ht
    rw [endOf_snoc]
    split
    · exact h6
    · exact ih ht

/-- The pairs, solved. -/
def solve (c : List Pr) : List Pr := c.map fun p => ⟨p.v, endOf c p.t⟩

theorem solve_snoc {c : List Pr} {v : Name} {t : Tm} (h4 : t.v ∉ keys c) (h5 : t.v ≠ v) : solve (c ++ [⟨v, t⟩]) = takes (solve c) v t := by
  unfold solve takes
  simp only [List.map_append, List.map_map, List.map_cons, List.map_nil]
  congr 1
  · refine List.map_congr_left fun p _ => ?_
    simp only [endOf_snoc, Function.comp]
    split <;> rfl
  · rw [endOf_snoc, endOf_out h4, if_neg h5]

theorem find_snoc (s : List Pr) (p : Pr) (v : Name) : (s ++ [p]).find? (·.v == v) = match s.find? (·.v == v) with | some q => some q | none => if p.v = v then some p else none := by
  rw [List.find?_append]
  cases s.find? (·.v == v) with
  | some q => rfl
  | none =>
    simp only [Option.none_or, List.find?_cons, List.find?_nil]
    by_cases h : p.v = v
    · simp [h]
    · have h2 : (p.v == v) = false := by simpa using h
      simp [h, h2]

theorem find_out {s : List Pr} {v : Name} (h : v ∉ keys s) : s.find? (·.v == v) = none := by
  rw [List.find?_eq_none]
  intro p hp e
  exact h (by rw [beq_iff_eq] at e; rw [← e]; exact List.mem_map_of_mem hp)
theorem keys_solve (c : List Pr) : keys (solve c) = keys c := by simp [keys, solve, Function.comp_def]

theorem find_takes (s : List Pr) (v w : Name) (t : Tm) (h : w ≠ v) : (takes s v t).find? (·.v == w) = (s.find? (·.v == w)).map fun p => if p.t.v = v then ⟨p.v, t⟩ else p := by
  unfold takes
  rw [List.find?_append]
  have : ((s.map fun p => if p.t.v = v then (⟨p.v, t⟩ : Pr) else p).find? (·.v == w)) = (s.find? (·.v == w)).map fun p => if p.t.v = v then ⟨p.v, t⟩ else p := by
    rw [List.find?_map]
    congr 1
    congr 1
    funext p
    simp only [Function.comp]
    split <;> rfl
  rw [this]
  cases s.find? (·.v == w) with
  | some q => rfl
  | none => simp [Ne.symm h]

/-- What the document replaces a term by is the end of its way. -/
theorem Good.put {c : List Pr} (h : Good c) : ∀ t, putS (solve c) t = endOf c t := by
  induction h with
  | nil => intro t; simp [putS, solve, endOf]
  | @snoc c v u h h1 h2 h3 h4 h5 h6 ih =>
    intro t
    rw [solve_snoc h4 h5, endOf_snoc, ← ih t]
    unfold putS
    by_cases h0 : t.v = [] ∨ t.v = us
    · rw [if_pos h0, if_pos h0, if_neg (fun e => h0.elim (fun e2 => h1 (e.symm.trans e2)) fun e2 => h2 (e.symm.trans e2))]
    · rw [if_neg h0, if_neg h0]
      by_cases hv : t.v = v
      · have hn : (solve c).find? (·.v == t.v) = none := find_out (by rw [keys_solve, hv]; exact h3)
        have hm : ((solve c).map fun p => if p.t.v = v then (⟨p.v, u⟩ : Pr) else p).find? (·.v == t.v) = none := by
          rw [List.find?_eq_none] at hn ⊢
          intro p hp
          obtain ⟨q, hq, rfl⟩ := List.mem_map.1 hp
          have := hn q hq
          split <;> exact this
        have : (takes (solve c) v u).find? (·.v == t.v) = some ⟨v, u⟩ := by
          unfold takes
          rw [find_snoc, hm]
          simp [hv]
        rw [this, hn]
        simp only
        rw [if_pos hv]
      · rw [find_takes _ _ _ _ hv]
        cases (solve c).find? (·.v == t.v) with
        | none => simp only [Option.map_none]; rw [if_neg hv]
        | some p => simp only [Option.map_some]; split <;> rfl

end Go.Ped

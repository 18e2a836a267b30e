/- Plain words for values, terms and atoms, and what matching is; no program in sight. -/
namespace Go.Ped

structure Val where
  k : Int
  n : Int
  s : List UInt8
  deriving DecidableEq, Inhabited
structure Tm where
  v : List UInt8
  x : Val
  deriving DecidableEq, Inhabited

abbrev Name := List UInt8
/-- The blank. -/
def us : Name := [95]
def isVar (v : Name) : Bool := v != [] && v != us
def zeroV : Val := ⟨0, 0, []⟩

/-- The variables among names, each once, as they come, behind those that came before. -/
def varsOn : List Name → List Name → List Name
  | acc, [] => acc
  | acc, v :: l => varsOn (if isVar v && !acc.contains v then acc ++ [v] else acc) l

theorem mem_varsOn : ∀ {acc l : List Name} {v : Name}, v ∈ varsOn acc l ↔ v ∈ acc ∨ (isVar v = true ∧ v ∈ l)
  | acc, [], v => by simp [varsOn]
  | acc, u :: l, v => by
    simp only [varsOn]
    split
    · rename_i h
      simp only [Bool.and_eq_true] at h
      rw [mem_varsOn, List.mem_append, List.mem_singleton, List.mem_cons]
      constructor
      · rintro ((h1 | rfl) | h1)
        · exact .inl h1
        · exact .inr ⟨h.1, .inl rfl⟩
        · exact .inr ⟨h1.1, .inr h1.2⟩
      · rintro (h1 | ⟨h1, rfl | h2⟩)
        · exact .inl (.inl h1)
        · exact .inl (.inr rfl)
        · exact .inr ⟨h1, h2⟩
    · rename_i h
      rw [mem_varsOn, List.mem_cons]
      constructor
      · rintro (h1 | h1)
        · exact .inl h1
        · exact .inr ⟨h1.1, .inr h1.2⟩
      · rintro (h1 | ⟨h1, rfl | h2⟩)
        · exact .inl h1
        · simp only [h1, Bool.true_and, Bool.not_eq_true', List.contains_eq_mem, decide_eq_false_iff_not, Classical.not_not] at h
          exact .inl h
        · exact .inr ⟨h1, h2⟩

/-- What a list of binds says of a name: the first. -/
def bindOf (out : List Tm) (v : Name) : Option Val := (out.find? (·.v == v)).map (·.x)

theorem bindOf_append_some {out ext : List Tm} {v : Name} {x : Val} (h : bindOf out v = some x) : bindOf (out ++ ext) v = some x := by
  unfold bindOf at h ⊢
  rw [List.find?_append]
  cases hf : out.find? (·.v == v) with
  | none => rw [hf] at h; cases h
  | some t => rw [hf] at h; exact h

theorem bindOf_none {out : List Tm} {v : Name} : bindOf out v = none ↔ v ∉ out.map Tm.v := by
  unfold bindOf
  rw [Option.map_eq_none_iff, List.find?_eq_none]
  simp only [beq_iff_eq, List.mem_map, not_exists, not_and]

section
variable (valOk : Val → Bool)

/-- Matching, as the program does it: column by column. -/
def goMatch : List Tm → List Tm → List Val → Option (List Tm)
  | out, t :: ts, v :: vs =>
    if !valOk v || (t.v == [] && t.x != v) then none
    else if !isVar t.v then goMatch out ts vs
    else match bindOf out t.v with
      | some o => if o != v then none else goMatch out ts vs
      | none => goMatch (out ++ [⟨t.v, v⟩]) ts vs
  | out, _, _ => some out

end
end Go.Ped

/- Plain words for making two atoms one: chains of what a variable became, against pairs that are kept solved. -/
namespace Go.Ped

/-- A name and a term. -/
structure Pr where
  v : Name
  t : Tm
  deriving DecidableEq, Inhabited

def keys (c : List Pr) : List Name := c.map (·.v)
/-- What a name became when it was replaced. -/
def nextOf (c : List Pr) (v : Name) : Option Tm := (c.find? (·.v == v)).map (·.t)
/-- The end of a term's way. -/
def endOf : List Pr → Tm → Tm
  | [], t => t
  | p :: c, t => if t.v = p.v then endOf c p.t else endOf c t

/-- The document's: a term with its variable replaced; a term takes a variable's place in all pairs. -/
def putS (s : List Pr) (t : Tm) : Tm := if t.v = [] ∨ t.v = us then t else match s.find? (·.v == t.v) with | some p => p.t | none => t
def takes (s : List Pr) (v : Name) (t : Tm) : List Pr := (s.map fun p => if p.t.v = v then ⟨p.v, t⟩ else p) ++ [⟨v, t⟩]

/-- A variable has no value. -/
def Tm.bare (t : Tm) : Prop := t.v ≠ [] → t.x = zeroV

/-- A chain as the program makes it: no key is empty or the blank; each pair's term names no key up to its own. -/
inductive Good : List Pr → Prop
  | nil : Good []
  | snoc {c : List Pr} {v : Name} {t : Tm} (h : Good c) (h1 : v ≠ []) (h2 : v ≠ us) (h3 : v ∉ keys c) (h4 : t.v ∉ keys c) (h5 : t.v ≠ v) (h6 : t.bare) : Good (c ++ [⟨v, t⟩])

theorem endOf_snoc : ∀ (c : List Pr) (p : Pr) (t : Tm), endOf (c ++ [p]) t = if (endOf c t).v = p.v then p.t else endOf c t
  | [], p, t => rfl
  | q :: c, p, t => by
    simp only [List.cons_append, endOf]
    split <;> exact endOf_snoc c p _

theorem endOf_out : ∀ {c : List Pr} {t : Tm}, t.v ∉ keys c → endOf c t = t
  | [], _, _ => rfl
  | p :: c, t, h => by
    simp only [keys, List.map_cons, List.mem_cons, not_or] at h
    simp only [endOf]
    rw [if_neg h.1]
    exact endOf_out h.2

theorem keys_snoc (c : List Pr) (p : Pr) : keys (c ++ [p]) = keys c ++ [p.v] := by simp [keys]

/-- Where the way ends no key stands. -/
theorem Good.end_out {c : List Pr} (h : Good c) : ∀ t, (endOf c t).v ∉ keys c := by
  induction h with
  | nil => intro t hv; cases hv
  | @snoc c v u h h1 h2 h3 h4 h5 h6 ih =>
    intro t
    rw [endOf_snoc, keys_snoc, List.mem_append, List.mem_singleton]
    split
    · rintro (h7 | h7)
      · exact h4 h7
      · exact h5 h7
    · rename_i hne
      rintro (h7 | h7)
      · exact ih t h7
      · exact hne h7

theorem Good.end_bare {c : List Pr} (h : Good c) : ∀ {t : Tm}, t.bare → (endOf c t).bare := by
  induction h with
  | nil => intro t ht; exact ht
  | snoc h h1 h2 h3 h4 h5 h6 ih =>
    intro t ht
    rw [endOf_snoc]
    split
    · exact h6
    · exact ih ht

/-- The pairs, solved. -/
def solve (c : List Pr) : List Pr := c.map fun p => ⟨p.v, endOf c p.t⟩

theorem solve_snoc {c : List Pr} {v : Name} {t : Tm} (h4 : t.v ∉ keys c) (h5 : t.v ≠ v) : solve (c ++ [⟨v, t⟩]) = takes (solve c) v t := by
  unfold solve takes
  simp only [List.map_append, List.map_map, List.map_cons, List.map_nil]
  congr 1
  · refine List.map_congr_left fun p _ => ?_
    simp only [endOf_snoc, Function.comp]
    split <;> rfl
  · rw [endOf_snoc, endOf_out h4, if_neg h5]

theorem find_snoc (s : List Pr) (p : Pr) (v : Name) : (s ++ [p]).find? (·.v == v) = match s.find? (·.v == v) with | some q => some q | none => if p.v = v then some p else none := by
  rw [List.find?_append]
  cases s.find? (·.v == v) with
  | some q => rfl
  | none =>
    simp only [Option.none_or, List.find?_cons, List.find?_nil]
    by_cases h : p.v = v
    · simp [h]
    · have h2 : (p.v == v) = false := by simpa using h
      simp [h, h2]

theorem find_out {s : List Pr} {v : Name} (h : v ∉ keys s) : s.find? (·.v == v) = none := by
  rw [List.find?_eq_none]
  intro p hp e
  exact h (by rw [beq_iff_eq] at e; rw [← e]; exact List.mem_map_of_mem hp)
theorem keys_solve (c : List Pr) : keys (solve c) = keys c := by simp [keys, solve, Function.comp_def]

theorem find_takes (s : List Pr) (v w : Name) (t : Tm) (h : w ≠ v) : (takes s v t).find? (·.v == w) = (s.find? (·.v == w)).map fun p => if p.t.v = v then ⟨p.v, t⟩ else p := by
  unfold takes
  rw [List.find?_append]
  have : ((s.map fun p => if p.t.v = v then (⟨p.v, t⟩ : Pr) else p).find? (·.v == w)) = (s.find? (·.v == w)).map fun p => if p.t.v = v then ⟨p.v, t⟩ else p := by
    rw [List.find?_map]
    congr 1
    congr 1
    funext p
    simp only [Function.comp]
    split <;> rfl
  rw [this]
  cases s.find? (·.v == w) with
  | some q => rfl
  | none => simp [Ne.symm h]

/-- What the document replaces a term by is the end of its way. -/
theorem Good.put {c : List Pr} (h : Good c) : ∀ t, putS (solve c) t = endOf c t := by
  induction h with
  | nil => intro t; simp [putS, solve, endOf]
  | @snoc c v u h h1 h2 h3 h4 h5 h6 ih =>
    intro t
    rw [solve_snoc h4 h5, endOf_snoc, ← ih t]
    unfold putS
    by_cases h0 : t.v = [] ∨ t.v = us
    · rw [if_pos h0, if_pos h0, if_neg (fun e => h0.elim (fun e2 => h1 (e.symm.trans e2)) fun e2 => h2 (e.symm.trans e2))]
    · rw [if_neg h0, if_neg h0]
      by_cases hv : t.v = v
      · have hn : (solve c).find? (·.v == t.v) = none := find_out (by rw [keys_solve, hv]; exact h3)
        have hm : ((solve c).map fun p => if p.t.v = v then (⟨p.v, u⟩ : Pr) else p).find? (·.v == t.v) = none := by
          rw [List.find?_eq_none] at hn ⊢
          intro p hp
          obtain ⟨q, hq, rfl⟩ := List.mem_map.1 hp
          have := hn q hq
          split <;> exact this
        have : (takes (solve c) v u).find? (·.v == t.v) = some ⟨v, u⟩ := by
          unfold takes
          rw [find_snoc, hm]
          simp [hv]
        rw [this, hn]
        simp only
        rw [if_pos hv]
      · rw [find_takes _ _ _ _ hv]
        cases (solve c).find? (·.v == t.v) with
        | none => simp only [Option.map_none]; rw [if_neg hv]
        | some p => simp only [Option.map_some]; split <;> rfl

end Go.Ped

import Derived.Test.YtiomojlcnemnhaaDoorKPedB
import Derived.Test.YtiomojlcnemnhaaDoorKDxU3
/- Plain words for a most general one: an assignment under which two atoms become one fact is one of the kind that the pairs say. -/
namespace Go.Ped

section
variable (val : Name → Val)

/-- What a term is under an assignment. -/
def valT (t : Tm) : Val := if t.v = [] then t.x else val t.v

/-- The assignment is of the kind that the pairs say, and no pair's term is the blank. -/
def Kind (c : List Pr) : Prop := ∀ p ∈ c, p.v ≠ [] ∧ val p.v = valT val p.t ∧ p.t.v ≠ us

theorem end_val : ∀ {c : List Pr} (t : Tm), Kind val c → valT val (endOf c t) = valT val t
  | [], _, _ => rfl
  | p :: c, t, h => by
    have hc : Kind val c := fun q hq => h q (List.mem_cons_of_mem _ hq)
    obtain ⟨h1, h2, _⟩ := h p (List.mem_cons_self ..)
    simp only [endOf]
    split
    · rename_i e
      rw [end_val p.t hc, ← h2]
      unfold valT
      rw [if_neg (by rw [e]; exact h1), e]
    · exact end_val t hc
theorem unify_most : ∀ {aa bs : List Tm} {c : List Pr}, Kind val c → (∀ t ∈ aa, t.bare) → (∀ t ∈ bs, t.bare) → Good c → (∀ (i : Nat) (a b : Tm), aa[i]? = some a → bs[i]? = some b → a.v ≠ us → b.v ≠ us → valT val a = valT val b) →
    ∃ c', goUnify c aa bs = some c' ∧ Kind val c'
  | [], bs, c, hk, _, _, _, _ => by cases bs <;> exact ⟨c, rfl, hk⟩
  | _ :: _, [], c, hk, _, _, _, _ => ⟨c, rfl, hk⟩
  | a :: aa, b :: bs, c, hk, ha, hb, hg, h => by
    have ha' : ∀ t ∈ aa, t.bare := fun t ht => ha t (List.mem_cons_of_mem _ ht)
    have hb' : ∀ t ∈ bs, t.bare := fun t ht => hb t (List.mem_cons_of_mem _ ht)
    have h' : ∀ (i : Nat) (x y : Tm), aa[i]? = some x → bs[i]? = some y → x.v ≠ us → y.v ≠ us → valT val x = valT val y := fun i x y h1 h2 => h (i + 1) x y (by simpa using h1) (by simpa using h2)
    have pa := hg.end_bare (ha a (List.mem_cons_self ..))
    have pb := hg.end_bare (hb b (List.mem_cons_self ..))
    have oa := hg.end_out a
    have ob := hg.end_out b
    have hval : a.v ≠ us → b.v ≠ us → valT val (endOf c a) = valT val (endOf c b) := fun h1 h2 => by rw [end_val val a hk, end_val val b hk]; exact h 0 a b rfl rfl h1 h2
    have bl : ∀ t : Tm, (endOf c t).v ≠ us → t.v ≠ us := fun t hne e => hne (by
      have : endOf c t = t := endOf_out fun hm => (hg.keys_ok _ hm).2 e
      rw [this]; exact e)
    simp only [goUnify]
    by_cases h1 : (endOf c a).v = us ∨ (endOf c b).v = us ∨ endOf c a = endOf c b
    · rw [if_pos h1]; exact unify_most hk ha' hb' hg h'
    · rw [if_neg h1]
      simp only [not_or] at h1
      obtain ⟨h1, h2, h3⟩ := h1
      have hv := hval (bl a h1) (bl b h2)
      generalize endOf c a = x at *
      generalize endOf c b = y at *
      have hne : x.v ≠ [] → y.v ≠ x.v := fun h0 e => h3 (by
        have e1 := pa h0
        have e2 := pb (by rw [e]; exact h0)
        cases x; cases y; simp only at *; rw [e, e1, e2])
      by_cases h4 : x.v = []
      · have e4 : ¬ x.v ≠ [] := fun e => e h4
        rw [if_neg e4]
        by_cases h5 : y.v = []
        · exact absurd (by
            simp only [valT, h4, h5, if_true] at hv
            cases x; cases y; simp only at *; rw [h4, h5, hv]) h3
        · rw [if_pos h5]
          have hxy : x.v ≠ y.v := by rw [h4]; exact fun e => h5 e.symm
          refine unify_most (fun p hp => ?_) ha' hb' (.snoc hg h5 h2 ob oa hxy pa) h'
          rcases List.mem_append.1 hp with hp | hp
          · exact hk p hp
          · simp only [List.mem_singleton] at hp; subst hp
            exact ⟨h5, by rw [hv]; unfold valT; rw [if_neg h5], h1⟩
      · rw [if_pos h4]
        refine unify_most (fun p hp => ?_) ha' hb' (.snoc hg h4 h1 oa ob (hne h4) pb) h'
        rcases List.mem_append.1 hp with hp | hp
        · exact hk p hp
        · simp only [List.mem_singleton] at hp; subst hp
          exact ⟨h4, by rw [← hv]; unfold valT; rw [if_neg h4], h2⟩

end
end Go.Ped

/- Plain words for a most general one, on: two atoms can be made one just if some assignment makes their columns one; the pairs make each column one, and are solved. -/
namespace Go.Ped

theorem endOf_append : ∀ (c d : List Pr) (t : Tm), endOf (c ++ d) t = endOf d (endOf c t)
  | [], d, t => rfl
  | p :: c, d, t => by
    simp only [List.cons_append, endOf]
    split <;> exact endOf_append c d _

/-- No pair's term is the blank. -/
def NoBlank (c : List Pr) : Prop := ∀ p ∈ c, p.t.v ≠ us
theorem noBlank_end : ∀ {c : List Pr} (t : Tm), NoBlank c → t.v ≠ us → (endOf c t).v ≠ us
  | [], _, _, h => h
  | p :: c, t, h, ht => by
    have hc : NoBlank c := fun q hq => h q (List.mem_cons_of_mem _ hq)
    simp only [endOf]
    split
    · exact noBlank_end p.t hc (h p (List.mem_cons_self ..))
    · exact noBlank_end t hc ht

/-- What making them one leaves: a longer chain, and each column without a blank is one. -/
theorem unify_cols : ∀ {aa bs : List Tm} {c c' : List Pr}, goUnify c aa bs = some c' → NoBlank c → Good c → (∀ t ∈ aa, t.bare) → (∀ t ∈ bs, t.bare) →
    (∃ d, c' = c ++ d) ∧ NoBlank c' ∧ ∀ (i : Nat) (a b : Tm), aa[i]? = some a → bs[i]? = some b → a.v ≠ us → b.v ≠ us → endOf c' a = endOf c' b
  | [], bs, c, c', h, hn, _, _, _ => by
    have e : c' = c := by cases bs <;> (injection h with h; exact h.symm)
    subst e
    exact ⟨⟨[], by simp⟩, hn, fun i a b ha => by simp at ha⟩
  | _ :: _, [], c, c', h, hn, _, _, _ => by
    have e : c' = c := by injection h with h; exact h.symm
    subst e
    exact ⟨⟨[], by simp⟩, hn, fun i a b _ hb => by simp at hb⟩
  | a :: aa, b :: bs, c, c', h, hn, hg, ha, hb => by
    have ha' : ∀ t ∈ aa, t.bare := fun t ht => ha t (List.mem_cons_of_mem _ ht)
    have hb' : ∀ t ∈ bs, t.bare := fun t ht => hb t (List.mem_cons_of_mem _ ht)
    have pa := hg.end_bare (ha a (List.mem_cons_self ..))
    have pb := hg.end_bare (hb b (List.mem_cons_self ..))
    have oa := hg.end_out a
    have ob := hg.end_out b
    simp only [goUnify] at h
    have key : ∀ c1 : List Pr, goUnify c1 aa bs = some c' → NoBlank c1 → Good c1 → (∃ d, c1 = c ++ d) → (a.v ≠ us → b.v ≠ us → endOf c1 a = endOf c1 b) →
        (∃ d, c' = c ++ d) ∧ NoBlank c' ∧ ∀ (i : Nat) (x y : Tm), (a :: aa)[i]? = some x → (b :: bs)[i]? = some y → x.v ≠ us → y.v ≠ us → endOf c' x = endOf c' y := fun c1 h1 h2 h3 ⟨d1, hd1⟩ h4 => by
      obtain ⟨⟨d, hd⟩, g2, g3⟩ := unify_cols h1 h2 h3 ha' hb'
      refine ⟨⟨d1 ++ d, by rw [hd, hd1, List.append_assoc]⟩, g2, fun i x y hx hy nx ny => ?_⟩
      cases i with
      | zero =>
        simp at hx hy; subst hx; subst hy
        rw [hd, endOf_append, endOf_append, h4 nx ny]
      | succ i => exact g3 i x y (by simpa using hx) (by simpa using hy) nx ny
    split at h
    · rename_i h1
      refine key c h hn hg ⟨[], by simp⟩ fun nx ny => ?_
      rcases h1 with h1 | h1 | h1
      · exact absurd h1 (noBlank_end a hn nx)
      · exact absurd h1 (noBlank_end b hn ny)
      · exact h1
    · rename_i h1
      simp only [not_or] at h1
      obtain ⟨h1, h2, h3⟩ := h1
      have hne : (endOf c a).v ≠ [] → (endOf c b).v ≠ (endOf c a).v := fun h0 e => h3 (by
        have e1 := pa h0
        have e2 := pb (by rw [e]; exact h0)
        generalize endOf c a = x at *
        generalize endOf c b = y at *
        cases x; cases y; simp only at *; rw [e, e1, e2])
      split at h
      · rename_i h4
        refine key _ h (fun p hp => ?_) (.snoc hg h4 h1 oa ob (hne h4) pb) ⟨_, rfl⟩ fun _ _ => ?_
        · rcases List.mem_append.1 hp with hp | hp
          · exact hn p hp
          · simp only [List.mem_singleton] at hp; subst hp; exact h2
        · rw [endOf_snoc, endOf_snoc]
          simp
      · split at h
        · rename_i h4 h5
          have h4 : (endOf c a).v = [] := by simpa using h4
          have hxy : (endOf c a).v ≠ (endOf c b).v := by rw [h4]; exact fun e => h5 e.symm
          refine key _ h (fun p hp => ?_) (.snoc hg h5 h2 ob oa hxy pa) ⟨_, rfl⟩ fun _ _ => ?_
          · rcases List.mem_append.1 hp with hp | hp
            · exact hn p hp
            · simp only [List.mem_singleton] at hp; subst hp; exact h1
          · rw [endOf_snoc, endOf_snoc]
            simp [hxy]
        · cases h

/-- The assignment that a chain says, the others being a number. -/
def valEnd (e : Tm) : Val := if e.v = [] then e.x else ⟨1, 0, []⟩
def valOf (c : List Pr) (v : Name) : Val := valEnd (endOf c ⟨v, zeroV⟩)
theorem valT_of {c : List Pr} (hg : Good c) {t : Tm} (ht : t.bare) : valT (valOf c) t = valEnd (endOf c t) := by
  unfold valT valOf
  by_cases h : t.v = []
  · rw [if_pos h]
    have : endOf c t = t := endOf_out fun hm => (hg.keys_ok _ hm).1 h
    rw [this]; simp [valEnd, h]
  · rw [if_neg h]
    obtain ⟨v, x⟩ := t
    have : x = zeroV := ht h
    subst this; rfl

/-- Two atoms can be made one just if some assignment makes their columns one, those with a blank left out. -/
theorem unify_iff {aa bs : List Tm} (ha : ∀ t ∈ aa, t.bare) (hb : ∀ t ∈ bs, t.bare) :
    (goUnify [] aa bs).isSome = true ↔ ∃ val : Name → Val, ∀ (i : Nat) (a b : Tm), aa[i]? = some a → bs[i]? = some b → a.v ≠ us → b.v ≠ us → valT val a = valT val b := by
  constructor
  · intro h
    obtain ⟨c, hc⟩ := Option.isSome_iff_exists.1 h
    obtain ⟨_, _, h3⟩ := unify_cols hc (fun p hp => by cases hp) .nil ha hb
    have hg := goUnify_good aa bs [] .nil ha hb c hc
    refine ⟨valOf c, fun i a b h1 h2 na nb => ?_⟩
    rw [valT_of hg (ha a (List.mem_of_getElem? h1)), valT_of hg (hb b (List.mem_of_getElem? h2)), h3 i a b h1 h2 na nb]
  · rintro ⟨val, hv⟩
    obtain ⟨c, hc, _⟩ := unify_most val (c := []) (fun p hp => by cases hp) ha hb .nil hv
    rw [hc]; rfl
theorem unify_back {aa bs : List Tm} (ha : ∀ t ∈ aa, t.bare) (hb : ∀ t ∈ bs, t.bare) : (goUnify [] aa bs).isSome = (goUnify [] bs aa).isSome := by
  rw [Bool.eq_iff_iff, unify_iff ha hb, unify_iff hb ha]
  constructor
  · rintro ⟨val, h⟩; exact ⟨val, fun i a b h1 h2 n1 n2 => (h i b a h2 h1 n2 n1).symm⟩
  · rintro ⟨val, h⟩; exact ⟨val, fun i a b h1 h2 n1 n2 => (h i b a h2 h1 n2 n1).symm⟩

/-- A chain's pairs, solved: each key a variable, told once; no pair's term is a key or the blank; replacing twice is replacing once. -/
theorem Good.nodup {c : List Pr} (h : Good c) : (keys c).Nodup := by
  induction h with
  | nil => exact List.nodup_nil
  | snoc h h1 h2 h3 h4 h5 h6 ih =>
    rw [keys_snoc, List.nodup_append]
    refine ⟨ih, by simp, fun a ha b hb e => ?_⟩
    simp only [List.mem_singleton] at hb
    subst hb; subst e
    exact h3 ha
theorem solved {c : List Pr} (h : Good c) (hn : NoBlank c) : ∀ p ∈ solve c, p.v ≠ [] ∧ p.v ≠ us ∧ p.t.v ≠ us ∧ p.t.v ∉ keys (solve c) := fun p hp => by
  have hk : p.v ∈ keys (solve c) := List.mem_map_of_mem hp
  obtain ⟨q, hq, rfl⟩ := List.mem_map.1 hp
  rw [keys_solve] at hk ⊢
  exact ⟨(h.keys_ok _ hk).1, (h.keys_ok _ hk).2, noBlank_end q.t hn (hn q hq), h.end_out q.t⟩
theorem put_twice {c : List Pr} (h : Good c) (t : Tm) : putS (solve c) (putS (solve c) t) = putS (solve c) t := by
  rw [h.put, h.put]
  exact endOf_out (h.end_out t)
end Go.Ped

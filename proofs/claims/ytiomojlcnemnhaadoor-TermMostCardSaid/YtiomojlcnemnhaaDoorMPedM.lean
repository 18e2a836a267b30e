/- Plain words for a most general one: an assignment under which two atoms become one fact is one of the kind that the pairs say. -/
import Derived.Test.YtiomojlcnemnhaaDoorMPedB
namespace Go.Ped

section
variable (val : Name → Val)

/-- What a term is under an assignment. -/
def valT (t : Tm) : Val := if t.v = [] then t.x else val t.v

/-- The assignment is of the kind that the pairs say, and no pair's term is the blank. -/
def Kind (c : List Pr) : Prop := ∀ p ∈ c, p.v ≠ [] ∧ val p.v = valT val p.t ∧ p.t.v ≠ us

theorem end_val : ∀ {c : List Pr} (t : Tm), Kind val c → valT val (endOf c t) = valT val t
  | [], _, _ => rfl
  | p :: c, t, h => by
    have hc : Kind val c := fun q hq => h q (List.mem_cons_of_mem _ hq)
    obtain ⟨h1, h2, _⟩ := h p (List.mem_cons_self ..)
    simp only [endOf]
    split
    · rename_i e
      rw [end_val p.t hc, ← h2]
      unfold valT
      rw [if_neg (by rw [e]; exact h1), e]
    · exact end_val t hc
theorem end_blank : ∀ {c : List Pr} (t : Tm), Kind val c → t.v ≠ us → (endOf c t).v ≠ us
  | [], _, _, h => h
  | p :: c, t, h, ht => by
    have hc : Kind val c := fun q hq => h q (List.mem_cons_of_mem _ hq)
    simp only [endOf]
    split
    · exact end_blank p.t hc (h p (List.mem_cons_self ..)).2.2
    · exact end_blank t hc ht

theorem unify_most : ∀ {as bs : List Tm} {c : List Pr}, Kind val c → (∀ t ∈ as, t.bare) → (∀ t ∈ bs, t.bare) → Good c → (∀ (i : Nat) (a b : Tm), as[i]? = some a → bs[i]? = some b → a.v ≠ us → b.v ≠ us → valT val a = valT val b) →
    ∃ c', goUnify c as bs = some c' ∧ Kind val c'
  | [], bs, c, hk, _, _, _, _ => by cases bs <;> exact ⟨c, rfl, hk⟩
  | _ :: _, [], c, hk, _, _, _, _ => ⟨c, rfl, hk⟩
  | a :: as, b :: bs, c, hk, ha, hb, hg, h => by
    have ha' : ∀ t ∈ as, t.bare := fun t ht => ha t (List.mem_cons_of_mem _ ht)
    have hb' : ∀ t ∈ bs, t.bare := fun t ht => hb t (List.mem_cons_of_mem _ ht)
    have h' : ∀ (i : Nat) (x y : Tm), as[i]? = some x → bs[i]? = some y → x.v ≠ us → y.v ≠ us → valT val x = valT val y := fun i x y h1 h2 => h (i + 1) x y (by simpa using h1) (by simpa using h2)
    have pa := hg.end_bare (ha a (List.mem_cons_self ..))
    have pb := hg.end_bare (hb b (List.mem_cons_self ..))
    have oa := hg.end_out a
    have ob := hg.end_out b
    have hval : a.v ≠ us → b.v ≠ us → valT val (endOf c a) = valT val (endOf c b) := fun h1 h2 => by rw [end_val val a hk, end_val val b hk]; exact h 0 a b rfl rfl h1 h2
    have bl : ∀ t : Tm, (endOf c t).v ≠ us → t.v ≠ us := fun t hne e => hne (by
      have : endOf c t = t := endOf_out fun hm => (hg.keys_ok _ hm).2 e
      rw [this]; exact e)
    simp only [goUnify]
    by_cases h1 : (endOf c a).v = us ∨ (endOf c b).v = us ∨ endOf c a = endOf c b
    · rw [if_pos h1]; exact unify_most hk ha' hb' hg h'
    · rw [if_neg h1]
      simp only [not_or] at h1
      obtain ⟨h1, h2, h3⟩ := h1
      have hv := hval (bl a h1) (bl b h2)
      generalize endOf c a = x at *
      generalize endOf c b = y at *
      have hne : x.v ≠ [] → y.v ≠ x.v := fun h0 e => h3 (by
        have e1 := pa h0
        have e2 := pb (by rw [e]; exact h0)
        cases x; cases y; simp only at *; rw [e, e1, e2])
      by_cases h4 : x.v = []
      · have e4 : ¬ x.v ≠ [] := fun e => e h4
        rw [if_neg e4]
        by_cases h5 : y.v = []
        · exact absurd (by
            simp only [valT, h4, h5, if_true] at hv
            cases x; cases y; simp only at *; rw [h4, h5, hv]) h3
        · rw [if_pos h5]
          have hxy : x.v ≠ y.v := by rw [h4]; exact fun e => h5 e.symm
          refine unify_most (fun p hp => ?_) ha' hb' (.snoc hg h5 h2 ob oa hxy pa) h'
          rcases List.mem_append.1 hp with hp | hp
          · exact hk p hp
          · simp only [List.mem_singleton] at hp; subst hp
            exact ⟨h5, by rw [hv]; unfold valT; rw [if_neg h5], h1⟩
      · rw [if_pos h4]
        refine unify_most (fun p hp => ?_) ha' hb' (.snoc hg h4 h1 oa ob (hne h4) pb) h'
        rcases List.mem_append.1 hp with hp | hp
        · exact hk p hp
        · simp only [List.mem_singleton] at hp; subst hp
          exact ⟨h4, by rw [← hv]; unfold valT; rw [if_neg h4], h2⟩

/-- .. and so of the pairs, solved. -/
theorem solve_kind {c : List Pr} (h : Kind val c) : Kind val (solve c) := fun p hp => by
  obtain ⟨q, hq, rfl⟩ := List.mem_map.1 hp
  obtain ⟨h1, h2, h3⟩ := h q hq
  exact ⟨h1, by rw [end_val val q.t h]; exact h2, end_blank val q.t h h3⟩

end
end Go.Ped

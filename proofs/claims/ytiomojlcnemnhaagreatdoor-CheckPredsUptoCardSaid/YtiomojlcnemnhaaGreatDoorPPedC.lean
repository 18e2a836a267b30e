/- Plain words for predicates and their numbers of columns: met in a map, as the program does it, and put in order, as the document has it. -/
import Derived.Test.YtiomojlcnemnhaaGreatDoorPGxM3
namespace Go.Ped

structure Pd where
  name : Name
  n : Int
  deriving DecidableEq, Inhabited

def lookP (l : List Pd) (v : Name) : Option Int := (l.find? (·.name == v)).map (·.n)
theorem lookP_none {l : List Pd} {v : Name} : lookP l v = none ↔ v ∉ l.map Pd.name := by
  unfold lookP
  rw [Option.map_eq_none_iff, List.find?_eq_none]
  simp only [beq_iff_eq, List.mem_map, not_exists, not_and]
theorem lookP_cons (p : Pd) (l : List Pd) (v : Name) : lookP (p :: l) v = if p.name = v then some p.n else lookP l v := by
  unfold lookP
  rw [List.find?_cons]
  by_cases h : p.name = v
  · simp [h]
  · have : (p.name == v) = false := by simpa using h
    simp [this, h]
theorem lookP_snoc (l : List Pd) (p : Pd) (v : Name) (h : lookP l p.name = none) : lookP (l ++ [p]) v = if p.name = v then some p.n else lookP l v := by
  induction l with
  | nil => rw [List.nil_append, lookP_cons]
  | cons q l ih =>
    rw [lookP_cons] at h
    split at h
    · cases h
    · rename_i hq
      rw [List.cons_append, lookP_cons, lookP_cons, ih h]
      by_cases h1 : q.name = v
      · have : ¬ p.name = v := fun e => hq (h1.trans e.symm)
        simp [h1, this]
      · simp [h1]

/-- The program's: one predicate more in the map; none: it has another number. -/
def goMeet (m : List Pd) (p : Pd) : Option (List Pd) := match lookP m p.name with
  | some k => if k = p.n then some m else none
  | none => some (m ++ [p])
def goMeets : List Pd → List Pd → Option (List Pd)
  | m, [] => some m
  | m, p :: l => match goMeet m p with
    | some m' => goMeets m' l
    | none => none
theorem goMeets_append : ∀ (a b m : List Pd), goMeets m (a ++ b) = (goMeets m a).bind fun m' => goMeets m' b
  | [], b, m => rfl
  | p :: a, b, m => by
    simp only [List.cons_append, goMeets]
    cases goMeet m p with
    | none => rfl
    | some m' => exact goMeets_append a b m'

section
variable (lt : Name → Name → Bool)

/-- The document's: put in its place. -/
def insP (p : Pd) : List Pd → List Pd
  | [] => [p]
  | q :: l => if lt q.name p.name then q :: insP p l else p :: q :: l
def refMeet (known : List Pd) (p : Pd) : Option (List Pd) := match lookP known p.name with
  | some k => if k = p.n then some known else none
  | none => some (insP lt p known)
def refMeets : List Pd → List Pd → Option (List Pd)
  | m, [] => some m
  | m, p :: l => match refMeet lt m p with
    | some m' => refMeets m' l
    | none => none
theorem refMeets_append : ∀ (a b m : List Pd), refMeets lt m (a ++ b) = (refMeets lt m a).bind fun m' => refMeets lt m' b
  | [], b, m => rfl
  | p :: a, b, m => by
    simp only [List.cons_append, refMeets]
    cases refMeet lt m p with
    | none => rfl
    | some m' => exact refMeets_append a b m'

theorem lookP_ins (p : Pd) : ∀ (l : List Pd) (v : Name), lookP l p.name = none → lookP (insP lt p l) v = if p.name = v then some p.n else lookP l v
  | [], v, _ => by rw [insP, lookP_cons]
  | q :: l, v, h => by
    rw [lookP_cons] at h
    split at h
    · cases h
    · rename_i hq
      rw [insP]
      split
      · rw [lookP_cons, lookP_cons, lookP_ins p l v h]
        by_cases h1 : q.name = v
        · have : ¬ p.name = v := fun e => hq (h1.trans e.symm)
          simp [h1, this]
        · simp [h1]
      · rw [lookP_cons]

/-- In order. -/
def Ordered (l : List Name) : Prop := l.Pairwise fun a b => lt a b = true

theorem mem_insP {p q : Pd} : ∀ {l : List Pd}, q ∈ insP lt p l ↔ q = p ∨ q ∈ l
  | [] => by simp [insP]
  | r :: l => by
    rw [insP]
    split
    · rw [List.mem_cons, mem_insP, List.mem_cons]
      constructor
      · rintro (h | h | h)
        · exact .inr (.inl h)
        · exact .inl h
        · exact .inr (.inr h)
      · rintro (h | h | h)
        · exact .inr (.inl h)
        · exact .inl h
        · exact .inr (.inr h)
    · rw [List.mem_cons]

variable (trans : ∀ a b c, lt a b = true → lt b c = true → lt a c = true) (total : ∀ a b, a ≠ b → lt a b = true ∨ lt b a = true) (irrefl : ∀ a, lt a a = false)
include trans total in
theorem ordered_ins (p : Pd) : ∀ (l : List Pd), Ordered lt (l.map Pd.name) → p.name ∉ l.map Pd.name → Ordered lt ((insP lt p l).map Pd.name)
  | [], _, _ => by simp [insP, Ordered]
  | q :: l, h, hn => by
    simp only [List.map_cons, List.mem_cons, not_or] at hn
    have h' := List.pairwise_cons.1 h
    rw [insP]
    split
    · rename_i hl
      refine List.pairwise_cons.2 ⟨fun v hv => ?_, ordered_ins p l h'.2 hn.2⟩
      obtain ⟨r, hr, rfl⟩ := List.mem_map.1 hv
      rcases (mem_insP lt).1 hr with rfl | hr
      · exact hl
      · exact h'.1 _ (List.mem_map_of_mem hr)
    · rename_i hl
      have hpq : lt p.name q.name = true := (total _ _ hn.1).resolve_right hl
      refine List.pairwise_cons.2 ⟨fun v hv => ?_, h⟩
      rcases List.mem_cons.1 hv with rfl | hv
      · exact hpq
      · exact trans _ _ _ hpq (h'.1 v hv)

/-- Both have the same predicates, and the document's are in order. -/
structure SameP (m known : List Pd) : Prop where
  look : ∀ v, lookP m v = lookP known v
  ord : Ordered lt (known.map Pd.name)

include trans total in
theorem meet_same {m known : List Pd} (h : SameP lt m known) (p : Pd) : (goMeet m p = none ∧ refMeet lt known p = none) ∨ ∃ m' known', goMeet m p = some m' ∧ refMeet lt known p = some known' ∧ SameP lt m' known' := by
  have hl := h.look p.name
  unfold goMeet refMeet
  cases hk : lookP known p.name with
  | some k =>
    rw [hl, hk]
    by_cases e : k = p.n
    · exact .inr ⟨m, known, by simp [e], by simp [e], h⟩
    · exact .inl ⟨by simp [e], by simp [e]⟩
  | none =>
    rw [hl, hk]
    refine .inr ⟨_, _, rfl, rfl, fun v => ?_, ordered_ins lt trans total p known h.ord (lookP_none.1 hk)⟩
    rw [lookP_snoc _ _ _ (hl.trans hk), lookP_ins lt p known v hk, h.look v]
include trans total in
theorem meets_same : ∀ (l : List Pd) {m known : List Pd}, SameP lt m known → (goMeets m l = none ∧ refMeets lt known l = none) ∨ ∃ m' known', goMeets m l = some m' ∧ refMeets lt known l = some known' ∧ SameP lt m' known'
  | [], m, known, h => .inr ⟨m, known, rfl, rfl, h⟩
  | p :: l, m, known, h => by
    rcases meet_same lt trans total h p with ⟨h1, h2⟩ | ⟨m', k', h1, h2, h3⟩
    · exact .inl ⟨by simp [goMeets, h1], by simp [refMeets, h2]⟩
    · simp only [goMeets, refMeets, h1, h2]
      exact meets_same l h3
theorem same_nil : SameP lt [] [] := ⟨fun _ => rfl, List.Pairwise.nil⟩

include irrefl trans in
/-- Two lists in order with the same members are one. -/
theorem ordered_unique : ∀ {l l' : List Name}, Ordered lt l → Ordered lt l' → (∀ v, v ∈ l ↔ v ∈ l') → l = l'
  | [], [], _, _, _ => rfl
  | [], b :: l', _, _, h => absurd ((h b).2 (List.mem_cons_self ..)) (by simp)
  | a :: l, [], _, _, h => absurd ((h a).1 (List.mem_cons_self ..)) (by simp)
  | a :: l, b :: l', h1, h2, h => by
    have g1 := List.pairwise_cons.1 h1
    have g2 := List.pairwise_cons.1 h2
    have hab : a = b := by
      rcases List.mem_cons.1 ((h a).1 (List.mem_cons_self ..)) with e | hm
      · exact e
      · rcases List.mem_cons.1 ((h b).2 (List.mem_cons_self ..)) with e | hm'
        · exact e.symm
        · have := trans _ _ _ (g2.1 a hm) (g1.1 b hm')
          rw [irrefl] at this; cases this
    subst hab
    congr 1
    refine ordered_unique g1.2 g2.2 fun v => ⟨fun hv => ?_, fun hv => ?_⟩
    · rcases List.mem_cons.1 ((h v).1 (List.mem_cons_of_mem _ hv)) with e | hm
      · subst e; have := g1.1 _ hv; rw [irrefl] at this; cases this
      · exact hm
    · rcases List.mem_cons.1 ((h v).2 (List.mem_cons_of_mem _ hv)) with e | hm
      · subst e; have := g2.1 _ hv; rw [irrefl] at this; cases this
      · exact hm

include irrefl in
/-- What is found of each is what stands there. -/
theorem look_known : ∀ {known : List Pd}, Ordered lt (known.map Pd.name) → ∀ p ∈ known, lookP known p.name = some p.n
  | [], _, p, hp => by cases hp
  | q :: l, h, p, hp => by
    have g := List.pairwise_cons.1 h
    rw [lookP_cons]
    rcases List.mem_cons.1 hp with rfl | hp
    · simp
    · have hne : q.name ≠ p.name := fun e => by
        have := g.1 p.name (List.mem_map_of_mem hp)
        rw [e, irrefl] at this; cases this
      rw [if_neg hne]
      exact look_known g.2 p hp

include irrefl trans in
/-- The names, sorted, with what the map has of each, are the document's predicates. -/
theorem preds_same {m known : List Pd} (h : SameP lt m known) {ss : List Name} (hs : Ordered lt ss) (hm : ∀ v, v ∈ ss ↔ v ∈ m.map Pd.name) : ss.map (fun v => (⟨v, (lookP m v).getD 0⟩ : Pd)) = known := by
  have hmem : ∀ v, v ∈ m.map Pd.name ↔ v ∈ known.map Pd.name := fun v => by
    have := h.look v
    constructor
    · intro hv
      apply Classical.byContradiction
      intro hn
      rw [lookP_none.2 hn] at this
      exact lookP_none.1 this hv
    · intro hv
      apply Classical.byContradiction
      intro hn
      rw [lookP_none.2 hn] at this
      exact lookP_none.1 this.symm hv
  have e : ss = known.map Pd.name := ordered_unique lt trans irrefl hs h.ord fun v => (hm v).trans (hmem v)
  rw [e, List.map_map]
  have : ∀ p ∈ known, ((fun v => (⟨v, (lookP m v).getD 0⟩ : Pd)) ∘ Pd.name) p = p := fun p hp => by
    simp only [Function.comp]
    rw [h.look, look_known lt irrefl h.ord p hp]
    rfl
  rw [List.map_congr_left this, List.map_id']
end
end Go.Ped

import Derived.Test.YtiomojlcnemnhaaFHxM3
import Derived.Test.YtiomojlcnemnhaaFHxQ1
import Derived.Test.YtiomojlcnemnhaaFHxIcT
/- Plain words for predicates and their numbers of columns: met in a map, as the program does it, and put in order, as the document has it. -/
namespace Go.Ped

structure Pd where
  name : Name
  n : Int
  deriving DecidableEq, Inhabited

def lookP (l : List Pd) (v : Name) : Option Int := (l.find? (·.name == v)).map (·.n)
theorem lookP_none {l : List Pd} {v : Name} : lookP l v = none ↔ v ∉ l.map Pd.name := by
  unfold lookP
  rw [Option.map_eq_none_iff, List.find?_eq_none]
  simp only [beq_iff_eq, List.mem_map, not_exists, not_and]
theorem lookP_cons (p : Pd) (l : List Pd) (v : Name) : lookP (p :: l) v = if p.name = v then some p.n else lookP l v := by
  unfold lookP
  rw [List.find?_cons]
  by_cases h : p.name = v
  · simp [h]
  · have : (p.name == v) = false := by simpa using h
    simp [this, h]
theorem lookP_snoc (l : List Pd) (p : Pd) (v : Name) (h : lookP l p.name = none) : lookP (l ++ [p]) v = if p.name = v then some p.n else lookP l v := by
  induction l with
  | nil => rw [List.nil_append, lookP_cons]
  | cons q l ih =>
    rw [lookP_cons] at h
    split at h
    · cases h
    · rename_i hq
      rw [List.cons_append, lookP_cons, lookP_cons, ih h]
      by_cases h1 : q.name = v
      · have : ¬ p.name = v := fun e => hq (h1.trans e.symm)
        simp [h1, this]
      · simp [h1]

/-- The program's: one predicate more in the map; none: it has another number. -/
def goMeet (m : List Pd) (p : Pd) : Option (List Pd) := match lookP m p.name with
  | some k => if k = p.n then some m else none
  | none => some (m ++ [p])
def goMeets : List Pd → List Pd → Option (List Pd)
  | m, [] => some m
  | m, p :: l => match goMeet m p with
    | some m' => goMeets m' l
    | none => none
theorem goMeets_append : ∀ (a b m : List Pd), goMeets m (a ++ b) = (goMeets m a).bind fun m' => goMeets m' b
  | [], b, m => rfl
  | p :: a, b, m => by
    simp only [List.cons_append, goMeets]
    cases goMeet m p with
    | none => rfl
    | some m' => exact goMeets_append a b m'

section
variable (lt : Name → Name → Bool)

/-- The document's: put in its place. -/
def insP (p : Pd) : List Pd → List Pd
  | [] => [p]
  | q :: l => if lt q.name p.name then q :: insP p l else p :: q :: l
def refMeet (known : List Pd) (p : Pd) : Option (List Pd) := match lookP known p.name with
  | some k => if k = p.n then some known else none
  | none => some (insP lt p known)
def refMeets : List Pd → List Pd → Option (List Pd)
  | m, [] => some m
  | m, p :: l => match refMeet lt m p with
    | some m' => refMeets m' l
    | none => none
theorem refMeets_append : ∀ (a b m : List Pd), refMeets lt m (a ++ b) = (refMeets lt m a).bind fun m' => refMeets lt m' b
  | [], b, m => rfl
  | p :: a, b, m => by
    simp only [List.cons_append, refMeets]
    cases refMeet lt m p with
    | none => rfl
    | some m' => exact refMeets_append a b m'

theorem lookP_ins (p : Pd) : ∀ (l : List Pd) (v : Name), lookP l p.name = none → lookP (insP lt p l) v = if p.name = v then some p.n else lookP l v
  | [], v, _ => by rw [insP, lookP_cons]
  | q :: l, v, h => by
    rw [lookP_cons] at h
    split at h
    · cases h
    · rename_i hq
      rw [insP]
      split
      · rw [lookP_cons, lookP_cons, lookP_ins p l v h]
        by_cases h1 : q.name = v
        · have : ¬ p.name = v := fun e => hq (h1.trans e.symm)
          simp [h1, this]
        · simp [h1]
      · rw [lookP_cons]

/-- In order. -/
def Ordered (l : List Name) : Prop := l.Pairwise fun a b => lt a b = true

theorem mem_insP {p q : Pd} : ∀ {l : List Pd}, q ∈ insP lt p l ↔ q = p ∨ q ∈ l
  | [] => by simp [insP]
  | r :: l => by
    rw [insP]
    split
    · rw [List.mem_cons, mem_insP, List.mem_cons]
      constructor
      · rintro (h | h | h)
        · exact .inr (.inl h)
        · exact .inl h
        · exact .inr (.inr h)
      · rintro (h | h | h)
        · exact .inr (.inl h)
        · exact .inl h
        · exact .inr (.inr h)
    · rw [List.mem_cons]

variable (trans : ∀ a b c, lt a b = true → lt b c = true → lt a c = true) (total : ∀ a b, a ≠ b → lt a b = true ∨ lt b a = true) (irrefl : ∀ a, lt a a = false)
include trans total in
theorem ordered_ins (p : Pd) : ∀ (l : List Pd), Ordered lt (l.map Pd.name) → p.name ∉ l.map Pd.name → Ordered lt ((insP lt p l).map Pd.name)
  | [], _, _ => by simp [insP, Ordered]
  | q :: l, h, hn => by
    simp only [List.map_cons, List.mem_cons, not_or] at hn
    have h' := List.pairwise_cons.1 h
    rw [insP]
    split
    · rename_i hl
      refine List.pairwise_cons.2 ⟨fun v hv => ?_, ordered_ins p l h'.2 hn.2⟩
      obtain ⟨r, hr, rfl⟩ := List.mem_map.1 hv
      rcases (mem_insP lt).1 hr with rfl | hr
      · exact hl
      · exact h'.1 _ (List.mem_map_of_mem hr)
    · rename_i hl
      have hpq : lt p.name q.name = true := (total _ _ hn.1).resolve_right hl
      refine List.pairwise_cons.2 ⟨fun v hv => ?_, h⟩
      rcases List.mem_cons.1 hv with rfl | hv
      · exact hpq
      · exact trans _ _ _ hpq (h'.1 v hv)

/-- Both have the same predicates, and the document's are in order. -/
structure SameP (m known : List Pd) : Prop where
  look : ∀ v, lookP m v = lookP known v
  ord : Ordered lt (known.map Pd.name)

include trans total in
theorem meet_same {m known : List Pd} (h : SameP lt m known) (p : Pd) : (goMeet m p = none ∧ refMeet lt known p = none) ∨ ∃ m' known', goMeet m p = some m' ∧ refMeet lt known p = some known' ∧ SameP lt m' known' := by
  have hl := h.look p.name
  unfold goMeet refMeet
  cases hk : lookP known p.name with
  | some k =>
    rw [hl, hk]
    by_cases e : k = p.n
    · exact .inr ⟨m, known, by simp [e], by simp [e], h⟩
    · exact .inl ⟨by simp [e], by simp [e]⟩
  | none =>
    rw [hl, hk]
    refine .inr ⟨_, _, rfl, rfl, fun v => ?_, ordered_ins lt trans total p known h.ord (lookP_none.1 hk)⟩
    rw [lookP_snoc _ _ _ (hl.trans hk), lookP_ins lt p known v hk, h.look v]
include trans total in
theorem meets_same : ∀ (l : List Pd) {m known : List Pd}, SameP lt m known → (goMeets m l = none ∧ refMeets lt known l = none) ∨ ∃ m' known', goMeets m l = some m' ∧ refMeets lt known l = some known' ∧ SameP lt m' known'
  | [], m, known, h => .inr ⟨m, known, rfl, rfl, h⟩
  | p :: l, m, known, h => by
    rcases meet_same lt trans total h p with ⟨h1, h2⟩ | ⟨m', k', h1, h2, h3⟩
    · exact .inl ⟨by simp [goMeets, h1], by simp [refMeets, h2]⟩
    · simp only [goMeets, refMeets, h1, h2]
      exact meets_same l h3
theorem same_nil : SameP lt [] [] := ⟨fun _ => rfl, List.Pairwise.nil⟩

include irrefl trans in
/-- Two lists in order with the same members are one. -/
theorem ordered_unique : ∀ {l l' : List Name}, Ordered lt l → Ordered lt l' → (∀ v, v ∈ l ↔ v ∈ l') → l = l'
  | [], [], _, _, _ => rfl
  | [], b :: l', _, _, h => absurd ((h b).2 (List.mem_cons_self ..)) (by simp)
  | a :: l, [], _, _, h => absurd ((h a).1 (List.mem_cons_self ..)) (by simp)
  | a :: l, b :: l', h1, h2, h => by
    have g1 := List.pairwise_cons.1 h1
    have g2 := List.pairwise_cons.1 h2
    have hab : a = b := by
      rcases List.mem_cons.1 ((h a).1 (List.mem_cons_self ..)) with e | hm
      · exact e
      · rcases List.mem_cons.1 ((h b).2 (List.mem_cons_self ..)) with e | hm'
        · exact e.symm
        · have := trans _ _ _ (g2.1 a hm) (g1.1 b hm')
          rw [irrefl] at this; cases this
    subst hab
    congr 1
    refine ordered_unique g1.2 g2.2 fun v => ⟨fun hv => ?_, fun hv => ?_⟩
    · rcases List.mem_cons.1 ((h v).1 (List.mem_cons_of_mem _ hv)) with e | hm
      · subst e; have := g1.1 _ hv; rw [irrefl] at this; cases this
      · exact hm
    · rcases List.mem_cons.1 ((h v).2 (List.mem_cons_of_mem _ hv)) with e | hm
      · subst e; have := g2.1 _ hv; rw [irrefl] at this; cases this
      · exact hm

include irrefl in
/-- What is found of each is what stands there. -/
theorem look_known : ∀ {known : List Pd}, Ordered lt (known.map Pd.name) → ∀ p ∈ known, lookP known p.name = some p.n
  | [], _, p, hp => by cases hp
  | q :: l, h, p, hp => by
    have g := List.pairwise_cons.1 h
    rw [lookP_cons]
    rcases List.mem_cons.1 hp with rfl | hp
    · simp
    · have hne : q.name ≠ p.name := fun e => by
        have := g.1 p.name (List.mem_map_of_mem hp)
        rw [e, irrefl] at this; cases this
      rw [if_neg hne]
      exact look_known g.2 p hp

include irrefl trans in
/-- The names, sorted, with what the map has of each, are the document's predicates. -/
theorem preds_same {m known : List Pd} (h : SameP lt m known) {ss : List Name} (hs : Ordered lt ss) (hm : ∀ v, v ∈ ss ↔ v ∈ m.map Pd.name) : ss.map (fun v => (⟨v, (lookP m v).getD 0⟩ : Pd)) = known := by
  have hmem : ∀ v, v ∈ m.map Pd.name ↔ v ∈ known.map Pd.name := fun v => by
    have := h.look v
    constructor
    · intro hv
      apply Classical.byContradiction
      intro hn
      rw [lookP_none.2 hn] at this
      exact lookP_none.1 this hv
    · intro hv
      apply Classical.byContradiction
      intro hn
      rw [lookP_none.2 hn] at this
      exact lookP_none.1 this.symm hv
  have e : ss = known.map Pd.name := ordered_unique lt trans irrefl hs h.ord fun v => (hm v).trans (hmem v)
  rw [e, List.map_map]
  have : ∀ p ∈ known, ((fun v => (⟨v, (lookP m v).getD 0⟩ : Pd)) ∘ Pd.name) p = p := fun p hp => by
    simp only [Function.comp]
    rw [h.look, look_known lt irrefl h.ord p hp]
    rfl
  rw [List.map_congr_left this, List.map_id']
end
end Go.Ped

/- Contracts, on: predicates met in a map; sizes; facts as they may be. (Labels of 2000 and more: seat ZD.) -/
namespace Go.Proofs.Ytiomojlcnemnhaa
open Go.Fx Go.RowKit Go.Ped
variable {G : World → Prop}

def pdRow (p : Pd) : List A := [.c (cS (bs p.name)), .c (cI .i64 p.n)]
@[simp] theorem pdRow_strike (ks : List Nat) (p : Pd) : strikeL ks (pdRow p) = pdRow p := by simp [pdRow]
theorem pdRow_strike' (ks : List Nat) : strikeL ks ∘ pdRow = pdRow := funext fun p => pdRow_strike ks p
theorem keyEq_pd (v : Name) (p : Pd) : keyEq (.string (bs v)) (pdRow p) = (p.name == v) := by simp [keyEq, pdRow]
theorem find_pd (v : Name) (m : List Pd) : (m.map pdRow).find? (keyEq (.string (bs v))) = (m.find? (·.name == v)).map pdRow := by
  rw [List.find?_map]
  congr 1
  congr 1
  funext p
  exact keyEq_pd v p
theorem get_pd (v : Name) (m : List Pd) : mapGet (m.map pdRow) (.string (bs v)) [.c (cI .i64 0)] = [.c (cI .i64 ((lookP m v).getD 0))] := by
  unfold mapGet lookP
  rw [find_pd]
  cases m.find? (·.name == v) <;> simp [pdRow]
theorem any_pd (v : Name) (m : List Pd) : (m.map pdRow).any (keyEq (.string (bs v))) = (lookP m v).isSome := by
  unfold lookP
  rw [Option.isSome_map, List.any_map, ← List.isSome_find?]
  have : (keyEq (.string (bs v)) ∘ pdRow) = fun p : Pd => p.name == v := funext fun p => keyEq_pd v p
  rw [this]
theorem put_pd (v : Name) (n : Int) (m : List Pd) (h : lookP m v = none) : mapPut (m.map pdRow) (.string (bs v)) [.c (cI .i64 n)] = m.map pdRow ++ [[.c (cS (bs v)), .c (cI .i64 n)]] := by
  unfold mapPut
  rw [any_pd, h]
  simp

def metOf (m : List Pd) (p : Pd) : List Pd := match lookP m p.name with | some _ => m | none => m ++ [p]
def metOk (m : List Pd) (p : Pd) : Bool := match lookP m p.name with | some k => k == p.n | none => true
theorem goMeet_eq (m : List Pd) (p : Pd) : goMeet m p = if metOk m p then some (metOf m p) else none := by
  unfold goMeet metOk metOf
  cases lookP m p.name with
  | none => simp
  | some k => simp
abbrev OM (k : Nat) (m : List Pd) : List (Nat × Box) := [(k, ⟨0, 2, m.map pdRow, some (.string, true)⟩)]
attribute [simp] OM
theorem midM {U : List (Nat × Tok)} {H : FHp} (m : List Pd) : ∀ p ∈ OM 10040 m, midKey p.1 ∧ ∀ r ∈ p.2.rows, onlyL (fun k => ¬ ownKey k) (fun k => (lookT U k).or (H.toks k) ≠ none) r := by
  intro p hp
  simp only [List.mem_singleton] at hp
  subst hp
  refine ⟨by unfold midKey; omega, fun r hr => ?_⟩
  obtain ⟨q, _, rfl⟩ := List.mem_map.1 hr
  simp [pdRow]
theorem midM2 {O2 : List (Nat × Box)} {U2 : List (Nat × Tok)} {H2 : FHp} (m : List Pd) : ∀ p ∈ OM 10040 m, ∀ r ∈ p.2.rows, onlyL (fun k => ¬ ownKey k ∨ lookO O2 k ≠ none) (fun k => (lookT U2 k).or (H2.toks k) ≠ none) r := by
  intro p hp r hr
  simp only [List.mem_singleton] at hp
  subst hp
  obtain ⟨q, _, rfl⟩ := List.mem_map.1 hr
  simp [pdRow]

theorem m2124 (m : List Pd) (v : Name) (n : Int) : MeetsH Try.prog G 84 [.one (.mapr 10040), .one (.c (cS (bs v))), .one (.c (cI .i64 n))] (hp (OM 10040 m) [] F0) (rB (metOk m ⟨v, n⟩)) (hp (OM 10040 (metOf m ⟨v, n⟩)) [] F0) := by
  refine meetsH [] Try.func84 ie2124 ig2124 (Nat.le_of_ble_eq_true rfl) (midM m) (by simp) (by simp [ownKey]) (by simp) (by simp) (sameKeys_refl F0) (midM2 _) (by simp) ?_
  have h1 := get_pd v m
  have h2 := any_pd v m
  have h3 := put_pd v n m
  cases h : lookP m v with
  | none =>
    rw [h] at h1 h2
    simp [ic2124, ir2124, h1, h2, h3 h]
    refine ret_st (by simp) ?_ ?_ (by simp) (by simp) (by simp)
    · simp [metOk, h]
    · simp [metOf, h, pdRow]
  | some k =>
    rw [h] at h1 h2
    simp [ic2124, ir2124, h1, h2]
    refine ret_st (by simp) ?_ ?_ (by simp) (by simp) (by simp)
    · simp [metOk, h]
    · simp [metOf, h]

/-- The map behind as many as are met. -/
def metAll (m : List Pd) : List Pd → List Pd
  | [] => m
  | p :: l => if metOk m p then metAll (metOf m p) l else metOf m p
def okAll (m : List Pd) : List Pd → Bool
  | [] => true
  | p :: l => if metOk m p then okAll (metOf m p) l else false
theorem goMeets_eq : ∀ (l m : List Pd), goMeets m l = if okAll m l then some (metAll m l) else none
  | [], m => rfl
  | p :: l, m => by
    rw [goMeets, goMeet_eq, okAll, metAll]
    cases metOk m p with
    | true => simp [goMeets_eq l]
    | false => simp
def isAtom (x : Lit) : Bool := x.kind == 1 || x.kind == 2
def litPd (x : Lit) : Pd := ⟨x.p, x.l.length⟩
def standOf (r : Rule) : List Pd := ⟨r.p, r.head.length⟩ :: (r.body.filter isAtom).map litPd

theorem m2118 (m : List Pd) (p : Name) (vs : List Val) (sp : Sp) : MeetsH Try.prog G 79 [.one (.mapr 10040), .agg [.c (cS (bs p)), .c (.sl (vs.map Val.row) sp)]] (hp (OM 10040 m) [] F0) (rB (metOk m ⟨p, vs.length⟩)) (hp (OM 10040 (metOf m ⟨p, vs.length⟩)) [] F0) := by
  refine meetsH [] Try.func79 ie2118 ig2118 (Nat.le_of_ble_eq_true rfl) (midM m) (by simp) (by simp [ownKey]) (by simp) (by simp) (sameKeys_refl F0) (midM2 _) (by simp) ?_
  simp [ic2118, ir2118]
  refine r_callW _ _ (OM 10040 m) [] _ (OM 10040 (metOf m ⟨p, vs.length⟩)) [] (MeetsV.of_fun (m2124 m p vs.length)) rfl rfl rfl (by simp [X.fits, A.fits]) (by simp) ?_
  simp
  exact ret_st (by simp) (by simp) (by simp) (by simp) (by simp) (by simp)

theorem m2113 (m : List Pd) (r : Rule) (hs : r.small 1048576) : MeetsH Try.prog G 75 [.one (.mapr 10040), .agg (r.row.map A.c)] (hp (OM 10040 m) [] F0) (rB (okAll m (standOf r))) (hp (OM 10040 (metAll m (standOf r))) [] F0) := by
  refine meetsH [] Try.func75 ie2113 ig2113 (Nat.le_of_ble_eq_true rfl) (midM m) (by simp) (by simp [ownKey]) (by simp) (by simp) (sameKeys_refl F0) (midM2 _) (by simp) ?_
  have hl := hs.2.1
  simp [ic2113, ir2113]
  refine r_callW _ _ (OM 10040 m) [] _ (OM 10040 (metOf m ⟨r.p, r.head.length⟩)) [] (MeetsV.of_fun (m2124 m r.p r.head.length)) rfl rfl rfl (by simp [X.fits, A.fits]) (by simp) ?_
  simp
  refine condI_of (fun h => ?_) (fun h => ?_)
  · simp at h
    simp
    refine ret_st (by simp) ?_ ?_ (by simp) (by simp) (by simp)
    · simp [standOf, okAll, h]
    · simp [standOf, metAll, h]
  simp at h
  have e1 : okAll m (standOf r) = okAll (metOf m ⟨r.p, r.head.length⟩) ((r.body.filter isAtom).map litPd) := by simp [standOf, okAll, h]
  have e2 : metAll m (standOf r) = metAll (metOf m ⟨r.p, r.head.length⟩) ((r.body.filter isAtom).map litPd) := by simp [standOf, metAll, h]
  rw [e1, e2]
  generalize metOf m ⟨r.p, r.head.length⟩ = m0
  generalize hB : okAll m0 ((r.body.filter isAtom).map litPd) = B
  generalize hM : metAll m0 ((r.body.filter isAtom).map litPd) = M
  simp
  refine w_loopA [] [6] [0, 16, 17, 18] (by simp [ownKey])
    (fun a : Nat × List Pd => st [(0, .k true (.x (.one (.mapr 10040)))), (16, .k true (.x (.one (.c (.sl (r.body.map Lit.row) r.bsp))))), (17, tI .i64 r.body.length), (18, tI .i64 a.1)] ((3, ⟨186, 3, [r.row.map A.c], none⟩) :: OM 10040 a.2) [] F0) (fun a => r.body.length - a.1)
    (fun a => a.1 ≤ r.body.length ∧ B = okAll a.2 (((r.body.drop a.1).filter isAtom).map litPd) ∧ M = metAll a.2 (((r.body.drop a.1).filter isAtom).map litPd)) (0, m0) (by simp [pdRow_strike']) (by simp [hB, hM]) ?_
  rintro ⟨i, f⟩ K hK ⟨hi, h1, h2⟩
  simp only at hi h1 h2
  obtain hlt | hge := Nat.lt_or_ge i r.body.length
  · rw [List.drop_eq_getElem_cons hlt] at h1 h2
    by_cases hk : isAtom r.body[i] = true
    · rw [List.filter_cons_of_pos hk, List.map_cons, okAll] at h1
      rw [List.filter_cons_of_pos hk, List.map_cons, metAll] at h2
      have hm := m2124 (G := G) f r.body[i].p r.body[i].l.length
      have e3 : litPd r.body[i] = ⟨r.body[i].p, r.body[i].l.length⟩ := rfl
      rw [e3] at h1 h2
      have hk' : (r.body[i].kind == 1 || r.body[i].kind == 2) = true := hk
      simp [ic2113l0, hlt, hk']
      refine r_callW _ _ (OM 10040 f) [] _ (OM 10040 (metOf f ⟨r.body[i].p, r.body[i].l.length⟩)) [] (MeetsV.of_fun hm) rfl rfl rfl (by simp [X.fits, A.fits]) (by simp) ?_
      simp
      refine condI_of (fun h => ?_) (fun h => ?_)
      · simp at h
        rw [h] at h1 h2
        simp at h1 h2
        simp
        exact ret_st (by simp) (by simp [h1]) (by simp [h2]) (by simp) (by simp) (by simp)
      · simp at h
        rw [h] at h1 h2
        simp at h1 h2
        simp
        simp (disch := omega) only [wrap64]
        exact hK (i + 1, metOf f ⟨r.body[i].p, r.body[i].l.length⟩) _ (by simp [pdRow_strike']) ⟨by simp; omega, h1, h2⟩ (by simp; omega)
    · rw [List.filter_cons_of_neg hk] at h1 h2
      have hk' : (r.body[i].kind == 1 || r.body[i].kind == 2) = false := by simpa [isAtom] using hk
      simp [ic2113l0, hlt, hk']
      refine r_callVF (rB false) rfl ?_
      simp
      simp (disch := omega) only [wrap64]
      exact hK (i + 1, f) _ (by simp [pdRow_strike']) ⟨by simp; omega, h1, h2⟩ (by simp; omega)
  · rw [List.drop_eq_nil_of_le hge] at h1 h2
    simp [okAll] at h1
    simp [metAll] at h2
    subst h1 h2
    simp [ic2113l0, Nat.not_lt.mpr hge]
    exact ret_st (by simp) (by simp) (by simp) (by simp) (by simp) (by simp)

theorem m2112 (b : Bool) (e : Int) : Meets Try.prog G 74 [.one (cB b), .one (cI .i64 e)] (.x (.one (cI .i64 (if b then 0 else e)))) := by
  refine meets Try.func74 ie2112 ig2112 (Nat.le_of_ble_eq_true rfl) ?_
  cases b <;> simp [ic2112, ir2112]
end Go.Proofs.Ytiomojlcnemnhaa

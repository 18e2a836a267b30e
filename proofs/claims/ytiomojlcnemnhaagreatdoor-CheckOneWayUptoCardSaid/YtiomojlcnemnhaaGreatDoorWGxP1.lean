/- CheckOneWay in plain words: what satisfies all equations agrees with what is made by them, one variable behind the other. -/
import Derived.Test.YtiomojlcnemnhaaGreatDoorWGxHf
import Derived.Test.YtiomojlcnemnhaaGreatDoorWGxK1
namespace Go.Proofs.YtiomojlcnemnhaaGreatDoor
open Go.Fx Go.RowKit Go.Ped

/-- term.Eval. -/
def evalE (m : List Tm) (e : Ex) : Option Val := if exOk 8 e then e.val m else none
def cmpZ (a b : Int) : Int := if a < b then -1 else if b < a then 1 else 0
/-- value.Holds of equality. -/
def same (a b : Val) : Bool := a.ok && b.ok && decide (a = b)
def holdsQ (m : List Tm) (x : Lit) : Bool :=
  match evalE m x.left, evalE m x.right with
  | some a, some b => same a b
  | _, _ => false
def equalOf (m : List Tm) (B : List Lit) : Bool := B.all fun x => !isEqn x || holdsQ m x
/-- What a list says that a variable is, if it may be that. -/
def bokOf (m : List Tm) (v : Name) : Option Val := match bindOf m v with | some x => if x.ok then some x else none | none => none
/-- What one literal makes of a variable. -/
def pick1 (m : List Tm) (v : Name) (x : Lit) : Option Val :=
  if isEqn x then
    (if loneOf x.left = v then (match evalE m x.right with | some a => some a | none => if loneOf x.right = v then evalE m x.left else none)
     else if loneOf x.right = v then evalE m x.left else none)
  else none
def pickE (m : List Tm) (v : Name) : List Lit → Option Val
  | [] => none
  | x :: B => match pick1 m v x with | some a => some a | none => pickE m v B
def num0 : Val := ⟨1, 0, []⟩
def solveS (B : List Lit) (A : List Name) (l : List Tm) (out : List Tm) (v : Name) : List Tm :=
  if A.contains v then out ++ [⟨v, (bokOf l v).getD num0⟩] else match pickE out v B with | some x => out ++ [⟨v, x⟩] | none => out
def solvedOf (B : List Lit) (l : List Tm) : List Tm := (limitsOf B).foldl (solveS B (atomsOn [] B) l) []
/-- CheckOneWay's last question. -/
def oneWay (vs : List Name) (try' again : List Tm) : Bool := vs.all fun v => match bokOf again v with | some b => (match bokOf try' v with | some a => decide (a = b) | none => true) | none => false

theorem same_eq {a b : Val} (h : same a b = true) : a = b := by
  unfold same at h
  simp only [Bool.and_eq_true, decide_eq_true_eq] at h
  exact h.2
theorem bok_some {m : List Tm} {v : Name} {a : Val} : bokOf m v = some a ↔ bindOf m v = some a ∧ a.ok = true := by
  unfold bokOf
  split
  · rename_i x hx
    rw [hx]
    by_cases ho : x.ok = true
    · rw [if_pos ho]
      constructor
      · rintro h; cases h; exact ⟨rfl, ho⟩
      · rintro ⟨h, _⟩; exact h
    · rw [if_neg ho]
      constructor
      · intro h; cases h
      · rintro ⟨h, h2⟩; cases h; exact absurd h2 ho
  · rename_i hx
    rw [hx]
    constructor
    · intro h; cases h
    · rintro ⟨h, _⟩; cases h
theorem lone_val {m : List Tm} {e : Ex} {v : Name} (h : loneOf e = v) (hv : v ≠ []) : e.val m = bokOf m v ∧ (∀ t ∈ e.terms, t.v = v) ∧ (∃ t ∈ e.terms, t.v = v ∧ Ped.isVar t.v = true) := by
  obtain ⟨op, t, kids, sp⟩ := e
  unfold loneOf at h
  split at h
  · rename_i hc
    obtain ⟨h0, hk, hz⟩ := hc
    replace h0 : op = 0 := h0
    replace hk : kids = [] := hk
    replace hz : t.v ≠ us := hz
    replace h : t.v = v := h
    subst h0
    subst hk
    subst h
    refine ⟨?_, ?_, ?_⟩
    · rw [Ex.val_mk, if_pos rfl]
      unfold leafV bokOf
      rw [if_neg hv]
      cases bindOf m t.v <;> rfl
    · rw [Ex.terms_mk]
      intro u hu
      simp at hu
      rw [hu]
    · rw [Ex.terms_mk]
      exact ⟨t, List.mem_cons_self .., rfl, by simp [Ped.isVar, hv, hz]⟩
  · exact absurd h.symm hv

/-- What the made list is like when some have been made. -/
structure MadeAt (tr out : List Tm) (f : List Name) : Prop where
  has : ∀ v ∈ f, ∃ b, bindOf out v = some b ∧ b.ok = true ∧ ∀ a, bokOf tr v = some a → a = b
  no : ∀ v, v ∉ f → bindOf out v = none

theorem made_val {tr out : List Tm} {f : List Name} (hm : MadeAt tr out f) {e : Ex} {a z : Val} (h1 : evalE tr e = some a) (h2 : evalE out e = some z) : z = a := by
  unfold evalE at h1 h2
  by_cases hok : exOk 8 e = true
  · rw [if_pos hok] at h1 h2
    have g1 := Ex.val_strict 8 e a hok h1
    have g2 := Ex.val_strict 8 e z hok h2
    have : e.val out = e.val tr := Ex.val_on 8 e hok fun t ht hv => by
      obtain ⟨w1, b1, o1⟩ := g1 t ht hv
      obtain ⟨w2, b2, o2⟩ := g2 t ht hv
      have hf : t.v ∈ f := Classical.byContradiction fun hn => by rw [hm.no _ hn] at b2; cases b2
      obtain ⟨b, hb, _, hh⟩ := hm.has _ hf
      rw [hb, b1, hh w1 (bok_some.2 ⟨b1, o1⟩)]
    rw [this, h1] at h2
    exact (Option.some.inj h2).symm
  · rw [if_neg hok] at h1
    cases h1
theorem made_has {tr out : List Tm} {f : List Name} (hm : MadeAt tr out f) {e : Ex} {a : Val} (h1 : evalE tr e = some a) (hf : ∀ v ∈ tmVars e.terms, v ∈ f) : evalE out e = some a := by
  unfold evalE at h1 ⊢
  by_cases hok : exOk 8 e = true
  · rw [if_pos hok] at h1 ⊢
    have g1 := Ex.val_strict 8 e a hok h1
    have : e.val out = e.val tr := Ex.val_on 8 e hok fun t ht hv => by
      obtain ⟨w1, b1, o1⟩ := g1 t ht hv
      obtain ⟨b, hb, _, hh⟩ := hm.has _ (hf _ (mem_tmVars ht hv))
      rw [hb, b1, hh w1 (bok_some.2 ⟨b1, o1⟩)]
    rw [this, h1]
  · rw [if_neg hok] at h1
    cases h1
theorem equal_at {tr : List Tm} {B : List Lit} (h : equalOf tr B = true) {x : Lit} (hx : x ∈ B) (he : isEqn x = true) : ∃ a, evalE tr x.left = some a ∧ evalE tr x.right = some a ∧ a.ok = true := by
  have := List.all_eq_true.1 h x hx
  rw [he] at this
  simp only [Bool.not_true, Bool.false_or] at this
  unfold holdsQ at this
  split at this
  · rename_i a b h1 h2
    have e1 := same_eq this
    subst e1
    unfold same at this
    simp only [Bool.and_eq_true] at this
    exact ⟨a, h1, h2, this.1.1⟩
  · cases this
theorem lone_eval {m : List Tm} {e : Ex} {v : Name} {a : Val} (h : loneOf e = v) (hv : v ≠ []) (he : evalE m e = some a) : bokOf m v = some a := by
  unfold evalE at he
  split at he
  · rw [(lone_val h hv).1] at he; exact he
  · cases he
/-- What a literal makes of a variable is what the assignment says. -/
theorem pick1_val {tr out : List Tm} {f : List Name} {B : List Lit} (hm : MadeAt tr out f) (h : equalOf tr B = true) {x : Lit} (hx : x ∈ B) {v : Name} (hv : v ≠ []) {z : Val} (hz : pick1 out v x = some z) : bokOf tr v = some z := by
  unfold pick1 at hz
  by_cases he : isEqn x = true
  · rw [if_pos he] at hz
    obtain ⟨a, ha, hb, ho⟩ := equal_at h hx he
    have key1 : loneOf x.right = v → evalE out x.left = some z → bokOf tr v = some z := fun g1 g2 => by rw [made_val hm ha g2]; exact lone_eval g1 hv hb
    have key2 : loneOf x.left = v → evalE out x.right = some z → bokOf tr v = some z := fun g1 g2 => by rw [made_val hm hb g2]; exact lone_eval g1 hv ha
    by_cases h1 : loneOf x.left = v
    · rw [if_pos h1] at hz
      split at hz
      · rename_i y hy
        exact key2 h1 (by rw [hy]; exact hz)
      · split at hz
        · rename_i h2; exact key1 h2 hz
        · cases hz
    · rw [if_neg h1] at hz
      split at hz
      · rename_i h2; exact key1 h2 hz
      · cases hz
  · rw [if_neg he] at hz
    cases hz
theorem pickE_val {tr out : List Tm} {f : List Name} {B : List Lit} (hm : MadeAt tr out f) (h : equalOf tr B = true) {v : Name} (hv : v ≠ []) {z : Val} : ∀ l : List Lit, (∀ x ∈ l, x ∈ B) → pickE out v l = some z → bokOf tr v = some z
  | [], _, hz => by cases hz
  | x :: l, hl, hz => by
    rw [pickE] at hz
    split at hz
    · rename_i a ha
      cases hz
      exact pick1_val hm h (hl x (List.mem_cons_self ..)) hv ha
    · exact pickE_val hm h hv l (fun y hy => hl y (List.mem_cons_of_mem _ hy)) hz
theorem pickE_some {out : List Tm} {v : Name} {x : Lit} (hx : (pick1 out v x).isSome = true) : ∀ l : List Lit, x ∈ l → (pickE out v l).isSome = true
  | [], h => by cases h
  | y :: l, h => by
    rw [pickE]
    split
    · rfl
    · rename_i hn
      rcases List.mem_cons.1 h with rfl | h
      · rw [hn] at hx; cases hx
      · exact pickE_some hx l h
theorem made_step {tr out l : List Tm} {B : List Lit} {i : Nat} (hi : i < (limitsOf B).length) (hm : MadeAt tr out ((limitsOf B).take i)) (h : equalOf tr B = true) (hl : ∀ v a, bokOf tr v = some a → bokOf l v = some a) : MadeAt tr (solveS B (atomsOn [] B) l out (limitsOf B)[i]) ((limitsOf B).take (i + 1)) := by
  obtain ⟨hnin, hor⟩ := limits_at B i hi
  generalize hv : (limitsOf B)[i] = v at *
  have htk : (limitsOf B).take (i + 1) = (limitsOf B).take i ++ [v] := by rw [List.take_succ_eq_append_getElem hi, hv]
  rw [htk]
  have hadd : ∀ b : Val, b.ok = true → (∀ a, bokOf tr v = some a → a = b) → MadeAt tr (out ++ [⟨v, b⟩]) ((limitsOf B).take i ++ [v]) := by
    intro b hb hab
    refine ⟨fun u hu => ?_, fun u hu => ?_⟩
    · rcases List.mem_append.1 hu with hu | hu
      · obtain ⟨c, hc, h2⟩ := hm.has u hu
        exact ⟨c, bindOf_append_some hc, h2⟩
      · simp only [List.mem_singleton] at hu
        subst hu
        refine ⟨b, ?_, hb, hab⟩
        rw [bindOf_append_none (hm.no _ hnin)]
        simp [bindOf]
    · simp only [List.mem_append, List.mem_singleton, not_or] at hu
      rw [bindOf_append_none (hm.no _ hu.1)]
      have : (v == u) = false := by simpa using fun e : v = u => hu.2 e.symm
      simp [bindOf, this]
  unfold solveS
  by_cases hA : (atomsOn [] B).contains v = true
  · rw [if_pos hA]
    refine hadd _ ?_ ?_
    · cases hb : bokOf l v with
      | none => rfl
      | some x => exact (bok_some.1 hb).2
    · intro a ha
      rw [hl v a ha]
      rfl
  · rw [if_neg hA]
    have hq : equated B v ((limitsOf B).take i) = true := by
      rcases hor with h1 | h1
      · exact absurd (by simpa using h1) hA
      · exact h1
    obtain ⟨hv0, q, hqm, hq⟩ := equated_iff.1 hq
    obtain ⟨x, hx, he, rfl⟩ := mem_eqsOf.1 hqm
    obtain ⟨a, ha, hb, ho⟩ := equal_at h hx he
    have hsome : (pickE out v B).isSome = true := by
      refine pickE_some ?_ B hx
      unfold pick1
      rw [if_pos he]
      rcases hq with ⟨h1, h2⟩ | ⟨h1, h2⟩
      · rw [if_pos (show loneOf x.left = v from h1), made_has hm hb h2]
        rfl
      · have h3 := made_has hm ha h2
        have h1' : loneOf x.right = v := h1
        rw [h1', h3]
        cases evalE out x.right <;> by_cases hc : loneOf x.left = v <;> simp [hc]
    obtain ⟨z, hz⟩ := Option.isSome_iff_exists.1 hsome
    rw [hz]
    have hzv := pickE_val hm h hv0 B (fun _ h => h) hz
    exact hadd z (bok_some.1 hzv).2 fun a ha => by rw [hzv] at ha; exact (Option.some.inj ha).symm
theorem solved_take (B : List Lit) (l : List Tm) : ∀ i, i ≤ (limitsOf B).length → ∀ tr : List Tm, equalOf tr B = true → (∀ v a, bokOf tr v = some a → bokOf l v = some a) → MadeAt tr (((limitsOf B).take i).foldl (solveS B (atomsOn [] B) l) []) ((limitsOf B).take i)
  | 0, _, tr, _, _ => ⟨by simp, fun v _ => rfl⟩
  | i + 1, hi, tr, h, hl => by
    have := made_step (l := l) (by omega) (solved_take B l i (by omega) tr h hl) h hl
    rw [List.take_succ_eq_append_getElem (by omega), List.foldl_append]
    rw [List.take_succ_eq_append_getElem (by omega)] at this
    exact this
/-- CheckOneWay. -/
theorem oneWay_of {B : List Lit} {tr : List Tm} {vs : List Name} (hvs : allIn vs (limitsOf B) = true) (h : equalOf tr B = true) : oneWay vs tr (solvedOf B tr) = true := by
  have hm := solved_take B tr (limitsOf B).length (Nat.le_refl _) tr h fun _ _ h => h
  rw [List.take_length] at hm
  refine List.all_eq_true.2 fun v hv => ?_
  obtain ⟨b, hb, ho, hh⟩ := hm.has v (allIn_iff.1 hvs v hv)
  rw [show bokOf (solvedOf B tr) v = some b from bok_some.2 ⟨hb, ho⟩]
  simp only
  split
  · rename_i a ha
    exact decide_eq_true (hh a ha)
  · rfl
end Go.Proofs.YtiomojlcnemnhaaGreatDoor

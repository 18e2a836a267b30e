import Derived.Test.YtiomojlcnemnhaaGreatDoorPGxZ2
import Derived.Test.YtiomojlcnemnhaaGreatDoorPFxWb
import Derived.Test.YtiomojlcnemnhaaGreatDoorProg
import Derived.KernelRfl
/- Contracts, on: the variables that a body limits; the law on limits. -/
namespace Go.Proofs.YtiomojlcnemnhaaGreatDoor
open Go.Fx Go.RowKit Go.Ped
variable {G : World → Prop}

end Go.Proofs.YtiomojlcnemnhaaGreatDoor

/- Contracts, on: what a body limits, the program's rounds and the document's; the law on limits. -/
namespace Go.Proofs.YtiomojlcnemnhaaGreatDoor
open Go.Fx Go.RowKit Go.Ped
variable {G : World → Prop}

/-- A literal whose expressions are not too great. -/
def Lit.fit (x : Lit) : Prop := x.small 1048576 ∧ x.left.terms.length ≤ 1048576 ∧ x.right.terms.length ≤ 1048576
theorem fit_tw {x : Lit} (h : x.fit) : x.tw.fit := ⟨Lit.small_twin h.1, by
  show (x.left.twin _).terms.length ≤ _
  rw [Ex.terms_twin]; exact h.2.1, by
  show (x.right.twin _).terms.length ≤ _
  rw [Ex.terms_twin]; exact h.2.2⟩

end Go.Proofs.YtiomojlcnemnhaaGreatDoor

/- Plain words for the variables that a body limits, on: they are the least that hold what is found first and are closed under the equations; each is told once, behind its reason. -/
namespace Go.Ped

/-- Each one of a list behind a first part has its reason ahead of it. -/
def Just (l : List Eqn) (f e : List Name) : Prop := ∀ p v s, e = p ++ v :: s → ∃ q ∈ l, take (f ++ p) q = some v

theorem Just.nil {l : List Eqn} {f : List Name} : Just l f [] := fun p v s h => by simp at h
theorem Just.cons {l : List Eqn} {f e : List Name} {v : Name} {q : Eqn} (hq : q ∈ l) (ht : take f q = some v) (h : Just l (f ++ [v]) e) : Just l f (v :: e) := by
  intro p w s he
  cases p with
  | nil => simp at he; obtain ⟨rfl, rfl⟩ := he; exact ⟨q, hq, by simpa using ht⟩
  | cons u p =>
    simp at he
    obtain ⟨rfl, rfl⟩ := he
    obtain ⟨q', h1, h2⟩ := h p w s rfl
    exact ⟨q', h1, by simpa using h2⟩
theorem Just.append {l : List Eqn} : ∀ {e f e' : List Name}, Just l f e → Just l (f ++ e) e' → Just l f (e ++ e')
  | [], f, e', _, h => by simpa using h
  | v :: e, f, e', h, h' => by
    obtain ⟨q, hq, ht⟩ := h [] v e rfl
    refine Just.cons hq (by simpa using ht) (Just.append (fun p w s he => ?_) (by simpa using h'))
    obtain ⟨q', g1, g2⟩ := h (v :: p) w s (by simp [he])
    exact ⟨q', g1, by simpa using g2⟩
theorem Just.mono {l l' : List Eqn} {f e : List Name} (h : Just l f e) (hs : ∀ q ∈ l, q ∈ l') : Just l' f e := fun p v s he => by
  obtain ⟨q, h1, h2⟩ := h p v s he
  exact ⟨q, hs q h1, h2⟩

theorem Waits.none {f : List Name} {eqs w : List Eqn} (h : Waits f eqs w) : (∀ q ∈ w, take f q = none) → ∀ q ∈ eqs, take f q = none := by
  induction h with
  | nil => intro _ q hq; cases hq
  | keep h ih =>
    intro g q hq
    rcases List.mem_cons.1 hq with rfl | hq
    · exact g _ (List.mem_cons_self ..)
    · exact ih (fun p hp => g p (List.mem_cons_of_mem _ hp)) q hq
  | gone hd h ih =>
    intro g q hq
    rcases List.mem_cons.1 hq with rfl | hq
    · exact hd _ fun _ hv => hv
    · exact ih g q hq

/-- Is a set closed under equations? -/
def Closed (S : Name → Prop) (eqs : List Eqn) : Prop := ∀ q ∈ eqs, (q.left ≠ [] → (∀ u ∈ q.rights, S u) → S q.left) ∧ (q.right ≠ [] → (∀ u ∈ q.lefts, S u) → S q.right)

end Go.Ped

/- What a body limits, on: plain words for CheckRules, CheckFixed and CheckTurned; no program in sight. -/
namespace Go.Proofs.YtiomojlcnemnhaaGreatDoor
open Go.Fx Go.RowKit Go.Ped

end Go.Proofs.YtiomojlcnemnhaaGreatDoor

/- Functions of the seat, as the small language has them. -/
namespace Go.Proofs.YtiomojlcnemnhaaGreatDoor
open Go.Fx

end Go.Proofs.YtiomojlcnemnhaaGreatDoor

/- Contracts, on: may a rule be used? -/
namespace Go.Proofs.YtiomojlcnemnhaaGreatDoor
open Go.Fx Go.RowKit Go.Ped
variable {G : World → Prop}

/-- A rule that is not too great. -/
def Rule.fit (r : Rule) : Prop := r.small 1048576 ∧ (∀ x ∈ r.body, x.fit) ∧ r.terms.length ≤ 1048576 ∧ (r.body.map fun x => x.l.length).sum ≤ 10000000

end Go.Proofs.YtiomojlcnemnhaaGreatDoor

/- Functions of the seat, as the small language has them. -/
namespace Go.Proofs.YtiomojlcnemnhaaGreatDoor
open Go.Fx

end Go.Proofs.YtiomojlcnemnhaaGreatDoor

/- Contracts, on: may a rule be used, does it make values: the document's, the program's; the law. (Labels of 2000 and more: seat ZD.) -/
namespace Go.Proofs.YtiomojlcnemnhaaGreatDoor
open Go.Fx Go.RowKit Go.Ped
variable {G : World → Prop}

/-- The head alone. -/
def Rule.bare (r : Rule) : Rule := ⟨[], r.head, r.hsp, [], []⟩
theorem fit_twr {r : Rule} (h : r.fit) : r.tw.fit := ⟨Rule.small_tw h.1, fun x hx => by
  obtain ⟨y, hy, rfl⟩ := List.mem_map.1 hx
  exact fit_tw (h.2.1 y hy), by rw [Rule.terms_tw]; exact h.2.2.1, by
  show ((r.body.map Lit.tw).map fun x => x.l.length).sum ≤ _
  rw [List.map_map]; exact h.2.2.2⟩

end Go.Proofs.YtiomojlcnemnhaaGreatDoor

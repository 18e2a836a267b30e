import Derived.Test.YtiomojlcnemnhaaDoorKFxWb
/- Fx, part Sa: lists that are compared element by element, copied with a mark behind, and looked at again: once for all types of elements. -/
namespace Go.Fx
open Go.RowKit

section
variable {P : Program} {G : World → Prop} {α : Type} [DecidableEq α] {s : Nat} {ks : List Kd}

end
end Go.Fx

/- Fx, part Sb: copies with a mark behind, and looking at them again: once for all types of elements. -/
namespace Go.Fx
open Go.RowKit

section
variable {P : Program} {G : World → Prop} {α : Type} {s : Nat} {ks : List Kd}

end
end Go.Fx

/- Fx, part Sc: a list under appends, first nil. -/
namespace Go.Fx
open Go.RowKit
section
variable {P : Program} {G : World → Prop} {L : List (Nat × T)} {O : List (Nat × Box)} {U : List (Nat × Tok)} {H : FHp} {l : List IOper} {K : S → Prop} {d : Nat}

/-- A list that appends of rows at one place have made: nil, or its own. The row of the last append may be told yet. -/
def AccS (k j : Nat) (ty : TypeId) (size : Nat) (es : List (List C)) (a : A) (U : List (Nat × Tok)) : Prop :=
  (es = [] ∧ a = .nil ∧ U = []) ∨ (a = .own k es ∧ U = [(k, ⟨ty, size, es.length⟩), (j, ⟨ty, size, 1⟩)]) ∨ (a = .own k es ∧ U = [(j, ⟨ty, size, 1⟩), (k, ⟨ty, size, es.length⟩)])

theorem AccS.nil {k j size : Nat} {ty : TypeId} : AccS k j ty size [] .nil [] := .inl ⟨rfl, rfl, rfl⟩
theorem AccS.own {k j size : Nat} {ty : TypeId} {es : List (List C)} {n : Nat} (h : n = es.length) : AccS k j ty size es (.own k es) [(k, ⟨ty, size, n⟩), (j, ⟨ty, size, 1⟩)] := .inr (.inl ⟨rfl, by rw [h]⟩)
theorem AccS.own' {k j size : Nat} {ty : TypeId} {es : List (List C)} {n : Nat} (h : n = es.length) : AccS k j ty size es (.own k es) [(j, ⟨ty, size, 1⟩), (k, ⟨ty, size, n⟩)] := .inr (.inr ⟨rfl, by rw [h]⟩)
theorem AccS.close {k j size : Nat} {ty : TypeId} {es : List (List C)} {t : A} {U : List (Nat × Tok)} (h : AccS k j ty size es t U) : t.close = some (.sl es []) := by
  rcases h with ⟨rfl, rfl, rfl⟩ | ⟨rfl, rfl⟩ | ⟨rfl, rfl⟩ <;> rfl
theorem AccS.args {k j size : Nat} {ty : TypeId} {es : List (List C)} {t : A} {U : List (Nat × Tok)} (h : AccS k j ty size es t U) : (X.one t).close = some (.one (.sl es [])) := by
  simp only [X.close, h.close, Option.map_some]
theorem AccS.strike {k j size : Nat} {ty : TypeId} {es : List (List C)} {t : A} {U : List (Nat × Tok)} (h : AccS k j ty size es t U) {l : Nat} (hl : l ≠ k) : A.strike [l] t = t := by
  rcases h with ⟨rfl, rfl, rfl⟩ | ⟨rfl, rfl⟩ | ⟨rfl, rfl⟩
  · rfl
  all_goals simp [Ne.symm hl]
theorem AccS.strikeU {k j size : Nat} {ty : TypeId} {es : List (List C)} {t : A} {U : List (Nat × Tok)} (h : AccS k j ty size es t U) {l : Nat} (hl : l ≠ k) (hj : l ≠ j) : strikeU [l] U = U := by
  rcases h with ⟨rfl, rfl, rfl⟩ | ⟨rfl, rfl⟩ | ⟨rfl, rfl⟩
  · rfl
  all_goals simp [Ne.symm hl, Ne.symm hj]
theorem X.close_c (c : C) : (X.one (.c c)).close = some (.one c) := rfl
end
end Go.Fx

/- Fx, part Sd: loops that forget what a round made. -/
namespace Go.Fx
open Go.RowKit
section

theorem w_loopSN {P : Program} {G : World → Prop} {Q : Exit → S → Prop} (ks : List Nat) (hks : ∀ k ∈ ks, ownKey k) {a : IC} {σ : S} (I : Nat → S → Prop) (n : Nat) (h0 : I n (σ.strike ks)) (hr : ∀ n σ1, I n σ1 → wpI P G a (thenQ (fun σ' => ∃ m, m < n ∧ I m (σ'.strike ks)) Q) σ1) : wpI P G (.loop a) Q σ := by
  classical
  have key : ∀ σ, (∃ n, I n σ) → ∃ n, I n σ ∧ ∀ m, m < n → ¬ I m σ := fun σ h => by
    obtain ⟨n, h⟩ := h
    induction n using Nat.strongRecOn with
    | ind n ih =>
      by_cases hm : ∃ m, m < n ∧ I m σ
      · obtain ⟨m, h1, h2⟩ := hm; exact ih m h1 h2
      · exact ⟨n, h, fun m h1 h2 => hm ⟨m, h1, h2⟩⟩
  let μ : S → Nat := fun σ => if h : ∃ n, I n σ then Classical.choose (key σ h) else 0
  refine ⟨fun σ => ∃ n, I n σ, μ, ⟨_, .strike ks σ hks, n, h0⟩, fun σ1 h1 => ?_⟩
  have hc := Classical.choose_spec (key σ1 h1)
  refine wpI_mono (c := a) (fun e σ' hq => ?_) (hr _ σ1 hc.1)
  cases e <;> try exact hq
  obtain ⟨m, hm, hI⟩ := hq
  refine ⟨_, .strike ks σ' hks, ⟨m, hI⟩, ?_⟩
  have h2 : ∃ n, I n (σ'.strike ks) := ⟨m, hI⟩
  have hc2 := Classical.choose_spec (key _ h2)
  have e1 : μ (σ'.strike ks) = Classical.choose (key _ h2) := dif_pos h2
  have e2 : μ σ1 = Classical.choose (key σ1 h1) := dif_pos h1
  rw [e1, e2]
  refine Nat.lt_of_le_of_lt (Nat.le_of_not_lt fun hlt => hc2.2 m hlt hI) hm

/-- A loop whose boxes and lists of the round are forgotten at each round's end. -/
theorem w_loopS {P : Program} {G : World → Prop} {Q : Exit → S → Prop} (ks : List Nat) (hks : ∀ k ∈ ks, ownKey k) {a : IC} {σ : S} (I : Nat → S → Prop) (n : Nat) (h0 : I n (σ.strike ks)) (hr : ∀ n σ1 (K : S → Prop), (∀ σ' m, m < n → I m (σ'.strike ks) → K σ') → I n σ1 → wpI P G a (thenQ K Q) σ1) : wpI P G (.loop a) Q σ :=
  w_loopSN ks hks I n h0 fun n σ1 h1 => hr n σ1 _ (fun _ m hm hI => ⟨m, hm, hI⟩) h1

/-- A list under appends: nil, or its own; the rows are forgotten. -/
def AccN (k : Nat) (ty : TypeId) (size : Nat) (es : List (List C)) (a : A) (U : List (Nat × Tok)) : Prop :=
  (es = [] ∧ a = .nil ∧ U = []) ∨ (a = .own k es ∧ U = [(k, ⟨ty, size, es.length⟩)])
theorem AccN.nil {k size : Nat} {ty : TypeId} : AccN k ty size [] .nil [] := .inl ⟨rfl, rfl, rfl⟩
theorem AccN.own {k size : Nat} {ty : TypeId} {es : List (List C)} {n : Nat} (h : n = es.length) : AccN k ty size es (.own k es) [(k, ⟨ty, size, n⟩)] := .inr ⟨rfl, by rw [h]⟩
theorem AccN.args {k size : Nat} {ty : TypeId} {es : List (List C)} {t : A} {U : List (Nat × Tok)} (h : AccN k ty size es t U) : (X.one t).close = some (.one (.sl es [])) := by
  rcases h with ⟨rfl, rfl, rfl⟩ | ⟨rfl, rfl⟩ <;> rfl
theorem AccN.strike {k size : Nat} {ty : TypeId} {es : List (List C)} {t : A} {U : List (Nat × Tok)} (h : AccN k ty size es t U) {l : Nat} (hl : l ≠ k) : A.strike [l] t = t := by
  rcases h with ⟨rfl, rfl, rfl⟩ | ⟨rfl, rfl⟩
  · rfl
  · simp [Ne.symm hl]
theorem AccN.strikeU {k size : Nat} {ty : TypeId} {es : List (List C)} {t : A} {U : List (Nat × Tok)} (h : AccN k ty size es t U) {l : Nat} (hl : l ≠ k) : strikeU [l] U = U := by
  rcases h with ⟨rfl, rfl, rfl⟩ | ⟨rfl, rfl⟩
  · rfl
  · simp [Ne.symm hl]
end
end Go.Fx

import Derived.Test.YtiomojlcnemnhaaGreatDoorWFxWb
import Derived.Test.YtiomojlcnemnhaaGreatDoorWGxM3
import Derived.Test.YtiomojlcnemnhaaGreatDoorWGxItoa
/- Fx, part Sa: lists that are compared element by element, copied with a mark behind, and looked at again: once for all types of elements. -/
namespace Go.Fx
open Go.RowKit

section
variable {P : Program} {G : World → Prop} {α : Type} [DecidableEq α] {s : Nat} {ks : List Kd}

end
end Go.Fx

/- Fx, part Sb: copies with a mark behind, and looking at them again: once for all types of elements. -/
namespace Go.Fx
open Go.RowKit

section
variable {P : Program} {G : World → Prop} {α : Type} {s : Nat} {ks : List Kd}

end
end Go.Fx

/- Contracts, on: the marks. -/
namespace Go.Proofs.YtiomojlcnemnhaaGreatDoor
open Go.Fx Go.RowKit
variable {G : World → Prop}
end Go.Proofs.YtiomojlcnemnhaaGreatDoor

/- Contracts, on: copies of lists of terms, values, binds, and looking at them again. -/
namespace Go.Proofs.YtiomojlcnemnhaaGreatDoor
open Go.Fx Go.RowKit Go.Ped
variable {G : World → Prop}

theorem m30 (x : Name) (l : List Name) (sp : List (List C)) (hl : l.length ≤ maxLen) : Meets Tryz.prog G 67 [.one (cS (bs x)), .one (.sl (l.map fun v => [cS (bs v)]) sp)] (.x (.one (cB (l.contains x)))) := by
  refine meets Tryz.func67 ie30 ig30 (Nat.le_of_ble_eq_true rfl) ?_
  simp [ic30, ir30]
  refine w_loopK (fun n σ => ∃ (i : Nat) (t9 t17 : T), i + n = l.length ∧ (x ∈ l ↔ x ∈ l.drop i) ∧ σ = ks30 (tI .i64 i) (.k true (.x (.one (.c (.sl (l.map fun v => [cS (bs v)]) sp))))) t9 (tS x) t17 (tB false) [] [] F0)
    l.length ⟨0, _, _, by simp, by simp, rfl⟩ ?_
  rintro n σ1 K hK ⟨i, t9, t17, hi, hd, rfl⟩
  obtain hlt | hge := Nat.lt_or_ge i l.length
  · obtain ⟨c, hc, hdr⟩ := at_list hlt
    obtain ⟨_, rfl⟩ := List.getElem?_eq_some_iff.1 hc
    rw [hdr] at hd
    have hI : ∀ t9 t17, (x ∈ l ↔ x ∈ l.drop (i + 1)) → K (ks30 (tI .i64 (i + 1)) (.k true (.x (.one (.c (.sl (l.map fun v => [cS (bs v)]) sp))))) t9 (tS x) t17 (tB false) [] [] F0) :=
      fun t9 t17 h => hK _ (n - 1) (by omega) ⟨i + 1, t9, t17, by omega, h, rfl⟩
    clear hK
    simp [ic30l0, hlt, wrap_next hlt (by unfold maxLen at hl; omega)]
    constructor
    · intro h
      exact h ▸ List.getElem_mem _
    · intro h
      refine hI _ _ ?_
      rw [hd, List.mem_cons]
      simp [Ne.symm h]
  · simp [ic30l0, Nat.not_lt.mpr hge, hd, List.drop_eq_nil_of_le hge]
end Go.Proofs.YtiomojlcnemnhaaGreatDoor

/- Fx, part Sc: a list under appends, first nil. -/
namespace Go.Fx
open Go.RowKit
section
variable {P : Program} {G : World → Prop} {L : List (Nat × T)} {O : List (Nat × Box)} {U : List (Nat × Tok)} {H : FHp} {l : List IOper} {K : S → Prop} {d : Nat}

/-- A list that appends of rows at one place have made: nil, or its own. The row of the last append may be told yet. -/
def AccS (k j : Nat) (ty : TypeId) (size : Nat) (es : List (List C)) (a : A) (U : List (Nat × Tok)) : Prop :=
  (es = [] ∧ a = .nil ∧ U = []) ∨ (a = .own k es ∧ U = [(k, ⟨ty, size, es.length⟩), (j, ⟨ty, size, 1⟩)]) ∨ (a = .own k es ∧ U = [(j, ⟨ty, size, 1⟩), (k, ⟨ty, size, es.length⟩)])

theorem AccS.nil {k j size : Nat} {ty : TypeId} : AccS k j ty size [] .nil [] := .inl ⟨rfl, rfl, rfl⟩
theorem AccS.own {k j size : Nat} {ty : TypeId} {es : List (List C)} {n : Nat} (h : n = es.length) : AccS k j ty size es (.own k es) [(k, ⟨ty, size, n⟩), (j, ⟨ty, size, 1⟩)] := .inr (.inl ⟨rfl, by rw [h]⟩)
theorem AccS.own' {k j size : Nat} {ty : TypeId} {es : List (List C)} {n : Nat} (h : n = es.length) : AccS k j ty size es (.own k es) [(j, ⟨ty, size, 1⟩), (k, ⟨ty, size, n⟩)] := .inr (.inr ⟨rfl, by rw [h]⟩)
theorem AccS.close {k j size : Nat} {ty : TypeId} {es : List (List C)} {t : A} {U : List (Nat × Tok)} (h : AccS k j ty size es t U) : t.close = some (.sl es []) := by
  rcases h with ⟨rfl, rfl, rfl⟩ | ⟨rfl, rfl⟩ | ⟨rfl, rfl⟩ <;> rfl
theorem AccS.args {k j size : Nat} {ty : TypeId} {es : List (List C)} {t : A} {U : List (Nat × Tok)} (h : AccS k j ty size es t U) : (X.one t).close = some (.one (.sl es [])) := by
  simp only [X.close, h.close, Option.map_some]
theorem AccS.strike {k j size : Nat} {ty : TypeId} {es : List (List C)} {t : A} {U : List (Nat × Tok)} (h : AccS k j ty size es t U) {l : Nat} (hl : l ≠ k) : A.strike [l] t = t := by
  rcases h with ⟨rfl, rfl, rfl⟩ | ⟨rfl, rfl⟩ | ⟨rfl, rfl⟩
  · rfl
  all_goals simp [Ne.symm hl]
theorem AccS.strikeU {k j size : Nat} {ty : TypeId} {es : List (List C)} {t : A} {U : List (Nat × Tok)} (h : AccS k j ty size es t U) {l : Nat} (hl : l ≠ k) (hj : l ≠ j) : strikeU [l] U = U := by
  rcases h with ⟨rfl, rfl, rfl⟩ | ⟨rfl, rfl⟩ | ⟨rfl, rfl⟩
  · rfl
  all_goals simp [Ne.symm hl, Ne.symm hj]
theorem X.close_c (c : C) : (X.one (.c c)).close = some (.one c) := rfl
end
end Go.Fx

/- Contracts, on: the document's atoms, variables, and what is bound. -/
namespace Go.Proofs.YtiomojlcnemnhaaGreatDoor
open Go.Fx Go.RowKit Go.Ped
variable {G : World → Prop}

theorem m91 (p : Name) (l : List Tm) (sp : List (List C)) :
    Meets Tryz.prog G 251 [.agg [cS (bs p), .sl (l.map Tm.row) sp]] (.x (.one (cB (atomOk p l)))) := by
  refine meets Tryz.func251 ie91 ig91 (Nat.le_of_ble_eq_true rfl) ?_
  simp [ic91, ir91]
  refine r_call 174 true _ _ (m156 _) rfl rfl rfl rfl ?_
  simp
  refine ⟨fun h => by simp [atomOk, h], fun h1 => ⟨fun h => ?_, fun h2 => ?_⟩⟩
  · have : ¬ l.length ≤ 24 := by omega
    simp [atomOk, this]
  refine w_loopK (fun n σ => ∃ (i : Nat) (t13 t18 t27 : T), i + n = l.length ∧ (l.all Tm.ok = (l.drop i).all Tm.ok) ∧ σ = ks91 (.k true (.x (.agg [.c (cS (bs p)), .c (.sl (l.map Tm.row) sp)]))) (.k true (.x (.one (.ref 1 0 0)))) t13 (tI .i64 i) t18 t27 (tB false) [(1, ⟨25, 2, [[.c (cS (bs p)), .c (.sl (l.map Tm.row) sp)]], none⟩)] [] F0)
    l.length ⟨0, _, _, _, by simp, by simp, rfl⟩ ?_
  rintro n σ1 K hK ⟨i, t13, t18, t27, hi, hd, rfl⟩
  have hat : atomOk p l = l.all Tm.ok := by simp only [atomOk, h1, Bool.true_and, decide_eq_true (show l.length ≤ 24 by omega)]
  obtain hlt | hge := Nat.lt_or_ge i l.length
  · obtain ⟨c, hc, hdr⟩ := at_list hlt
    obtain ⟨_, rfl⟩ := List.getElem?_eq_some_iff.1 hc
    rw [hdr] at hd
    have hI : ∀ t13 t18 t27, l.all Tm.ok = (l.drop (i + 1)).all Tm.ok → K (ks91 (.k true (.x (.agg [.c (cS (bs p)), .c (.sl (l.map Tm.row) sp)]))) (.k true (.x (.one (.ref 1 0 0)))) t13 (tI .i64 (i + 1)) t18 t27 (tB false) [(1, ⟨25, 2, [[.c (cS (bs p)), .c (.sl (l.map Tm.row) sp)]], none⟩)] [] F0) :=
      fun t13 t18 t27 h => hK _ (n - 1) (by omega) ⟨i + 1, t13, t18, t27, by omega, h, rfl⟩
    clear hK
    simp only [List.all_cons] at hd
    simp [ic91l0, hlt, Tm.row_length]
    refine r_call 250 true _ _ (m157 l[i].v l[i].x.k l[i].x.n l[i].x.s) rfl rfl rfl rfl ?_
    simp [wrap_next hlt (by omega)]
    have hok : termOk l[i].v l[i].x.k l[i].x.n l[i].x.s = l[i].ok := rfl
    rw [hok, hat]
    refine ⟨fun h => ?_, fun h => ?_⟩
    · rw [hd, h]; rfl
    · rw [h, Bool.true_and] at hd
      exact hI _ _ _ hd
  · simp [ic91l0, Nat.not_lt.mpr hge]
    rw [hat, hd, List.drop_eq_nil_of_le hge]; rfl

/-- The variables of a list, each once. -/
abbrev tmVars (l : List Tm) : List Name := varsOn [] (l.map Tm.v)
abbrev nmRow (v : Name) : List C := [cS (bs v)]

theorem varsOn_length : ∀ (l acc : List Name), (varsOn acc l).length ≤ acc.length + l.length
  | [], acc => by simp [varsOn]
  | v :: l, acc => by
    simp only [varsOn]
    split
    · have := varsOn_length l (acc ++ [v]); simp at this ⊢; omega
    · have := varsOn_length l acc; simp; omega

theorem m98 (l : List Tm) (sp : List (List C)) (hl : l.length ≤ 1048576) :
    Meets Tryz.prog G 141 [.one (.sl (l.map Tm.row) sp)] (.x (.one (.sl ((tmVars l).map nmRow) []))) := by
  refine meets Tryz.func141 ie98 ig98 (Nat.le_of_ble_eq_true rfl) ?_
  simp [ic98, ir98]
  refine w_loopK (fun n σ => ∃ (i : Nat) (acc : List Name) (t9 t5 t28 : T) (a : A) (U : List (Nat × Tok)), i + n = l.length ∧ tmVars l = varsOn acc ((l.drop i).map Tm.v) ∧ acc.length ≤ i ∧ AccS 32 31 9 1 (acc.map nmRow) a U ∧ σ = ks98 (tI .i64 i) (.k true (.x (.one (.c (.sl (l.map Tm.row) sp))))) t9 t5 (.k true (.x (.one a))) t28 (.k true (.x (.one .nil))) [] U F0)
    l.length ⟨0, [], _, _, _, _, _, by simp, by simp, by simp, .nil, rfl⟩ ?_
  rintro n σ1 K hK ⟨i, acc, t9, t5, t28, a, U, hi, hd, hn, hacc, rfl⟩
  obtain hlt | hge := Nat.lt_or_ge i l.length
  · obtain ⟨c, hc, hdr⟩ := at_list hlt
    obtain ⟨_, rfl⟩ := List.getElem?_eq_some_iff.1 hc
    rw [hdr] at hd
    have hI : ∀ acc t9 t5 t28 a U, tmVars l = varsOn acc ((l.drop (i + 1)).map Tm.v) → acc.length ≤ i + 1 → AccS 32 31 9 1 (acc.map nmRow) a U → K (ks98 (tI .i64 (i + 1)) (.k true (.x (.one (.c (.sl (l.map Tm.row) sp))))) t9 t5 (.k true (.x (.one a))) t28 (.k true (.x (.one .nil))) [] U F0) :=
      fun acc t9 t5 t28 a U h1 h2 h3 => hK _ (n - 1) (by omega) ⟨i + 1, acc, t9, t5, t28, a, U, by omega, h1, h2, h3, rfl⟩
    clear hK
    simp only [List.map_cons, varsOn] at hd
    generalize hv : l[i].v = v at *
    by_cases h1 : v = []
    · simp [ic98l0, hlt, Tm.row, hv, h1]
      refine r_callF (.x (.one (cB false))) rfl ?_
      simp [wrap_next hlt (by omega)]
      exact hI _ _ _ _ _ _ (by rw [hd]; simp [Ped.isVar, h1]) (by omega) hacc
    by_cases h2 : v = [95]
    · simp [ic98l0, hlt, Tm.row, hv, h2]
      refine r_callF (.x (.one (cB false))) rfl ?_
      simp [wrap_next hlt (by omega)]
      exact hI _ _ _ _ _ _ (by rw [hd]; simp [Ped.isVar, us, h2]) (by omega) hacc
    have hiv : Ped.isVar v = true := by simp [Ped.isVar, h1, us, h2]
    simp [ic98l0, hlt, Tm.row, hv, h1, h2]
    refine r_call 67 true _ _ (m30 v acc [] (by unfold maxLen; omega)) rfl rfl rfl (by simp [-X.close, -A.close, hacc.args, X.close_c]) ?_
    simp
    refine ⟨fun h => ?_, fun h => ?_⟩
    · have hnew : tmVars l = varsOn (acc ++ [v]) ((l.drop (i + 1)).map Tm.v) := by rw [hd]; simp [h, hiv]
      rcases hacc with ⟨h, rfl, rfl⟩ | ⟨rfl, rfl⟩ | ⟨rfl, rfl⟩
      · obtain rfl : acc = [] := by simpa using h
        refine k_row rfl rfl (by simp) (by simp) ?_
        refine k_app0 rfl rfl rfl (by simp) (by simp) (by simp [maxLen]) (by simp [maxBytes]) ?_
        simp [wrap_next hlt (by omega)]
        exact hI _ _ _ _ _ _ hnew (by simp) (.own rfl)
      all_goals
        refine k_row rfl rfl (by simp) (by simp) ?_
        refine k_app (q := ⟨9, 1, acc.length⟩) rfl rfl rfl (by simp) (by simp) rfl rfl (by simp) (by simp [maxLen]; omega) (by simp [maxBytes]; omega) trivial ?_
        simp [wrap_next hlt (by omega)]
        refine hI (acc ++ [v]) _ _ _ _ _ hnew (by simp; omega) ?_
        simp
        exact .own' (by simp)
    · simp [wrap_next hlt (by omega)]
      exact hI _ _ _ _ _ _ (by rw [hd]; simp [h]) (by omega) hacc
  · simp [ic98l0, Nat.not_lt.mpr hge]
    rw [hd, List.drop_eq_nil_of_le hge]
    rcases hacc with ⟨h, rfl, rfl⟩ | ⟨rfl, rfl⟩ | ⟨rfl, rfl⟩
    · simp [h, varsOn]
    · simp [varsOn]
    · simp [varsOn]
theorem m47 (p : Name) (l : List Tm) (sp : List (List C)) (hl : l.length ≤ 1048576) :
    Meets Tryz.prog G 164 [.agg [cS (bs p), .sl (l.map Tm.row) sp]] (.x (.one (.sl ((tmVars l).map nmRow) []))) := by
  refine meets Tryz.func164 ie47 ig47 (Nat.le_of_ble_eq_true rfl) ?_
  simp [ic47, ir47]
  refine r_call 141 true _ _ (m98 l sp hl) rfl rfl rfl rfl ?_
  simp

/-- What binds say of a term: its value, and whether it is one. -/
def boundOf (out : List Tm) (t : Tm) : Val × Bool :=
  if t.v = [] then (t.x, true) else match out.find? (·.v == t.v) with | some p => (p.x, p.x.ok) | none => (zeroV, false)

theorem m107 (out : List Tm) (sp : List (List C)) (t : Tm) (hl : out.length ≤ maxLen) :
    Meets Tryz.prog G 169 [.one (.sl (out.map Tm.row) sp), .agg t.row] (.tup [.agg (boundOf out t).1.row, .one (cB (boundOf out t).2)]) := by
  refine meets Tryz.func169 ie107 ig107 (Nat.le_of_ble_eq_true rfl) ?_
  obtain ⟨v, x⟩ := t
  by_cases h0 : v = []
  · simp [ic107, ir107, Tm.row, boundOf, h0, Val.row]
  simp [ic107, ir107, Tm.row, h0]
  let k : T → T → T → T → S := fun t9 t6 t15 t25 => ks107 (.k true (.x (.agg [.c (cS (bs v)), .c (cI .i8 x.k), .c (cI .i64 x.n), .c (cS (bs x.s))]))) (.k true (.x (.one (.ref 3 0 0)))) t9 (.k true (.x (.one (.ref 4 0 0)))) t6 (.k true (.x (.one (.c (.sl (out.map Tm.row) sp))))) t15 t25 (tB false)
    [(4, ⟨71, 3, [[.c (cI .i8 0), .c (cI .i64 0), .c (cS (bs []))]], none⟩), (3, ⟨73, 4, [[.c (cS (bs v)), .c (cI .i8 x.k), .c (cI .i64 x.n), .c (cS (bs x.s))]], none⟩)] [] F0
  refine w_loopK (fun n σ => ∃ (i : Nat) (t9 t15 t25 : T), i + n = out.length ∧ out.find? (·.v == v) = (out.drop i).find? (·.v == v) ∧ σ = k t9 (tI .i64 i) t15 t25)
    out.length ⟨0, _, _, _, by simp, by simp, rfl⟩ ?_
  rintro n σ1 K hK ⟨i, t9, t15, t25, hi, hd, rfl⟩
  obtain hlt | hge := Nat.lt_or_ge i out.length
  · obtain ⟨c, hc, hdr⟩ := at_list hlt
    obtain ⟨_, rfl⟩ := List.getElem?_eq_some_iff.1 hc
    rw [hdr] at hd
    have hI : ∀ t9 t15 t25, out.find? (·.v == v) = (out.drop (i + 1)).find? (·.v == v) → K (k t9 (tI .i64 (i + 1)) t15 t25) :=
      fun t9 t15 t25 h1 => hK _ (n - 1) (by omega) ⟨i + 1, t9, t15, t25, by omega, h1, rfl⟩
    clear hK
    simp only [List.find?_cons] at hd
    generalize hp : out[i] = p at *
    obtain ⟨pv, px⟩ := p
    simp only [k] at hI ⊢
    simp [ic107l0, hlt, hp, Tm.row]
    refine ⟨fun h => ?_, fun h => ?_⟩
    · refine r_call 243 true _ _ (m29 px.k px.n px.s) rfl rfl rfl rfl ?_
      have hb : boundOf out ⟨v, x⟩ = (px, px.ok) := by simp [boundOf, h0, hd, h]
      simp [hb, Val.row, Val.ok]
      cases valOk px.k px.n px.s <;> rfl
    · simp [wrap_next hlt (by unfold maxLen at hl; omega)]
      have h2 : (pv == v) = false := by simpa using h
      exact hI _ _ _ (by rw [hd]; simp only [h2])
  · have hb : boundOf out ⟨v, x⟩ = (zeroV, false) := by rw [List.drop_eq_nil_of_le hge] at hd; simp [boundOf, h0, hd]
    simp only [k]
    simp [ic107l0, Nat.not_lt.mpr hge, hb, zeroV, Val.row]
end Go.Proofs.YtiomojlcnemnhaaGreatDoor

/- Contracts, on: the document's matching. -/
namespace Go.Proofs.YtiomojlcnemnhaaGreatDoor
open Go.Fx Go.RowKit Go.Ped
variable {G : World → Prop}

end Go.Proofs.YtiomojlcnemnhaaGreatDoor

/- Fx, part Sd: loops that forget what a round made. -/
namespace Go.Fx
open Go.RowKit
section

theorem w_loopSN {P : Program} {G : World → Prop} {Q : Exit → S → Prop} (ks : List Nat) (hks : ∀ k ∈ ks, ownKey k) {a : IC} {σ : S} (I : Nat → S → Prop) (n : Nat) (h0 : I n (σ.strike ks)) (hr : ∀ n σ1, I n σ1 → wpI P G a (thenQ (fun σ' => ∃ m, m < n ∧ I m (σ'.strike ks)) Q) σ1) : wpI P G (.loop a) Q σ := by
  classical
  have key : ∀ σ, (∃ n, I n σ) → ∃ n, I n σ ∧ ∀ m, m < n → ¬ I m σ := fun σ h => by
    obtain ⟨n, h⟩ := h
    induction n using Nat.strongRecOn with
    | ind n ih =>
      by_cases hm : ∃ m, m < n ∧ I m σ
      · obtain ⟨m, h1, h2⟩ := hm; exact ih m h1 h2
      · exact ⟨n, h, fun m h1 h2 => hm ⟨m, h1, h2⟩⟩
  let μ : S → Nat := fun σ => if h : ∃ n, I n σ then Classical.choose (key σ h) else 0
  refine ⟨fun σ => ∃ n, I n σ, μ, ⟨_, .strike ks σ hks, n, h0⟩, fun σ1 h1 => ?_⟩
  have hc := Classical.choose_spec (key σ1 h1)
  refine wpI_mono (c := a) (fun e σ' hq => ?_) (hr _ σ1 hc.1)
  cases e <;> try exact hq
  obtain ⟨m, hm, hI⟩ := hq
  refine ⟨_, .strike ks σ' hks, ⟨m, hI⟩, ?_⟩
  have h2 : ∃ n, I n (σ'.strike ks) := ⟨m, hI⟩
  have hc2 := Classical.choose_spec (key _ h2)
  have e1 : μ (σ'.strike ks) = Classical.choose (key _ h2) := dif_pos h2
  have e2 : μ σ1 = Classical.choose (key σ1 h1) := dif_pos h1
  rw [e1, e2]
  refine Nat.lt_of_le_of_lt (Nat.le_of_not_lt fun hlt => hc2.2 m hlt hI) hm

/-- A loop whose boxes and lists of the round are forgotten at each round's end. -/
theorem w_loopS {P : Program} {G : World → Prop} {Q : Exit → S → Prop} (ks : List Nat) (hks : ∀ k ∈ ks, ownKey k) {a : IC} {σ : S} (I : Nat → S → Prop) (n : Nat) (h0 : I n (σ.strike ks)) (hr : ∀ n σ1 (K : S → Prop), (∀ σ' m, m < n → I m (σ'.strike ks) → K σ') → I n σ1 → wpI P G a (thenQ K Q) σ1) : wpI P G (.loop a) Q σ :=
  w_loopSN ks hks I n h0 fun n σ1 h1 => hr n σ1 _ (fun _ m hm hI => ⟨m, hm, hI⟩) h1

/-- A list under appends: nil, or its own; the rows are forgotten. -/
def AccN (k : Nat) (ty : TypeId) (size : Nat) (es : List (List C)) (a : A) (U : List (Nat × Tok)) : Prop :=
  (es = [] ∧ a = .nil ∧ U = []) ∨ (a = .own k es ∧ U = [(k, ⟨ty, size, es.length⟩)])
theorem AccN.nil {k size : Nat} {ty : TypeId} : AccN k ty size [] .nil [] := .inl ⟨rfl, rfl, rfl⟩
theorem AccN.own {k size : Nat} {ty : TypeId} {es : List (List C)} {n : Nat} (h : n = es.length) : AccN k ty size es (.own k es) [(k, ⟨ty, size, n⟩)] := .inr ⟨rfl, by rw [h]⟩
theorem AccN.args {k size : Nat} {ty : TypeId} {es : List (List C)} {t : A} {U : List (Nat × Tok)} (h : AccN k ty size es t U) : (X.one t).close = some (.one (.sl es [])) := by
  rcases h with ⟨rfl, rfl, rfl⟩ | ⟨rfl, rfl⟩ <;> rfl
theorem AccN.strike {k size : Nat} {ty : TypeId} {es : List (List C)} {t : A} {U : List (Nat × Tok)} (h : AccN k ty size es t U) {l : Nat} (hl : l ≠ k) : A.strike [l] t = t := by
  rcases h with ⟨rfl, rfl, rfl⟩ | ⟨rfl, rfl⟩
  · rfl
  · simp [Ne.symm hl]
theorem AccN.strikeU {k size : Nat} {ty : TypeId} {es : List (List C)} {t : A} {U : List (Nat × Tok)} (h : AccN k ty size es t U) {l : Nat} (hl : l ≠ k) : strikeU [l] U = U := by
  rcases h with ⟨rfl, rfl, rfl⟩ | ⟨rfl, rfl⟩
  · rfl
  · simp [Ne.symm hl]
end
end Go.Fx

/- Contracts, on: the program's matching. -/
namespace Go.Proofs.YtiomojlcnemnhaaGreatDoor
open Go.Fx Go.RowKit Go.Ped
variable {G : World → Prop}

/-- A bind as the program's map keeps it. -/
def mpRow (t : Tm) : List A := .c (cS (bs t.v)) :: t.x.row.map A.c
abbrev zRow : List A := [.c (cI .i8 0), .c (cI .i64 0), .c (cS (bs []))]

theorem strikeL_mpRow (l : List Nat) (t : Tm) : strikeL l (mpRow t) = mpRow t := by simp [mpRow, Val.row]
theorem strikeL_mpRow' (l : List Nat) : strikeL l ∘ mpRow = mpRow := funext fun t => strikeL_mpRow l t
theorem keyEq_mpRow (v : Name) (t : Tm) : keyEq (.string (bs v)) (mpRow t) = (t.v == v) := by
  simp [keyEq, mpRow]
theorem mapFind_binds (v : Name) (out : List Tm) : (out.map mpRow).find? (keyEq (.string (bs v))) = (out.find? (·.v == v)).map mpRow := by
  rw [List.find?_map]
  congr 1
  congr 1
  funext t
  exact keyEq_mpRow v t
theorem mapGet_binds (v : Name) (out : List Tm) : mapGet (out.map mpRow) (.string (bs v)) zRow = ((bindOf out v).getD zeroV).row.map A.c := by
  unfold mapGet bindOf
  rw [mapFind_binds]
  cases out.find? (·.v == v) <;> simp [mpRow, zeroV, Val.row]
end Go.Proofs.YtiomojlcnemnhaaGreatDoor

/- Contracts, on: the program's matching, where the fact's values are memory that is handed over. -/
namespace Go.Proofs.YtiomojlcnemnhaaGreatDoor
open Go.Fx Go.RowKit Go.Ped
variable {G : World → Prop}

@[simp] theorem strike_val (ks : List Nat) : (strikeL ks ∘ fun v : Val => v.row.map A.c) = fun v => v.row.map A.c := funext fun v => strikeL_c ks _
end Go.Proofs.YtiomojlcnemnhaaGreatDoor

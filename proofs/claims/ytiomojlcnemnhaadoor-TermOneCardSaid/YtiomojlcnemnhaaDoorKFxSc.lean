import Derived.Test.YtiomojlcnemnhaaDoorKFxWb
/- Fx, part Sa: lists that are compared element by element, copied with a mark behind, and looked at again: once for all types of elements. -/
namespace Go.Fx
open Go.RowKit

abbrev ksSame (t0 t1 t10 t5 t14 t25 t4 : T) (O : List (Nat × Box)) (U : List (Nat × Tok)) (H : FHp) : S := st [(0, t0), (1, t1), (10, t10), (5, t5), (14, t14), (25, t25), (4, t4)] O U H
def icSamel0 (s : Nat) (ks : List Kd) : IC :=
 (.seq
  (.seq
   (.region [] [] [0, 1, 10, 5, 14, 25, 4] [
     ⟨(some 11), (.move (.t 5)), none, none⟩,
     ⟨(some 12), (.move (.t 0)), none, none⟩,
     ⟨(some 13), (.len (.t 12)), none, none⟩,
     ⟨(some 14), (.bin .lss (.t 11) (.t 13)), none, none⟩])
   (.cond (.t 14)
    .skip
    (.exit 0)))
  (.seq
   (.block 1
    (.seq
     (.region [] [] [0, 1, 10, 5, 14, 25, 4] [
       ⟨(some 17), (.move (.t 0)), none, none⟩,
       ⟨(some 18), (.move (.t 5)), none, none⟩,
       ⟨(some 19), (.iaddr s (.t 17) (.t 18)), none, none⟩,
       ⟨(some 20), (.load (some s) (.t 19)), none, none⟩,
       ⟨(some 21), (.move (.t 1)), none, none⟩,
       ⟨(some 22), (.move (.t 5)), none, none⟩,
       ⟨(some 23), (.iaddr s (.t 21) (.t 22)), none, none⟩,
       ⟨(some 24), (.load (some s) (.t 23)), none, none⟩,
       ⟨(some 25), (.eqs true ks (.t 20) (.t 24)), none, none⟩])
     (.cond (.t 25)
      (.seq
       (.region [] [] [0, 1, 10, 5, 14, 25, 4] [
         ⟨(some 4), (.move (.k (rB false))), none, none⟩])
       .ret)
      .skip)))
   (.region [] [] [0, 1, 10, 5, 14, 25, 4] [
     ⟨(some 15), (.move (.t 5)), none, none⟩,
     ⟨(some 16), (.bin .add (.t 15) (.k (rI .i64 1))), none, none⟩,
     ⟨(some 5), (.move (.t 16)), none, none⟩])))
def icSame (s : Nat) (ks : List Kd) : IC :=
 (.seq
  (.region [] [] [0, 1, 10, 5, 14, 25, 4] [
    ⟨(some 4), (.move (.k (rB false))), none, none⟩])
  (.seq
   (.seq
    (.region [] [] [0, 1, 10, 5, 14, 25, 4] [
      ⟨(some 6), (.move (.t 0)), none, none⟩,
      ⟨(some 7), (.len (.t 6)), none, none⟩,
      ⟨(some 8), (.move (.t 1)), none, none⟩,
      ⟨(some 9), (.len (.t 8)), none, none⟩,
      ⟨(some 10), (.bin .neq (.t 7) (.t 9)), none, none⟩])
    (.cond (.t 10)
     (.seq
      (.region [] [] [0, 1, 10, 5, 14, 25, 4] [
        ⟨(some 4), (.move (.k (rB false))), none, none⟩])
      .ret)
     .skip))
   (.seq
    (.seq
     (.region [] [] [0, 1, 10, 5, 14, 25, 4] [
       ⟨(some 5), (.move (.k (rI .i64 0))), none, none⟩])
     (.block 0
      (.loop (icSamel0 s ks))))
    (.seq
     (.region [] [] [0, 1, 10, 5, 14, 25, 4] [
       ⟨(some 4), (.move (.k (rB true))), none, none⟩])
     .ret))))

/-- How a type's values lie in rows of cells. -/
structure Enc (α : Type) (s : Nat) (ks : List Kd) where
  row : α → List C
  len : ∀ x, (row x).length = s
  eq : ∀ (x y : α) (_e : DecidableEq α), eqRows ks ((row x).map A.c) ((row y).map A.c) = some (decide (x = y))

section
variable {P : Program} {G : World → Prop} {α : Type} [DecidableEq α] {s : Nat} {ks : List Kd}

theorem same_gen (E : Enc α s ks) {f : FuncId} {fn : Func} (hf : P.funcs[f]? = some fn) (hc : cmpFunc P ⟨[], []⟩ fn [0, 1, 10, 5, 14, 25, 4] = some (icSame s ks)) (hr : cmpRes P fn.results.toList = some [.tmp 4]) (hn : 2 ≤ fn.ntmps)
    (l m : List α) (sp sq : List (List C)) (hl : l.length ≤ maxLen) : Meets P G f [.one (.sl (l.map E.row) sp), .one (.sl (m.map E.row) sq)] (.x (.one (cB (decide (l = m))))) := by
  refine meets hf hc hr hn ?_
  simp [icSame]
  constructor
  · intro h
    have : ¬ l = m := fun e => by subst e; exact h rfl
    simpa using this
  intro hlen
  have hlen : l.length = m.length := by omega
  refine w_loopK (fun n σ => ∃ (i : Nat) (t10 t14 t25 : T), i + n = l.length ∧ l.take i = m.take i ∧ σ = ksSame (.k true (.x (.one (.c (.sl (l.map E.row) sp))))) (.k true (.x (.one (.c (.sl (m.map E.row) sq))))) t10 (tI .i64 i) t14 t25 (tB false) [] [] F0)
    l.length ⟨0, _, _, _, by simp, by simp, rfl⟩ ?_
  rintro n σ1 K hK ⟨i, t10, t14, t25, hi, hd, rfl⟩
  obtain hlt | hge := Nat.lt_or_ge i l.length
  · have hltm : i < m.length := by omega
    have hI : ∀ t10 t14 t25, l.take (i + 1) = m.take (i + 1) → K (ksSame (.k true (.x (.one (.c (.sl (l.map E.row) sp))))) (.k true (.x (.one (.c (.sl (m.map E.row) sq))))) t10 (tI .i64 (i + 1)) t14 t25 (tB false) [] [] F0) :=
      fun t10 t14 t25 h => hK _ (n - 1) (by omega) ⟨i + 1, t10, t14, t25, by omega, h, rfl⟩
    clear hK
    have h1 := E.len l[i]
    have h2 := E.len m[i]
    have k1 : ((E.row l[i]).map A.c).take s = (E.row l[i]).map A.c := List.take_of_length_le (by simp [h1])
    have k2 : ((E.row m[i]).map A.c).take s = (E.row m[i]).map A.c := List.take_of_length_le (by simp [h2])
    have he := E.eq l[i] m[i] inferInstance
    simp [icSamel0, hlt, hltm, h1, h2, k1, k2, he, wrap_next hlt (by unfold maxLen at hl; omega)]
    constructor
    · intro hne e
      subst e
      exact hne rfl
    · intro e
      refine hI _ _ _ ?_
      rw [List.take_succ_eq_append_getElem hlt, List.take_succ_eq_append_getElem hltm, hd, e]
  · have : l = m := by
      rw [List.take_of_length_le hge, List.take_of_length_le (by omega)] at hd; exact hd
    subst this
    simp [icSamel0, Nat.not_lt.mpr hge]

end
end Go.Fx

/- Fx, part Sb: copies with a mark behind, and looking at them again: once for all types of elements. -/
namespace Go.Fx
open Go.RowKit

section
variable {P : Program} {G : World → Prop} {α : Type} {s : Nat} {ks : List Kd}

end
end Go.Fx

/- Fx, part Sc: a list under appends, first nil. -/
namespace Go.Fx
open Go.RowKit
section
variable {P : Program} {G : World → Prop} {L : List (Nat × T)} {O : List (Nat × Box)} {U : List (Nat × Tok)} {H : FHp} {l : List IOper} {K : S → Prop} {d : Nat}

/-- A list that appends of rows at one place have made: nil, or its own. The row of the last append may be told yet. -/
def AccS (k j : Nat) (ty : TypeId) (size : Nat) (es : List (List C)) (a : A) (U : List (Nat × Tok)) : Prop :=
  (es = [] ∧ a = .nil ∧ U = []) ∨ (a = .own k es ∧ U = [(k, ⟨ty, size, es.length⟩), (j, ⟨ty, size, 1⟩)]) ∨ (a = .own k es ∧ U = [(j, ⟨ty, size, 1⟩), (k, ⟨ty, size, es.length⟩)])

theorem AccS.nil {k j size : Nat} {ty : TypeId} : AccS k j ty size [] .nil [] := .inl ⟨rfl, rfl, rfl⟩
theorem AccS.own {k j size : Nat} {ty : TypeId} {es : List (List C)} {n : Nat} (h : n = es.length) : AccS k j ty size es (.own k es) [(k, ⟨ty, size, n⟩), (j, ⟨ty, size, 1⟩)] := .inr (.inl ⟨rfl, by rw [h]⟩)
theorem AccS.own' {k j size : Nat} {ty : TypeId} {es : List (List C)} {n : Nat} (h : n = es.length) : AccS k j ty size es (.own k es) [(j, ⟨ty, size, 1⟩), (k, ⟨ty, size, n⟩)] := .inr (.inr ⟨rfl, by rw [h]⟩)
theorem AccS.close {k j size : Nat} {ty : TypeId} {es : List (List C)} {t : A} {U : List (Nat × Tok)} (h : AccS k j ty size es t U) : t.close = some (.sl es []) := by
  rcases h with ⟨rfl, rfl, rfl⟩ | ⟨rfl, rfl⟩ | ⟨rfl, rfl⟩ <;> rfl
theorem AccS.args {k j size : Nat} {ty : TypeId} {es : List (List C)} {t : A} {U : List (Nat × Tok)} (h : AccS k j ty size es t U) : (X.one t).close = some (.one (.sl es [])) := by
  simp only [X.close, h.close, Option.map_some]
theorem AccS.strike {k j size : Nat} {ty : TypeId} {es : List (List C)} {t : A} {U : List (Nat × Tok)} (h : AccS k j ty size es t U) {l : Nat} (hl : l ≠ k) : A.strike [l] t = t := by
  rcases h with ⟨rfl, rfl, rfl⟩ | ⟨rfl, rfl⟩ | ⟨rfl, rfl⟩
  · rfl
  all_goals simp [Ne.symm hl]
theorem AccS.strikeU {k j size : Nat} {ty : TypeId} {es : List (List C)} {t : A} {U : List (Nat × Tok)} (h : AccS k j ty size es t U) {l : Nat} (hl : l ≠ k) (hj : l ≠ j) : strikeU [l] U = U := by
  rcases h with ⟨rfl, rfl, rfl⟩ | ⟨rfl, rfl⟩ | ⟨rfl, rfl⟩
  · rfl
  all_goals simp [Ne.symm hl, Ne.symm hj]
theorem X.close_c (c : C) : (X.one (.c c)).close = some (.one c) := rfl
end
end Go.Fx

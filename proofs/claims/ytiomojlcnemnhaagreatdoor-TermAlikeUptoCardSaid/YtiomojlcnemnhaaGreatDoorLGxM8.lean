import Derived.Test.YtiomojlcnemnhaaGreatDoorLFxZ
import Derived.Test.YtiomojlcnemnhaaGreatDoorLGxM3
import Derived.Test.YtiomojlcnemnhaaGreatDoorLGxItoa
namespace Go.Fx
open Go.RowKit
abbrev ksSame (t0 t1 t10 t5 t14 t25 t4 : T) (O : List (Nat × Box)) (U : List (Nat × Tok)) (H : FHp) : S := st [(0, t0), (1, t1), (10, t10), (5, t5), (14, t14), (25, t25), (4, t4)] O U H
def icSamel0 (s : Nat) (ks : List Kd) : IC :=
 (.seq
  (.seq
   (.region [] [] [0, 1, 10, 5, 14, 25, 4] [
     ⟨(some 11), (.move (.t 5)), none, none⟩,
     ⟨(some 12), (.move (.t 0)), none, none⟩,
     ⟨(some 13), (.len (.t 12)), none, none⟩,
     ⟨(some 14), (.bin .lss (.t 11) (.t 13)), none, none⟩])
   (.cond (.t 14)
    .skip
    (.exit 0)))
  (.seq
   (.block 1
    (.seq
     (.region [] [] [0, 1, 10, 5, 14, 25, 4] [
       ⟨(some 17), (.move (.t 0)), none, none⟩,
       ⟨(some 18), (.move (.t 5)), none, none⟩,
       ⟨(some 19), (.iaddr s (.t 17) (.t 18)), none, none⟩,
       ⟨(some 20), (.load (some s) (.t 19)), none, none⟩,
       ⟨(some 21), (.move (.t 1)), none, none⟩,
       ⟨(some 22), (.move (.t 5)), none, none⟩,
       ⟨(some 23), (.iaddr s (.t 21) (.t 22)), none, none⟩,
       ⟨(some 24), (.load (some s) (.t 23)), none, none⟩,
       ⟨(some 25), (.eqs true ks (.t 20) (.t 24)), none, none⟩])
     (.cond (.t 25)
      (.seq
       (.region [] [] [0, 1, 10, 5, 14, 25, 4] [
         ⟨(some 4), (.move (.k (rB false))), none, none⟩])
       .ret)
      .skip)))
   (.region [] [] [0, 1, 10, 5, 14, 25, 4] [
     ⟨(some 15), (.move (.t 5)), none, none⟩,
     ⟨(some 16), (.bin .add (.t 15) (.k (rI .i64 1))), none, none⟩,
     ⟨(some 5), (.move (.t 16)), none, none⟩])))
def icSame (s : Nat) (ks : List Kd) : IC :=
 (.seq
  (.region [] [] [0, 1, 10, 5, 14, 25, 4] [
    ⟨(some 4), (.move (.k (rB false))), none, none⟩])
  (.seq
   (.seq
    (.region [] [] [0, 1, 10, 5, 14, 25, 4] [
      ⟨(some 6), (.move (.t 0)), none, none⟩,
      ⟨(some 7), (.len (.t 6)), none, none⟩,
      ⟨(some 8), (.move (.t 1)), none, none⟩,
      ⟨(some 9), (.len (.t 8)), none, none⟩,
      ⟨(some 10), (.bin .neq (.t 7) (.t 9)), none, none⟩])
    (.cond (.t 10)
     (.seq
      (.region [] [] [0, 1, 10, 5, 14, 25, 4] [
        ⟨(some 4), (.move (.k (rB false))), none, none⟩])
      .ret)
     .skip))
   (.seq
    (.seq
     (.region [] [] [0, 1, 10, 5, 14, 25, 4] [
       ⟨(some 5), (.move (.k (rI .i64 0))), none, none⟩])
     (.block 0
      (.loop (icSamel0 s ks))))
    (.seq
     (.region [] [] [0, 1, 10, 5, 14, 25, 4] [
       ⟨(some 4), (.move (.k (rB true))), none, none⟩])
     .ret))))
structure Enc (α : Type) (s : Nat) (ks : List Kd) where
  row : α → List C
  len : ∀ x, (row x).length = s
  eq : ∀ (x y : α) (_e : DecidableEq α), eqRows ks ((row x).map A.c) ((row y).map A.c) = some (decide (x = y))
section
variable {P : Program} {G : World → Prop} {α : Type} [DecidableEq α] {s : Nat} {ks : List Kd}
theorem same_gen (E : Enc α s ks) {f : FuncId} {fn : Func} (hf : P.funcs[f]? = some fn) (hc : cmpFunc P ⟨[], []⟩ fn [0, 1, 10, 5, 14, 25, 4] = some (icSame s ks)) (hr : cmpRes P fn.results.toList = some [.tmp 4]) (hn : 2 ≤ fn.ntmps)
    (l m : List α) (sp sq : List (List C)) (hl : l.length ≤ maxLen) : Meets P G f [.one (.sl (l.map E.row) sp), .one (.sl (m.map E.row) sq)] (.x (.one (cB (decide (l = m))))) := by
  refine meets hf hc hr hn ?_
  simp [icSame]
  constructor
  · intro h
    have : ¬ l = m := fun e => by subst e; exact h rfl
    simpa using this
  intro hlen
  have hlen : l.length = m.length := by omega
  refine w_loopK (fun n σ => ∃ (i : Nat) (t10 t14 t25 : T), i + n = l.length ∧ l.take i = m.take i ∧ σ = ksSame (.k true (.x (.one (.c (.sl (l.map E.row) sp))))) (.k true (.x (.one (.c (.sl (m.map E.row) sq))))) t10 (tI .i64 i) t14 t25 (tB false) [] [] F0)
    l.length ⟨0, _, _, _, by simp, by simp, rfl⟩ ?_
  rintro n σ1 K hK ⟨i, t10, t14, t25, hi, hd, rfl⟩
  obtain hlt | hge := Nat.lt_or_ge i l.length
  · have hltm : i < m.length := by omega
    have hI : ∀ t10 t14 t25, l.take (i + 1) = m.take (i + 1) → K (ksSame (.k true (.x (.one (.c (.sl (l.map E.row) sp))))) (.k true (.x (.one (.c (.sl (m.map E.row) sq))))) t10 (tI .i64 (i + 1)) t14 t25 (tB false) [] [] F0) :=
      fun t10 t14 t25 h => hK _ (n - 1) (by omega) ⟨i + 1, t10, t14, t25, by omega, h, rfl⟩
    clear hK
    have h1 := E.len l[i]
    have h2 := E.len m[i]
    have k1 : ((E.row l[i]).map A.c).take s = (E.row l[i]).map A.c := List.take_of_length_le (by simp [h1])
    have k2 : ((E.row m[i]).map A.c).take s = (E.row m[i]).map A.c := List.take_of_length_le (by simp [h2])
    have he := E.eq l[i] m[i] inferInstance
    simp [icSamel0, hlt, hltm, h1, h2, k1, k2, he, wrap_next hlt (by unfold maxLen at hl; omega)]
    constructor
    · intro hne e
      subst e
      exact hne rfl
    · intro e
      refine hI _ _ _ ?_
      rw [List.take_succ_eq_append_getElem hlt, List.take_succ_eq_append_getElem hltm, hd, e]
  · have : l = m := by
      rw [List.take_of_length_le hge, List.take_of_length_le (by omega)] at hd; exact hd
    subst this
    simp [icSamel0, Nat.not_lt.mpr hge]
end
end Go.Fx

namespace Go.Fx
open Go.RowKit
section
variable {P : Program} {G : World → Prop} {α : Type} {s : Nat} {ks : List Kd}
end
end Go.Fx

namespace Go.Proofs.YtiomojlcnemnhaaGreatDoor
open Go.Fx Go.RowKit
variable {G : World → Prop}
abbrev GT : World → Prop := tab10 Tryz.prog
end Go.Proofs.YtiomojlcnemnhaaGreatDoor

namespace Go.Proofs.YtiomojlcnemnhaaGreatDoor
open Go.Fx Go.RowKit Go.Ped
variable {G : World → Prop}
def encT : Enc Tm 4 [.s, .i .i8, .i .i64, .s] where
  row := Tm.row
  len := fun _ => rfl
  eq := fun x y _ => by
    obtain ⟨a, k, n, s⟩ := x
    obtain ⟨b, l, m, t⟩ := y
    simp [Tm.row]
    rw [Bool.eq_iff_iff]
    simp
theorem m129 (l m : List Tm) (sp sq : List (List C)) (hl : l.length ≤ maxLen) : Meets Tryz.prog G 84 [.one (.sl (l.map Tm.row) sp), .one (.sl (m.map Tm.row) sq)] (.x (.one (cB (decide (l = m))))) :=
  same_gen encT Tryz.func84 ie129 ig129 (Nat.le_of_ble_eq_true rfl) l m sp sq hl
theorem m30 (x : Name) (l : List Name) (sp : List (List C)) (hl : l.length ≤ maxLen) : Meets Tryz.prog G 67 [.one (cS (bs x)), .one (.sl (l.map fun v => [cS (bs v)]) sp)] (.x (.one (cB (l.contains x)))) := by
  refine meets Tryz.func67 ie30 ig30 (Nat.le_of_ble_eq_true rfl) ?_
  simp [ic30, ir30]
  refine w_loopK (fun n σ => ∃ (i : Nat) (t9 t17 : T), i + n = l.length ∧ (x ∈ l ↔ x ∈ l.drop i) ∧ σ = ks30 (tI .i64 i) (.k true (.x (.one (.c (.sl (l.map fun v => [cS (bs v)]) sp))))) t9 (tS x) t17 (tB false) [] [] F0)
    l.length ⟨0, _, _, by simp, by simp, rfl⟩ ?_
  rintro n σ1 K hK ⟨i, t9, t17, hi, hd, rfl⟩
  obtain hlt | hge := Nat.lt_or_ge i l.length
  · obtain ⟨c, hc, hdr⟩ := at_list hlt
    obtain ⟨_, rfl⟩ := List.getElem?_eq_some_iff.1 hc
    rw [hdr] at hd
    have hI : ∀ t9 t17, (x ∈ l ↔ x ∈ l.drop (i + 1)) → K (ks30 (tI .i64 (i + 1)) (.k true (.x (.one (.c (.sl (l.map fun v => [cS (bs v)]) sp))))) t9 (tS x) t17 (tB false) [] [] F0) :=
      fun t9 t17 h => hK _ (n - 1) (by omega) ⟨i + 1, t9, t17, by omega, h, rfl⟩
    clear hK
    simp [ic30l0, hlt, wrap_next hlt (by unfold maxLen at hl; omega)]
    constructor
    · intro h
      exact h ▸ List.getElem_mem _
    · intro h
      refine hI _ _ ?_
      rw [hd, List.mem_cons]
      simp [Ne.symm h]
  · simp [ic30l0, Nat.not_lt.mpr hge, hd, List.drop_eq_nil_of_le hge]
end Go.Proofs.YtiomojlcnemnhaaGreatDoor

namespace Go.Fx
open Go.RowKit
section
variable {P : Program} {G : World → Prop} {L : List (Nat × T)} {O : List (Nat × Box)} {U : List (Nat × Tok)} {H : FHp} {l : List IOper} {K : S → Prop} {d : Nat}
def AccS (k j : Nat) (ty : TypeId) (size : Nat) (es : List (List C)) (a : A) (U : List (Nat × Tok)) : Prop :=
  (es = [] ∧ a = .nil ∧ U = []) ∨ (a = .own k es ∧ U = [(k, ⟨ty, size, es.length⟩), (j, ⟨ty, size, 1⟩)]) ∨ (a = .own k es ∧ U = [(j, ⟨ty, size, 1⟩), (k, ⟨ty, size, es.length⟩)])
theorem AccS.nil {k j size : Nat} {ty : TypeId} : AccS k j ty size [] .nil [] := .inl ⟨rfl, rfl, rfl⟩
theorem AccS.own {k j size : Nat} {ty : TypeId} {es : List (List C)} {n : Nat} (h : n = es.length) : AccS k j ty size es (.own k es) [(k, ⟨ty, size, n⟩), (j, ⟨ty, size, 1⟩)] := .inr (.inl ⟨rfl, by rw [h]⟩)
theorem AccS.own' {k j size : Nat} {ty : TypeId} {es : List (List C)} {n : Nat} (h : n = es.length) : AccS k j ty size es (.own k es) [(j, ⟨ty, size, 1⟩), (k, ⟨ty, size, n⟩)] := .inr (.inr ⟨rfl, by rw [h]⟩)
theorem AccS.close {k j size : Nat} {ty : TypeId} {es : List (List C)} {t : A} {U : List (Nat × Tok)} (h : AccS k j ty size es t U) : t.close = some (.sl es []) := by
  rcases h with ⟨rfl, rfl, rfl⟩ | ⟨rfl, rfl⟩ | ⟨rfl, rfl⟩ <;> rfl
theorem AccS.args {k j size : Nat} {ty : TypeId} {es : List (List C)} {t : A} {U : List (Nat × Tok)} (h : AccS k j ty size es t U) : (X.one t).close = some (.one (.sl es [])) := by
  simp only [X.close, h.close, Option.map_some]
theorem AccS.strike {k j size : Nat} {ty : TypeId} {es : List (List C)} {t : A} {U : List (Nat × Tok)} (h : AccS k j ty size es t U) {l : Nat} (hl : l ≠ k) : A.strike [l] t = t := by
  rcases h with ⟨rfl, rfl, rfl⟩ | ⟨rfl, rfl⟩ | ⟨rfl, rfl⟩
  · rfl
  all_goals simp [Ne.symm hl]
theorem AccS.strikeU {k j size : Nat} {ty : TypeId} {es : List (List C)} {t : A} {U : List (Nat × Tok)} (h : AccS k j ty size es t U) {l : Nat} (hl : l ≠ k) (hj : l ≠ j) : strikeU [l] U = U := by
  rcases h with ⟨rfl, rfl, rfl⟩ | ⟨rfl, rfl⟩ | ⟨rfl, rfl⟩
  · rfl
  all_goals simp [Ne.symm hl, Ne.symm hj]
theorem X.close_c (c : C) : (X.one (.c c)).close = some (.one c) := rfl
end
end Go.Fx

namespace Go.Proofs.YtiomojlcnemnhaaGreatDoor
open Go.Fx Go.RowKit Go.Ped
variable {G : World → Prop}
theorem m91 (p : Name) (l : List Tm) (sp : List (List C)) :
    Meets Tryz.prog G 251 [.agg [cS (bs p), .sl (l.map Tm.row) sp]] (.x (.one (cB (atomOk p l)))) := by
  refine meets Tryz.func251 ie91 ig91 (Nat.le_of_ble_eq_true rfl) ?_
  simp [ic91, ir91]
  refine r_call 174 true _ _ (m156 _) rfl rfl rfl rfl ?_
  simp
  refine ⟨fun h => by simp [atomOk, h], fun h1 => ⟨fun h => ?_, fun h2 => ?_⟩⟩
  · have : ¬ l.length ≤ 24 := by omega
    simp [atomOk, this]
  refine w_loopK (fun n σ => ∃ (i : Nat) (t13 t18 t27 : T), i + n = l.length ∧ (l.all Tm.ok = (l.drop i).all Tm.ok) ∧ σ = ks91 (.k true (.x (.agg [.c (cS (bs p)), .c (.sl (l.map Tm.row) sp)]))) (.k true (.x (.one (.ref 1 0 0)))) t13 (tI .i64 i) t18 t27 (tB false) [(1, ⟨25, 2, [[.c (cS (bs p)), .c (.sl (l.map Tm.row) sp)]], none⟩)] [] F0)
    l.length ⟨0, _, _, _, by simp, by simp, rfl⟩ ?_
  rintro n σ1 K hK ⟨i, t13, t18, t27, hi, hd, rfl⟩
  have hat : atomOk p l = l.all Tm.ok := by simp only [atomOk, h1, Bool.true_and, decide_eq_true (show l.length ≤ 24 by omega)]
  obtain hlt | hge := Nat.lt_or_ge i l.length
  · obtain ⟨c, hc, hdr⟩ := at_list hlt
    obtain ⟨_, rfl⟩ := List.getElem?_eq_some_iff.1 hc
    rw [hdr] at hd
    have hI : ∀ t13 t18 t27, l.all Tm.ok = (l.drop (i + 1)).all Tm.ok → K (ks91 (.k true (.x (.agg [.c (cS (bs p)), .c (.sl (l.map Tm.row) sp)]))) (.k true (.x (.one (.ref 1 0 0)))) t13 (tI .i64 (i + 1)) t18 t27 (tB false) [(1, ⟨25, 2, [[.c (cS (bs p)), .c (.sl (l.map Tm.row) sp)]], none⟩)] [] F0) :=
      fun t13 t18 t27 h => hK _ (n - 1) (by omega) ⟨i + 1, t13, t18, t27, by omega, h, rfl⟩
    clear hK
    simp only [List.all_cons] at hd
    simp [ic91l0, hlt, Tm.row_length]
    refine r_call 250 true _ _ (m157 l[i].v l[i].x.k l[i].x.n l[i].x.s) rfl rfl rfl rfl ?_
    simp [wrap_next hlt (by omega)]
    have hok : termOk l[i].v l[i].x.k l[i].x.n l[i].x.s = l[i].ok := rfl
    rw [hok, hat]
    refine ⟨fun h => ?_, fun h => ?_⟩
    · rw [hd, h]; rfl
    · rw [h, Bool.true_and] at hd
      exact hI _ _ _ hd
  · simp [ic91l0, Nat.not_lt.mpr hge]
    rw [hat, hd, List.drop_eq_nil_of_le hge]; rfl
abbrev tmVars (l : List Tm) : List Name := varsOn [] (l.map Tm.v)
abbrev nmRow (v : Name) : List C := [cS (bs v)]
theorem varsOn_length : ∀ (l acc : List Name), (varsOn acc l).length ≤ acc.length + l.length
  | [], acc => by simp [varsOn]
  | v :: l, acc => by
    simp only [varsOn]
    split
    · have := varsOn_length l (acc ++ [v]); simp at this ⊢; omega
    · have := varsOn_length l acc; simp; omega
theorem m98 (l : List Tm) (sp : List (List C)) (hl : l.length ≤ 1048576) :
    Meets Tryz.prog G 141 [.one (.sl (l.map Tm.row) sp)] (.x (.one (.sl ((tmVars l).map nmRow) []))) := by
  refine meets Tryz.func141 ie98 ig98 (Nat.le_of_ble_eq_true rfl) ?_
  simp [ic98, ir98]
  refine w_loopK (fun n σ => ∃ (i : Nat) (acc : List Name) (t9 t5 t28 : T) (a : A) (U : List (Nat × Fx.Tok)), i + n = l.length ∧ tmVars l = varsOn acc ((l.drop i).map Tm.v) ∧ acc.length ≤ i ∧ AccS 32 31 9 1 (acc.map nmRow) a U ∧ σ = ks98 (tI .i64 i) (.k true (.x (.one (.c (.sl (l.map Tm.row) sp))))) t9 t5 (.k true (.x (.one a))) t28 (.k true (.x (.one .nil))) [] U F0)
    l.length ⟨0, [], _, _, _, _, _, by simp, by simp, by simp, .nil, rfl⟩ ?_
  rintro n σ1 K hK ⟨i, acc, t9, t5, t28, a, U, hi, hd, hn, hacc, rfl⟩
  obtain hlt | hge := Nat.lt_or_ge i l.length
  · obtain ⟨c, hc, hdr⟩ := at_list hlt
    obtain ⟨_, rfl⟩ := List.getElem?_eq_some_iff.1 hc
    rw [hdr] at hd
    have hI : ∀ acc t9 t5 t28 a U, tmVars l = varsOn acc ((l.drop (i + 1)).map Tm.v) → acc.length ≤ i + 1 → AccS 32 31 9 1 (acc.map nmRow) a U → K (ks98 (tI .i64 (i + 1)) (.k true (.x (.one (.c (.sl (l.map Tm.row) sp))))) t9 t5 (.k true (.x (.one a))) t28 (.k true (.x (.one .nil))) [] U F0) :=
      fun acc t9 t5 t28 a U h1 h2 h3 => hK _ (n - 1) (by omega) ⟨i + 1, acc, t9, t5, t28, a, U, by omega, h1, h2, h3, rfl⟩
    clear hK
    simp only [List.map_cons, varsOn] at hd
    generalize hv : l[i].v = v at *
    by_cases h1 : v = []
    · simp [ic98l0, hlt, Tm.row, hv, h1]
      refine r_callF (.x (.one (cB false))) rfl ?_
      simp [wrap_next hlt (by omega)]
      exact hI _ _ _ _ _ _ (by rw [hd]; simp [Ped.isVar, h1]) (by omega) hacc
    by_cases h2 : v = [95]
    · simp [ic98l0, hlt, Tm.row, hv, h2]
      refine r_callF (.x (.one (cB false))) rfl ?_
      simp [wrap_next hlt (by omega)]
      exact hI _ _ _ _ _ _ (by rw [hd]; simp [Ped.isVar, us, h2]) (by omega) hacc
    have hiv : Ped.isVar v = true := by simp [Ped.isVar, h1, us, h2]
    simp [ic98l0, hlt, Tm.row, hv, h1, h2]
    refine r_call 67 true _ _ (m30 v acc [] (by unfold maxLen; omega)) rfl rfl rfl (by simp [-X.close, -A.close, hacc.args, X.close_c]) ?_
    simp
    refine ⟨fun h => ?_, fun h => ?_⟩
    · have hnew : tmVars l = varsOn (acc ++ [v]) ((l.drop (i + 1)).map Tm.v) := by rw [hd]; simp [h, hiv]
      rcases hacc with ⟨h, rfl, rfl⟩ | ⟨rfl, rfl⟩ | ⟨rfl, rfl⟩
      · obtain rfl : acc = [] := by simpa using h
        refine k_row rfl rfl (by simp) (by simp) ?_
        refine k_app0 rfl rfl rfl (by simp) (by simp) (by simp [maxLen]) (by simp [maxBytes]) ?_
        simp [wrap_next hlt (by omega)]
        exact hI _ _ _ _ _ _ hnew (by simp) (.own rfl)
      all_goals
        refine k_row rfl rfl (by simp) (by simp) ?_
        refine k_app (q := ⟨9, 1, acc.length⟩) rfl rfl rfl (by simp) (by simp) rfl rfl (by simp) (by simp [maxLen]; omega) (by simp [maxBytes]; omega) trivial ?_
        simp [wrap_next hlt (by omega)]
        refine hI (acc ++ [v]) _ _ _ _ _ hnew (by simp; omega) ?_
        simp
        exact .own' (by simp)
    · simp [wrap_next hlt (by omega)]
      exact hI _ _ _ _ _ _ (by rw [hd]; simp [h]) (by omega) hacc
  · simp [ic98l0, Nat.not_lt.mpr hge]
    rw [hd, List.drop_eq_nil_of_le hge]
    rcases hacc with ⟨h, rfl, rfl⟩ | ⟨rfl, rfl⟩ | ⟨rfl, rfl⟩
    · simp [h, varsOn]
    · simp [varsOn]
    · simp [varsOn]
end Go.Proofs.YtiomojlcnemnhaaGreatDoor

namespace Go.Proofs.YtiomojlcnemnhaaGreatDoor
open Go.Fx Go.RowKit Go.Ped
variable {G : World → Prop}
def matchOf (p : Name) (ts : List Tm) (q : Name) (vs : List Val) : Option (List Tm) := if atomOk p ts && p == q && ts.length == vs.length then goMatch Val.ok [] ts vs else none
def matchR (r : Option (List Tm)) : CR := .tup [.one (.sl ((r.getD []).map Tm.row) []), .one (cB r.isSome)]
abbrev O36 (p : Name) (ts : List Tm) (vs : List Val) (sp sq : List (List C)) : List (Nat × Box) := [(3, ⟨147, 2, [[.c (cS (bs p)), .c (.sl (vs.map Val.row) sq)]], none⟩), (2, ⟨25, 2, [[.c (cS (bs p)), .c (.sl (ts.map Tm.row) sp)]], none⟩)]
end Go.Proofs.YtiomojlcnemnhaaGreatDoor

namespace Go.Fx
open Go.RowKit
section
theorem w_loopSN {P : Program} {G : World → Prop} {Q : Exit → S → Prop} (ks : List Nat) (hks : ∀ k ∈ ks, ownKey k) {a : IC} {σ : S} (I : Nat → S → Prop) (n : Nat) (h0 : I n (σ.strike ks)) (hr : ∀ n σ1, I n σ1 → wpI P G a (thenQ (fun σ' => ∃ m, m < n ∧ I m (σ'.strike ks)) Q) σ1) : wpI P G (.loop a) Q σ := by
  classical
  have key : ∀ σ, (∃ n, I n σ) → ∃ n, I n σ ∧ ∀ m, m < n → ¬ I m σ := fun σ h => by
    obtain ⟨n, h⟩ := h
    induction n using Nat.strongRecOn with
    | ind n ih =>
      by_cases hm : ∃ m, m < n ∧ I m σ
      · obtain ⟨m, h1, h2⟩ := hm; exact ih m h1 h2
      · exact ⟨n, h, fun m h1 h2 => hm ⟨m, h1, h2⟩⟩
  let μ : S → Nat := fun σ => if h : ∃ n, I n σ then Classical.choose (key σ h) else 0
  refine ⟨fun σ => ∃ n, I n σ, μ, ⟨_, .strike ks σ hks, n, h0⟩, fun σ1 h1 => ?_⟩
  have hc := Classical.choose_spec (key σ1 h1)
  refine wpI_mono (c := a) (fun e σ' hq => ?_) (hr _ σ1 hc.1)
  cases e <;> try exact hq
  obtain ⟨m, hm, hI⟩ := hq
  refine ⟨_, .strike ks σ' hks, ⟨m, hI⟩, ?_⟩
  have h2 : ∃ n, I n (σ'.strike ks) := ⟨m, hI⟩
  have hc2 := Classical.choose_spec (key _ h2)
  have e1 : μ (σ'.strike ks) = Classical.choose (key _ h2) := dif_pos h2
  have e2 : μ σ1 = Classical.choose (key σ1 h1) := dif_pos h1
  rw [e1, e2]
  refine Nat.lt_of_le_of_lt (Nat.le_of_not_lt fun hlt => hc2.2 m hlt hI) hm
theorem w_loopS {P : Program} {G : World → Prop} {Q : Exit → S → Prop} (ks : List Nat) (hks : ∀ k ∈ ks, ownKey k) {a : IC} {σ : S} (I : Nat → S → Prop) (n : Nat) (h0 : I n (σ.strike ks)) (hr : ∀ n σ1 (K : S → Prop), (∀ σ' m, m < n → I m (σ'.strike ks) → K σ') → I n σ1 → wpI P G a (thenQ K Q) σ1) : wpI P G (.loop a) Q σ :=
  w_loopSN ks hks I n h0 fun n σ1 h1 => hr n σ1 _ (fun _ m hm hI => ⟨m, hm, hI⟩) h1
def AccN (k : Nat) (ty : TypeId) (size : Nat) (es : List (List C)) (a : A) (U : List (Nat × Tok)) : Prop :=
  (es = [] ∧ a = .nil ∧ U = []) ∨ (a = .own k es ∧ U = [(k, ⟨ty, size, es.length⟩)])
theorem AccN.nil {k size : Nat} {ty : TypeId} : AccN k ty size [] .nil [] := .inl ⟨rfl, rfl, rfl⟩
theorem AccN.own {k size : Nat} {ty : TypeId} {es : List (List C)} {n : Nat} (h : n = es.length) : AccN k ty size es (.own k es) [(k, ⟨ty, size, n⟩)] := .inr ⟨rfl, by rw [h]⟩
theorem AccN.args {k size : Nat} {ty : TypeId} {es : List (List C)} {t : A} {U : List (Nat × Tok)} (h : AccN k ty size es t U) : (X.one t).close = some (.one (.sl es [])) := by
  rcases h with ⟨rfl, rfl, rfl⟩ | ⟨rfl, rfl⟩ <;> rfl
theorem AccN.strike {k size : Nat} {ty : TypeId} {es : List (List C)} {t : A} {U : List (Nat × Tok)} (h : AccN k ty size es t U) {l : Nat} (hl : l ≠ k) : A.strike [l] t = t := by
  rcases h with ⟨rfl, rfl, rfl⟩ | ⟨rfl, rfl⟩
  · rfl
  · simp [Ne.symm hl]
theorem AccN.strikeU {k size : Nat} {ty : TypeId} {es : List (List C)} {t : A} {U : List (Nat × Tok)} (h : AccN k ty size es t U) {l : Nat} (hl : l ≠ k) : strikeU [l] U = U := by
  rcases h with ⟨rfl, rfl, rfl⟩ | ⟨rfl, rfl⟩
  · rfl
  · simp [Ne.symm hl]
end
end Go.Fx

namespace Go.Proofs.YtiomojlcnemnhaaGreatDoor
open Go.Fx Go.RowKit Go.Ped
variable {G : World → Prop}
def mpRow (t : Tm) : List A := .c (cS (bs t.v)) :: t.x.row.map A.c
abbrev zRow : List A := [.c (cI .i8 0), .c (cI .i64 0), .c (cS (bs []))]
theorem strikeL_mpRow (l : List Nat) (t : Tm) : strikeL l (mpRow t) = mpRow t := by simp [mpRow, Val.row]
theorem strikeL_mpRow' (l : List Nat) : strikeL l ∘ mpRow = mpRow := funext fun t => strikeL_mpRow l t
theorem keyEq_mpRow (v : Name) (t : Tm) : keyEq (.string (bs v)) (mpRow t) = (t.v == v) := by
  simp [keyEq, mpRow]
theorem mapFind_binds (v : Name) (out : List Tm) : (out.map mpRow).find? (keyEq (.string (bs v))) = (out.find? (·.v == v)).map mpRow := by
  rw [List.find?_map]
  congr 1
  congr 1
  funext t
  exact keyEq_mpRow v t
theorem mapGet_binds (v : Name) (out : List Tm) : mapGet (out.map mpRow) (.string (bs v)) zRow = ((bindOf out v).getD zeroV).row.map A.c := by
  unfold mapGet bindOf
  rw [mapFind_binds]
  cases out.find? (·.v == v) <;> simp [mpRow, zeroV, Val.row]
theorem mapAny_binds (v : Name) (out : List Tm) : (out.map mpRow).any (keyEq (.string (bs v))) = (bindOf out v).isSome := by
  unfold bindOf
  rw [Option.isSome_map, List.any_map, ← List.isSome_find?]
  have : (keyEq (.string (bs v)) ∘ mpRow) = fun t : Tm => t.v == v := funext fun t => keyEq_mpRow v t
  rw [this]
theorem mapPut_binds (v : Name) (x : Val) (out : List Tm) (h : bindOf out v = none) : mapPut (out.map mpRow) (.string (bs v)) (x.row.map A.c) = (out ++ [(⟨v, x⟩ : Tm)]).map mpRow := by
  unfold mapPut
  rw [mapAny_binds, h]
  simp [mpRow]
abbrev O21 (p : Name) (ts : List Tm) (vs : List Val) (sp sq : List (List C)) (out : List Tm) : List (Nat × Box) := (32, ⟨0, 4, out.map mpRow, some (.string, false)⟩) :: O36 p ts vs sp sq
abbrev k21 (p : Name) (ts : List Tm) (vs : List Val) (sp sq : List (List C)) : T → T → T → T → T → T → T → T → T → T → T → T → T → T → List (Nat × Box) → List (Nat × Fx.Tok) → S := fun t31 t36 t37 t8 t9 t10 t59 t67 t12 t11 t80 t82 t7 t4 O U => ks21 (.k true (.x (.agg [.c (cS (bs p)), .c (.sl (ts.map Tm.row) sp)]))) (.k true (.x (.agg [.c (cS (bs p)), .c (.sl (vs.map Val.row) sq)]))) (.k true (.x (.one (.ref 2 0 0)))) (.k true (.x (.one (.ref 3 0 0))))
    t31 t36 (tI .i64 vs.length) t37 (.k true (.x (.one (.c (.sl (vs.map Val.row) sq))))) t8 t9 t10 t59 t67 (.k true (.x (.one (.mapr 32)))) t12 t11 t80 t82 t7 t4 (tB false) O U F0
set_option maxHeartbeats 1000000 in
theorem m21_loop (p : Name) (ts : List Tm) (vs : List Val) (sp sq : List (List C)) (hlen : ts.length = vs.length) (h24 : ts.length ≤ 24)
    (t31 t37 t8 t9 t10 t59 t67 t12 t11 t80 t82 : T) (Q : Exit → S → Prop)
    (hfail : goMatch Val.ok [] ts vs = none → ∀ t31 t36 t37 t8 t9 t10 t59 t67 t12 t11 t80 t82 t7 O U, Q .ret (k21 p ts vs sp sq t31 t36 t37 t8 t9 t10 t59 t67 t12 t11 t80 t82 t7 (.k true (.x (.one .nil))) O U))
    (hok : ∀ out, goMatch Val.ok [] ts vs = some out → ∀ t31 t36 t37 t8 t9 t10 t59 t67 t12 t11 t80 t82 a O U, AccN 93 210 4 (out.map Tm.row) a U → Q (.exit 0) (k21 p ts vs sp sq t31 t36 t37 t8 t9 t10 t59 t67 t12 t11 t80 t82 (.k true (.x (.one a))) (.k true (.x (.one .nil))) O U)) :
    wpI Tryz.prog G (.loop ic21l0) Q (k21 p ts vs sp sq t31 (tI .i64 0) t37 t8 t9 t10 t59 t67 t12 t11 t80 t82 (.k true (.x (.one .nil))) (.k true (.x (.one .nil))) (O21 p ts vs sp sq []) []) := by
  refine w_loopS [9, 10, 11, 92] (by simp [ownKey]) (fun n σ => ∃ (i : Nat) (out : List Tm) (t31 t37 t8 t9 t10 t59 t67 t12 t11 t80 t82 : T) (a : A) (U : List (Nat × Fx.Tok)), i + n = vs.length ∧ goMatch Val.ok [] ts vs = goMatch Val.ok out (ts.drop i) (vs.drop i) ∧ out.length ≤ i ∧ AccN 93 210 4 (out.map Tm.row) a U ∧ σ = k21 p ts vs sp sq t31 (tI .i64 i) t37 t8 t9 t10 t59 t67 t12 t11 t80 t82 (.k true (.x (.one a))) (.k true (.x (.one .nil))) (O21 p ts vs sp sq out) U)
    vs.length ⟨0, [], _, _, _, _, _, _, _, _, _, _, _, _, _, by simp, by simp, by simp, .nil, by simp; rfl⟩ ?_
  rintro n σ1 K hK ⟨i, out, t31, t37, t8, t9, t10, t59, t67, t12, t11, t80, t82, a, U, hi, hd, hol, hacc, rfl⟩
  have hs9 : A.strike [9] a = a := hacc.strike (by decide)
  have hs10 : A.strike [10] a = a := hacc.strike (by decide)
  have hs11 : A.strike [11] a = a := hacc.strike (by decide)
  have hu9 : strikeU [9] U = U := hacc.strikeU (by decide)
  have hu10 : strikeU [10] U = U := hacc.strikeU (by decide)
  have hu11 : strikeU [11] U = U := hacc.strikeU (by decide)
  obtain hlt | hge := Nat.lt_or_ge i vs.length
  · have hltT : i < ts.length := by omega
    obtain ⟨_, hc, hdr⟩ := at_list hlt
    obtain ⟨_, rfl⟩ := List.getElem?_eq_some_iff.1 hc
    obtain ⟨_, hc, hdr'⟩ := at_list hltT
    obtain ⟨_, rfl⟩ := List.getElem?_eq_some_iff.1 hc
    rw [hdr, hdr'] at hd
    simp only [goMatch] at hd
    have hsA : A.strike [9, 10, 11, 92] a = a := by
      rcases hacc with ⟨_, rfl, rfl⟩ | ⟨rfl, rfl⟩
      · rfl
      · simp
    have huA : strikeU [9, 10, 11, 92] U = U := by
      rcases hacc with ⟨_, rfl, rfl⟩ | ⟨rfl, rfl⟩
      · rfl
      · simp
    have hI : ∀ (out' : List Tm) (σ' : S), goMatch Val.ok [] ts vs = goMatch Val.ok out' (ts.drop (i + 1)) (vs.drop (i + 1)) → out'.length ≤ i + 1 → (∃ t31 t37 t8 t9 t10 t59 t67 t12 t11 t80 t82 a U, AccN 93 210 4 (out'.map Tm.row) a U ∧ σ'.strike [9, 10, 11, 92] = k21 p ts vs sp sq t31 (tI .i64 (i + 1)) t37 t8 t9 t10 t59 t67 t12 t11 t80 t82 (.k true (.x (.one a))) (.k true (.x (.one .nil))) (O21 p ts vs sp sq out') U) → K σ' :=
      fun out' σ' h1 h2 ⟨t31, t37, t8, t9, t10, t59, t67, t12, t11, t80, t82, a, U, h3, h4⟩ => hK σ' (n - 1) (by omega) ⟨i + 1, out', t31, t37, t8, t9, t10, t59, t67, t12, t11, t80, t82, a, U, by omega, h1, h2, h3, h4⟩
    clear hK
    generalize hvv : vs[i] = w at *
    generalize htt : ts[i] = t at *
    obtain ⟨wk, wn, ws⟩ := w
    obtain ⟨tv, tx⟩ := t
    have hg := mapGet_binds tv out
    have hany := mapAny_binds tv out
    have hput := mapPut_binds tv ⟨wk, wn, ws⟩ out
    simp [ic21l0, hlt, hltT, htt, hvv, Tm.row, Val.row, hs9, hs10, hu9, hu10, strikeL_mpRow']
    refine r_call 204 true _ _ (m92 wk wn ws) rfl rfl rfl rfl ?_
    simp
    refine ⟨fun h => ?_, fun h => ⟨fun h0 => ⟨fun h1 => ?_, fun h1 => ?_⟩, fun h0 => ?_⟩⟩
    · exact hfail (by rw [hd]; simp [Val.ok, h]) _ _ _ _ _ _ _ _ _ _ _ _ _ _ _
    · refine hfail ?_ _ _ _ _ _ _ _ _ _ _ _ _ _ _ _
      have e : (tx != (⟨wk, wn, ws⟩ : Val)) = true := by obtain ⟨a, b, c⟩ := tx; simp at h1 ⊢; grind
      rw [hd, e]; simp [h0]
    · intro h2 h3
      obtain ⟨xk, xn, xs⟩ := tx
      simp at h1 h2 h3
      subst h0 h1 h2 h3
      simp [wrap_next hlt (by omega)]
      refine hI out _ ?_ (by omega) ⟨_, _, _, _, _, _, _, _, _, _, _, _, _, hacc, by simp [hsA, huA, strikeL_mpRow']; rfl⟩
      rw [hd]; simp [Ped.isVar, Val.ok, h]
    · simp [h0, wrap_next hlt (by omega)]
      refine ⟨fun h1 => ?_, fun h1 => ?_⟩
      · subst h1
        refine hI out _ ?_ (by omega) ⟨_, _, _, _, _, _, _, _, _, _, _, _, _, hacc, by simp [hsA, huA, strikeL_mpRow']; rfl⟩
        rw [hd]; simp [Ped.isVar, us, Val.ok, h]
      have hiv : Ped.isVar tv = true := by simp [Ped.isVar, us, h0, h1]
      cases hb : bindOf out tv with
      | some o =>
        obtain ⟨ok, on, os⟩ := o
        rw [hb] at hg hany
        have hex : ∃ x ∈ out, x.v = tv := by
          unfold bindOf at hb
          obtain ⟨x, hx, _⟩ := Option.map_eq_some_iff.1 hb
          exact ⟨x, List.mem_of_find?_eq_some hx, by simpa using List.find?_some hx⟩
        simp [strikeL_mpRow', strikeL_mpRow, keyEq_mpRow, hg, Val.row, zeroV]
        refine ⟨fun x hx e => ⟨fun h2 => hfail ?_ _ _ _ _ _ _ _ _ _ _ _ _ _ _ _, fun e1 e2 e3 => ?_⟩, ?_⟩
        · have e' : ((⟨ok, on, os⟩ : Val) != ⟨wk, wn, ws⟩) = true := by simp; grind
          rw [hd]; simp [h0, hiv, Val.ok, h, hb, e']
        · subst e1 e2 e3
          refine ⟨fun hn => absurd e (hn x hx), fun y hy ey => hI out _ ?_ (by omega) ⟨_, _, _, _, _, _, _, _, _, _, _, _, _, hacc, by simp [hsA, huA, hs11, hu11, strikeL_mpRow']; rfl⟩⟩
          rw [hd]; simp [hiv, Val.ok, h, hb, h0]
        · exact fun hn => absurd hex.choose_spec.2 (hn _ hex.choose_spec.1)
      | none =>
        rw [hb] at hg hany
        have hno : ∀ x ∈ out, ¬ x.v = tv := fun x hx e => (bindOf_none.1 hb) (e ▸ List.mem_map_of_mem hx)
        simp [strikeL_mpRow', strikeL_mpRow, keyEq_mpRow, hg, Val.row, zeroV]
        refine ⟨fun x hx e => absurd e (hno x hx), fun _ => ⟨fun _ => ?_, fun x hx e => absurd e (hno x hx)⟩⟩
        have hput' := hput hb
        simp only [Val.row, List.map_cons, List.map_nil] at hput'
        rcases hacc with ⟨ho, rfl, rfl⟩ | ⟨rfl, rfl⟩
        · obtain rfl : out = [] := by simpa using ho
          refine k_row rfl rfl (by simp) (by simp) ?_
          refine k_app0 (by simp) rfl rfl (by simp) (by simp) (by simp [maxLen]) (by simp [maxBytes]) ?_
          simp [wrap_next hlt (by omega)]
          exact hI [⟨tv, ⟨wk, wn, ws⟩⟩] _ (by rw [hd]; simp [hiv, Val.ok, h, hb, h0]) (by simp) ⟨_, _, _, _, _, _, _, _, _, _, _, _, _, .own rfl, by simp; rfl⟩
        · refine k_row rfl rfl (by simp) (by simp) ?_
          refine k_app (k := 93) (es := out.map Tm.row) (q := ⟨210, 4, out.length⟩) (by simp) rfl rfl (by simp) (by simp) rfl rfl (by simp) (by simp [maxLen]; omega) (by simp [maxBytes]; omega) trivial ?_
          simp [wrap_next hlt (by omega)]
          have hacc' : AccN 93 210 4 ((out ++ [(⟨tv, ⟨wk, wn, ws⟩⟩ : Tm)]).map Tm.row) (.own 93 (out.map Tm.row ++ [Tm.row ⟨tv, ⟨wk, wn, ws⟩⟩])) [(93, ⟨210, 4, out.length + 1⟩)] := by rw [List.map_append]; exact .own (by simp)
          exact hI (out ++ [⟨tv, ⟨wk, wn, ws⟩⟩]) _ (by rw [hd]; simp [hiv, Val.ok, h, hb, h0]) (by simp; omega) ⟨_, _, _, _, _, _, _, _, _, _, _, _, _, hacc', by rw [show (O21 p ts vs sp sq (out ++ [(⟨tv, ⟨wk, wn, ws⟩⟩ : Tm)])) = (32, ⟨0, 4, out.map mpRow ++ [mpRow ⟨tv, ⟨wk, wn, ws⟩⟩], some (.string, false)⟩) :: O36 p ts vs sp sq by simp [O21]]; simp [hput', strikeL_mpRow', strikeL_mpRow]; rfl⟩
  · rw [List.drop_eq_nil_of_le hge, List.drop_eq_nil_of_le (by omega)] at hd
    simp [ic21l0, Nat.not_lt.mpr hge]
    exact hok out (by rw [hd]; rfl) _ _ _ _ _ _ _ _ _ _ _ _ _ _ _ hacc
theorem m21 (p q : Name) (ts : List Tm) (vs : List Val) (sp sq : List (List C)) (hl : ts.length ≤ maxLen) :
    Meets Tryz.prog G 138 [.agg [cS (bs p), .sl (ts.map Tm.row) sp], .agg [cS (bs q), .sl (vs.map Val.row) sq]] (matchR (matchOf p ts q vs)) := by
  refine meets Tryz.func138 ie21 ig21 (Nat.le_of_ble_eq_true rfl) ?_
  simp [ic21, ir21]
  refine r_call 121 true _ _ (m44 p ts sp hl) rfl rfl rfl rfl ?_
  simp
  refine ⟨fun h => by simp [matchOf, matchR, h], fun h1 => ⟨fun h => by simp [matchOf, matchR, h], fun h2 => ⟨fun h => ?_, fun h3 => ?_⟩⟩⟩
  · have : (ts.length == vs.length) = false := by simp; omega
    simp [matchOf, matchR, this]
  subst h2
  have h24 : ts.length ≤ 24 := by simp [atomOk] at h1; omega
  have hlen : ts.length = vs.length := by omega
  have hmo : matchOf p ts p vs = goMatch Val.ok [] ts vs := by simp [matchOf, h1, hlen]
  rw [hmo]
  refine m21_loop p ts vs sp sq hlen h24 _ _ _ _ _ _ _ _ _ _ _ _ (fun h _ _ _ _ _ _ _ _ _ _ _ _ _ _ _ => ?_) (fun out h _ _ _ _ _ _ _ _ _ _ _ _ _ _ _ hacc => ?_)
  · simp [matchR, h]
  · simp [matchR, h, -X.close, hacc.args, X.close_c]
end Go.Proofs.YtiomojlcnemnhaaGreatDoor

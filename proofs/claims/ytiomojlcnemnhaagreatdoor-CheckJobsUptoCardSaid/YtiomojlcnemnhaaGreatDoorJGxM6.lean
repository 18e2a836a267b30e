import Derived.Test.YtiomojlcnemnhaaGreatDoorJGxM3
import Derived.Test.YtiomojlcnemnhaaGreatDoorJGxItoa
import Derived.Test.YtiomojlcnemnhaaGreatDoorJFxSb
/- Contracts, on: the marks. -/
namespace Go.Proofs.YtiomojlcnemnhaaGreatDoor
open Go.Fx Go.RowKit
variable {G : World → Prop}
abbrev GT : World → Prop := tab10 Tryz.prog

/-- The mark's word: # and the number. -/
def markW (n : Int) : List UInt8 := 35 :: Lib.itoa n

theorem m172 (n : Int) (h0 : -9223372036854775808 ≤ n) (h1 : n ≤ 9223372036854775807) (hl : (Lib.itoa n).length ≤ 100) : Meets Tryz.prog GT 171 [.one (cI .i64 n)] (.x (.one (cS (bs (markW n))))) := by
  refine meets Tryz.func171 ie172 ig172 (Nat.le_of_ble_eq_true rfl) ?_
  simp [ic172, ir172]
  refine r_call 99 true _ _ (m207 n h0 h1) rfl rfl rfl rfl ?_
  simp [markW]
  omega
theorem m164 (n : Int) : Meets Tryz.prog G 269 [.one (cI .i64 n)] (.x (.agg [cI .i8 99, cI .i64 n, cS (bs [])])) := by
  refine meets Tryz.func269 ie164 ig164 (Nat.le_of_ble_eq_true rfl) ?_
  simp [ic164, ir164]
theorem m167 (k m : Int) (s : List UInt8) (n : Int) : Meets Tryz.prog G 274 [.agg [cI .i8 k, cI .i64 m, cS (bs s)], .one (cI .i64 n)] (.x (.one (cB (k == 99 && m == n && s == [])))) := by
  refine meets Tryz.func274 ie167 ig167 (Nat.le_of_ble_eq_true rfl) ?_
  simp [ic167, ir167]
  grind
end Go.Proofs.YtiomojlcnemnhaaGreatDoor

/- Contracts, on: copies of lists of terms, values, binds, and looking at them again. -/
namespace Go.Proofs.YtiomojlcnemnhaaGreatDoor
open Go.Fx Go.RowKit Go.Ped
variable {G : World → Prop}

theorem itoa777 : (Lib.itoa 777777).length ≤ 100 := by decide +kernel
def markT : Tm := ⟨markW 777777, zeroV⟩
def markV : Val := ⟨99, 777777, []⟩

def encT : Enc Tm 4 [.s, .i .i8, .i .i64, .s] where
  row := Tm.row
  len := fun _ => rfl
  eq := fun x y _ => by
    obtain ⟨a, k, n, s⟩ := x
    obtain ⟨b, l, m, t⟩ := y
    simp [Tm.row]
    rw [Bool.eq_iff_iff]
    simp
def encV : Enc Val 3 [.i .i8, .i .i64, .s] where
  row := Val.row
  len := fun _ => rfl
  eq := fun x y _ => by
    obtain ⟨k, n, s⟩ := x
    obtain ⟨l, m, t⟩ := y
    simp [Val.row]
    rw [Bool.eq_iff_iff]
    simp

theorem m129 (l m : List Tm) (sp sq : List (List C)) (hl : l.length ≤ maxLen) : Meets Tryz.prog G 84 [.one (.sl (l.map Tm.row) sp), .one (.sl (m.map Tm.row) sq)] (.x (.one (cB (decide (l = m))))) :=
  same_gen encT Tryz.func84 ie129 ig129 (Nat.le_of_ble_eq_true rfl) l m sp sq hl
theorem m166 (l m : List Val) (sp sq : List (List C)) (hl : l.length ≤ maxLen) : Meets Tryz.prog G 273 [.one (.sl (l.map Val.row) sp), .one (.sl (m.map Val.row) sq)] (.x (.one (cB (decide (l = m))))) :=
  same_gen encV Tryz.func273 ie166 ig166 (Nat.le_of_ble_eq_true rfl) l m sp sq hl
theorem m129' (l : List Tm) (sp sq : List (List C)) (hl : l.length ≤ maxLen) : Meets Tryz.prog G 84 [.one (.sl (l.map Tm.row) sp), .one (.sl (l.map Tm.row) sq)] (.x (.one (cB true))) := by
  have := m129 (G := G) l l sp sq hl
  simpa using this
theorem m166' (l : List Val) (sp sq : List (List C)) (hl : l.length ≤ maxLen) : Meets Tryz.prog G 273 [.one (.sl (l.map Val.row) sp), .one (.sl (l.map Val.row) sq)] (.x (.one (cB true))) := by
  have := m166 (G := G) l l sp sq hl
  simpa using this
theorem m163 : Meets Tryz.prog GT 172 [.one (cI .i64 777777)] (.x (.agg markT.row)) := by
  refine meets Tryz.func172 ie163 ig163 (Nat.le_of_ble_eq_true rfl) ?_
  simp [ic163, ir163]
  refine r_call 171 true _ _ (m172 777777 (by omega) (by omega) itoa777) rfl rfl rfl rfl ?_
  simp [markT, Tm.row, zeroV]
theorem m165 : Meets Tryz.prog GT 180 [.agg markT.row, .one (cI .i64 777777)] (.x (.one (cB true))) := by
  refine meets Tryz.func180 ie165 ig165 (Nat.le_of_ble_eq_true rfl) ?_
  simp [ic165, ir165, markT, Tm.row, zeroV]
  refine r_call 171 true _ _ (m172 777777 (by omega) (by omega) itoa777) rfl rfl rfl rfl ?_
  simp
theorem m108 (l : List Tm) (sp : List (List C)) (hl : l.length ≤ 1048576) : Meets Tryz.prog GT 75 [.one (.sl (l.map Tm.row) sp)] (.x (.one (.sl (l.map Tm.row) [markT.row]))) :=
  twin_gen (x := markT) encT Tryz.func75 ie108 ig108 (Nat.le_of_ble_eq_true rfl) rfl (by omega) m163 l sp hl
theorem m109 (l : List Val) (sp : List (List C)) (hl : l.length ≤ 1048576) : Meets Tryz.prog G 203 [.one (.sl (l.map Val.row) sp)] (.x (.one (.sl (l.map Val.row) [markV.row]))) :=
  twin_gen (x := markV) encV Tryz.func203 ie109 ig109 (Nat.le_of_ble_eq_true rfl) rfl (by omega) (m164 777777) l sp hl
theorem m110 (l : List Tm) (sp : List (List C)) (hl : l.length ≤ 1048576) : Meets Tryz.prog GT 90 [.one (.sl (l.map Tm.row) [markT.row]), .one (.sl (l.map Tm.row) sp)] (.x (.one (cB true))) :=
  left_gen (x := markT) encT Tryz.func90 ie110 ig110 (Nat.le_of_ble_eq_true rfl) l sp hl (m129' l [markT.row] sp (by unfold maxLen; omega)) m165
theorem m111 (l : List Val) (sp : List (List C)) (hl : l.length ≤ 1048576) : Meets Tryz.prog G 216 [.one (.sl (l.map Val.row) [markV.row]), .one (.sl (l.map Val.row) sp)] (.x (.one (cB true))) :=
  left_gen (x := markV) encV Tryz.func216 ie111 ig111 (Nat.le_of_ble_eq_true rfl) l sp hl (m166' l [markV.row] sp (by unfold maxLen; omega)) (m167 99 777777 [] 777777)
theorem m37 (p : Name) (l : List Tm) (sp : List (List C)) (hl : l.length ≤ 1048576) : Meets Tryz.prog GT 15 [.agg [cS (bs p), .sl (l.map Tm.row) sp]] (.x (.agg [cS (bs p), .sl (l.map Tm.row) [markT.row]])) := by
  refine meets Tryz.func15 ie37 ig37 (Nat.le_of_ble_eq_true rfl) ?_
  simp [ic37, ir37]
  refine r_call 75 true _ _ (m108 l sp hl) rfl rfl rfl rfl ?_
  simp
theorem m38 (p : Name) (l : List Val) (sp : List (List C)) (hl : l.length ≤ 1048576) : Meets Tryz.prog G 107 [.agg [cS (bs p), .sl (l.map Val.row) sp]] (.x (.agg [cS (bs p), .sl (l.map Val.row) [markV.row]])) := by
  refine meets Tryz.func107 ie38 ig38 (Nat.le_of_ble_eq_true rfl) ?_
  simp [ic38, ir38]
  refine r_call 203 true _ _ (m109 l sp hl) rfl rfl rfl rfl ?_
  simp
theorem m40 (p : Name) (l : List Tm) (sp : List (List C)) (hl : l.length ≤ 1048576) : Meets Tryz.prog GT 24 [.agg [cS (bs p), .sl (l.map Tm.row) [markT.row]], .agg [cS (bs p), .sl (l.map Tm.row) sp]] (.x (.one (cB true))) := by
  refine meets Tryz.func24 ie40 ig40 (Nat.le_of_ble_eq_true rfl) ?_
  simp [ic40, ir40]
  refine r_call 90 true _ _ (m110 l sp hl) rfl rfl rfl rfl ?_
  simp
theorem m41 (p : Name) (l : List Val) (sp : List (List C)) (hl : l.length ≤ 1048576) : Meets Tryz.prog G 129 [.agg [cS (bs p), .sl (l.map Val.row) [markV.row]], .agg [cS (bs p), .sl (l.map Val.row) sp]] (.x (.one (cB true))) := by
  refine meets Tryz.func129 ie41 ig41 (Nat.le_of_ble_eq_true rfl) ?_
  simp [ic41, ir41]
  refine r_call 216 true _ _ (m111 l sp hl) rfl rfl rfl rfl ?_
  simp

theorem m30 (x : Name) (l : List Name) (sp : List (List C)) (hl : l.length ≤ maxLen) : Meets Tryz.prog G 67 [.one (cS (bs x)), .one (.sl (l.map fun v => [cS (bs v)]) sp)] (.x (.one (cB (l.contains x)))) := by
  refine meets Tryz.func67 ie30 ig30 (Nat.le_of_ble_eq_true rfl) ?_
  simp [ic30, ir30]
  refine w_loopK (fun n σ => ∃ (i : Nat) (t9 t17 : T), i + n = l.length ∧ (x ∈ l ↔ x ∈ l.drop i) ∧ σ = ks30 (tI .i64 i) (.k true (.x (.one (.c (.sl (l.map fun v => [cS (bs v)]) sp))))) t9 (tS x) t17 (tB false) [] [] F0)
    l.length ⟨0, _, _, by simp, by simp, rfl⟩ ?_
  rintro n σ1 K hK ⟨i, t9, t17, hi, hd, rfl⟩
  obtain hlt | hge := Nat.lt_or_ge i l.length
  · obtain ⟨c, hc, hdr⟩ := at_list hlt
    obtain ⟨_, rfl⟩ := List.getElem?_eq_some_iff.1 hc
    rw [hdr] at hd
    have hI : ∀ t9 t17, (x ∈ l ↔ x ∈ l.drop (i + 1)) → K (ks30 (tI .i64 (i + 1)) (.k true (.x (.one (.c (.sl (l.map fun v => [cS (bs v)]) sp))))) t9 (tS x) t17 (tB false) [] [] F0) :=
      fun t9 t17 h => hK _ (n - 1) (by omega) ⟨i + 1, t9, t17, by omega, h, rfl⟩
    clear hK
    simp [ic30l0, hlt, wrap_next hlt (by unfold maxLen at hl; omega)]
    constructor
    · intro h
      exact h ▸ List.getElem_mem _
    · intro h
      refine hI _ _ ?_
      rw [hd, List.mem_cons]
      simp [Ne.symm h]
  · simp [ic30l0, Nat.not_lt.mpr hge, hd, List.drop_eq_nil_of_le hge]
end Go.Proofs.YtiomojlcnemnhaaGreatDoor

/- Fx, part Sc: a list under appends, first nil. -/
namespace Go.Fx
open Go.RowKit
section
variable {P : Program} {G : World → Prop} {L : List (Nat × T)} {O : List (Nat × Box)} {U : List (Nat × Tok)} {H : FHp} {l : List IOper} {K : S → Prop} {d : Nat}

/-- A list that appends of rows at one place have made: nil, or its own. The row of the last append may be told yet. -/
def AccS (k j : Nat) (ty : TypeId) (size : Nat) (es : List (List C)) (a : A) (U : List (Nat × Tok)) : Prop :=
  (es = [] ∧ a = .nil ∧ U = []) ∨ (a = .own k es ∧ U = [(k, ⟨ty, size, es.length⟩), (j, ⟨ty, size, 1⟩)]) ∨ (a = .own k es ∧ U = [(j, ⟨ty, size, 1⟩), (k, ⟨ty, size, es.length⟩)])

theorem AccS.nil {k j size : Nat} {ty : TypeId} : AccS k j ty size [] .nil [] := .inl ⟨rfl, rfl, rfl⟩
theorem AccS.own {k j size : Nat} {ty : TypeId} {es : List (List C)} {n : Nat} (h : n = es.length) : AccS k j ty size es (.own k es) [(k, ⟨ty, size, n⟩), (j, ⟨ty, size, 1⟩)] := .inr (.inl ⟨rfl, by rw [h]⟩)
theorem AccS.own' {k j size : Nat} {ty : TypeId} {es : List (List C)} {n : Nat} (h : n = es.length) : AccS k j ty size es (.own k es) [(j, ⟨ty, size, 1⟩), (k, ⟨ty, size, n⟩)] := .inr (.inr ⟨rfl, by rw [h]⟩)
theorem AccS.close {k j size : Nat} {ty : TypeId} {es : List (List C)} {t : A} {U : List (Nat × Tok)} (h : AccS k j ty size es t U) : t.close = some (.sl es []) := by
  rcases h with ⟨rfl, rfl, rfl⟩ | ⟨rfl, rfl⟩ | ⟨rfl, rfl⟩ <;> rfl
theorem AccS.args {k j size : Nat} {ty : TypeId} {es : List (List C)} {t : A} {U : List (Nat × Tok)} (h : AccS k j ty size es t U) : (X.one t).close = some (.one (.sl es [])) := by
  simp only [X.close, h.close, Option.map_some]
theorem AccS.strike {k j size : Nat} {ty : TypeId} {es : List (List C)} {t : A} {U : List (Nat × Tok)} (h : AccS k j ty size es t U) {l : Nat} (hl : l ≠ k) : A.strike [l] t = t := by
  rcases h with ⟨rfl, rfl, rfl⟩ | ⟨rfl, rfl⟩ | ⟨rfl, rfl⟩
  · rfl
  all_goals simp [Ne.symm hl]
theorem AccS.strikeU {k j size : Nat} {ty : TypeId} {es : List (List C)} {t : A} {U : List (Nat × Tok)} (h : AccS k j ty size es t U) {l : Nat} (hl : l ≠ k) (hj : l ≠ j) : strikeU [l] U = U := by
  rcases h with ⟨rfl, rfl, rfl⟩ | ⟨rfl, rfl⟩ | ⟨rfl, rfl⟩
  · rfl
  all_goals simp [Ne.symm hl, Ne.symm hj]
theorem X.close_c (c : C) : (X.one (.c c)).close = some (.one c) := rfl
end
end Go.Fx

/- Contracts, on: the document's atoms, variables, and what is bound. -/
namespace Go.Proofs.YtiomojlcnemnhaaGreatDoor
open Go.Fx Go.RowKit Go.Ped
variable {G : World → Prop}

theorem m91 (p : Name) (l : List Tm) (sp : List (List C)) :
    Meets Tryz.prog G 251 [.agg [cS (bs p), .sl (l.map Tm.row) sp]] (.x (.one (cB (atomOk p l)))) := by
  refine meets Tryz.func251 ie91 ig91 (Nat.le_of_ble_eq_true rfl) ?_
  simp [ic91, ir91]
  refine r_call 174 true _ _ (m156 _) rfl rfl rfl rfl ?_
  simp
  refine ⟨fun h => by simp [atomOk, h], fun h1 => ⟨fun h => ?_, fun h2 => ?_⟩⟩
  · have : ¬ l.length ≤ 24 := by omega
    simp [atomOk, this]
  refine w_loopK (fun n σ => ∃ (i : Nat) (t13 t18 t27 : T), i + n = l.length ∧ (l.all Tm.ok = (l.drop i).all Tm.ok) ∧ σ = ks91 (.k true (.x (.agg [.c (cS (bs p)), .c (.sl (l.map Tm.row) sp)]))) (.k true (.x (.one (.ref 1 0 0)))) t13 (tI .i64 i) t18 t27 (tB false) [(1, ⟨25, 2, [[.c (cS (bs p)), .c (.sl (l.map Tm.row) sp)]], none⟩)] [] F0)
    l.length ⟨0, _, _, _, by simp, by simp, rfl⟩ ?_
  rintro n σ1 K hK ⟨i, t13, t18, t27, hi, hd, rfl⟩
  have hat : atomOk p l = l.all Tm.ok := by simp only [atomOk, h1, Bool.true_and, decide_eq_true (show l.length ≤ 24 by omega)]
  obtain hlt | hge := Nat.lt_or_ge i l.length
  · obtain ⟨c, hc, hdr⟩ := at_list hlt
    obtain ⟨_, rfl⟩ := List.getElem?_eq_some_iff.1 hc
    rw [hdr] at hd
    have hI : ∀ t13 t18 t27, l.all Tm.ok = (l.drop (i + 1)).all Tm.ok → K (ks91 (.k true (.x (.agg [.c (cS (bs p)), .c (.sl (l.map Tm.row) sp)]))) (.k true (.x (.one (.ref 1 0 0)))) t13 (tI .i64 (i + 1)) t18 t27 (tB false) [(1, ⟨25, 2, [[.c (cS (bs p)), .c (.sl (l.map Tm.row) sp)]], none⟩)] [] F0) :=
      fun t13 t18 t27 h => hK _ (n - 1) (by omega) ⟨i + 1, t13, t18, t27, by omega, h, rfl⟩
    clear hK
    simp only [List.all_cons] at hd
    simp [ic91l0, hlt, Tm.row_length]
    refine r_call 250 true _ _ (m157 l[i].v l[i].x.k l[i].x.n l[i].x.s) rfl rfl rfl rfl ?_
    simp [wrap_next hlt (by omega)]
    have hok : termOk l[i].v l[i].x.k l[i].x.n l[i].x.s = l[i].ok := rfl
    rw [hok, hat]
    refine ⟨fun h => ?_, fun h => ?_⟩
    · rw [hd, h]; rfl
    · rw [h, Bool.true_and] at hd
      exact hI _ _ _ hd
  · simp [ic91l0, Nat.not_lt.mpr hge]
    rw [hat, hd, List.drop_eq_nil_of_le hge]; rfl

/-- The variables of a list, each once. -/
abbrev tmVars (l : List Tm) : List Name := varsOn [] (l.map Tm.v)
abbrev nmRow (v : Name) : List C := [cS (bs v)]

theorem varsOn_length : ∀ (l acc : List Name), (varsOn acc l).length ≤ acc.length + l.length
  | [], acc => by simp [varsOn]
  | v :: l, acc => by
    simp only [varsOn]
    split
    · have := varsOn_length l (acc ++ [v]); simp at this ⊢; omega
    · have := varsOn_length l acc; simp; omega

theorem m98 (l : List Tm) (sp : List (List C)) (hl : l.length ≤ 1048576) :
    Meets Tryz.prog G 141 [.one (.sl (l.map Tm.row) sp)] (.x (.one (.sl ((tmVars l).map nmRow) []))) := by
  refine meets Tryz.func141 ie98 ig98 (Nat.le_of_ble_eq_true rfl) ?_
  simp [ic98, ir98]
  refine w_loopK (fun n σ => ∃ (i : Nat) (acc : List Name) (t9 t5 t28 : T) (a : A) (U : List (Nat × Tok)), i + n = l.length ∧ tmVars l = varsOn acc ((l.drop i).map Tm.v) ∧ acc.length ≤ i ∧ AccS 32 31 9 1 (acc.map nmRow) a U ∧ σ = ks98 (tI .i64 i) (.k true (.x (.one (.c (.sl (l.map Tm.row) sp))))) t9 t5 (.k true (.x (.one a))) t28 (.k true (.x (.one .nil))) [] U F0)
    l.length ⟨0, [], _, _, _, _, _, by simp, by simp, by simp, .nil, rfl⟩ ?_
  rintro n σ1 K hK ⟨i, acc, t9, t5, t28, a, U, hi, hd, hn, hacc, rfl⟩
  obtain hlt | hge := Nat.lt_or_ge i l.length
  · obtain ⟨c, hc, hdr⟩ := at_list hlt
    obtain ⟨_, rfl⟩ := List.getElem?_eq_some_iff.1 hc
    rw [hdr] at hd
    have hI : ∀ acc t9 t5 t28 a U, tmVars l = varsOn acc ((l.drop (i + 1)).map Tm.v) → acc.length ≤ i + 1 → AccS 32 31 9 1 (acc.map nmRow) a U → K (ks98 (tI .i64 (i + 1)) (.k true (.x (.one (.c (.sl (l.map Tm.row) sp))))) t9 t5 (.k true (.x (.one a))) t28 (.k true (.x (.one .nil))) [] U F0) :=
      fun acc t9 t5 t28 a U h1 h2 h3 => hK _ (n - 1) (by omega) ⟨i + 1, acc, t9, t5, t28, a, U, by omega, h1, h2, h3, rfl⟩
    clear hK
    simp only [List.map_cons, varsOn] at hd
    generalize hv : l[i].v = v at *
    by_cases h1 : v = []
    · simp [ic98l0, hlt, Tm.row, hv, h1]
      refine r_callF (.x (.one (cB false))) rfl ?_
      simp [wrap_next hlt (by omega)]
      exact hI _ _ _ _ _ _ (by rw [hd]; simp [Ped.isVar, h1]) (by omega) hacc
    by_cases h2 : v = [95]
    · simp [ic98l0, hlt, Tm.row, hv, h2]
      refine r_callF (.x (.one (cB false))) rfl ?_
      simp [wrap_next hlt (by omega)]
      exact hI _ _ _ _ _ _ (by rw [hd]; simp [Ped.isVar, us, h2]) (by omega) hacc
    have hiv : Ped.isVar v = true := by simp [Ped.isVar, h1, us, h2]
    simp [ic98l0, hlt, Tm.row, hv, h1, h2]
    refine r_call 67 true _ _ (m30 v acc [] (by unfold maxLen; omega)) rfl rfl rfl (by simp [-X.close, -A.close, hacc.args, X.close_c]) ?_
    simp
    refine ⟨fun h => ?_, fun h => ?_⟩
    · have hnew : tmVars l = varsOn (acc ++ [v]) ((l.drop (i + 1)).map Tm.v) := by rw [hd]; simp [h, hiv]
      rcases hacc with ⟨h, rfl, rfl⟩ | ⟨rfl, rfl⟩ | ⟨rfl, rfl⟩
      · obtain rfl : acc = [] := by simpa using h
        refine k_row rfl rfl (by simp) (by simp) ?_
        refine k_app0 rfl rfl rfl (by simp) (by simp) (by simp [maxLen]) (by simp [maxBytes]) ?_
        simp [wrap_next hlt (by omega)]
        exact hI _ _ _ _ _ _ hnew (by simp) (.own rfl)
      all_goals
        refine k_row rfl rfl (by simp) (by simp) ?_
        refine k_app (q := ⟨9, 1, acc.length⟩) rfl rfl rfl (by simp) (by simp) rfl rfl (by simp) (by simp [maxLen]; omega) (by simp [maxBytes]; omega) trivial ?_
        simp [wrap_next hlt (by omega)]
        refine hI (acc ++ [v]) _ _ _ _ _ hnew (by simp; omega) ?_
        simp
        exact .own' (by simp)
    · simp [wrap_next hlt (by omega)]
      exact hI _ _ _ _ _ _ (by rw [hd]; simp [h]) (by omega) hacc
  · simp [ic98l0, Nat.not_lt.mpr hge]
    rw [hd, List.drop_eq_nil_of_le hge]
    rcases hacc with ⟨h, rfl, rfl⟩ | ⟨rfl, rfl⟩ | ⟨rfl, rfl⟩
    · simp [h, varsOn]
    · simp [varsOn]
    · simp [varsOn]
theorem m47 (p : Name) (l : List Tm) (sp : List (List C)) (hl : l.length ≤ 1048576) :
    Meets Tryz.prog G 164 [.agg [cS (bs p), .sl (l.map Tm.row) sp]] (.x (.one (.sl ((tmVars l).map nmRow) []))) := by
  refine meets Tryz.func164 ie47 ig47 (Nat.le_of_ble_eq_true rfl) ?_
  simp [ic47, ir47]
  refine r_call 141 true _ _ (m98 l sp hl) rfl rfl rfl rfl ?_
  simp

end Go.Proofs.YtiomojlcnemnhaaGreatDoor

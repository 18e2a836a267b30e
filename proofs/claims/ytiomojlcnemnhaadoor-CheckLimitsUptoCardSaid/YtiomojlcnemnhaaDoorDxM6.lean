import Derived.Test.YtiomojlcnemnhaaDoorDxM3
import Derived.Test.YtiomojlcnemnhaaDoorDxItoa
import Derived.Test.YtiomojlcnemnhaaDoorFxSb
import Derived.Test.YtiomojlcnemnhaaDoorFxSc
/- Contracts, on: the marks. -/
namespace Go.Proofs.YtiomojlcnemnhaaDoor
open Go.Fx Go.RowKit
variable {G : World → Prop}
abbrev GT : World → Prop := tab10 Tryd.prog

/-- The mark's word: # and the number. -/
def markW (n : Int) : List UInt8 := 35 :: Lib.itoa n

theorem m172 (n : Int) (h0 : -9223372036854775808 ≤ n) (h1 : n ≤ 9223372036854775807) (hl : (Lib.itoa n).length ≤ 100) : Meets Tryd.prog GT 172 [.one (cI .i64 n)] (.x (.one (cS (bs (markW n))))) := by
  refine meets Tryd.func172 ie172 ig172 (Nat.le_of_ble_eq_true rfl) ?_
  simp [ic172, ir172]
  refine r_call 207 true _ _ (m207 n h0 h1) rfl rfl rfl rfl ?_
  simp [markW]
  omega
theorem m164 (n : Int) : Meets Tryd.prog G 164 [.one (cI .i64 n)] (.x (.agg [cI .i8 99, cI .i64 n, cS (bs [])])) := by
  refine meets Tryd.func164 ie164 ig164 (Nat.le_of_ble_eq_true rfl) ?_
  simp [ic164, ir164]
theorem m167 (k m : Int) (s : List UInt8) (n : Int) : Meets Tryd.prog G 167 [.agg [cI .i8 k, cI .i64 m, cS (bs s)], .one (cI .i64 n)] (.x (.one (cB (k == 99 && m == n && s == [])))) := by
  refine meets Tryd.func167 ie167 ig167 (Nat.le_of_ble_eq_true rfl) ?_
  simp [ic167, ir167]
  grind
end Go.Proofs.YtiomojlcnemnhaaDoor

/- Contracts, on: copies of lists of terms, values, binds, and looking at them again. -/
namespace Go.Proofs.YtiomojlcnemnhaaDoor
open Go.Fx Go.RowKit Go.Ped
variable {G : World → Prop}

theorem itoa777 : (Lib.itoa 777777).length ≤ 100 := by decide +kernel
def markT : Tm := ⟨markW 777777, zeroV⟩
def markV : Val := ⟨99, 777777, []⟩

def encT : Enc Tm 4 [.s, .i .i8, .i .i64, .s] where
  row := Tm.row
  len := fun _ => rfl
  eq := fun x y _ => by
    obtain ⟨a, k, n, s⟩ := x
    obtain ⟨b, l, m, t⟩ := y
    simp [Tm.row]
    rw [Bool.eq_iff_iff]
    simp
def encV : Enc Val 3 [.i .i8, .i .i64, .s] where
  row := Val.row
  len := fun _ => rfl
  eq := fun x y _ => by
    obtain ⟨k, n, s⟩ := x
    obtain ⟨l, m, t⟩ := y
    simp [Val.row]
    rw [Bool.eq_iff_iff]
    simp

theorem m129 (l m : List Tm) (sp sq : List (List C)) (hl : l.length ≤ maxLen) : Meets Tryd.prog G 129 [.one (.sl (l.map Tm.row) sp), .one (.sl (m.map Tm.row) sq)] (.x (.one (cB (decide (l = m))))) :=
  same_gen encT Tryd.func129 ie129 ig129 (Nat.le_of_ble_eq_true rfl) l m sp sq hl
theorem m39 (l m : List Tm) (sp sq : List (List C)) (hl : l.length ≤ maxLen) : Meets Tryd.prog G 39 [.one (.sl (l.map Tm.row) sp), .one (.sl (m.map Tm.row) sq)] (.x (.one (cB (decide (l = m))))) :=
  same_gen encT Tryd.func39 ie39 ig39 (Nat.le_of_ble_eq_true rfl) l m sp sq hl
theorem m166 (l m : List Val) (sp sq : List (List C)) (hl : l.length ≤ maxLen) : Meets Tryd.prog G 166 [.one (.sl (l.map Val.row) sp), .one (.sl (m.map Val.row) sq)] (.x (.one (cB (decide (l = m))))) :=
  same_gen encV Tryd.func166 ie166 ig166 (Nat.le_of_ble_eq_true rfl) l m sp sq hl
theorem m129' (l : List Tm) (sp sq : List (List C)) (hl : l.length ≤ maxLen) : Meets Tryd.prog G 129 [.one (.sl (l.map Tm.row) sp), .one (.sl (l.map Tm.row) sq)] (.x (.one (cB true))) := by
  have := m129 (G := G) l l sp sq hl
  simpa using this
theorem m166' (l : List Val) (sp sq : List (List C)) (hl : l.length ≤ maxLen) : Meets Tryd.prog G 166 [.one (.sl (l.map Val.row) sp), .one (.sl (l.map Val.row) sq)] (.x (.one (cB true))) := by
  have := m166 (G := G) l l sp sq hl
  simpa using this
theorem m163 : Meets Tryd.prog GT 163 [.one (cI .i64 777777)] (.x (.agg markT.row)) := by
  refine meets Tryd.func163 ie163 ig163 (Nat.le_of_ble_eq_true rfl) ?_
  simp [ic163, ir163]
  refine r_call 172 true _ _ (m172 777777 (by omega) (by omega) itoa777) rfl rfl rfl rfl ?_
  simp [markT, Tm.row, zeroV]
theorem m165 : Meets Tryd.prog GT 165 [.agg markT.row, .one (cI .i64 777777)] (.x (.one (cB true))) := by
  refine meets Tryd.func165 ie165 ig165 (Nat.le_of_ble_eq_true rfl) ?_
  simp [ic165, ir165, markT, Tm.row, zeroV]
  refine r_call 172 true _ _ (m172 777777 (by omega) (by omega) itoa777) rfl rfl rfl rfl ?_
  simp
theorem m108 (l : List Tm) (sp : List (List C)) (hl : l.length ≤ 1048576) : Meets Tryd.prog GT 108 [.one (.sl (l.map Tm.row) sp)] (.x (.one (.sl (l.map Tm.row) [markT.row]))) :=
  twin_gen (x := markT) encT Tryd.func108 ie108 ig108 (Nat.le_of_ble_eq_true rfl) rfl (by omega) m163 l sp hl
theorem m109 (l : List Val) (sp : List (List C)) (hl : l.length ≤ 1048576) : Meets Tryd.prog G 109 [.one (.sl (l.map Val.row) sp)] (.x (.one (.sl (l.map Val.row) [markV.row]))) :=
  twin_gen (x := markV) encV Tryd.func109 ie109 ig109 (Nat.le_of_ble_eq_true rfl) rfl (by omega) (m164 777777) l sp hl
theorem m110 (l : List Tm) (sp : List (List C)) (hl : l.length ≤ 1048576) : Meets Tryd.prog GT 110 [.one (.sl (l.map Tm.row) [markT.row]), .one (.sl (l.map Tm.row) sp)] (.x (.one (cB true))) :=
  left_gen (x := markT) encT Tryd.func110 ie110 ig110 (Nat.le_of_ble_eq_true rfl) l sp hl (m129' l [markT.row] sp (by unfold maxLen; omega)) m165
theorem m111 (l : List Val) (sp : List (List C)) (hl : l.length ≤ 1048576) : Meets Tryd.prog G 111 [.one (.sl (l.map Val.row) [markV.row]), .one (.sl (l.map Val.row) sp)] (.x (.one (cB true))) :=
  left_gen (x := markV) encV Tryd.func111 ie111 ig111 (Nat.le_of_ble_eq_true rfl) l sp hl (m166' l [markV.row] sp (by unfold maxLen; omega)) (m167 99 777777 [] 777777)
theorem m37 (p : Name) (l : List Tm) (sp : List (List C)) (hl : l.length ≤ 1048576) : Meets Tryd.prog GT 37 [.agg [cS (bs p), .sl (l.map Tm.row) sp]] (.x (.agg [cS (bs p), .sl (l.map Tm.row) [markT.row]])) := by
  refine meets Tryd.func37 ie37 ig37 (Nat.le_of_ble_eq_true rfl) ?_
  simp [ic37, ir37]
  refine r_call 108 true _ _ (m108 l sp hl) rfl rfl rfl rfl ?_
  simp
theorem m38 (p : Name) (l : List Val) (sp : List (List C)) (hl : l.length ≤ 1048576) : Meets Tryd.prog G 38 [.agg [cS (bs p), .sl (l.map Val.row) sp]] (.x (.agg [cS (bs p), .sl (l.map Val.row) [markV.row]])) := by
  refine meets Tryd.func38 ie38 ig38 (Nat.le_of_ble_eq_true rfl) ?_
  simp [ic38, ir38]
  refine r_call 109 true _ _ (m109 l sp hl) rfl rfl rfl rfl ?_
  simp
theorem m40 (p : Name) (l : List Tm) (sp : List (List C)) (hl : l.length ≤ 1048576) : Meets Tryd.prog GT 40 [.agg [cS (bs p), .sl (l.map Tm.row) [markT.row]], .agg [cS (bs p), .sl (l.map Tm.row) sp]] (.x (.one (cB true))) := by
  refine meets Tryd.func40 ie40 ig40 (Nat.le_of_ble_eq_true rfl) ?_
  simp [ic40, ir40]
  refine r_call 110 true _ _ (m110 l sp hl) rfl rfl rfl rfl ?_
  simp
theorem m41 (p : Name) (l : List Val) (sp : List (List C)) (hl : l.length ≤ 1048576) : Meets Tryd.prog G 41 [.agg [cS (bs p), .sl (l.map Val.row) [markV.row]], .agg [cS (bs p), .sl (l.map Val.row) sp]] (.x (.one (cB true))) := by
  refine meets Tryd.func41 ie41 ig41 (Nat.le_of_ble_eq_true rfl) ?_
  simp [ic41, ir41]
  refine r_call 111 true _ _ (m111 l sp hl) rfl rfl rfl rfl ?_
  simp

theorem m30 (x : Name) (l : List Name) (sp : List (List C)) (hl : l.length ≤ maxLen) : Meets Tryd.prog G 30 [.one (cS (bs x)), .one (.sl (l.map fun v => [cS (bs v)]) sp)] (.x (.one (cB (l.contains x)))) := by
  refine meets Tryd.func30 ie30 ig30 (Nat.le_of_ble_eq_true rfl) ?_
  simp [ic30, ir30]
  refine w_loopK (fun n σ => ∃ (i : Nat) (t9 t17 : T), i + n = l.length ∧ (x ∈ l ↔ x ∈ l.drop i) ∧ σ = ks30 (tI .i64 i) (.k true (.x (.one (.c (.sl (l.map fun v => [cS (bs v)]) sp))))) t9 (tS x) t17 (tB false) [] [] F0)
    l.length ⟨0, _, _, by simp, by simp, rfl⟩ ?_
  rintro n σ1 K hK ⟨i, t9, t17, hi, hd, rfl⟩
  obtain hlt | hge := Nat.lt_or_ge i l.length
  · obtain ⟨c, hc, hdr⟩ := at_list hlt
    obtain ⟨_, rfl⟩ := List.getElem?_eq_some_iff.1 hc
    rw [hdr] at hd
    have hI : ∀ t9 t17, (x ∈ l ↔ x ∈ l.drop (i + 1)) → K (ks30 (tI .i64 (i + 1)) (.k true (.x (.one (.c (.sl (l.map fun v => [cS (bs v)]) sp))))) t9 (tS x) t17 (tB false) [] [] F0) :=
      fun t9 t17 h => hK _ (n - 1) (by omega) ⟨i + 1, t9, t17, by omega, h, rfl⟩
    clear hK
    simp [ic30l0, hlt, wrap_next hlt (by unfold maxLen at hl; omega)]
    constructor
    · intro h
      exact h ▸ List.getElem_mem _
    · intro h
      refine hI _ _ ?_
      rw [hd, List.mem_cons]
      simp [Ne.symm h]
  · simp [ic30l0, Nat.not_lt.mpr hge, hd, List.drop_eq_nil_of_le hge]
end Go.Proofs.YtiomojlcnemnhaaDoor

/- Contracts, on: the document's atoms, variables, and what is bound. -/
namespace Go.Proofs.YtiomojlcnemnhaaDoor
open Go.Fx Go.RowKit Go.Ped
variable {G : World → Prop}

theorem m91 (p : Name) (l : List Tm) (sp : List (List C)) :
    Meets Tryd.prog G 91 [.agg [cS (bs p), .sl (l.map Tm.row) sp]] (.x (.one (cB (atomOk p l)))) := by
  refine meets Tryd.func91 ie91 ig91 (Nat.le_of_ble_eq_true rfl) ?_
  simp [ic91, ir91]
  refine r_call 156 true _ _ (m156 _) rfl rfl rfl rfl ?_
  simp
  refine ⟨fun h => by simp [atomOk, h], fun h1 => ⟨fun h => ?_, fun h2 => ?_⟩⟩
  · have : ¬ l.length ≤ 24 := by omega
    simp [atomOk, this]
  refine w_loopK (fun n σ => ∃ (i : Nat) (t13 t18 t27 : T), i + n = l.length ∧ (l.all Tm.ok = (l.drop i).all Tm.ok) ∧ σ = ks91 (.k true (.x (.agg [.c (cS (bs p)), .c (.sl (l.map Tm.row) sp)]))) (.k true (.x (.one (.ref 1 0 0)))) t13 (tI .i64 i) t18 t27 (tB false) [(1, ⟨24, 2, [[.c (cS (bs p)), .c (.sl (l.map Tm.row) sp)]], none⟩)] [] F0)
    l.length ⟨0, _, _, _, by simp, by simp, rfl⟩ ?_
  rintro n σ1 K hK ⟨i, t13, t18, t27, hi, hd, rfl⟩
  have hat : atomOk p l = l.all Tm.ok := by simp only [atomOk, h1, Bool.true_and, decide_eq_true (show l.length ≤ 24 by omega)]
  obtain hlt | hge := Nat.lt_or_ge i l.length
  · obtain ⟨c, hc, hdr⟩ := at_list hlt
    obtain ⟨_, rfl⟩ := List.getElem?_eq_some_iff.1 hc
    rw [hdr] at hd
    have hI : ∀ t13 t18 t27, l.all Tm.ok = (l.drop (i + 1)).all Tm.ok → K (ks91 (.k true (.x (.agg [.c (cS (bs p)), .c (.sl (l.map Tm.row) sp)]))) (.k true (.x (.one (.ref 1 0 0)))) t13 (tI .i64 (i + 1)) t18 t27 (tB false) [(1, ⟨24, 2, [[.c (cS (bs p)), .c (.sl (l.map Tm.row) sp)]], none⟩)] [] F0) :=
      fun t13 t18 t27 h => hK _ (n - 1) (by omega) ⟨i + 1, t13, t18, t27, by omega, h, rfl⟩
    clear hK
    simp only [List.all_cons] at hd
    simp [ic91l0, hlt, Tm.row_length]
    refine r_call 157 true _ _ (m157 l[i].v l[i].x.k l[i].x.n l[i].x.s) rfl rfl rfl rfl ?_
    simp [wrap_next hlt (by omega)]
    have hok : termOk l[i].v l[i].x.k l[i].x.n l[i].x.s = l[i].ok := rfl
    rw [hok, hat]
    refine ⟨fun h => ?_, fun h => ?_⟩
    · rw [hd, h]; rfl
    · rw [h, Bool.true_and] at hd
      exact hI _ _ _ hd
  · simp [ic91l0, Nat.not_lt.mpr hge]
    rw [hat, hd, List.drop_eq_nil_of_le hge]; rfl

/-- The variables of a list, each once. -/
abbrev tmVars (l : List Tm) : List Name := varsOn [] (l.map Tm.v)
abbrev nmRow (v : Name) : List C := [cS (bs v)]

theorem varsOn_length : ∀ (l acc : List Name), (varsOn acc l).length ≤ acc.length + l.length
  | [], acc => by simp [varsOn]
  | v :: l, acc => by
    simp only [varsOn]
    split
    · have := varsOn_length l (acc ++ [v]); simp at this ⊢; omega
    · have := varsOn_length l acc; simp; omega

theorem m98 (l : List Tm) (sp : List (List C)) (hl : l.length ≤ 1048576) :
    Meets Tryd.prog G 98 [.one (.sl (l.map Tm.row) sp)] (.x (.one (.sl ((tmVars l).map nmRow) []))) := by
  refine meets Tryd.func98 ie98 ig98 (Nat.le_of_ble_eq_true rfl) ?_
  simp [ic98, ir98]
  refine w_loopK (fun n σ => ∃ (i : Nat) (acc : List Name) (t9 t5 t28 : T) (a : A) (U : List (Nat × Tok)), i + n = l.length ∧ tmVars l = varsOn acc ((l.drop i).map Tm.v) ∧ acc.length ≤ i ∧ AccS 32 31 9 1 (acc.map nmRow) a U ∧ σ = ks98 (tI .i64 i) (.k true (.x (.one (.c (.sl (l.map Tm.row) sp))))) t9 t5 (.k true (.x (.one a))) t28 (.k true (.x (.one .nil))) [] U F0)
    l.length ⟨0, [], _, _, _, _, _, by simp, by simp, by simp, .nil, rfl⟩ ?_
  rintro n σ1 K hK ⟨i, acc, t9, t5, t28, a, U, hi, hd, hn, hacc, rfl⟩
  obtain hlt | hge := Nat.lt_or_ge i l.length
  · obtain ⟨c, hc, hdr⟩ := at_list hlt
    obtain ⟨_, rfl⟩ := List.getElem?_eq_some_iff.1 hc
    rw [hdr] at hd
    have hI : ∀ acc t9 t5 t28 a U, tmVars l = varsOn acc ((l.drop (i + 1)).map Tm.v) → acc.length ≤ i + 1 → AccS 32 31 9 1 (acc.map nmRow) a U → K (ks98 (tI .i64 (i + 1)) (.k true (.x (.one (.c (.sl (l.map Tm.row) sp))))) t9 t5 (.k true (.x (.one a))) t28 (.k true (.x (.one .nil))) [] U F0) :=
      fun acc t9 t5 t28 a U h1 h2 h3 => hK _ (n - 1) (by omega) ⟨i + 1, acc, t9, t5, t28, a, U, by omega, h1, h2, h3, rfl⟩
    clear hK
    simp only [List.map_cons, varsOn] at hd
    generalize hv : l[i].v = v at *
    by_cases h1 : v = []
    · simp [ic98l0, hlt, Tm.row, hv, h1]
      refine r_callF (.x (.one (cB false))) rfl ?_
      simp [wrap_next hlt (by omega)]
      exact hI _ _ _ _ _ _ (by rw [hd]; simp [Ped.isVar, h1]) (by omega) hacc
    by_cases h2 : v = [95]
    · simp [ic98l0, hlt, Tm.row, hv, h2]
      refine r_callF (.x (.one (cB false))) rfl ?_
      simp [wrap_next hlt (by omega)]
      exact hI _ _ _ _ _ _ (by rw [hd]; simp [Ped.isVar, us, h2]) (by omega) hacc
    have hiv : Ped.isVar v = true := by simp [Ped.isVar, h1, us, h2]
    simp [ic98l0, hlt, Tm.row, hv, h1, h2]
    refine r_call 30 true _ _ (m30 v acc [] (by unfold maxLen; omega)) rfl rfl rfl (by simp [-X.close, -A.close, hacc.args, X.close_c]) ?_
    simp
    refine ⟨fun h => ?_, fun h => ?_⟩
    · have hnew : tmVars l = varsOn (acc ++ [v]) ((l.drop (i + 1)).map Tm.v) := by rw [hd]; simp [h, hiv]
      rcases hacc with ⟨h, rfl, rfl⟩ | ⟨rfl, rfl⟩ | ⟨rfl, rfl⟩
      · obtain rfl : acc = [] := by simpa using h
        refine k_row rfl rfl (by simp) (by simp) ?_
        refine k_app0 rfl rfl rfl (by simp) (by simp) (by simp [maxLen]) (by simp [maxBytes]) ?_
        simp [wrap_next hlt (by omega)]
        exact hI _ _ _ _ _ _ hnew (by simp) (.own rfl)
      all_goals
        refine k_row rfl rfl (by simp) (by simp) ?_
        refine k_app (q := ⟨9, 1, acc.length⟩) rfl rfl rfl (by simp) (by simp) rfl rfl (by simp) (by simp [maxLen]; omega) (by simp [maxBytes]; omega) trivial ?_
        simp [wrap_next hlt (by omega)]
        refine hI (acc ++ [v]) _ _ _ _ _ hnew (by simp; omega) ?_
        simp
        exact .own' (by simp)
    · simp [wrap_next hlt (by omega)]
      exact hI _ _ _ _ _ _ (by rw [hd]; simp [h]) (by omega) hacc
  · simp [ic98l0, Nat.not_lt.mpr hge]
    rw [hd, List.drop_eq_nil_of_le hge]
    rcases hacc with ⟨h, rfl, rfl⟩ | ⟨rfl, rfl⟩ | ⟨rfl, rfl⟩
    · simp [h, varsOn]
    · simp [varsOn]
    · simp [varsOn]
theorem m47 (p : Name) (l : List Tm) (sp : List (List C)) (hl : l.length ≤ 1048576) :
    Meets Tryd.prog G 47 [.agg [cS (bs p), .sl (l.map Tm.row) sp]] (.x (.one (.sl ((tmVars l).map nmRow) []))) := by
  refine meets Tryd.func47 ie47 ig47 (Nat.le_of_ble_eq_true rfl) ?_
  simp [ic47, ir47]
  refine r_call 98 true _ _ (m98 l sp hl) rfl rfl rfl rfl ?_
  simp

/-- What binds say of a term: its value, and whether it is one. -/
def boundOf (out : List Tm) (t : Tm) : Val × Bool :=
  if t.v = [] then (t.x, true) else match out.find? (·.v == t.v) with | some p => (p.x, p.x.ok) | none => (zeroV, false)

theorem m107 (out : List Tm) (sp : List (List C)) (t : Tm) (hl : out.length ≤ maxLen) :
    Meets Tryd.prog G 107 [.one (.sl (out.map Tm.row) sp), .agg t.row] (.tup [.agg (boundOf out t).1.row, .one (cB (boundOf out t).2)]) := by
  refine meets Tryd.func107 ie107 ig107 (Nat.le_of_ble_eq_true rfl) ?_
  obtain ⟨v, x⟩ := t
  by_cases h0 : v = []
  · simp [ic107, ir107, Tm.row, boundOf, h0, Val.row]
  simp [ic107, ir107, Tm.row, h0]
  let k : T → T → T → T → S := fun t9 t6 t15 t25 => ks107 (.k true (.x (.agg [.c (cS (bs v)), .c (cI .i8 x.k), .c (cI .i64 x.n), .c (cS (bs x.s))]))) (.k true (.x (.one (.ref 3 0 0)))) t9 (.k true (.x (.one (.ref 4 0 0)))) t6 (.k true (.x (.one (.c (.sl (out.map Tm.row) sp))))) t15 t25 (tB false)
    [(4, ⟨39, 3, [[.c (cI .i8 0), .c (cI .i64 0), .c (cS (bs []))]], none⟩), (3, ⟨41, 4, [[.c (cS (bs v)), .c (cI .i8 x.k), .c (cI .i64 x.n), .c (cS (bs x.s))]], none⟩)] [] F0
  refine w_loopK (fun n σ => ∃ (i : Nat) (t9 t15 t25 : T), i + n = out.length ∧ out.find? (·.v == v) = (out.drop i).find? (·.v == v) ∧ σ = k t9 (tI .i64 i) t15 t25)
    out.length ⟨0, _, _, _, by simp, by simp, rfl⟩ ?_
  rintro n σ1 K hK ⟨i, t9, t15, t25, hi, hd, rfl⟩
  obtain hlt | hge := Nat.lt_or_ge i out.length
  · obtain ⟨c, hc, hdr⟩ := at_list hlt
    obtain ⟨_, rfl⟩ := List.getElem?_eq_some_iff.1 hc
    rw [hdr] at hd
    have hI : ∀ t9 t15 t25, out.find? (·.v == v) = (out.drop (i + 1)).find? (·.v == v) → K (k t9 (tI .i64 (i + 1)) t15 t25) :=
      fun t9 t15 t25 h1 => hK _ (n - 1) (by omega) ⟨i + 1, t9, t15, t25, by omega, h1, rfl⟩
    clear hK
    simp only [List.find?_cons] at hd
    generalize hp : out[i] = p at *
    obtain ⟨pv, px⟩ := p
    simp only [k] at hI ⊢
    simp [ic107l0, hlt, hp, Tm.row]
    refine ⟨fun h => ?_, fun h => ?_⟩
    · refine r_call 29 true _ _ (m29 px.k px.n px.s) rfl rfl rfl rfl ?_
      have hb : boundOf out ⟨v, x⟩ = (px, px.ok) := by simp [boundOf, h0, hd, h]
      simp [hb, Val.row, Val.ok]
      cases valOk px.k px.n px.s <;> rfl
    · simp [wrap_next hlt (by unfold maxLen at hl; omega)]
      have h2 : (pv == v) = false := by simpa using h
      exact hI _ _ _ (by rw [hd]; simp only [h2])
  · have hb : boundOf out ⟨v, x⟩ = (zeroV, false) := by rw [List.drop_eq_nil_of_le hge] at hd; simp [boundOf, h0, hd]
    simp only [k]
    simp [ic107l0, Nat.not_lt.mpr hge, hb, zeroV, Val.row]
end Go.Proofs.YtiomojlcnemnhaaDoor

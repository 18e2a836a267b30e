/- Contracts, on: copies of programs and facts, looked at again; the law CheckInputs. (Labels of 2000 and more: seat ZD.) -/
import Derived.Test.YtiomojlcnemnhaaGreatDoorPGxQg
import Derived.Test.YtiomojlcnemnhaaGreatDoorPGxIcV
namespace Go.Proofs.YtiomojlcnemnhaaGreatDoor
open Go.Fx Go.RowKit Go.Ped
variable {G : World → Prop}

def beyR : List Rule → Int → Bool
  | [], _ => false
  | r :: l, n => if n + ruleParts r 1048576 > 1048576 then true else beyR l (n + ruleParts r 1048576)
def beyF : List Fc → Int → Bool
  | [], _ => false
  | f :: l, n => if n + 1 + f.l.length > 1048576 then true else beyF l (n + 1 + f.l.length)
theorem ruleParts_bound (r : Rule) (h : r.small 1048576) : 0 ≤ ruleParts r 1048576 ∧ ruleParts r 1048576 ≤ 1048577 := by
  have h1 := bodyParts_bound (left := 1048576) r.body (1 + r.head.length) (by omega)
  have h2 := h.1
  unfold ruleParts
  omega

theorem m2030 (l : List Rule) (sp : Sp) (hs : ∀ r ∈ l, r.small 1048576) (hl : l.length ≤ 1048576) : Meets Tryz.prog G 30 [.one (.sl (l.map Rule.row) sp)] (.x (.one (cB (beyR l 0)))) := by
  refine meets Tryz.func30 ie2030 ig2030 (Nat.le_of_ble_eq_true rfl) ?_
  generalize hB : beyR l 0 = B
  simp [ic2030, ir2030]
  refine w_loopA [] [] [0, 3, 4] (by simp)
    (fun a : Nat × Int => st [(0, .k true (.x (.one (.c (.sl (l.map Rule.row) sp))))), (3, tI .i64 a.2), (4, tI .i64 a.1)] [] [] F0) (fun a => l.length - a.1)
    (fun a => a.1 ≤ l.length ∧ B = beyR (l.drop a.1) a.2 ∧ 0 ≤ a.2 ∧ a.2 ≤ 1048576) (0, 0) (by simp) (by simp [hB]) ?_
  rintro ⟨i, n⟩ K hK ⟨hi, hd, hn0, hn1⟩
  simp only at hi hd hn0 hn1
  obtain hlt | hge := Nat.lt_or_ge i l.length
  · rw [List.drop_eq_getElem_cons hlt, beyR] at hd
    have hr := hs _ (List.getElem_mem hlt)
    have hb := ruleParts_bound l[i] hr
    simp [ic2030l0, hlt]
    refine call_of (m119 l[i] 1048576 (by omega) (by omega) hr) ?_
    simp
    rw [wrap64 (by omega) (by omega)]
    by_cases hc : n + ruleParts l[i] 1048576 > 1048576
    · rw [if_pos hc] at hd
      simp [hc, hd]
    · rw [if_neg hc] at hd
      simp [hc]
      simp (disch := omega) only [wrap64]
      exact hK (i + 1, n + ruleParts l[i] 1048576) _ (by simp) ⟨by simp; omega, hd, by simp; omega, by simp; omega⟩ (by simp; omega)
  · rw [List.drop_eq_nil_of_le hge, beyR] at hd
    simp [ic2030l0, Nat.not_lt.mpr hge, hd]
theorem m2106 (l : List Fc) (sp : Sp) (hs : ∀ f ∈ l, f.l.length ≤ 1048576) (hl : l.length ≤ 1048576) : Meets Tryz.prog G 106 [.one (.sl (l.map Fc.row) sp)] (.x (.one (cB (beyF l 0)))) := by
  refine meets Tryz.func106 ie2106 ig2106 (Nat.le_of_ble_eq_true rfl) ?_
  generalize hB : beyF l 0 = B
  simp [ic2106, ir2106]
  refine w_loopA [] [] [0, 3, 4] (by simp)
    (fun a : Nat × Int => st [(0, .k true (.x (.one (.c (.sl (l.map Fc.row) sp))))), (3, tI .i64 a.2), (4, tI .i64 a.1)] [] [] F0) (fun a => l.length - a.1)
    (fun a => a.1 ≤ l.length ∧ B = beyF (l.drop a.1) a.2 ∧ 0 ≤ a.2 ∧ a.2 ≤ 1048576) (0, 0) (by simp) (by simp [hB]) ?_
  rintro ⟨i, n⟩ K hK ⟨hi, hd, hn0, hn1⟩
  simp only at hi hd hn0 hn1
  obtain hlt | hge := Nat.lt_or_ge i l.length
  · rw [List.drop_eq_getElem_cons hlt, beyF] at hd
    have hr := hs _ (List.getElem_mem hlt)
    simp [ic2106l0, hlt]
    rw [wrap64 (n := n + 1) (by omega) (by omega), wrap64 (n := n + 1 + (l[i].l.length : Int)) (by omega) (by omega)]
    by_cases hc : n + 1 + (l[i].l.length : Int) > 1048576
    · rw [if_pos hc] at hd
      simp [hc, hd]
    · rw [if_neg hc] at hd
      simp [hc]
      simp (disch := omega) only [wrap64]
      exact hK (i + 1, n + 1 + l[i].l.length) _ (by simp) ⟨by simp; omega, hd, by simp; omega, by simp; omega⟩ (by simp; omega)
  · rw [List.drop_eq_nil_of_le hge, beyF] at hd
    simp [ic2106l0, Nat.not_lt.mpr hge, hd]
theorem m2035 (rules : List Rule) (sp : Sp) (facts : List Fc) (sq : Sp) (hs : ∀ r ∈ rules, r.small 1048576) (hl : rules.length ≤ 1048576) (hf : ∀ f ∈ facts, f.l.length ≤ 1048576) (hfl : facts.length ≤ 1048576) :
    Meets Tryz.prog G 35 [.one (.sl (rules.map Rule.row) sp), .one (.sl (facts.map Fc.row) sq)] (.x (.one (cB (beyR rules 0 || beyF facts 0)))) := by
  refine meets Tryz.func35 ie2035 ig2035 (Nat.le_of_ble_eq_true rfl) ?_
  simp [ic2035, ir2035]
  refine call_of (m2030 rules sp hs hl) ?_
  cases beyR rules 0 with
  | true =>
    simp
    refine call_no (.x (.one (cB false))) ?_
    simp
  | false =>
    simp
    refine call_of (m2106 facts sq hf hfl) ?_
    simp

def ruleMark : Rule := ⟨markW 777777, [], [], [], []⟩
def Fc.tw (f : Fc) : Fc := ⟨f.p, f.l, [markV.row]⟩
def factMark : Fc := ⟨markW 777777, [], []⟩
theorem rule_len (r : Rule) : r.row.length = 3 := rfl
theorem ruleMark_row : ruleMark.row = [cS (bs (markW 777777)), .sl [] [], .sl [] []] := rfl
theorem factMark_row : factMark.row = [cS (bs (markW 777777)), .sl [] []] := rfl
theorem m2159 : Meets Tryz.prog GT 159 [.one (cI .i64 777777)] (.x (.agg ruleMark.row)) := by
  refine meets Tryz.func159 ie2159 ig2159 (Nat.le_of_ble_eq_true rfl) ?_
  simp [ic2159, ir2159]
  refine call_of m172' ?_
  simp [ruleMark_row]
theorem m2108 : Meets Tryz.prog GT 108 [.one (cI .i64 777777)] (.x (.agg factMark.row)) := by
  refine meets Tryz.func108 ie2108 ig2108 (Nat.le_of_ble_eq_true rfl) ?_
  simp [ic2108, ir2108]
  refine call_of m172' ?_
  simp [factMark_row]
theorem m2161 : Meets Tryz.prog GT 161 [.agg ruleMark.row, .one (cI .i64 777777)] (.x (.one (cB true))) := by
  refine meets Tryz.func161 ie2161 ig2161 (Nat.le_of_ble_eq_true rfl) ?_
  simp [ic2161, ir2161, ruleMark_row]
  refine call_of m172' ?_
  simp
theorem m2130 : Meets Tryz.prog GT 130 [.agg factMark.row, .one (cI .i64 777777)] (.x (.one (cB true))) := by
  refine meets Tryz.func130 ie2130 ig2130 (Nat.le_of_ble_eq_true rfl) ?_
  simp [ic2130, ir2130, factMark_row]
  refine call_of m172' ?_
  simp

theorem m2057 (l : List Rule) (sp : Sp) (hl : l.length ≤ 1048576) (hs : ∀ x ∈ l, x.small 1048576) : Meets Tryz.prog GT 57 [.one (.sl (l.map Rule.row) sp)] (.x (.one (.sl ((l.map Rule.tw).map Rule.row) [ruleMark.row]))) := by
  have h := twF_gen Rule.row (fun k => k.tw.row) (fun x => rule_len x) (fun x => rule_len _) (rule_len ruleMark) Tryz.func57 ie2057 ig2057 (Nat.le_of_ble_eq_true rfl) rfl (by omega) m2159 l sp hl (fun x hx => m63 x (hs x hx))
  simpa [Function.comp_def] using h
theorem m2037 (l : List Fc) (sp : Sp) (hl : l.length ≤ 1048576) (hs : ∀ x ∈ l, x.l.length ≤ 1048576) : Meets Tryz.prog GT 37 [.one (.sl (l.map Fc.row) sp)] (.x (.one (.sl ((l.map Fc.tw).map Fc.row) [factMark.row]))) := by
  have h := twF_gen Fc.row (fun k => k.tw.row) (fun x => Fc.row_len x) (fun x => Fc.row_len _) (Fc.row_len factMark) Tryz.func37 ie2037 ig2037 (Nat.le_of_ble_eq_true rfl) rfl (by omega) m2108 l sp hl (fun x hx => m38 x.p x.l x.sp (hs x hx))
  simpa [Function.comp_def] using h
theorem m2036 (l : List Rule) (sp : Sp) (hl : l.length ≤ 1048576) (hs : ∀ x ∈ l, x.small 1048576) : Meets Tryz.prog GT 36 [.agg [.sl (l.map Rule.row) sp]] (.x (.agg [.sl ((l.map Rule.tw).map Rule.row) [ruleMark.row]])) := by
  refine meets Tryz.func36 ie2036 ig2036 (Nat.le_of_ble_eq_true rfl) ?_
  have h := m2057 l sp hl hs
  generalize (l.map Rule.tw).map Rule.row = X at *
  simp [ic2036, ir2036]
  refine call_of h ?_
  simp

theorem m2060 (l : List Rule) (sp : Sp) (hl : l.length ≤ 1048576) (hs : ∀ x ∈ l, x.small 1048576) : Meets Tryz.prog GT 60 [.one (.sl ((l.map Rule.tw).map Rule.row) [ruleMark.row]), .one (.sl (l.map Rule.row) sp)] (.x (.one (cB true))) := by
  refine meets Tryz.func60 ie2060 ig2060 (Nat.le_of_ble_eq_true rfl) ?_
  simp [ic2060, ir2060]
  refine w_loopA [] [] [0, 1, 5] (by simp)
    (fun i : Nat => st [(0, .k true (.x (.one (.c (.sl (l.map (Rule.row ∘ Rule.tw)) [ruleMark.row]))))), (1, .k true (.x (.one (.c (.sl (l.map Rule.row) sp))))), (5, tI .i64 i)] [] [] F0) (fun i => l.length - i) (fun i => i ≤ l.length) 0 (by simp) (by simp) ?_
  rintro i K hK hi
  obtain hlt | hge := Nat.lt_or_ge i l.length
  · simp [ic2060l0, hlt]
    refine call_of (m70 l[i] (hs _ (List.getElem_mem hlt))) ?_
    simp
    simp (disch := omega) only [wrap64]
    exact hK (i + 1) _ (by simp) (by omega) (by omega)
  · simp [ic2060l0, Nat.not_lt.mpr hge]
    simp (disch := omega) [wrap64]
    refine ⟨⟨by omega, ?_⟩, ?_⟩
    · rintro e (⟨a, _, rfl⟩ | rfl) <;> rfl
    refine call_of m2161 ?_
    simp
theorem m2041 (l : List Fc) (sp : Sp) (hl : l.length ≤ 1048576) (hs : ∀ x ∈ l, x.l.length ≤ 1048576) : Meets Tryz.prog GT 41 [.one (.sl ((l.map Fc.tw).map Fc.row) [factMark.row]), .one (.sl (l.map Fc.row) sp)] (.x (.one (cB true))) := by
  refine meets Tryz.func41 ie2041 ig2041 (Nat.le_of_ble_eq_true rfl) ?_
  simp [ic2041, ir2041]
  refine w_loopA [] [] [0, 1, 5] (by simp)
    (fun i : Nat => st [(0, .k true (.x (.one (.c (.sl (l.map (Fc.row ∘ Fc.tw)) [factMark.row]))))), (1, .k true (.x (.one (.c (.sl (l.map Fc.row) sp))))), (5, tI .i64 i)] [] [] F0) (fun i => l.length - i) (fun i => i ≤ l.length) 0 (by simp) (by simp) ?_
  rintro i K hK hi
  obtain hlt | hge := Nat.lt_or_ge i l.length
  · simp [ic2041l0, hlt]
    refine call_of (m41 l[i].p l[i].l l[i].sp (hs _ (List.getElem_mem hlt))) ?_
    simp
    simp (disch := omega) only [wrap64]
    exact hK (i + 1) _ (by simp) (by omega) (by omega)
  · simp [ic2041l0, Nat.not_lt.mpr hge]
    simp (disch := omega) [wrap64]
    refine ⟨⟨by omega, ?_⟩, ?_⟩
    · rintro e (⟨a, _, rfl⟩ | rfl) <;> rfl
    refine call_of m2130 ?_
    simp
theorem m2040 (l : List Rule) (sp : Sp) (hl : l.length ≤ 1048576) (hs : ∀ x ∈ l, x.small 1048576) : Meets Tryz.prog GT 40 [.agg [.sl ((l.map Rule.tw).map Rule.row) [ruleMark.row]], .agg [.sl (l.map Rule.row) sp]] (.x (.one (cB true))) := by
  refine meets Tryz.func40 ie2040 ig2040 (Nat.le_of_ble_eq_true rfl) ?_
  have h := m2060 l sp hl hs
  generalize (l.map Rule.tw).map Rule.row = X at *
  simp [ic2040, ir2040]
  refine call_of h ?_
  simp

/- What is copied is as it was. -/
theorem stand_tw (r : Rule) : standOf r.tw = standOf r := by
  unfold standOf Rule.tw
  simp only [List.filter_map, List.map_map]
  rfl
end Go.Proofs.YtiomojlcnemnhaaGreatDoor

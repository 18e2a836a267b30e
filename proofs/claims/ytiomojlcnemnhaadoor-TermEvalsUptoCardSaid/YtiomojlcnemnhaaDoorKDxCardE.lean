import Derived.Test.YtiomojlcnemnhaaDoorKDxFacts
import Derived.Test.YtiomojlcnemnhaaDoorKDxW3
/- TermEvals: its row's closed facts. -/
namespace Go.Proofs.YtiomojlcnemnhaaDoor
open Go.Fx Go.RowKit Go.Ped
theorem f14_a : Rows.termEvalsUptoRow.wf (OpenSpec.ofChange (Rows.OpenSpec.upto Rows.termEvalsSpec).bare) = true := by kernel_rfl
theorem f14_b : Tryd.f14.params.all (Tryd.prog.readableRec ·) = true := by kernel_rfl
theorem f14_c : namedTie Tryd.prog Rows.termEvalsUptoRow.named Rows.termEvalsSpec.vars = true := by kernel_rfl
theorem f14_d : (Rows.termEvalsUptoRow.inPlace == Tryd.prog.inPlace 14) = true := by kernel_rfl
theorem f14_e : (Rows.termEvalsUptoRow.unfollowed == Tryd.prog.unfollowed 14) = true := by kernel_rfl
theorem f14_f : (Rows.termEvalsUptoRow.recurses == Tryd.prog.recurses 14) = true := by kernel_rfl
theorem f14_g : (Rows.termEvalsUptoRow.named == Tryd.prog.varsNamed 14) = true := by kernel_rfl
theorem f14_mk : (Tryd.prog.make == some Rows.termEvalsUptoRow.make) = true := makeT
theorem f14_li : (Rows.termEvalsUptoRow.lifted == Tryd.prog.liftsFinal) = true := liftsFinalT
theorem f14_n : Tryd.prog.funcNamed Rows.termEvalsUptoRow.func = some 14 := by kernel_rfl
theorem f14_i : Tryd.f14.isInstance Tryd.prog Rows.termEvalsUptoRow.origin Rows.termEvalsUptoRow.targs := of_decide_eq_true (by kernel_rfl)
theorem f14_w : Tryd.f14.isWrapper Tryd.prog Rows.termEvalsUptoRow.wrapper Rows.termEvalsUptoRow.mainSum := by unfold Func.isWrapper; first | (rw [if_pos (by decide +kernel)]; kernel_rfl) | (rw [if_neg (by decide +kernel)]; exact ⟨rfl, rfl⟩)
theorem j14 : joinedFacts Tryd.prog 14 Tryd.f14 (Rows.OpenSpec.upto Rows.termEvalsSpec).bare Rows.termEvalsUptoRow = true := by
  simp only [joinedFacts, Bool.and_eq_true]
  refine ⟨⟨⟨⟨⟨⟨⟨⟨⟨⟨⟨⟨⟨⟨⟨⟨⟨⟨⟨⟨⟨⟨⟨⟨⟨⟨⟨⟨⟨⟨⟨f14_a, laidOut⟩, mapsRowedT⟩, f14_b⟩, f14_c⟩, rfl⟩, stopsT⟩, rfl⟩, stopKnobsT⟩, f14_d⟩, f14_e⟩, f14_f⟩, f14_g⟩, ?_⟩, ?_⟩, ?_⟩, ?_⟩, ?_⟩, ?_⟩, ?_⟩, ?_⟩, ?_⟩, ?_⟩, rfl⟩, stopsHeardT⟩, mayEnterT⟩, f14_li⟩, f14_mk⟩, ?_⟩, ?_⟩, ?_⟩, ?_⟩
  all_goals (as_aux_lemma => kernel_rfl)
end Go.Proofs.YtiomojlcnemnhaaDoor

/- What the rows of the laws with 'lives' share: what the operations take, listed by the row; openers that tell lengths. -/
namespace Go.Proofs.YtiomojlcnemnhaaDoor
open Go.Fx Go.RowKit Go.Ped

theorem gTakesType : (Tryd.prog.globals[0]?).map (·.type) = some 149 := by kernel_rfl
theorem cells149 : Tryd.prog.cellsOf 149 = 11 := by kernel_rfl
theorem cells36 : Tryd.prog.cellsOf 36 = 1 := by kernel_rfl
theorem takesData : (Rows.laid_pedigree_value_takes : DataW Unit) = Lib.tabData .i8 takesTab := by rfl
theorem not_agg25 : ¬ isAggTy Tryd.prog 25 := by
  rintro (⟨fs, h⟩ | ⟨n, e, h⟩) <;> rw [Tryd.underlying25] at h <;> cases h
end Go.Proofs.YtiomojlcnemnhaaDoor

/- What the rows of TermEvals and TermMeans share: both kinds of tables, listed by the row; openers that tell of numbers. -/
namespace Go.Proofs.YtiomojlcnemnhaaDoor
open Go.Fx Go.RowKit Go.Ped

abbrev laidBoth : List (String × DataW Unit) := [("math/bits.deBruijn32tab", Rows.laid_math_bits_deBruijn32tab), ("math/bits.deBruijn64tab", Rows.laid_math_bits_deBruijn64tab), ("internal/strconv.uint64pow10", Rows.laid_internal_strconv_uint64pow10), ("pedigree/value.takes", Rows.laid_pedigree_value_takes)]
theorem held_both {W : World} (h : laidMetH Tryd.prog laidBoth W) : Held GE W := by
  have h1 := plain_laid (by kernel_rfl) h
  have ht : Held GT W := tab_of h1.tail.tail
  have h2 := h1.tail.tail.tail
  rw [takesData] at h2
  have hk : Held GK W := Lib.tabBelow_of_tabIs (Lib.tabIs_of_head gTakes gTakesType Tryd.underlying149 Tryd.underlying36 cells36 cells149 h2)
  exact fun w' hb => ⟨ht w' hb, hk w' hb⟩

theorem wf_fit {n : Int} (h : (Lit.int .i64 n).wf = true) : -9223372036854775808 ≤ n ∧ n ≤ 9223372036854775807 := by
  unfold Lit.wf at h
  simp only [Bool.and_eq_true, decide_eq_true_eq] at h
  have e1 : IntKind.i64.min = -9223372036854775808 := by decide
  have e2 : IntKind.i64.max = 9223372036854775807 := by decide
  rw [e1, e2] at h
  exact h
theorem ty_valF {cs : List C} (h : Typed Tryd.prog 39 cs) : ∃ x : Val, cs = x.row ∧ x.fitN := by
  obtain ⟨a, r, rfl, ha, b, r', rfl, hb, c, r'', rfl, hc, hr⟩ := h.asStruct Tryd.underlying39
  cases hr
  obtain ⟨k, rfl, _⟩ := ha.asInt Tryd.underlying37
  obtain ⟨n, rfl, hw⟩ := hb.asInt Tryd.underlying2
  obtain ⟨s, rfl⟩ := ty_str hc
  exact ⟨⟨k, n, s⟩, rfl, wf_fit hw⟩
theorem ty_tmF {cs : List C} (h : Typed Tryd.prog 41 cs) : ∃ t : Tm, cs = t.row ∧ t.x.fitN := by
  obtain ⟨a, r, rfl, ha, b, r', rfl, hb, hr⟩ := h.asStruct Tryd.underlying41
  cases hr
  obtain ⟨v, rfl⟩ := ty_str ha
  obtain ⟨x, rfl, hx⟩ := ty_valF hb
  exact ⟨⟨v, x⟩, rfl, hx⟩
theorem ty_bindF {cs : List C} (h : Typed Tryd.prog 54 cs) : ∃ t : Tm, cs = t.row ∧ t.x.fitN := by
  obtain ⟨a, r, rfl, ha, b, r', rfl, hb, hr⟩ := h.asStruct Tryd.underlying54
  cases hr
  obtain ⟨v, rfl⟩ := ty_str ha
  obtain ⟨x, rfl, hx⟩ := ty_valF hb
  exact ⟨⟨v, x⟩, rfl, hx⟩
theorem list_ofF {α : Type} {row : α → List C} {Q : α → Prop} : ∀ {es : List (List C)}, (∀ x ∈ es, ∃ t, x = row t ∧ Q t) → ∃ l : List α, es = l.map row ∧ ∀ t ∈ l, Q t
  | [], _ => ⟨[], rfl, fun _ h => by cases h⟩
  | x :: es, h => by
    obtain ⟨t, rfl, ht⟩ := h x (List.mem_cons_self ..)
    obtain ⟨l, rfl, hl⟩ := list_ofF (es := es) fun y hy => h y (List.mem_cons_of_mem _ hy)
    exact ⟨t :: l, rfl, fun u hu => (List.mem_cons.1 hu).elim (fun e => e ▸ ht) (hl u)⟩
theorem ty_bindsF {cs : List C} (h : Typed Tryd.prog 25 cs) : ∃ (l : List Tm) (sp : Sp), cs = [.sl (l.map Tm.row) sp] ∧ ∀ t ∈ l, t.x.fitN := by
  obtain ⟨es, sp, rfl, hes, hn⟩ := h.asSlice Tryd.underlying25
  obtain ⟨l, rfl, hl⟩ := list_ofF (row := Tm.row) (Q := fun t => t.x.fitN) (es := es) fun x hx => ty_bindF (hes x (List.mem_append_left _ hx))
  exact ⟨l, sp, rfl, hl⟩
theorem ty_exF {cs : List C} (h : Typed Tryd.prog 47 cs) : ∃ e : Ex, cs = e.row ∧ e.fitN := by
  induction hn : rowBulk cs using Nat.strongRecOn generalizing cs with
  | ind n ih =>
    obtain ⟨a, r, rfl, ha, b, r', rfl, hb, c, r'', rfl, hc, hr⟩ := h.asStruct Tryd.underlying47
    cases hr
    obtain ⟨op, rfl, _⟩ := ha.asInt Tryd.underlying44
    obtain ⟨t, rfl, ht⟩ := ty_tmF hb
    obtain ⟨es, sp, rfl, hes, _⟩ := hc.asSlice Tryd.underlying45
    obtain ⟨l, rfl, hl⟩ := list_ofF (row := Ex.row) (Q := Ex.fitN) (es := es) fun x hx => by
      have hle : ∀ (es : List (List C)) (x : List C), x ∈ es → rowBulk x ≤ rowsBulk es := by
        intro es x hx
        induction es with
        | nil => cases hx
        | cons y es ih =>
          simp only [rowsBulk]
          rcases List.mem_cons.1 hx with rfl | hx
          · omega
          · have := ih hx; omega
      have h1 := hle es x hx
      refine ih (rowBulk x) ?_ (hes x (List.mem_append_left _ hx)) rfl
      rw [← hn]
      simp only [rowBulk_append, rowBulk, C.bulk]
      omega
    exact ⟨.mk op t l sp, by rw [Ex.row_mk]; rfl, Ex.fitN_mk.2 ⟨ht, hl⟩⟩
end Go.Proofs.YtiomojlcnemnhaaDoor

import Derived.Test.YtiomojlcnemnhaaLHxV8
import Derived.Test.YtiomojlcnemnhaaLHxQp
import Derived.Test.YtiomojlcnemnhaaLHxM8
import Derived.Test.YtiomojlcnemnhaaRows
import Derived.Test.YtiomojlcnemnhaaChecked
import Derived.WalkKit
import Derived.ProofKit
import Derived.OpenShut
import Derived.Deep.DeepHandedRow
import Derived.Lib.LaidTab
import Derived.Stop.LaidErr
import Derived.LaidMore
/- The laws CheckLess and CheckFirst on what is small. (Labels of 3000 and more: the plain seat.) -/
namespace Go.Proofs.Ytiomojlcnemnhaa
open Go.Fx Go.RowKit Go.Ped

theorem rows_len' {α : Type} {row : α → List C} {n : Nat} (h : ∀ t, n ≤ rowBulk (row t)) : ∀ l : List α, n * l.length ≤ rowsBulk (l.map row)
  | [] => by simp [rowsBulk]
  | t :: l => by have := rows_len' h l; have := h t; simp only [List.map_cons, rowsBulk, List.length_cons, Nat.mul_add, Nat.mul_one]; omega
theorem rule_bulk3 (r : Rule) : 3 ≤ rowBulk r.row := by simp only [Rule.row, rowBulk, C.bulk]; omega
theorem fc_bulk2 (f : Fc) : 2 ≤ rowBulk f.row := by simp only [Fc.row, rowBulk, C.bulk]; omega
theorem m3008b (rules : List Rule) (sp : Sp) (facts : List Fc) (sq : Sp) (p : Name) (l : List Tm) (qs : Sp) (k : Int) (hk1 : -9223372036854775808 ≤ k) (hk2 : k ≤ 9223372036854775807) (hr : ∀ r ∈ rules, ∀ p ∈ standOf r, p.name.length ≤ maxLen) (hf : ∀ f ∈ facts, f.p.length ≤ maxLen)
    (h1 : rowsBulk (rules.map Rule.row) ≤ 1048576) (h2 : rowsBulk (facts.map Fc.row) ≤ 1048576) (h3 : rowsBulk (l.map Tm.row) ≤ 1048576) :
    Meets Try.prog GT 8 [.agg [.sl (rules.map Rule.row) sp, .sl (facts.map Fc.row) sq, cS (bs p), .sl (l.map Tm.row) qs, cI .i64 k]] (.x (.one (cB true))) := by
  have h4 := rows_len tm_bulk l
  have h5 := rows_len' rule_bulk3 rules
  have h6 := rows_len' fc_bulk2 facts
  have h7 := flat_bulk (row := Rule.row) (f := standOf) (l := rules) fun r _ => stand_bulk r
  exact m3008 rules sp facts sq p l qs k hk1 hk2 (job_fit h1 h2 hr hf) (by omega) (by omega) (by omega) (by omega)
theorem ty_case {cs : List C} (h : Typed Try.prog 135 cs) : ∃ (rules : List Rule) (sp : Sp) (facts : List Fc) (sq : Sp) (p : Name) (l : List Tm) (qs : Sp) (k : Int), cs = [.sl (rules.map Rule.row) sp, .sl (facts.map Fc.row) sq, cS (bs p), .sl (l.map Tm.row) qs, cI .i64 k] ∧
    (∀ r ∈ rules, ∀ p ∈ standOf r, p.name.length ≤ maxLen) ∧ (∀ f ∈ facts, f.p.length ≤ maxLen) ∧ -9223372036854775808 ≤ k ∧ k ≤ 9223372036854775807 := by
  obtain ⟨a, r, rfl, ha, b, r', rfl, hb, c, r'', rfl, hc, d, r3, rfl, hd, hr⟩ := h.asStruct Try.underlying135
  cases hr
  obtain ⟨rules, sp, rfl, hrn⟩ := ty_rules' ha
  obtain ⟨facts, sq, rfl, hfn⟩ := ty_fcs' hb
  obtain ⟨p, l, qs, rfl, _⟩ := ty_atom' hc
  obtain ⟨n, e, hw⟩ := hd.asInt Try.underlying3
  subst e
  refine ⟨rules, sp, facts, sq, p, l, qs, n, by simp, hrn, hfn, ?_⟩
  simp [Lit.wf] at hw
  have hm : IntKind.i64.min = -9223372036854775808 := by decide
  rw [hm] at hw
  exact hw
end Go.Proofs.Ytiomojlcnemnhaa

/- What the laws' rows share: the bound on what is read, the witness' world. (The plain seat; not reseated.) -/
namespace Go.Proofs.Ytiomojlcnemnhaa
open Go.Fx Go.RowKit Go.Ped

theorem own : ownKnob Try.prog.godebug = none := by kernel_rfl
theorem laidOut : laidOutB Try.prog = true := by kernel_rfl

/- The bound. -/
mutual
theorem bulk_le {H : Type} : ∀ d : DataW H, bulkD d ≤ Rows.uptoBulk d
  | .lit l => by cases l <;> simp [bulkD, Rows.uptoBulk]
  | .nil => by simp [bulkD, Rows.uptoBulk]
  | .ptr d => by simp [bulkD]
  | .slice a b => by have := bulks_le a; have := bulks_le b; simp only [bulkD, Rows.uptoBulk]; omega
  | .agg a => by have := bulks_le a; simp only [bulkD, Rows.uptoBulk]; omega
  | .iface t d => by simp [bulkD]
  | .map e => by simp [bulkD]
  | .held h => by simp [bulkD]
theorem bulks_le {H : Type} : ∀ l : List (DataW H), bulkDs l ≤ Rows.uptoBulkAll l
  | [] => by simp [bulkDs]
  | d :: l => by have := bulk_le d; have := bulks_le l; simp only [bulkDs, Rows.uptoBulkAll]; omega
end
theorem upto_bound {H : Type} {ds gs : List (DataW H)} (hk : Rows.uptoSmall H (ds ++ gs) = true) : bulkDs ds ≤ 1048576 := by
  have h : Rows.uptoBulkAll (ds ++ gs) ≤ 1048576 := of_decide_eq_true hk
  have h2 := bulks_le (ds ++ gs)
  have h3 : ∀ a b : List (DataW H), bulkDs a ≤ bulkDs (a ++ b) := by
    intro a b
    induction a with
    | nil => simp [bulkDs]
    | cons x a ih => simp only [List.cons_append, bulkDs]; omega
  have := h3 ds gs
  omega


theorem held_list {W : World} : Held (tab10 Try.prog) W := fun _ _ => trivial
/-- A world for the witness. -/
noncomputable abbrev wit (os : Os) : World := { (begin Try.prog (fun _ _ => 0) default).world with os := os }
end Go.Proofs.Ytiomojlcnemnhaa

/- What the rows' closed facts say of the program alone. -/
namespace Go.Proofs.Ytiomojlcnemnhaa
open Go.Fx Go.RowKit Go.Ped

theorem mapsRowedT : mapsRowed Try.prog = true := by kernel_rfl
theorem stopsT : (Try.prog.stops == []) = true := by kernel_rfl
theorem stopKnobsT : (Try.prog.stopKnobs == []) = true := by kernel_rfl
theorem stopsHeardT : Try.prog.stopsHeard = true := by kernel_rfl
theorem mayEnterT : Try.prog.mayEnter = true := by kernel_rfl
theorem liftsFinalT : (Rows.checkTurnedUptoRow.lifted == Try.prog.liftsFinal) = true := by kernel_rfl
theorem makeT : (Try.prog.make == some Rows.checkTurnedUptoRow.make) = true := by kernel_rfl
end Go.Proofs.Ytiomojlcnemnhaa

/- CheckLess: its row's closed facts. -/
namespace Go.Proofs.Ytiomojlcnemnhaa
open Go.Fx Go.RowKit Go.Ped
theorem f8_a : Rows.checkLessUptoRow.wf (OpenSpec.ofChange (Rows.OpenSpec.upto Rows.checkLessSpec).bare) = true := by kernel_rfl
theorem f8_b : Try.f8.params.all (Try.prog.readableRec ·) = true := by kernel_rfl
theorem f8_c : namedTie Try.prog Rows.checkLessUptoRow.named Rows.checkLessSpec.vars = true := by kernel_rfl
theorem f8_d : (Rows.checkLessUptoRow.inPlace == Try.prog.inPlace 8) = true := by kernel_rfl
theorem f8_e : (Rows.checkLessUptoRow.unfollowed == Try.prog.unfollowed 8) = true := by kernel_rfl
theorem f8_f : (Rows.checkLessUptoRow.recurses == Try.prog.recurses 8) = true := by kernel_rfl
theorem f8_g : (Rows.checkLessUptoRow.named == Try.prog.varsNamed 8) = true := by kernel_rfl
theorem f8_mk : (Try.prog.make == some Rows.checkLessUptoRow.make) = true := makeT
theorem f8_li : (Rows.checkLessUptoRow.lifted == Try.prog.liftsFinal) = true := liftsFinalT
theorem f8_n : Try.prog.funcNamed Rows.checkLessUptoRow.func = some 8 := by kernel_rfl
theorem f8_i : Try.f8.isInstance Try.prog Rows.checkLessUptoRow.origin Rows.checkLessUptoRow.targs := of_decide_eq_true (by kernel_rfl)
theorem f8_w : Try.f8.isWrapper Try.prog Rows.checkLessUptoRow.wrapper Rows.checkLessUptoRow.mainSum := by unfold Func.isWrapper; first | (rw [if_pos (by decide +kernel)]; kernel_rfl) | (rw [if_neg (by decide +kernel)]; exact ⟨rfl, rfl⟩)
theorem j8 : joinedFacts Try.prog 8 Try.f8 (Rows.OpenSpec.upto Rows.checkLessSpec).bare Rows.checkLessUptoRow = true := by
  simp only [joinedFacts, Bool.and_eq_true]
  refine ⟨⟨⟨⟨⟨⟨⟨⟨⟨⟨⟨⟨⟨⟨⟨⟨⟨⟨⟨⟨⟨⟨⟨⟨⟨⟨⟨⟨⟨⟨⟨f8_a, laidOut⟩, mapsRowedT⟩, f8_b⟩, f8_c⟩, rfl⟩, stopsT⟩, rfl⟩, stopKnobsT⟩, f8_d⟩, f8_e⟩, f8_f⟩, f8_g⟩, ?_⟩, ?_⟩, ?_⟩, ?_⟩, ?_⟩, ?_⟩, ?_⟩, ?_⟩, ?_⟩, ?_⟩, rfl⟩, stopsHeardT⟩, mayEnterT⟩, f8_li⟩, f8_mk⟩, ?_⟩, ?_⟩, ?_⟩, ?_⟩
  all_goals (as_aux_lemma => kernel_rfl)
end Go.Proofs.Ytiomojlcnemnhaa

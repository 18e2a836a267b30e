import Derived.Test.YtiomojlcnemnhaaTHxIcT
import Derived.Test.YtiomojlcnemnhaaTHxT
import Derived.Test.YtiomojlcnemnhaaTHxV4
import Derived.Test.YtiomojlcnemnhaaTHxM8
import Derived.Test.YtiomojlcnemnhaaRows
import Derived.Test.YtiomojlcnemnhaaChecked
import Derived.WalkKit
import Derived.ProofKit
import Derived.OpenShut
import Derived.Deep.DeepHandedRow
import Derived.Lib.LaidTab
import Derived.Stop.LaidErr
import Derived.LaidMore
/- Rules and literals that are small fit. (Seat ZD.) -/
namespace Go.Proofs.Ytiomojlcnemnhaa
open Go.Fx Go.RowKit Go.Ped

theorem lit_fit (x : Lit) (h : rowBulk x.row ≤ 1048576) : x.fit := by
  have h1 := lit_terms_bulk x
  simp only [Lit.terms, List.length_append] at h1
  exact ⟨lit_small x h, by omega, by omega⟩
theorem lits_sum : ∀ l : List Lit, (l.map fun x => x.l.length).sum ≤ rowsBulk (l.map Lit.row)
  | [] => Nat.zero_le _
  | x :: l => by
    have h1 := lit_terms_bulk x
    simp only [Lit.terms, List.length_append] at h1
    have h2 := lits_sum l
    simp only [List.map_cons, List.sum_cons, rowsBulk]
    omega
end Go.Proofs.Ytiomojlcnemnhaa

/- The law CheckTurned on what is small. (Labels of 3000 and more: the plain seat.) -/
namespace Go.Proofs.Ytiomojlcnemnhaa
open Go.Fx Go.RowKit Go.Ped

theorem m3007b (body more : List Lit) (sp sq : Sp) (b : Int) (hb1 : -9223372036854775808 ≤ b) (hb2 : b ≤ 9223372036854775807) (h : rowsBulk (body.map Lit.row) + rowsBulk (more.map Lit.row) ≤ 1048576) :
    Meets Try.prog GT 7 [.one (.sl (body.map Lit.row) sp), .one (.sl (more.map Lit.row) sq), .one (cI .i64 b)] (.x (.one (cB true))) := by
  have h1 := lits_sum body
  have h2 := lits_sum more
  have h3 := rows_len lit_bulk body
  have h4 := rows_len lit_bulk more
  exact m3007 body more sp sq b hb1 hb2 (fun x hx => lit_fit x (by have := rows_mem (row := Lit.row) hx; omega)) (fun x hx => lit_fit x (by have := rows_mem (row := Lit.row) hx; omega)) (by omega) (by omega) (by omega)
theorem not_agg78' : ¬ isAggTy Try.prog 115 := by
  rintro (⟨fs, h⟩ | ⟨n, e, h⟩) <;> rw [Try.underlying115] at h <;> cases h
theorem not_agg3 : ¬ isAggTy Try.prog 3 := by
  rintro (⟨fs, h⟩ | ⟨n, e, h⟩) <;> rw [Try.underlying3] at h <;> cases h
theorem ty_lits {c : C} (h : Typed Try.prog 115 [c]) : ∃ (l : List Lit) (sp : Sp), c = .sl (l.map Lit.row) sp := by
  obtain ⟨es, sp, he, hes, _⟩ := h.asSlice Try.underlying115
  injection he with he
  subst he
  obtain ⟨l, rfl⟩ := list_of (row := Lit.row) (es := es) fun x hx => ty_lit (hes x (List.mem_append_left _ hx))
  exact ⟨l, sp, rfl⟩
theorem ty_int {c : C} (h : Typed Try.prog 3 [c]) : ∃ n : Int, c = cI .i64 n ∧ -9223372036854775808 ≤ n ∧ n ≤ 9223372036854775807 := by
  obtain ⟨n, he, hw⟩ := h.asInt Try.underlying3
  injection he with he
  refine ⟨n, he, ?_⟩
  simp [Lit.wf] at hw
  have hm : IntKind.i64.min = -9223372036854775808 := by decide
  rw [hm] at hw
  exact hw
end Go.Proofs.Ytiomojlcnemnhaa

/- What the laws' rows share: the bound on what is read, the witness' world. (The plain seat; not reseated.) -/
namespace Go.Proofs.Ytiomojlcnemnhaa
open Go.Fx Go.RowKit Go.Ped

theorem own : ownKnob Try.prog.godebug = none := by kernel_rfl
theorem laidOut : laidOutB Try.prog = true := by kernel_rfl

/- The bound. -/
mutual
theorem bulk_le {H : Type} : ∀ d : DataW H, bulkD d ≤ Rows.uptoBulk d
  | .lit l => by cases l <;> simp [bulkD, Rows.uptoBulk]
  | .nil => by simp [bulkD, Rows.uptoBulk]
  | .ptr d => by simp [bulkD]
  | .slice a b => by have := bulks_le a; have := bulks_le b; simp only [bulkD, Rows.uptoBulk]; omega
  | .agg a => by have := bulks_le a; simp only [bulkD, Rows.uptoBulk]; omega
  | .iface t d => by simp [bulkD]
  | .map e => by simp [bulkD]
  | .held h => by simp [bulkD]
theorem bulks_le {H : Type} : ∀ l : List (DataW H), bulkDs l ≤ Rows.uptoBulkAll l
  | [] => by simp [bulkDs]
  | d :: l => by have := bulk_le d; have := bulks_le l; simp only [bulkDs, Rows.uptoBulkAll]; omega
end
theorem upto_bound {H : Type} {ds gs : List (DataW H)} (hk : Rows.uptoSmall H (ds ++ gs) = true) : bulkDs ds ≤ 1048576 := by
  have h : Rows.uptoBulkAll (ds ++ gs) ≤ 1048576 := of_decide_eq_true hk
  have h2 := bulks_le (ds ++ gs)
  have h3 : ∀ a b : List (DataW H), bulkDs a ≤ bulkDs (a ++ b) := by
    intro a b
    induction a with
    | nil => simp [bulkDs]
    | cons x a ih => simp only [List.cons_append, bulkDs]; omega
  have := h3 ds gs
  omega


theorem held_list {W : World} : Held (tab10 Try.prog) W := fun _ _ => trivial
/-- A world for the witness. -/
noncomputable abbrev wit (os : Os) : World := { (begin Try.prog (fun _ _ => 0) default).world with os := os }
end Go.Proofs.Ytiomojlcnemnhaa

/- What the rows' closed facts say of the program alone. -/
namespace Go.Proofs.Ytiomojlcnemnhaa
open Go.Fx Go.RowKit Go.Ped

theorem mapsRowedT : mapsRowed Try.prog = true := by kernel_rfl
theorem stopsT : (Try.prog.stops == []) = true := by kernel_rfl
theorem stopKnobsT : (Try.prog.stopKnobs == []) = true := by kernel_rfl
theorem stopsHeardT : Try.prog.stopsHeard = true := by kernel_rfl
theorem mayEnterT : Try.prog.mayEnter = true := by kernel_rfl
theorem liftsFinalT : (Rows.checkTurnedUptoRow.lifted == Try.prog.liftsFinal) = true := by kernel_rfl
theorem makeT : (Try.prog.make == some Rows.checkTurnedUptoRow.make) = true := by kernel_rfl
end Go.Proofs.Ytiomojlcnemnhaa

/- CheckTurned: its row's closed facts. -/
namespace Go.Proofs.Ytiomojlcnemnhaa
open Go.Fx Go.RowKit Go.Ped
theorem f7_a : Rows.checkTurnedUptoRow.wf (OpenSpec.ofChange (Rows.OpenSpec.upto Rows.checkTurnedSpec).bare) = true := by kernel_rfl
theorem f7_b : Try.f7.params.all (Try.prog.readableRec ·) = true := by kernel_rfl
theorem f7_c : namedTie Try.prog Rows.checkTurnedUptoRow.named Rows.checkTurnedSpec.vars = true := by kernel_rfl
theorem f7_d : (Rows.checkTurnedUptoRow.inPlace == Try.prog.inPlace 7) = true := by kernel_rfl
theorem f7_e : (Rows.checkTurnedUptoRow.unfollowed == Try.prog.unfollowed 7) = true := by kernel_rfl
theorem f7_f : (Rows.checkTurnedUptoRow.recurses == Try.prog.recurses 7) = true := by kernel_rfl
theorem f7_g : (Rows.checkTurnedUptoRow.named == Try.prog.varsNamed 7) = true := by kernel_rfl
theorem f7_mk : (Try.prog.make == some Rows.checkTurnedUptoRow.make) = true := makeT
theorem f7_li : (Rows.checkTurnedUptoRow.lifted == Try.prog.liftsFinal) = true := liftsFinalT
theorem f7_n : Try.prog.funcNamed Rows.checkTurnedUptoRow.func = some 7 := by kernel_rfl
theorem f7_i : Try.f7.isInstance Try.prog Rows.checkTurnedUptoRow.origin Rows.checkTurnedUptoRow.targs := of_decide_eq_true (by kernel_rfl)
theorem f7_w : Try.f7.isWrapper Try.prog Rows.checkTurnedUptoRow.wrapper Rows.checkTurnedUptoRow.mainSum := by unfold Func.isWrapper; first | (rw [if_pos (by decide +kernel)]; kernel_rfl) | (rw [if_neg (by decide +kernel)]; exact ⟨rfl, rfl⟩)
theorem j7 : joinedFacts Try.prog 7 Try.f7 (Rows.OpenSpec.upto Rows.checkTurnedSpec).bare Rows.checkTurnedUptoRow = true := by
  simp only [joinedFacts, Bool.and_eq_true]
  refine ⟨⟨⟨⟨⟨⟨⟨⟨⟨⟨⟨⟨⟨⟨⟨⟨⟨⟨⟨⟨⟨⟨⟨⟨⟨⟨⟨⟨⟨⟨⟨f7_a, laidOut⟩, mapsRowedT⟩, f7_b⟩, f7_c⟩, rfl⟩, stopsT⟩, rfl⟩, stopKnobsT⟩, f7_d⟩, f7_e⟩, f7_f⟩, f7_g⟩, ?_⟩, ?_⟩, ?_⟩, ?_⟩, ?_⟩, ?_⟩, ?_⟩, ?_⟩, ?_⟩, ?_⟩, rfl⟩, stopsHeardT⟩, mayEnterT⟩, f7_li⟩, f7_mk⟩, ?_⟩, ?_⟩, ?_⟩, ?_⟩
  all_goals (as_aux_lemma => kernel_rfl)
end Go.Proofs.Ytiomojlcnemnhaa

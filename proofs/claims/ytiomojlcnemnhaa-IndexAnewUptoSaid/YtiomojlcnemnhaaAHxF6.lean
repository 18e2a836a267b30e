import Derived.Test.YtiomojlcnemnhaaAHxR
import Derived.Test.YtiomojlcnemnhaaRows
import Derived.Test.YtiomojlcnemnhaaChecked
import Derived.WalkKit
import Derived.ProofKit
import Derived.OpenShut
import Derived.Deep.DeepHandedRow
import Derived.Lib.LaidTab
import Derived.Stop.LaidErr
import Derived.LaidMore
namespace Go.Proofs.Ytiomojlcnemnhaa
open Go.Fx Go.RowKit Go.Ped
end Go.Proofs.Ytiomojlcnemnhaa

namespace Go.Proofs.Ytiomojlcnemnhaa
open Go.Fx Go.RowKit Go.Ped
theorem own : ownKnob Try.prog.godebug = none := by kernel_rfl
theorem laidOut : laidOutB Try.prog = true := by kernel_rfl
mutual
theorem bulk_le {H : Type} : ∀ d : DataW H, bulkD d ≤ Rows.uptoBulk d
  | .lit l => by cases l <;> simp [bulkD, Rows.uptoBulk]
  | .nil => by simp [bulkD, Rows.uptoBulk]
  | .ptr d => by simp [bulkD]
  | .slice a b => by have := bulks_le a; have := bulks_le b; simp only [bulkD, Rows.uptoBulk]; omega
  | .agg a => by have := bulks_le a; simp only [bulkD, Rows.uptoBulk]; omega
  | .iface t d => by simp [bulkD]
  | .map e => by simp [bulkD]
  | .held h => by simp [bulkD]
theorem bulks_le {H : Type} : ∀ l : List (DataW H), bulkDs l ≤ Rows.uptoBulkAll l
  | [] => by simp [bulkDs]
  | d :: l => by have := bulk_le d; have := bulks_le l; simp only [bulkDs, Rows.uptoBulkAll]; omega
end
theorem upto_bound {H : Type} {ds gs : List (DataW H)} (hk : Rows.uptoSmall H (ds ++ gs) = true) : bulkDs ds ≤ 1048576 := by
  have h : Rows.uptoBulkAll (ds ++ gs) ≤ 1048576 := of_decide_eq_true hk
  have h2 := bulks_le (ds ++ gs)
  have h3 : ∀ a b : List (DataW H), bulkDs a ≤ bulkDs (a ++ b) := by
    intro a b
    induction a with
    | nil => simp [bulkDs]
    | cons x a ih => simp only [List.cons_append, bulkDs]; omega
  have := h3 ds gs
  omega
theorem held_list {W : World} : Held (tab10 Try.prog) W := fun _ _ => trivial
noncomputable abbrev wit (os : Os) : World := { (begin Try.prog (fun _ _ => 0) default).world with os := os }
end Go.Proofs.Ytiomojlcnemnhaa

namespace Go.Proofs.Ytiomojlcnemnhaa
open Go.Fx Go.RowKit Go.Ped
theorem mapsRowedT : mapsRowed Try.prog = true := by kernel_rfl
theorem stopsT : (Try.prog.stops == []) = true := by kernel_rfl
theorem stopKnobsT : (Try.prog.stopKnobs == []) = true := by kernel_rfl
theorem stopsHeardT : Try.prog.stopsHeard = true := by kernel_rfl
theorem mayEnterT : Try.prog.mayEnter = true := by kernel_rfl
theorem liftsFinalT : (Rows.checkTurnedUptoRow.lifted == Try.prog.liftsFinal) = true := by kernel_rfl
theorem makeT : (Try.prog.make == some Rows.checkTurnedUptoRow.make) = true := by kernel_rfl
end Go.Proofs.Ytiomojlcnemnhaa

namespace Go.Proofs.Ytiomojlcnemnhaa
open Go.Fx Go.RowKit Go.Ped
theorem f6_a : Rows.indexAnewUptoRow.wf (OpenSpec.ofChange (Rows.OpenSpec.upto Rows.indexAnewSpec).bare) = true := by kernel_rfl
theorem f6_b : Try.f6.params.all (Try.prog.readableRec ·) = true := by kernel_rfl
theorem f6_c : namedTie Try.prog Rows.indexAnewUptoRow.named Rows.indexAnewSpec.vars = true := by kernel_rfl
theorem f6_d : (Rows.indexAnewUptoRow.inPlace == Try.prog.inPlace 6) = true := by kernel_rfl
theorem f6_e : (Rows.indexAnewUptoRow.unfollowed == Try.prog.unfollowed 6) = true := by kernel_rfl
theorem f6_f : (Rows.indexAnewUptoRow.recurses == Try.prog.recurses 6) = true := by kernel_rfl
theorem f6_g : (Rows.indexAnewUptoRow.named == Try.prog.varsNamed 6) = true := by kernel_rfl
theorem f6_mk : (Try.prog.make == some Rows.indexAnewUptoRow.make) = true := makeT
theorem f6_li : (Rows.indexAnewUptoRow.lifted == Try.prog.liftsFinal) = true := liftsFinalT
theorem f6_n : Try.prog.funcNamed Rows.indexAnewUptoRow.func = some 6 := by kernel_rfl
theorem f6_i : Try.f6.isInstance Try.prog Rows.indexAnewUptoRow.origin Rows.indexAnewUptoRow.targs := of_decide_eq_true (by kernel_rfl)
theorem f6_w : Try.f6.isWrapper Try.prog Rows.indexAnewUptoRow.wrapper Rows.indexAnewUptoRow.mainSum := by unfold Func.isWrapper; first | (rw [if_pos (by decide +kernel)]; kernel_rfl) | (rw [if_neg (by decide +kernel)]; exact ⟨rfl, rfl⟩)
theorem j6 : joinedFacts Try.prog 6 Try.f6 (Rows.OpenSpec.upto Rows.indexAnewSpec).bare Rows.indexAnewUptoRow = true := by
  simp only [joinedFacts, Bool.and_eq_true]
  refine ⟨⟨⟨⟨⟨⟨⟨⟨⟨⟨⟨⟨⟨⟨⟨⟨⟨⟨⟨⟨⟨⟨⟨⟨⟨⟨⟨⟨⟨⟨⟨f6_a, laidOut⟩, mapsRowedT⟩, f6_b⟩, f6_c⟩, rfl⟩, stopsT⟩, rfl⟩, stopKnobsT⟩, f6_d⟩, f6_e⟩, f6_f⟩, f6_g⟩, ?_⟩, ?_⟩, ?_⟩, ?_⟩, ?_⟩, ?_⟩, ?_⟩, ?_⟩, ?_⟩, ?_⟩, rfl⟩, stopsHeardT⟩, mayEnterT⟩, f6_li⟩, f6_mk⟩, ?_⟩, ?_⟩, ?_⟩, ?_⟩
  all_goals (as_aux_lemma => kernel_rfl)
end Go.Proofs.Ytiomojlcnemnhaa

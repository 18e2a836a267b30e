import Derived.Test.YtiomojlcnemnhaaIHxR
import Derived.Test.YtiomojlcnemnhaaIHxM5
import Derived.Test.YtiomojlcnemnhaaRows
import Derived.Test.YtiomojlcnemnhaaChecked
import Derived.WalkKit
import Derived.ProofKit
import Derived.OpenShut
import Derived.Deep.DeepHandedRow
import Derived.Lib.LaidTab
import Derived.Stop.LaidErr
import Derived.LaidMore
namespace Go.Proofs.Ytiomojlcnemnhaa
open Go.Fx Go.RowKit Go.Ped
end Go.Proofs.Ytiomojlcnemnhaa

namespace Go.Proofs.Ytiomojlcnemnhaa
open Go.Fx Go.RowKit Go.Ped
theorem own : ownKnob Try.prog.godebug = none := by kernel_rfl
theorem laidOut : laidOutB Try.prog = true := by kernel_rfl
mutual
theorem bulk_le {H : Type} : ∀ d : DataW H, bulkD d ≤ Rows.uptoBulk d
  | .lit l => by cases l <;> simp [bulkD, Rows.uptoBulk]
  | .nil => by simp [bulkD, Rows.uptoBulk]
  | .ptr d => by simp [bulkD]
  | .slice a b => by have := bulks_le a; have := bulks_le b; simp only [bulkD, Rows.uptoBulk]; omega
  | .agg a => by have := bulks_le a; simp only [bulkD, Rows.uptoBulk]; omega
  | .iface t d => by simp [bulkD]
  | .map e => by simp [bulkD]
  | .held h => by simp [bulkD]
theorem bulks_le {H : Type} : ∀ l : List (DataW H), bulkDs l ≤ Rows.uptoBulkAll l
  | [] => by simp [bulkDs]
  | d :: l => by have := bulk_le d; have := bulks_le l; simp only [bulkDs, Rows.uptoBulkAll]; omega
end
theorem upto_bound {H : Type} {ds gs : List (DataW H)} (hk : Rows.uptoSmall H (ds ++ gs) = true) : bulkDs ds ≤ 1048576 := by
  have h : Rows.uptoBulkAll (ds ++ gs) ≤ 1048576 := of_decide_eq_true hk
  have h2 := bulks_le (ds ++ gs)
  have h3 : ∀ a b : List (DataW H), bulkDs a ≤ bulkDs (a ++ b) := by
    intro a b
    induction a with
    | nil => simp [bulkDs]
    | cons x a ih => simp only [List.cons_append, bulkDs]; omega
  have := h3 ds gs
  omega
theorem held_list {W : World} : Held (tab10 Try.prog) W := fun _ _ => trivial
noncomputable abbrev wit (os : Os) : World := { (begin Try.prog (fun _ _ => 0) default).world with os := os }
end Go.Proofs.Ytiomojlcnemnhaa

namespace Go.Proofs.Ytiomojlcnemnhaa
open Go.Fx Go.RowKit Go.Ped
theorem mapsRowedT : mapsRowed Try.prog = true := by kernel_rfl
theorem stopsT : (Try.prog.stops == []) = true := by kernel_rfl
theorem stopKnobsT : (Try.prog.stopKnobs == []) = true := by kernel_rfl
theorem stopsHeardT : Try.prog.stopsHeard = true := by kernel_rfl
theorem mayEnterT : Try.prog.mayEnter = true := by kernel_rfl
theorem liftsFinalT : (Rows.checkTurnedUptoRow.lifted == Try.prog.liftsFinal) = true := by kernel_rfl
theorem makeT : (Try.prog.make == some Rows.checkTurnedUptoRow.make) = true := by kernel_rfl
end Go.Proofs.Ytiomojlcnemnhaa

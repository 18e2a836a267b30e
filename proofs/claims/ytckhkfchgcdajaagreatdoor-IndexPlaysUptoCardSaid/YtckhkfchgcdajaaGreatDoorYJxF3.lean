import Derived.Test.YtckhkfchgcdajaaGreatDoorYFxZ
import Derived.KernelRfl
import Derived.Test.YtckhkfchgcdajaaGreatDoorCards
import Derived.Test.YtckhkfchgcdajaaGreatDoorTie
import Derived.Test.YtckhkfchgcdajaaGreatDoorChecked
import Derived.WalkKit
import Derived.ProofKit
import Derived.OpenShut
import Derived.Deep.DeepHandedRow
import Derived.Lib.LaidTab
import Derived.Stop.LaidErr
import Derived.LaidMore
namespace Go.Fx
open Go.RowKit
def tab10 (_ : Program) (_ : World) : Prop := True
end Go.Fx

namespace Go.Proofs.YtckhkfchgcdajaaGreatDoor
open Go.Fx Go.RowKit
theorem own : ownKnob Tryz.prog.godebug = none := by kernel_rfl
theorem laidOut : laidOutB Tryz.prog = true := by kernel_rfl
mutual
theorem bulk_le {H : Type} : ∀ d : DataW H, bulkD d ≤ Rows.uptoBulk d
  | .lit l => by cases l <;> simp [bulkD, Rows.uptoBulk]
  | .nil => by simp [bulkD, Rows.uptoBulk]
  | .ptr d => by simp [bulkD]
  | .slice a b => by have := bulks_le a; have := bulks_le b; simp only [bulkD, Rows.uptoBulk]; omega
  | .agg a => by have := bulks_le a; simp only [bulkD, Rows.uptoBulk]; omega
  | .iface t d => by simp [bulkD]
  | .map e => by simp [bulkD]
  | .held h => by simp [bulkD]
theorem bulks_le {H : Type} : ∀ l : List (DataW H), bulkDs l ≤ Rows.uptoBulkAll l
  | [] => by simp [bulkDs]
  | d :: l => by have := bulk_le d; have := bulks_le l; simp only [bulkDs, Rows.uptoBulkAll]; omega
end
theorem upto_bound {H : Type} {ds gs : List (DataW H)} (hk : Rows.uptoSmall H (ds ++ gs) = true) : bulkDs ds ≤ 1048576 := by
  have h : Rows.uptoBulkAll (ds ++ gs) ≤ 1048576 := of_decide_eq_true hk
  have h2 := bulks_le (ds ++ gs)
  have h3 : ∀ a b : List (DataW H), bulkDs a ≤ bulkDs (a ++ b) := by
    intro a b
    induction a with
    | nil => simp [bulkDs]
    | cons x a ih => simp only [List.cons_append, bulkDs]; omega
  have := h3 ds gs
  omega
abbrev laidList : List (String × DataW Unit) := [("math/bits.deBruijn32tab", Rows.laid_math_bits_deBruijn32tab), ("math/bits.deBruijn64tab", Rows.laid_math_bits_deBruijn64tab), ("internal/strconv.uint64pow10", Rows.laid_internal_strconv_uint64pow10)]
theorem held_list {W : World} : Held (tab10 Tryz.prog) W := fun _ _ => trivial
noncomputable abbrev wit (os : Os) : World := World.doorLaid Tryz.prog 60 os
end Go.Proofs.YtckhkfchgcdajaaGreatDoor

namespace Go.Proofs.YtckhkfchgcdajaaGreatDoor
open Go.Fx Go.RowKit
theorem mapsRowedT : mapsRowed Tryz.prog = true := by kernel_rfl
theorem stopsT : (Tryz.prog.stops == []) = true := by kernel_rfl
theorem stopKnobsT : (Tryz.prog.stopKnobs == []) = true := by kernel_rfl
theorem stopsHeardT : Tryz.prog.stopsHeard = true := by kernel_rfl
theorem mayEnterT : Tryz.prog.mayEnter = true := by kernel_rfl
theorem liftsFinalT : (Rows.indexPlaysUptoRow.lifted == Tryz.prog.liftsFinal) = true := by kernel_rfl
theorem makeT : (Tryz.prog.make == some Rows.indexPlaysUptoRow.make) = true := by kernel_rfl
end Go.Proofs.YtckhkfchgcdajaaGreatDoor

namespace Go.Proofs.YtckhkfchgcdajaaGreatDoor
open Go.Fx Go.RowKit
theorem f3_a : Rows.indexPlaysUptoRow.wf (OpenSpec.ofChange (Rows.OpenSpec.upto Rows.indexPlaysSpec).bare) = true := by kernel_rfl
theorem f3_b : Tryz.f3.params.all (Tryz.prog.readableRec ·) = true := by kernel_rfl
theorem f3_c : namedTie Tryz.prog Rows.indexPlaysUptoRow.named Rows.indexPlaysSpec.vars = true := by kernel_rfl
theorem f3_d : (Rows.indexPlaysUptoRow.inPlace == Tryz.prog.inPlace 3) = true := by kernel_rfl
theorem f3_e : (Rows.indexPlaysUptoRow.unfollowed == Tryz.prog.unfollowed 3) = true := by kernel_rfl
theorem f3_f : (Rows.indexPlaysUptoRow.recurses == Tryz.prog.recurses 3) = true := by kernel_rfl
theorem f3_g : (Rows.indexPlaysUptoRow.named == Tryz.prog.varsNamed 3) = true := by kernel_rfl
theorem f3_mk : (Tryz.prog.make == some Rows.indexPlaysUptoRow.make) = true := makeT
theorem f3_li : (Rows.indexPlaysUptoRow.lifted == Tryz.prog.liftsFinal) = true := liftsFinalT
theorem f3_n : Tryz.prog.funcNamed Rows.indexPlaysUptoRow.func = some 3 := by kernel_rfl
theorem f3_i : Tryz.f3.isInstance Tryz.prog Rows.indexPlaysUptoRow.origin Rows.indexPlaysUptoRow.targs := of_decide_eq_true (by kernel_rfl)
theorem f3_w : Tryz.f3.isWrapper Tryz.prog Rows.indexPlaysUptoRow.wrapper Rows.indexPlaysUptoRow.mainSum := by unfold Func.isWrapper; first | (rw [if_pos (by decide +kernel)]; kernel_rfl) | (rw [if_neg (by decide +kernel)]; exact ⟨rfl, rfl⟩)
theorem j3 : joinedFacts Tryz.prog 3 Tryz.f3 (Rows.OpenSpec.upto Rows.indexPlaysSpec).bare Rows.indexPlaysUptoRow = true := by
  simp only [joinedFacts, Bool.and_eq_true]
  refine ⟨⟨⟨⟨⟨⟨⟨⟨⟨⟨⟨⟨⟨⟨⟨⟨⟨⟨⟨⟨⟨⟨⟨⟨⟨⟨⟨⟨⟨⟨⟨f3_a, laidOut⟩, mapsRowedT⟩, f3_b⟩, f3_c⟩, rfl⟩, stopsT⟩, rfl⟩, stopKnobsT⟩, f3_d⟩, f3_e⟩, f3_f⟩, f3_g⟩, ?_⟩, ?_⟩, ?_⟩, ?_⟩, ?_⟩, ?_⟩, ?_⟩, ?_⟩, ?_⟩, ?_⟩, rfl⟩, stopsHeardT⟩, mayEnterT⟩, f3_li⟩, f3_mk⟩, ?_⟩, ?_⟩, ?_⟩, ?_⟩
  all_goals (as_aux_lemma => kernel_rfl)
end Go.Proofs.YtckhkfchgcdajaaGreatDoor

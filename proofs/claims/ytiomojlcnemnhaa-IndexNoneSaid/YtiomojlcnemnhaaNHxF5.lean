import Derived.Test.YtiomojlcnemnhaaNHxR
import Derived.Test.YtiomojlcnemnhaaRows
import Derived.Test.YtiomojlcnemnhaaChecked
import Derived.WalkKit
import Derived.ProofKit
import Derived.OpenShut
import Derived.Deep.DeepHandedRow
import Derived.Lib.LaidTab
import Derived.Stop.LaidErr
import Derived.LaidMore
namespace Go.Proofs.Ytiomojlcnemnhaa
open Go.Fx Go.RowKit Go.Ped
end Go.Proofs.Ytiomojlcnemnhaa

namespace Go.Proofs.Ytiomojlcnemnhaa
open Go.Fx Go.RowKit Go.Ped
theorem own : ownKnob Try.prog.godebug = none := by kernel_rfl
theorem laidOut : laidOutB Try.prog = true := by kernel_rfl
theorem held_list {W : World} : Held (tab10 Try.prog) W := fun _ _ => trivial
noncomputable abbrev wit (os : Os) : World := { (begin Try.prog (fun _ _ => 0) default).world with os := os }
end Go.Proofs.Ytiomojlcnemnhaa

namespace Go.Proofs.Ytiomojlcnemnhaa
open Go.Fx Go.RowKit Go.Ped
theorem mapsRowedT : mapsRowed Try.prog = true := by kernel_rfl
theorem stopsT : (Try.prog.stops == []) = true := by kernel_rfl
theorem stopKnobsT : (Try.prog.stopKnobs == []) = true := by kernel_rfl
theorem stopsHeardT : Try.prog.stopsHeard = true := by kernel_rfl
theorem mayEnterT : Try.prog.mayEnter = true := by kernel_rfl
theorem liftsFinalT : (Rows.checkTurnedUptoRow.lifted == Try.prog.liftsFinal) = true := by kernel_rfl
theorem makeT : (Try.prog.make == some Rows.checkTurnedUptoRow.make) = true := by kernel_rfl
end Go.Proofs.Ytiomojlcnemnhaa

namespace Go.Proofs.Ytiomojlcnemnhaa
open Go.Fx Go.RowKit Go.Ped
theorem f5_a : Rows.indexNoneRow.wf (OpenSpec.ofChange (OpenSpec.ofChange Rows.indexNoneSpec).bare) = true := by kernel_rfl
theorem f5_b : Try.f5.params.all (Try.prog.readableRec ·) = true := by kernel_rfl
theorem f5_c : namedTie Try.prog Rows.indexNoneRow.named Rows.indexNoneSpec.vars = true := by kernel_rfl
theorem f5_d : (Rows.indexNoneRow.inPlace == Try.prog.inPlace 5) = true := by kernel_rfl
theorem f5_e : (Rows.indexNoneRow.unfollowed == Try.prog.unfollowed 5) = true := by kernel_rfl
theorem f5_f : (Rows.indexNoneRow.recurses == Try.prog.recurses 5) = true := by kernel_rfl
theorem f5_g : (Rows.indexNoneRow.named == Try.prog.varsNamed 5) = true := by kernel_rfl
theorem f5_mk : (Try.prog.make == some Rows.indexNoneRow.make) = true := makeT
theorem f5_li : (Rows.indexNoneRow.lifted == Try.prog.liftsFinal) = true := liftsFinalT
theorem f5_n : Try.prog.funcNamed Rows.indexNoneRow.func = some 5 := by kernel_rfl
theorem f5_i : Try.f5.isInstance Try.prog Rows.indexNoneRow.origin Rows.indexNoneRow.targs := of_decide_eq_true (by kernel_rfl)
theorem f5_w : Try.f5.isWrapper Try.prog Rows.indexNoneRow.wrapper Rows.indexNoneRow.mainSum := by unfold Func.isWrapper; first | (rw [if_pos (by decide +kernel)]; kernel_rfl) | (rw [if_neg (by decide +kernel)]; exact ⟨rfl, rfl⟩)
theorem j5 : joinedFacts Try.prog 5 Try.f5 (OpenSpec.ofChange Rows.indexNoneSpec).bare Rows.indexNoneRow = true := by
  simp only [joinedFacts, Bool.and_eq_true]
  refine ⟨⟨⟨⟨⟨⟨⟨⟨⟨⟨⟨⟨⟨⟨⟨⟨⟨⟨⟨⟨⟨⟨⟨⟨⟨⟨⟨⟨⟨⟨⟨f5_a, laidOut⟩, mapsRowedT⟩, f5_b⟩, f5_c⟩, rfl⟩, stopsT⟩, rfl⟩, stopKnobsT⟩, f5_d⟩, f5_e⟩, f5_f⟩, f5_g⟩, ?_⟩, ?_⟩, ?_⟩, ?_⟩, ?_⟩, ?_⟩, ?_⟩, ?_⟩, ?_⟩, ?_⟩, rfl⟩, stopsHeardT⟩, mayEnterT⟩, f5_li⟩, f5_mk⟩, ?_⟩, ?_⟩, ?_⟩, ?_⟩
  all_goals (as_aux_lemma => kernel_rfl)
end Go.Proofs.Ytiomojlcnemnhaa

/- TermApplies: its row's closed facts. -/
import Derived.Test.YtiomojlcnemnhaaGreatDoorAPedF
namespace Go.Proofs.YtiomojlcnemnhaaGreatDoor
open Go.Fx Go.RowKit Go.Ped
theorem f3_a : Rows.termAppliesUptoRow.wf (OpenSpec.ofChange (Rows.OpenSpec.upto Rows.termAppliesSpec).bare) = true := by kernel_rfl
theorem f3_b : Tryz.f3.params.all (Tryz.prog.readableRec ·) = true := by kernel_rfl
theorem f3_c : namedTie Tryz.prog Rows.termAppliesUptoRow.named Rows.termAppliesSpec.vars = true := by kernel_rfl
theorem f3_d : (Rows.termAppliesUptoRow.inPlace == Tryz.prog.inPlace 3) = true := by kernel_rfl
theorem f3_e : (Rows.termAppliesUptoRow.unfollowed == Tryz.prog.unfollowed 3) = true := by kernel_rfl
theorem f3_f : (Rows.termAppliesUptoRow.recurses == Tryz.prog.recurses 3) = true := by kernel_rfl
theorem f3_g : (Rows.termAppliesUptoRow.named == Tryz.prog.varsNamed 3) = true := by kernel_rfl
theorem f3_mk : (Tryz.prog.make == some Rows.termAppliesUptoRow.make) = true := makeT
theorem f3_li : (Rows.termAppliesUptoRow.lifted == Tryz.prog.liftsFinal) = true := liftsFinalT
theorem f3_n : Tryz.prog.funcNamed Rows.termAppliesUptoRow.func = some 3 := by kernel_rfl
theorem f3_i : Tryz.f3.isInstance Tryz.prog Rows.termAppliesUptoRow.origin Rows.termAppliesUptoRow.targs := of_decide_eq_true (by kernel_rfl)
theorem f3_w : Tryz.f3.isWrapper Tryz.prog Rows.termAppliesUptoRow.wrapper Rows.termAppliesUptoRow.mainSum := by unfold Func.isWrapper; first | (rw [if_pos (by decide +kernel)]; kernel_rfl) | (rw [if_neg (by decide +kernel)]; exact ⟨rfl, rfl⟩)
theorem j3 : joinedFacts Tryz.prog 3 Tryz.f3 (Rows.OpenSpec.upto Rows.termAppliesSpec).bare Rows.termAppliesUptoRow = true := by
  simp only [joinedFacts, Bool.and_eq_true]
  refine ⟨⟨⟨⟨⟨⟨⟨⟨⟨⟨⟨⟨⟨⟨⟨⟨⟨⟨⟨⟨⟨⟨⟨⟨⟨⟨⟨⟨⟨⟨⟨f3_a, laidOut⟩, mapsRowedT⟩, f3_b⟩, f3_c⟩, rfl⟩, stopsT⟩, rfl⟩, stopKnobsT⟩, f3_d⟩, f3_e⟩, f3_f⟩, f3_g⟩, ?_⟩, ?_⟩, ?_⟩, ?_⟩, ?_⟩, ?_⟩, ?_⟩, ?_⟩, ?_⟩, ?_⟩, rfl⟩, stopsHeardT⟩, mayEnterT⟩, f3_li⟩, f3_mk⟩, ?_⟩, ?_⟩, ?_⟩, ?_⟩
  all_goals (as_aux_lemma => kernel_rfl)
end Go.Proofs.YtiomojlcnemnhaaGreatDoor

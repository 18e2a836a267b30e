/- CheckFixed: its row's closed facts. -/
import Derived.Test.YtiomojlcnemnhaaGreatDoorGxFacts
namespace Go.Proofs.YtiomojlcnemnhaaGreatDoor
open Go.Fx Go.RowKit Go.Ped
theorem f11_a : Rows.checkFixedUptoRow.wf (OpenSpec.ofChange (Rows.OpenSpec.upto Rows.checkFixedSpec).bare) = true := by kernel_rfl
theorem f11_b : Tryz.f11.params.all (Tryz.prog.readableRec ·) = true := by kernel_rfl
theorem f11_c : namedTie Tryz.prog Rows.checkFixedUptoRow.named Rows.checkFixedSpec.vars = true := by kernel_rfl
theorem f11_d : (Rows.checkFixedUptoRow.inPlace == Tryz.prog.inPlace 11) = true := by kernel_rfl
theorem f11_e : (Rows.checkFixedUptoRow.unfollowed == Tryz.prog.unfollowed 11) = true := by kernel_rfl
theorem f11_f : (Rows.checkFixedUptoRow.recurses == Tryz.prog.recurses 11) = true := by kernel_rfl
theorem f11_g : (Rows.checkFixedUptoRow.named == Tryz.prog.varsNamed 11) = true := by kernel_rfl
theorem f11_mk : (Tryz.prog.make == some Rows.checkFixedUptoRow.make) = true := makeT
theorem f11_li : (Rows.checkFixedUptoRow.lifted == Tryz.prog.liftsFinal) = true := liftsFinalT
theorem f11_n : Tryz.prog.funcNamed Rows.checkFixedUptoRow.func = some 11 := by kernel_rfl
theorem f11_i : Tryz.f11.isInstance Tryz.prog Rows.checkFixedUptoRow.origin Rows.checkFixedUptoRow.targs := of_decide_eq_true (by kernel_rfl)
theorem f11_w : Tryz.f11.isWrapper Tryz.prog Rows.checkFixedUptoRow.wrapper Rows.checkFixedUptoRow.mainSum := by unfold Func.isWrapper; first | (rw [if_pos (by decide +kernel)]; kernel_rfl) | (rw [if_neg (by decide +kernel)]; exact ⟨rfl, rfl⟩)
theorem j11 : joinedFacts Tryz.prog 11 Tryz.f11 (Rows.OpenSpec.upto Rows.checkFixedSpec).bare Rows.checkFixedUptoRow = true := by
  simp only [joinedFacts, Bool.and_eq_true]
  refine ⟨⟨⟨⟨⟨⟨⟨⟨⟨⟨⟨⟨⟨⟨⟨⟨⟨⟨⟨⟨⟨⟨⟨⟨⟨⟨⟨⟨⟨⟨⟨f11_a, laidOut⟩, mapsRowedT⟩, f11_b⟩, f11_c⟩, rfl⟩, stopsT⟩, rfl⟩, stopKnobsT⟩, f11_d⟩, f11_e⟩, f11_f⟩, f11_g⟩, ?_⟩, ?_⟩, ?_⟩, ?_⟩, ?_⟩, ?_⟩, ?_⟩, ?_⟩, ?_⟩, ?_⟩, rfl⟩, stopsHeardT⟩, mayEnterT⟩, f11_li⟩, f11_mk⟩, ?_⟩, ?_⟩, ?_⟩, ?_⟩
  all_goals (as_aux_lemma => kernel_rfl)
end Go.Proofs.YtiomojlcnemnhaaGreatDoor

/- CheckLimits: its row's closed facts. -/
import Derived.Test.YtiomojlcnemnhaaDoorDxFacts
namespace Go.Proofs.YtiomojlcnemnhaaDoor
open Go.Fx Go.RowKit Go.Ped
theorem f9_a : Rows.checkLimitsUptoRow.wf (OpenSpec.ofChange (Rows.OpenSpec.upto Rows.checkLimitsSpec).bare) = true := by kernel_rfl
theorem f9_b : Tryd.f9.params.all (Tryd.prog.readableRec ·) = true := by kernel_rfl
theorem f9_c : namedTie Tryd.prog Rows.checkLimitsUptoRow.named Rows.checkLimitsSpec.vars = true := by kernel_rfl
theorem f9_d : (Rows.checkLimitsUptoRow.inPlace == Tryd.prog.inPlace 9) = true := by kernel_rfl
theorem f9_e : (Rows.checkLimitsUptoRow.unfollowed == Tryd.prog.unfollowed 9) = true := by kernel_rfl
theorem f9_f : (Rows.checkLimitsUptoRow.recurses == Tryd.prog.recurses 9) = true := by kernel_rfl
theorem f9_g : (Rows.checkLimitsUptoRow.named == Tryd.prog.varsNamed 9) = true := by kernel_rfl
theorem f9_mk : (Tryd.prog.make == some Rows.checkLimitsUptoRow.make) = true := makeT
theorem f9_li : (Rows.checkLimitsUptoRow.lifted == Tryd.prog.liftsFinal) = true := liftsFinalT
theorem f9_n : Tryd.prog.funcNamed Rows.checkLimitsUptoRow.func = some 9 := by kernel_rfl
theorem f9_i : Tryd.f9.isInstance Tryd.prog Rows.checkLimitsUptoRow.origin Rows.checkLimitsUptoRow.targs := of_decide_eq_true (by kernel_rfl)
theorem f9_w : Tryd.f9.isWrapper Tryd.prog Rows.checkLimitsUptoRow.wrapper Rows.checkLimitsUptoRow.mainSum := by unfold Func.isWrapper; first | (rw [if_pos (by decide +kernel)]; kernel_rfl) | (rw [if_neg (by decide +kernel)]; exact ⟨rfl, rfl⟩)
theorem j9 : joinedFacts Tryd.prog 9 Tryd.f9 (Rows.OpenSpec.upto Rows.checkLimitsSpec).bare Rows.checkLimitsUptoRow = true := by
  simp only [joinedFacts, Bool.and_eq_true]
  refine ⟨⟨⟨⟨⟨⟨⟨⟨⟨⟨⟨⟨⟨⟨⟨⟨⟨⟨⟨⟨⟨⟨⟨⟨⟨⟨⟨⟨⟨⟨⟨f9_a, laidOut⟩, mapsRowedT⟩, f9_b⟩, f9_c⟩, rfl⟩, stopsT⟩, rfl⟩, stopKnobsT⟩, f9_d⟩, f9_e⟩, f9_f⟩, f9_g⟩, ?_⟩, ?_⟩, ?_⟩, ?_⟩, ?_⟩, ?_⟩, ?_⟩, ?_⟩, ?_⟩, ?_⟩, rfl⟩, stopsHeardT⟩, mayEnterT⟩, f9_li⟩, f9_mk⟩, ?_⟩, ?_⟩, ?_⟩, ?_⟩
  all_goals (as_aux_lemma => kernel_rfl)
end Go.Proofs.YtiomojlcnemnhaaDoor

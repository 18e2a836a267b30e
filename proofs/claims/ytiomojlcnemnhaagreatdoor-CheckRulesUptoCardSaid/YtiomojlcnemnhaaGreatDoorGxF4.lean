/- CheckRules: its row's closed facts. -/
import Derived.Test.YtiomojlcnemnhaaGreatDoorGxFacts
namespace Go.Proofs.YtiomojlcnemnhaaGreatDoor
open Go.Fx Go.RowKit Go.Ped
theorem f4_a : Rows.checkRulesUptoRow.wf (OpenSpec.ofChange (Rows.OpenSpec.upto Rows.checkRulesSpec).bare) = true := by kernel_rfl
theorem f4_b : Tryz.f4.params.all (Tryz.prog.readableRec ·) = true := by kernel_rfl
theorem f4_c : namedTie Tryz.prog Rows.checkRulesUptoRow.named Rows.checkRulesSpec.vars = true := by kernel_rfl
theorem f4_d : (Rows.checkRulesUptoRow.inPlace == Tryz.prog.inPlace 4) = true := by kernel_rfl
theorem f4_e : (Rows.checkRulesUptoRow.unfollowed == Tryz.prog.unfollowed 4) = true := by kernel_rfl
theorem f4_f : (Rows.checkRulesUptoRow.recurses == Tryz.prog.recurses 4) = true := by kernel_rfl
theorem f4_g : (Rows.checkRulesUptoRow.named == Tryz.prog.varsNamed 4) = true := by kernel_rfl
theorem f4_mk : (Tryz.prog.make == some Rows.checkRulesUptoRow.make) = true := makeT
theorem f4_li : (Rows.checkRulesUptoRow.lifted == Tryz.prog.liftsFinal) = true := liftsFinalT
theorem f4_n : Tryz.prog.funcNamed Rows.checkRulesUptoRow.func = some 4 := by kernel_rfl
theorem f4_i : Tryz.f4.isInstance Tryz.prog Rows.checkRulesUptoRow.origin Rows.checkRulesUptoRow.targs := of_decide_eq_true (by kernel_rfl)
theorem f4_w : Tryz.f4.isWrapper Tryz.prog Rows.checkRulesUptoRow.wrapper Rows.checkRulesUptoRow.mainSum := by unfold Func.isWrapper; first | (rw [if_pos (by decide +kernel)]; kernel_rfl) | (rw [if_neg (by decide +kernel)]; exact ⟨rfl, rfl⟩)
theorem j4 : joinedFacts Tryz.prog 4 Tryz.f4 (Rows.OpenSpec.upto Rows.checkRulesSpec).bare Rows.checkRulesUptoRow = true := by
  simp only [joinedFacts, Bool.and_eq_true]
  refine ⟨⟨⟨⟨⟨⟨⟨⟨⟨⟨⟨⟨⟨⟨⟨⟨⟨⟨⟨⟨⟨⟨⟨⟨⟨⟨⟨⟨⟨⟨⟨f4_a, laidOut⟩, mapsRowedT⟩, f4_b⟩, f4_c⟩, rfl⟩, stopsT⟩, rfl⟩, stopKnobsT⟩, f4_d⟩, f4_e⟩, f4_f⟩, f4_g⟩, ?_⟩, ?_⟩, ?_⟩, ?_⟩, ?_⟩, ?_⟩, ?_⟩, ?_⟩, ?_⟩, ?_⟩, rfl⟩, stopsHeardT⟩, mayEnterT⟩, f4_li⟩, f4_mk⟩, ?_⟩, ?_⟩, ?_⟩, ?_⟩
  all_goals (as_aux_lemma => kernel_rfl)
end Go.Proofs.YtiomojlcnemnhaaGreatDoor

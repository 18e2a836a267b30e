/- TermRules: its row's closed facts. -/
import Derived.Test.YtiomojlcnemnhaaDoorDxFacts
namespace Go.Proofs.YtiomojlcnemnhaaDoor
open Go.Fx Go.RowKit Go.Ped
theorem f12_a : Rows.termRulesUptoRow.wf (OpenSpec.ofChange (Rows.OpenSpec.upto Rows.termRulesSpec).bare) = true := by kernel_rfl
theorem f12_b : Tryd.f12.params.all (Tryd.prog.readableRec ·) = true := by kernel_rfl
theorem f12_c : namedTie Tryd.prog Rows.termRulesUptoRow.named Rows.termRulesSpec.vars = true := by kernel_rfl
theorem f12_d : (Rows.termRulesUptoRow.inPlace == Tryd.prog.inPlace 12) = true := by kernel_rfl
theorem f12_e : (Rows.termRulesUptoRow.unfollowed == Tryd.prog.unfollowed 12) = true := by kernel_rfl
theorem f12_f : (Rows.termRulesUptoRow.recurses == Tryd.prog.recurses 12) = true := by kernel_rfl
theorem f12_g : (Rows.termRulesUptoRow.named == Tryd.prog.varsNamed 12) = true := by kernel_rfl
theorem f12_mk : (Tryd.prog.make == some Rows.termRulesUptoRow.make) = true := makeT
theorem f12_li : (Rows.termRulesUptoRow.lifted == Tryd.prog.liftsFinal) = true := liftsFinalT
theorem f12_n : Tryd.prog.funcNamed Rows.termRulesUptoRow.func = some 12 := by kernel_rfl
theorem f12_i : Tryd.f12.isInstance Tryd.prog Rows.termRulesUptoRow.origin Rows.termRulesUptoRow.targs := of_decide_eq_true (by kernel_rfl)
theorem f12_w : Tryd.f12.isWrapper Tryd.prog Rows.termRulesUptoRow.wrapper Rows.termRulesUptoRow.mainSum := by unfold Func.isWrapper; first | (rw [if_pos (by decide +kernel)]; kernel_rfl) | (rw [if_neg (by decide +kernel)]; exact ⟨rfl, rfl⟩)
theorem j12 : joinedFacts Tryd.prog 12 Tryd.f12 (Rows.OpenSpec.upto Rows.termRulesSpec).bare Rows.termRulesUptoRow = true := by
  simp only [joinedFacts, Bool.and_eq_true]
  refine ⟨⟨⟨⟨⟨⟨⟨⟨⟨⟨⟨⟨⟨⟨⟨⟨⟨⟨⟨⟨⟨⟨⟨⟨⟨⟨⟨⟨⟨⟨⟨f12_a, laidOut⟩, mapsRowedT⟩, f12_b⟩, f12_c⟩, rfl⟩, stopsT⟩, rfl⟩, stopKnobsT⟩, f12_d⟩, f12_e⟩, f12_f⟩, f12_g⟩, ?_⟩, ?_⟩, ?_⟩, ?_⟩, ?_⟩, ?_⟩, ?_⟩, ?_⟩, ?_⟩, ?_⟩, rfl⟩, stopsHeardT⟩, mayEnterT⟩, f12_li⟩, f12_mk⟩, ?_⟩, ?_⟩, ?_⟩, ?_⟩
  all_goals (as_aux_lemma => kernel_rfl)
end Go.Proofs.YtiomojlcnemnhaaDoor

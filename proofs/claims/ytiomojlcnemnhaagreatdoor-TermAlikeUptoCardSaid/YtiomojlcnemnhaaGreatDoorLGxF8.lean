import Derived.Test.YtiomojlcnemnhaaGreatDoorLGxW1
namespace Go.Proofs.YtiomojlcnemnhaaGreatDoor
open Go.Fx Go.RowKit Go.Ped
theorem f8_a : Rows.termAlikeUptoRow.wf (OpenSpec.ofChange (Rows.OpenSpec.upto Rows.termAlikeSpec).bare) = true := by kernel_rfl
theorem f8_b : Tryz.f8.params.all (Tryz.prog.readableRec ·) = true := by kernel_rfl
theorem f8_c : namedTie Tryz.prog Rows.termAlikeUptoRow.named Rows.termAlikeSpec.vars = true := by kernel_rfl
theorem f8_d : (Rows.termAlikeUptoRow.inPlace == Tryz.prog.inPlace 8) = true := by kernel_rfl
theorem f8_e : (Rows.termAlikeUptoRow.unfollowed == Tryz.prog.unfollowed 8) = true := by kernel_rfl
theorem f8_f : (Rows.termAlikeUptoRow.recurses == Tryz.prog.recurses 8) = true := by kernel_rfl
theorem f8_g : (Rows.termAlikeUptoRow.named == Tryz.prog.varsNamed 8) = true := by kernel_rfl
theorem f8_mk : (Tryz.prog.make == some Rows.termAlikeUptoRow.make) = true := makeT
theorem f8_li : (Rows.termAlikeUptoRow.lifted == Tryz.prog.liftsFinal) = true := liftsFinalT
theorem f8_n : Tryz.prog.funcNamed Rows.termAlikeUptoRow.func = some 8 := by kernel_rfl
theorem f8_i : Tryz.f8.isInstance Tryz.prog Rows.termAlikeUptoRow.origin Rows.termAlikeUptoRow.targs := of_decide_eq_true (by kernel_rfl)
theorem f8_w : Tryz.f8.isWrapper Tryz.prog Rows.termAlikeUptoRow.wrapper Rows.termAlikeUptoRow.mainSum := by unfold Func.isWrapper; first | (rw [if_pos (by decide +kernel)]; kernel_rfl) | (rw [if_neg (by decide +kernel)]; exact ⟨rfl, rfl⟩)
theorem j8 : joinedFacts Tryz.prog 8 Tryz.f8 (Rows.OpenSpec.upto Rows.termAlikeSpec).bare Rows.termAlikeUptoRow = true := by
  simp only [joinedFacts, Bool.and_eq_true]
  refine ⟨⟨⟨⟨⟨⟨⟨⟨⟨⟨⟨⟨⟨⟨⟨⟨⟨⟨⟨⟨⟨⟨⟨⟨⟨⟨⟨⟨⟨⟨⟨f8_a, laidOut⟩, mapsRowedT⟩, f8_b⟩, f8_c⟩, rfl⟩, stopsT⟩, rfl⟩, stopKnobsT⟩, f8_d⟩, f8_e⟩, f8_f⟩, f8_g⟩, ?_⟩, ?_⟩, ?_⟩, ?_⟩, ?_⟩, ?_⟩, ?_⟩, ?_⟩, ?_⟩, ?_⟩, rfl⟩, stopsHeardT⟩, mayEnterT⟩, f8_li⟩, f8_mk⟩, ?_⟩, ?_⟩, ?_⟩, ?_⟩
  all_goals (as_aux_lemma => kernel_rfl)
end Go.Proofs.YtiomojlcnemnhaaGreatDoor

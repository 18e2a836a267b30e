import Derived.Test.YtiomojlcnemnhaaDoorWPedF
namespace Go.Proofs.YtiomojlcnemnhaaDoor
open Go.Fx Go.RowKit Go.Ped
theorem f17_a : Rows.planWiderUptoRow.wf (OpenSpec.ofChange (Rows.OpenSpec.upto Rows.planWiderSpec).bare) = true := by kernel_rfl
theorem f17_b : Tryd.f17.params.all (Tryd.prog.readableRec ·) = true := by kernel_rfl
theorem f17_c : namedTie Tryd.prog Rows.planWiderUptoRow.named Rows.planWiderSpec.vars = true := by kernel_rfl
theorem f17_d : (Rows.planWiderUptoRow.inPlace == Tryd.prog.inPlace 17) = true := by kernel_rfl
theorem f17_e : (Rows.planWiderUptoRow.unfollowed == Tryd.prog.unfollowed 17) = true := by kernel_rfl
theorem f17_f : (Rows.planWiderUptoRow.recurses == Tryd.prog.recurses 17) = true := by kernel_rfl
theorem f17_g : (Rows.planWiderUptoRow.named == Tryd.prog.varsNamed 17) = true := by kernel_rfl
theorem f17_mk : (Tryd.prog.make == some Rows.planWiderUptoRow.make) = true := makeT
theorem f17_li : (Rows.planWiderUptoRow.lifted == Tryd.prog.liftsFinal) = true := liftsFinalT
theorem f17_n : Tryd.prog.funcNamed Rows.planWiderUptoRow.func = some 17 := by kernel_rfl
theorem f17_i : Tryd.f17.isInstance Tryd.prog Rows.planWiderUptoRow.origin Rows.planWiderUptoRow.targs := of_decide_eq_true (by kernel_rfl)
theorem f17_w : Tryd.f17.isWrapper Tryd.prog Rows.planWiderUptoRow.wrapper Rows.planWiderUptoRow.mainSum := by unfold Func.isWrapper; first | (rw [if_pos (by decide +kernel)]; kernel_rfl) | (rw [if_neg (by decide +kernel)]; exact ⟨rfl, rfl⟩)
theorem j17 : joinedFacts Tryd.prog 17 Tryd.f17 (Rows.OpenSpec.upto Rows.planWiderSpec).bare Rows.planWiderUptoRow = true := by
  simp only [joinedFacts, Bool.and_eq_true]
  refine ⟨⟨⟨⟨⟨⟨⟨⟨⟨⟨⟨⟨⟨⟨⟨⟨⟨⟨⟨⟨⟨⟨⟨⟨⟨⟨⟨⟨⟨⟨⟨f17_a, laidOut⟩, mapsRowedT⟩, f17_b⟩, f17_c⟩, rfl⟩, stopsT⟩, rfl⟩, stopKnobsT⟩, f17_d⟩, f17_e⟩, f17_f⟩, f17_g⟩, ?_⟩, ?_⟩, ?_⟩, ?_⟩, ?_⟩, ?_⟩, ?_⟩, ?_⟩, ?_⟩, ?_⟩, rfl⟩, stopsHeardT⟩, mayEnterT⟩, f17_li⟩, f17_mk⟩, ?_⟩, ?_⟩, ?_⟩, ?_⟩
  all_goals (as_aux_lemma => kernel_rfl)
end Go.Proofs.YtiomojlcnemnhaaDoor

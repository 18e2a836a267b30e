import Derived.Test.YtiomojlcnemnhaaIHxFacts
namespace Go.Proofs.Ytiomojlcnemnhaa
open Go.Fx Go.RowKit Go.Ped
theorem f4_a : Rows.indexFindsUptoRow.wf (OpenSpec.ofChange (Rows.OpenSpec.upto Rows.indexFindsSpec).bare) = true := by kernel_rfl
theorem f4_b : Try.f4.params.all (Try.prog.readableRec ·) = true := by kernel_rfl
theorem f4_c : namedTie Try.prog Rows.indexFindsUptoRow.named Rows.indexFindsSpec.vars = true := by kernel_rfl
theorem f4_d : (Rows.indexFindsUptoRow.inPlace == Try.prog.inPlace 4) = true := by kernel_rfl
theorem f4_e : (Rows.indexFindsUptoRow.unfollowed == Try.prog.unfollowed 4) = true := by kernel_rfl
theorem f4_f : (Rows.indexFindsUptoRow.recurses == Try.prog.recurses 4) = true := by kernel_rfl
theorem f4_g : (Rows.indexFindsUptoRow.named == Try.prog.varsNamed 4) = true := by kernel_rfl
theorem f4_mk : (Try.prog.make == some Rows.indexFindsUptoRow.make) = true := makeT
theorem f4_li : (Rows.indexFindsUptoRow.lifted == Try.prog.liftsFinal) = true := liftsFinalT
theorem f4_n : Try.prog.funcNamed Rows.indexFindsUptoRow.func = some 4 := by kernel_rfl
theorem f4_i : Try.f4.isInstance Try.prog Rows.indexFindsUptoRow.origin Rows.indexFindsUptoRow.targs := of_decide_eq_true (by kernel_rfl)
theorem f4_w : Try.f4.isWrapper Try.prog Rows.indexFindsUptoRow.wrapper Rows.indexFindsUptoRow.mainSum := by unfold Func.isWrapper; first | (rw [if_pos (by decide +kernel)]; kernel_rfl) | (rw [if_neg (by decide +kernel)]; exact ⟨rfl, rfl⟩)
theorem j4 : joinedFacts Try.prog 4 Try.f4 (Rows.OpenSpec.upto Rows.indexFindsSpec).bare Rows.indexFindsUptoRow = true := by
  simp only [joinedFacts, Bool.and_eq_true]
  refine ⟨⟨⟨⟨⟨⟨⟨⟨⟨⟨⟨⟨⟨⟨⟨⟨⟨⟨⟨⟨⟨⟨⟨⟨⟨⟨⟨⟨⟨⟨⟨f4_a, laidOut⟩, mapsRowedT⟩, f4_b⟩, f4_c⟩, rfl⟩, stopsT⟩, rfl⟩, stopKnobsT⟩, f4_d⟩, f4_e⟩, f4_f⟩, f4_g⟩, ?_⟩, ?_⟩, ?_⟩, ?_⟩, ?_⟩, ?_⟩, ?_⟩, ?_⟩, ?_⟩, ?_⟩, rfl⟩, stopsHeardT⟩, mayEnterT⟩, f4_li⟩, f4_mk⟩, ?_⟩, ?_⟩, ?_⟩, ?_⟩
  all_goals (as_aux_lemma => kernel_rfl)
end Go.Proofs.Ytiomojlcnemnhaa

/- TermAtoms: its row's closed facts. -/
import Derived.Test.YtiomojlcnemnhaaDoorDxFacts
namespace Go.Proofs.YtiomojlcnemnhaaDoor
open Go.Fx Go.RowKit Go.Ped
theorem f8_a : Rows.termAtomsUptoRow.wf (OpenSpec.ofChange (Rows.OpenSpec.upto Rows.termAtomsSpec).bare) = true := by kernel_rfl
theorem f8_b : Tryd.f8.params.all (Tryd.prog.readableRec ·) = true := by kernel_rfl
theorem f8_c : namedTie Tryd.prog Rows.termAtomsUptoRow.named Rows.termAtomsSpec.vars = true := by kernel_rfl
theorem f8_d : (Rows.termAtomsUptoRow.inPlace == Tryd.prog.inPlace 8) = true := by kernel_rfl
theorem f8_e : (Rows.termAtomsUptoRow.unfollowed == Tryd.prog.unfollowed 8) = true := by kernel_rfl
theorem f8_f : (Rows.termAtomsUptoRow.recurses == Tryd.prog.recurses 8) = true := by kernel_rfl
theorem f8_g : (Rows.termAtomsUptoRow.named == Tryd.prog.varsNamed 8) = true := by kernel_rfl
theorem f8_mk : (Tryd.prog.make == some Rows.termAtomsUptoRow.make) = true := makeT
theorem f8_li : (Rows.termAtomsUptoRow.lifted == Tryd.prog.liftsFinal) = true := liftsFinalT
theorem f8_n : Tryd.prog.funcNamed Rows.termAtomsUptoRow.func = some 8 := by kernel_rfl
theorem f8_i : Tryd.f8.isInstance Tryd.prog Rows.termAtomsUptoRow.origin Rows.termAtomsUptoRow.targs := of_decide_eq_true (by kernel_rfl)
theorem f8_w : Tryd.f8.isWrapper Tryd.prog Rows.termAtomsUptoRow.wrapper Rows.termAtomsUptoRow.mainSum := by unfold Func.isWrapper; first | (rw [if_pos (by decide +kernel)]; kernel_rfl) | (rw [if_neg (by decide +kernel)]; exact ⟨rfl, rfl⟩)
theorem j8 : joinedFacts Tryd.prog 8 Tryd.f8 (Rows.OpenSpec.upto Rows.termAtomsSpec).bare Rows.termAtomsUptoRow = true := by
  simp only [joinedFacts, Bool.and_eq_true]
  refine ⟨⟨⟨⟨⟨⟨⟨⟨⟨⟨⟨⟨⟨⟨⟨⟨⟨⟨⟨⟨⟨⟨⟨⟨⟨⟨⟨⟨⟨⟨⟨f8_a, laidOut⟩, mapsRowedT⟩, f8_b⟩, f8_c⟩, rfl⟩, stopsT⟩, rfl⟩, stopKnobsT⟩, f8_d⟩, f8_e⟩, f8_f⟩, f8_g⟩, ?_⟩, ?_⟩, ?_⟩, ?_⟩, ?_⟩, ?_⟩, ?_⟩, ?_⟩, ?_⟩, ?_⟩, rfl⟩, stopsHeardT⟩, mayEnterT⟩, f8_li⟩, f8_mk⟩, ?_⟩, ?_⟩, ?_⟩, ?_⟩
  all_goals (as_aux_lemma => kernel_rfl)
end Go.Proofs.YtiomojlcnemnhaaDoor

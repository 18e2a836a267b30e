/- TermLiterals: its row's closed facts. -/
import Derived.Test.YtiomojlcnemnhaaDoorDxFacts
namespace Go.Proofs.YtiomojlcnemnhaaDoor
open Go.Fx Go.RowKit Go.Ped
theorem f11_a : Rows.termLiteralsUptoRow.wf (OpenSpec.ofChange (Rows.OpenSpec.upto Rows.termLiteralsSpec).bare) = true := by kernel_rfl
theorem f11_b : Tryd.f11.params.all (Tryd.prog.readableRec ·) = true := by kernel_rfl
theorem f11_c : namedTie Tryd.prog Rows.termLiteralsUptoRow.named Rows.termLiteralsSpec.vars = true := by kernel_rfl
theorem f11_d : (Rows.termLiteralsUptoRow.inPlace == Tryd.prog.inPlace 11) = true := by kernel_rfl
theorem f11_e : (Rows.termLiteralsUptoRow.unfollowed == Tryd.prog.unfollowed 11) = true := by kernel_rfl
theorem f11_f : (Rows.termLiteralsUptoRow.recurses == Tryd.prog.recurses 11) = true := by kernel_rfl
theorem f11_g : (Rows.termLiteralsUptoRow.named == Tryd.prog.varsNamed 11) = true := by kernel_rfl
theorem f11_mk : (Tryd.prog.make == some Rows.termLiteralsUptoRow.make) = true := makeT
theorem f11_li : (Rows.termLiteralsUptoRow.lifted == Tryd.prog.liftsFinal) = true := liftsFinalT
theorem f11_n : Tryd.prog.funcNamed Rows.termLiteralsUptoRow.func = some 11 := by kernel_rfl
theorem f11_i : Tryd.f11.isInstance Tryd.prog Rows.termLiteralsUptoRow.origin Rows.termLiteralsUptoRow.targs := of_decide_eq_true (by kernel_rfl)
theorem f11_w : Tryd.f11.isWrapper Tryd.prog Rows.termLiteralsUptoRow.wrapper Rows.termLiteralsUptoRow.mainSum := by unfold Func.isWrapper; first | (rw [if_pos (by decide +kernel)]; kernel_rfl) | (rw [if_neg (by decide +kernel)]; exact ⟨rfl, rfl⟩)
theorem j11 : joinedFacts Tryd.prog 11 Tryd.f11 (Rows.OpenSpec.upto Rows.termLiteralsSpec).bare Rows.termLiteralsUptoRow = true := by
  simp only [joinedFacts, Bool.and_eq_true]
  refine ⟨⟨⟨⟨⟨⟨⟨⟨⟨⟨⟨⟨⟨⟨⟨⟨⟨⟨⟨⟨⟨⟨⟨⟨⟨⟨⟨⟨⟨⟨⟨f11_a, laidOut⟩, mapsRowedT⟩, f11_b⟩, f11_c⟩, rfl⟩, stopsT⟩, rfl⟩, stopKnobsT⟩, f11_d⟩, f11_e⟩, f11_f⟩, f11_g⟩, ?_⟩, ?_⟩, ?_⟩, ?_⟩, ?_⟩, ?_⟩, ?_⟩, ?_⟩, ?_⟩, ?_⟩, rfl⟩, stopsHeardT⟩, mayEnterT⟩, f11_li⟩, f11_mk⟩, ?_⟩, ?_⟩, ?_⟩, ?_⟩
  all_goals (as_aux_lemma => kernel_rfl)
end Go.Proofs.YtiomojlcnemnhaaDoor

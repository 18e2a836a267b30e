/- TermFits: its row's closed facts. -/
import Derived.Test.YtiomojlcnemnhaaDoorKDxFacts
namespace Go.Proofs.YtiomojlcnemnhaaDoor
open Go.Fx Go.RowKit Go.Ped
theorem f3_a : Rows.termFitsRow.wf (OpenSpec.ofChange (OpenSpec.ofChange Rows.termFitsSpec).bare) = true := by kernel_rfl
theorem f3_b : Tryd.f3.params.all (Tryd.prog.readableRec ·) = true := by kernel_rfl
theorem f3_c : namedTie Tryd.prog Rows.termFitsRow.named Rows.termFitsSpec.vars = true := by kernel_rfl
theorem f3_d : (Rows.termFitsRow.inPlace == Tryd.prog.inPlace 3) = true := by kernel_rfl
theorem f3_e : (Rows.termFitsRow.unfollowed == Tryd.prog.unfollowed 3) = true := by kernel_rfl
theorem f3_f : (Rows.termFitsRow.recurses == Tryd.prog.recurses 3) = true := by kernel_rfl
theorem f3_g : (Rows.termFitsRow.named == Tryd.prog.varsNamed 3) = true := by kernel_rfl
theorem f3_mk : (Tryd.prog.make == some Rows.termFitsRow.make) = true := makeT
theorem f3_li : (Rows.termFitsRow.lifted == Tryd.prog.liftsFinal) = true := liftsFinalT
theorem f3_n : Tryd.prog.funcNamed Rows.termFitsRow.func = some 3 := by kernel_rfl
theorem f3_i : Tryd.f3.isInstance Tryd.prog Rows.termFitsRow.origin Rows.termFitsRow.targs := of_decide_eq_true (by kernel_rfl)
theorem f3_w : Tryd.f3.isWrapper Tryd.prog Rows.termFitsRow.wrapper Rows.termFitsRow.mainSum := by unfold Func.isWrapper; first | (rw [if_pos (by decide +kernel)]; kernel_rfl) | (rw [if_neg (by decide +kernel)]; exact ⟨rfl, rfl⟩)
theorem j3 : joinedFacts Tryd.prog 3 Tryd.f3 (OpenSpec.ofChange Rows.termFitsSpec).bare Rows.termFitsRow = true := by
  simp only [joinedFacts, Bool.and_eq_true]
  refine ⟨⟨⟨⟨⟨⟨⟨⟨⟨⟨⟨⟨⟨⟨⟨⟨⟨⟨⟨⟨⟨⟨⟨⟨⟨⟨⟨⟨⟨⟨⟨f3_a, laidOut⟩, mapsRowedT⟩, f3_b⟩, f3_c⟩, rfl⟩, stopsT⟩, rfl⟩, stopKnobsT⟩, f3_d⟩, f3_e⟩, f3_f⟩, f3_g⟩, ?_⟩, ?_⟩, ?_⟩, ?_⟩, ?_⟩, ?_⟩, ?_⟩, ?_⟩, ?_⟩, ?_⟩, rfl⟩, stopsHeardT⟩, mayEnterT⟩, f3_li⟩, f3_mk⟩, ?_⟩, ?_⟩, ?_⟩, ?_⟩
  all_goals (as_aux_lemma => kernel_rfl)
end Go.Proofs.YtiomojlcnemnhaaDoor

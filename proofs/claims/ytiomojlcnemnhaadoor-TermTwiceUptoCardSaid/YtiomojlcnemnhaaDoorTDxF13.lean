/- TermTwice: its row's closed facts. -/
import Derived.Test.YtiomojlcnemnhaaDoorTDxW1
namespace Go.Proofs.YtiomojlcnemnhaaDoor
open Go.Fx Go.RowKit Go.Ped
theorem f13_a : Rows.termTwiceUptoRow.wf (OpenSpec.ofChange (Rows.OpenSpec.upto Rows.termTwiceSpec).bare) = true := by kernel_rfl
theorem f13_b : Tryd.f13.params.all (Tryd.prog.readableRec ·) = true := by kernel_rfl
theorem f13_c : namedTie Tryd.prog Rows.termTwiceUptoRow.named Rows.termTwiceSpec.vars = true := by kernel_rfl
theorem f13_d : (Rows.termTwiceUptoRow.inPlace == Tryd.prog.inPlace 13) = true := by kernel_rfl
theorem f13_e : (Rows.termTwiceUptoRow.unfollowed == Tryd.prog.unfollowed 13) = true := by kernel_rfl
theorem f13_f : (Rows.termTwiceUptoRow.recurses == Tryd.prog.recurses 13) = true := by kernel_rfl
theorem f13_g : (Rows.termTwiceUptoRow.named == Tryd.prog.varsNamed 13) = true := by kernel_rfl
theorem f13_mk : (Tryd.prog.make == some Rows.termTwiceUptoRow.make) = true := makeT
theorem f13_li : (Rows.termTwiceUptoRow.lifted == Tryd.prog.liftsFinal) = true := liftsFinalT
theorem f13_n : Tryd.prog.funcNamed Rows.termTwiceUptoRow.func = some 13 := by kernel_rfl
theorem f13_i : Tryd.f13.isInstance Tryd.prog Rows.termTwiceUptoRow.origin Rows.termTwiceUptoRow.targs := of_decide_eq_true (by kernel_rfl)
theorem f13_w : Tryd.f13.isWrapper Tryd.prog Rows.termTwiceUptoRow.wrapper Rows.termTwiceUptoRow.mainSum := by unfold Func.isWrapper; first | (rw [if_pos (by decide +kernel)]; kernel_rfl) | (rw [if_neg (by decide +kernel)]; exact ⟨rfl, rfl⟩)
theorem j13 : joinedFacts Tryd.prog 13 Tryd.f13 (Rows.OpenSpec.upto Rows.termTwiceSpec).bare Rows.termTwiceUptoRow = true := by
  simp only [joinedFacts, Bool.and_eq_true]
  refine ⟨⟨⟨⟨⟨⟨⟨⟨⟨⟨⟨⟨⟨⟨⟨⟨⟨⟨⟨⟨⟨⟨⟨⟨⟨⟨⟨⟨⟨⟨⟨f13_a, laidOut⟩, mapsRowedT⟩, f13_b⟩, f13_c⟩, rfl⟩, stopsT⟩, rfl⟩, stopKnobsT⟩, f13_d⟩, f13_e⟩, f13_f⟩, f13_g⟩, ?_⟩, ?_⟩, ?_⟩, ?_⟩, ?_⟩, ?_⟩, ?_⟩, ?_⟩, ?_⟩, ?_⟩, rfl⟩, stopsHeardT⟩, mayEnterT⟩, f13_li⟩, f13_mk⟩, ?_⟩, ?_⟩, ?_⟩, ?_⟩
  all_goals (as_aux_lemma => kernel_rfl)
end Go.Proofs.YtiomojlcnemnhaaDoor

import Derived.Test.YtiomojlcnemnhaaGreatDoorCPedF
namespace Go.Proofs.YtiomojlcnemnhaaGreatDoor
open Go.Fx Go.RowKit Go.Ped
theorem f5_a : Rows.termCanonsUptoRow.wf (OpenSpec.ofChange (Rows.OpenSpec.upto Rows.termCanonsSpec).bare) = true := by kernel_rfl
theorem f5_b : Tryz.f5.params.all (Tryz.prog.readableRec ·) = true := by kernel_rfl
theorem f5_c : namedTie Tryz.prog Rows.termCanonsUptoRow.named Rows.termCanonsSpec.vars = true := by kernel_rfl
theorem f5_d : (Rows.termCanonsUptoRow.inPlace == Tryz.prog.inPlace 5) = true := by kernel_rfl
theorem f5_e : (Rows.termCanonsUptoRow.unfollowed == Tryz.prog.unfollowed 5) = true := by kernel_rfl
theorem f5_f : (Rows.termCanonsUptoRow.recurses == Tryz.prog.recurses 5) = true := by kernel_rfl
theorem f5_g : (Rows.termCanonsUptoRow.named == Tryz.prog.varsNamed 5) = true := by kernel_rfl
theorem f5_mk : (Tryz.prog.make == some Rows.termCanonsUptoRow.make) = true := makeT
theorem f5_li : (Rows.termCanonsUptoRow.lifted == Tryz.prog.liftsFinal) = true := liftsFinalT
theorem f5_n : Tryz.prog.funcNamed Rows.termCanonsUptoRow.func = some 5 := by kernel_rfl
theorem f5_i : Tryz.f5.isInstance Tryz.prog Rows.termCanonsUptoRow.origin Rows.termCanonsUptoRow.targs := of_decide_eq_true (by kernel_rfl)
theorem f5_w : Tryz.f5.isWrapper Tryz.prog Rows.termCanonsUptoRow.wrapper Rows.termCanonsUptoRow.mainSum := by unfold Func.isWrapper; first | (rw [if_pos (by decide +kernel)]; kernel_rfl) | (rw [if_neg (by decide +kernel)]; exact ⟨rfl, rfl⟩)
theorem j5 : joinedFacts Tryz.prog 5 Tryz.f5 (Rows.OpenSpec.upto Rows.termCanonsSpec).bare Rows.termCanonsUptoRow = true := by
  simp only [joinedFacts, Bool.and_eq_true]
  refine ⟨⟨⟨⟨⟨⟨⟨⟨⟨⟨⟨⟨⟨⟨⟨⟨⟨⟨⟨⟨⟨⟨⟨⟨⟨⟨⟨⟨⟨⟨⟨f5_a, laidOut⟩, mapsRowedT⟩, f5_b⟩, f5_c⟩, rfl⟩, stopsT⟩, rfl⟩, stopKnobsT⟩, f5_d⟩, f5_e⟩, f5_f⟩, f5_g⟩, ?_⟩, ?_⟩, ?_⟩, ?_⟩, ?_⟩, ?_⟩, ?_⟩, ?_⟩, ?_⟩, ?_⟩, rfl⟩, stopsHeardT⟩, mayEnterT⟩, f5_li⟩, f5_mk⟩, ?_⟩, ?_⟩, ?_⟩, ?_⟩
  all_goals (as_aux_lemma => kernel_rfl)
end Go.Proofs.YtiomojlcnemnhaaGreatDoor

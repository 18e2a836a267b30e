import Derived.Test.YtiomojlcnemnhaaGreatDoorRGxFacts
namespace Go.Proofs.YtiomojlcnemnhaaGreatDoor
open Go.Fx Go.RowKit Go.Ped
theorem f9_a:Rows.planRightsUptoRow.wf (OpenSpec.ofChange (Rows.OpenSpec.upto Rows.planRightsSpec).bare) = true:=by kernel_rfl
theorem f9_b:Tryz.f9.params.all (Tryz.prog.readableRec ·) = true:=by kernel_rfl
theorem f9_c:namedTie Tryz.prog Rows.planRightsUptoRow.named Rows.planRightsSpec.vars = true:=by kernel_rfl
theorem f9_d:(Rows.planRightsUptoRow.inPlace == Tryz.prog.inPlace 9) = true:=by kernel_rfl
theorem f9_e:(Rows.planRightsUptoRow.unfollowed == Tryz.prog.unfollowed 9) = true:=by kernel_rfl
theorem f9_f:(Rows.planRightsUptoRow.recurses == Tryz.prog.recurses 9) = true:=by kernel_rfl
theorem f9_g:(Rows.planRightsUptoRow.named == Tryz.prog.varsNamed 9) = true:=by kernel_rfl
theorem f9_mk:(Tryz.prog.make == some Rows.planRightsUptoRow.make) = true:=makeT
theorem f9_li:(Rows.planRightsUptoRow.lifted == Tryz.prog.liftsFinal) = true:=liftsFinalT
theorem f9_n:Tryz.prog.funcNamed Rows.planRightsUptoRow.func = some 9:=by kernel_rfl
theorem f9_i:Tryz.f9.isInstance Tryz.prog Rows.planRightsUptoRow.origin Rows.planRightsUptoRow.targs:=of_decide_eq_true (by kernel_rfl)
theorem f9_w:Tryz.f9.isWrapper Tryz.prog Rows.planRightsUptoRow.wrapper Rows.planRightsUptoRow.mainSum:=by unfold Func.isWrapper; first | (rw [if_pos (by decide +kernel)]; kernel_rfl) | (rw [if_neg (by decide +kernel)]; exact ⟨rfl,rfl⟩)
theorem j9:joinedFacts Tryz.prog 9 Tryz.f9 (Rows.OpenSpec.upto Rows.planRightsSpec).bare Rows.planRightsUptoRow = true:=by
  simp only [joinedFacts,Bool.and_eq_true]
  refine ⟨⟨⟨⟨⟨⟨⟨⟨⟨⟨⟨⟨⟨⟨⟨⟨⟨⟨⟨⟨⟨⟨⟨⟨⟨⟨⟨⟨⟨⟨⟨f9_a,laidOut⟩,mapsRowedT⟩,f9_b⟩,f9_c⟩,rfl⟩,stopsT⟩,rfl⟩,stopKnobsT⟩,f9_d⟩,f9_e⟩,f9_f⟩,f9_g⟩,?_⟩,?_⟩,?_⟩,?_⟩,?_⟩,?_⟩,?_⟩,?_⟩,?_⟩,?_⟩,rfl⟩,stopsHeardT⟩,mayEnterT⟩,f9_li⟩,f9_mk⟩,?_⟩,?_⟩,?_⟩,?_⟩
  all_goals (as_aux_lemma=>kernel_rfl)
end Go.Proofs.YtiomojlcnemnhaaGreatDoor

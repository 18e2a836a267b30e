import Derived.Test.YtiomojlcnemnhaaDoorKDxX2
import Derived.Test.YtiomojlcnemnhaaDoorKDxItoa
import Derived.Test.YtiomojlcnemnhaaDoorCards
import Derived.Test.YtiomojlcnemnhaaDoorTie
import Derived.WalkKit
import Derived.ProofKit
import Derived.OpenShut
import Derived.Deep.DeepHandedRow
import Derived.Lib.LaidTab
import Derived.Lib.AppendIntMem
import Derived.Stop.LaidErr
import Derived.LaidMore
import Derived.Test.YtiomojlcnemnhaaDoorKDxW3
/- The arguments of the laws, opened by their types. -/
namespace Go.Proofs.YtiomojlcnemnhaaDoor
open Go.Fx Go.RowKit Go.Ped

theorem list_of {α : Type} {row : α → List C} : ∀ {es : List (List C)}, (∀ x ∈ es, ∃ t, x = row t) → ∃ l : List α, es = l.map row
  | [], _ => ⟨[], rfl⟩
  | x :: es, h => by
    obtain ⟨t, rfl⟩ := h x (List.mem_cons_self ..)
    obtain ⟨l, rfl⟩ := list_of (es := es) fun y hy => h y (List.mem_cons_of_mem _ hy)
    exact ⟨t :: l, rfl⟩

theorem ty_str {cs : List C} (h : Typed Tryd.prog 9 cs) : ∃ s, cs = [cS (bs s)] := by
  obtain ⟨s, rfl, _⟩ := h.asStr Tryd.underlying9
  exact ⟨s, rfl⟩
theorem ty_val {cs : List C} (h : Typed Tryd.prog 39 cs) : ∃ x : Val, cs = x.row := by
  obtain ⟨a, r, rfl, ha, b, r', rfl, hb, c, r'', rfl, hc, hr⟩ := h.asStruct Tryd.underlying39
  cases hr
  obtain ⟨k, rfl, _⟩ := ha.asInt Tryd.underlying37
  obtain ⟨n, rfl, _⟩ := hb.asInt Tryd.underlying2
  obtain ⟨s, rfl⟩ := ty_str hc
  exact ⟨⟨k, n, s⟩, rfl⟩
theorem ty_tm {cs : List C} (h : Typed Tryd.prog 41 cs) : ∃ t : Tm, cs = t.row := by
  obtain ⟨a, r, rfl, ha, b, r', rfl, hb, hr⟩ := h.asStruct Tryd.underlying41
  cases hr
  obtain ⟨v, rfl⟩ := ty_str ha
  obtain ⟨x, rfl⟩ := ty_val hb
  exact ⟨⟨v, x⟩, rfl⟩
/- Sizes. -/
end Go.Proofs.YtiomojlcnemnhaaDoor

/- What the laws' rows and cards share: the laid tables, the bound on what is read, the witness' world. -/
namespace Go.Proofs.YtiomojlcnemnhaaDoor
open Go.Fx Go.RowKit Go.Ped

theorem own : ownKnob Tryd.prog.godebug = none := by kernel_rfl
theorem laidOut : laidOutB Tryd.prog = true := by kernel_rfl

/- The bound. -/
/- The table of powers. -/
theorem plain_laid {l : List (String × DataW Unit)} {W : World} (hp : (l.all fun x => x.2.handleName?.isNone) = true) (h : laidMetH Tryd.prog l W) : laidMet Tryd.prog l W := by
  rw [MakeChecks.laidMetH_plain _ _ _ hp] at h
  exact h
/-- A world for the witness: what the door's own run leaves. -/
noncomputable abbrev wit (os : Os) : World := World.doorLaid Tryd.prog 29 os
end Go.Proofs.YtiomojlcnemnhaaDoor

/- What the rows' closed facts say of the program alone. -/
namespace Go.Proofs.YtiomojlcnemnhaaDoor
open Go.Fx Go.RowKit Go.Ped

theorem mapsRowedT : mapsRowed Tryd.prog = true := by kernel_rfl
theorem stopsT : (Tryd.prog.stops == []) = true := by kernel_rfl
theorem stopKnobsT : (Tryd.prog.stopKnobs == []) = true := by kernel_rfl
theorem stopsHeardT : Tryd.prog.stopsHeard = true := by kernel_rfl
theorem mayEnterT : Tryd.prog.mayEnter = true := by kernel_rfl
theorem liftsFinalT : (Rows.termMatchesUptoRow.lifted == Tryd.prog.liftsFinal) = true := by kernel_rfl
theorem makeT : (Tryd.prog.make == some Rows.termMatchesUptoRow.make) = true := by kernel_rfl
end Go.Proofs.YtiomojlcnemnhaaDoor

/- TermOne: its row's closed facts. -/
namespace Go.Proofs.YtiomojlcnemnhaaDoor
open Go.Fx Go.RowKit Go.Ped
theorem f10_a : Rows.termOneRow.wf (OpenSpec.ofChange (OpenSpec.ofChange Rows.termOneSpec).bare) = true := by kernel_rfl
theorem f10_b : Tryd.f10.params.all (Tryd.prog.readableRec ·) = true := by kernel_rfl
theorem f10_c : namedTie Tryd.prog Rows.termOneRow.named Rows.termOneSpec.vars = true := by kernel_rfl
theorem f10_d : (Rows.termOneRow.inPlace == Tryd.prog.inPlace 10) = true := by kernel_rfl
theorem f10_e : (Rows.termOneRow.unfollowed == Tryd.prog.unfollowed 10) = true := by kernel_rfl
theorem f10_f : (Rows.termOneRow.recurses == Tryd.prog.recurses 10) = true := by kernel_rfl
theorem f10_g : (Rows.termOneRow.named == Tryd.prog.varsNamed 10) = true := by kernel_rfl
theorem f10_mk : (Tryd.prog.make == some Rows.termOneRow.make) = true := makeT
theorem f10_li : (Rows.termOneRow.lifted == Tryd.prog.liftsFinal) = true := liftsFinalT
theorem f10_n : Tryd.prog.funcNamed Rows.termOneRow.func = some 10 := by kernel_rfl
theorem f10_i : Tryd.f10.isInstance Tryd.prog Rows.termOneRow.origin Rows.termOneRow.targs := of_decide_eq_true (by kernel_rfl)
theorem f10_w : Tryd.f10.isWrapper Tryd.prog Rows.termOneRow.wrapper Rows.termOneRow.mainSum := by unfold Func.isWrapper; first | (rw [if_pos (by decide +kernel)]; kernel_rfl) | (rw [if_neg (by decide +kernel)]; exact ⟨rfl, rfl⟩)
theorem j10 : joinedFacts Tryd.prog 10 Tryd.f10 (OpenSpec.ofChange Rows.termOneSpec).bare Rows.termOneRow = true := by
  simp only [joinedFacts, Bool.and_eq_true]
  refine ⟨⟨⟨⟨⟨⟨⟨⟨⟨⟨⟨⟨⟨⟨⟨⟨⟨⟨⟨⟨⟨⟨⟨⟨⟨⟨⟨⟨⟨⟨⟨f10_a, laidOut⟩, mapsRowedT⟩, f10_b⟩, f10_c⟩, rfl⟩, stopsT⟩, rfl⟩, stopKnobsT⟩, f10_d⟩, f10_e⟩, f10_f⟩, f10_g⟩, ?_⟩, ?_⟩, ?_⟩, ?_⟩, ?_⟩, ?_⟩, ?_⟩, ?_⟩, ?_⟩, ?_⟩, rfl⟩, stopsHeardT⟩, mayEnterT⟩, f10_li⟩, f10_mk⟩, ?_⟩, ?_⟩, ?_⟩, ?_⟩
  all_goals (as_aux_lemma => kernel_rfl)
end Go.Proofs.YtiomojlcnemnhaaDoor

/- What the rows of the laws with 'lives' share: what the operations take, listed by the row; openers that tell lengths. -/
namespace Go.Proofs.YtiomojlcnemnhaaDoor
open Go.Fx Go.RowKit Go.Ped

abbrev laidTakes : List (String × DataW Unit) := [("pedigree/value.takes", Rows.laid_pedigree_value_takes)]
theorem gTakesType : (Tryd.prog.globals[0]?).map (·.type) = some 149 := by kernel_rfl
theorem cells149 : Tryd.prog.cellsOf 149 = 11 := by kernel_rfl
theorem cells36 : Tryd.prog.cellsOf 36 = 1 := by kernel_rfl
theorem takesData : (Rows.laid_pedigree_value_takes : DataW Unit) = Lib.tabData .i8 takesTab := by rfl
theorem held_takes {W : World} (h : laidMetH Tryd.prog laidTakes W) : Held GK W := by
  have h1 := plain_laid (by kernel_rfl) h
  unfold laidTakes at h1
  rw [takesData] at h1
  exact Lib.tabBelow_of_tabIs (Lib.tabIs_of_head gTakes gTakesType Tryd.underlying149 Tryd.underlying36 cells36 cells149 h1)

theorem ty_tmsN {cs : List C} (h : Typed Tryd.prog 22 cs) : ∃ (l : List Tm) (sp : Sp), cs = [.sl (l.map Tm.row) sp] ∧ l.length ≤ maxLen := by
  obtain ⟨es, sp, rfl, hes, hn⟩ := h.asSlice Tryd.underlying22
  obtain ⟨l, rfl⟩ := list_of (row := Tm.row) (es := es) fun x hx => ty_tm (hes x (List.mem_append_left _ hx))
  exact ⟨l, sp, rfl, by rw [List.length_map] at hn; omega⟩
theorem ty_atomN {cs : List C} (h : Typed Tryd.prog 24 cs) : ∃ (p : Name) (l : List Tm) (sp : Sp), cs = [cS (bs p), .sl (l.map Tm.row) sp] ∧ l.length ≤ maxLen := by
  obtain ⟨a, r, rfl, ha, b, r', rfl, hb, hr⟩ := h.asStruct Tryd.underlying24
  cases hr
  obtain ⟨p, rfl⟩ := ty_str ha
  obtain ⟨l, sp, rfl, hl⟩ := ty_tmsN hb
  exact ⟨p, l, sp, rfl, hl⟩
end Go.Proofs.YtiomojlcnemnhaaDoor

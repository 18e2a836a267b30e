/- Contracts, on: the variables that a body limits; the law on limits. -/
import Derived.Test.YtiomojlcnemnhaaTHxZ2
namespace Go.Proofs.Ytiomojlcnemnhaa
open Go.Fx Go.RowKit Go.Ped
variable {G : World → Prop}

def loneOf (e : Ex) : Name := if e.op = 0 ∧ e.kids = [] ∧ e.t.v ≠ us then e.t.v else []
def eqnOf (x : Lit) : Eqn := ⟨loneOf x.left, loneOf x.right, tmVars x.left.terms, tmVars x.right.terms⟩
def isEqn (x : Lit) : Bool := x.kind == 3 && x.rel == 1
def eqsOf (l : List Lit) : List Eqn := (l.filter isEqn).map eqnOf
def atomsOn (acc : List Name) : List Lit → List Name
  | [] => acc
  | x :: l => atomsOn (if x.kind = 1 then addAll acc (tmVars x.l) else acc) l

theorem m175 (e : Ex) (hs : e.small 1048576) (hl : e.terms.length ≤ 2000000) : Meets Try.prog G 114 [.agg e.row] (.x (.one (.sl ((tmVars e.terms).map nmRow) []))) := by
  refine meets Try.func114 ie175 ig175 (Nat.le_of_ble_eq_true rfl) ?_
  have hw : Walks G (.ifc 272 (.elem [e.row] [] 0 0)) e.terms := fun fv H H' hfv hc => m126_ex hfv e hs [e.row] [] 0 0 H H' ⟨e.row, rfl, by rw [List.drop_zero, List.take_of_length_le (Nat.le_refl _)]⟩ hc
  simp [ic175, ir175, freeze_st, fzL, freezeO, maxLen]
  refine r_call0 (MeetsV.of_fun (m118 _ e.terms (by simp) (fun _ => rfl) (fun _ => rfl) (fun _ => rfl) hl hw)) rfl rfl rfl (by simp) (by simp) (by simp) ?_
  simp

theorem m174 (e : Ex) : Meets Try.prog G 113 [.agg e.row] (.x (.one (cS (bs (loneOf e))))) := by
  refine meets Try.func113 ie174 ig174 (Nat.le_of_ble_eq_true rfl) ?_
  simp [ic174, ir174]
  refine condI_of (fun h => ?_) (fun h => ?_)
  · have : loneOf e = [] := by
      simp at h
      unfold loneOf
      rw [if_neg]
      rintro ⟨a, b, c⟩
      rcases h with (h | h) | h
      · exact h a
      · simp [b] at h
      · exact c (by simpa [us] using h)
    simp [this]
  · have : loneOf e = e.t.v := by
      simp at h
      unfold loneOf
      rw [if_pos]
      exact ⟨h.1.1, by simpa using h.1.2, by simpa [us] using h.2⟩
    simp [this]

theorem m179 (l f : List Name) (sp sq : Sp) (hl : l.length ≤ maxLen) (hf : f.length ≤ maxLen) : Meets Try.prog G 32 [.one (.sl (l.map nmRow) sp), .one (.sl (f.map nmRow) sq)] (.x (.one (cB (allIn l f)))) := by
  refine meets Try.func32 ie179 ig179 (Nat.le_of_ble_eq_true rfl) ?_
  unfold maxLen at hl
  simp [ic179, ir179]
  refine w_loopA [] [] [0, 1, 5] (by simp) (fun i : Nat => st [(0, .k true (.x (.one (.c (.sl (l.map nmRow) sp))))), (1, .k true (.x (.one (.c (.sl (f.map nmRow) sq))))), (5, tI .i64 i)] [] [] F0) (fun i => l.length - i)
    (fun i => i ≤ l.length ∧ allIn (l.take i) f = true) 0 (by simp) (by simp [allIn]) ?_
  rintro i K hK ⟨hi, hd⟩
  obtain hlt | hge := Nat.lt_or_ge i l.length
  · simp [ic179l0, hlt]
    refine call_of (m30 l[i] f sq hf) ?_
    simp
    refine condI_of (fun h => ?_) (fun h => ?_)
    · have hb : allIn l f = false := all_not (List.getElem_mem hlt) (by simpa using h)
      simp [hb]
    · simp
      simp (disch := omega) only [wrap64]
      exact hK (i + 1) _ (by simp) ⟨by omega, by rw [List.take_succ_eq_append_getElem hlt, allIn, List.all_append]; simp [allIn] at hd h ⊢; exact ⟨hd, h⟩⟩ (by omega)
  · rw [List.take_of_length_le hge] at hd
    simp [ic179l0, Nat.not_lt.mpr hge, hd]

theorem tmVars_len (l : List Tm) : (tmVars l).length ≤ l.length := by
  have h2 := varsOn_length (l.map Tm.v) []
  simp only [List.length_nil, List.length_map, Nat.zero_add] at h2
  exact h2
theorem atomsOn_len : ∀ (l : List Lit) (acc : List Name), (atomsOn acc l).length ≤ acc.length + (l.map fun x => x.l.length).sum
  | [], acc => by simp [atomsOn]
  | x :: l, acc => by
    have h := atomsOn_len l (if x.kind = 1 then addAll acc (tmVars x.l) else acc)
    have h1 : (if x.kind = 1 then addAll acc (tmVars x.l) else acc).length ≤ acc.length + x.l.length := by
      split
      · exact Nat.le_trans (addAll_len (tmVars x.l) acc) (Nat.add_le_add_left (tmVars_len x.l) _)
      · omega
    simp only [atomsOn, List.map_cons, List.sum_cons]
    omega

end Go.Proofs.Ytiomojlcnemnhaa

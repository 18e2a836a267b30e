import Derived.Test.YtiomojlcnemnhaaGreatDoorFxWb
import Derived.Test.YtiomojlcnemnhaaGreatDoorProg
import Derived.KernelRfl
import Derived.Test.YtiomojlcnemnhaaGreatDoorGxQ8
/- Functions of the seat, as the small language has them. -/
namespace Go.Proofs.YtiomojlcnemnhaaGreatDoor
open Go.Fx

/-- pedigree/pedigreeref04.RuleVars -/
def ic69h : IC :=
 (.seq
 (.region [1] [] [0, 1, 2] [
 ⟨(some 1), (.box 29 (.t 0)), none, none⟩,
 ⟨(some 2), (.move (.k (.x (.one .nil)))), none, none⟩])
 (.seq
 (.region [] [] [0, 1, 2] [
 ⟨(some 3), (.load (some 3) (.t 1)), none, none⟩,
 ⟨(some 4), (.callp (.k (rF 142)) [(.t 3)]), none, none⟩,
 ⟨(some 5), (.call (.k (rF 141)) [(.t 4)]), none, none⟩,
 ⟨(some 2), (.move (.t 5)), none, none⟩])
 .ret))
def ir69h : List IRes := [.tmp 2]
theorem ie69h : cmpFunc Go.Proofs.Tryz.prog ⟨[(5, none)], []⟩ Go.Proofs.Tryz.f48 [0, 1, 2] = some ic69h := by kernel_rfl
theorem ig69h : cmpRes Go.Proofs.Tryz.prog Go.Proofs.Tryz.f48.results.toList = some ir69h := by kernel_rfl

def ic2211l0h : IC :=
 (.seq
 (.seq
 (.region [] [] [0, 1, 10, 7, 3, 22, 4, 5, 6, 51, 57, 2] [
 ⟨(some 19), (.move (.t 7)), none, none⟩,
 ⟨(some 20), (.move (.t 3)), none, none⟩,
 ⟨(some 21), (.len (.t 20)), none, none⟩,
 ⟨(some 22), (.bin .lss (.t 19) (.t 21)), none, none⟩])
 (.cond (.t 22)
 .skip
 (.exit 0)))
 (.seq
 (.block 1
 (.seq
 (.region [31] [] [0, 1, 10, 7, 3, 22, 4, 5, 6, 51, 57, 2] [
 ⟨(some 25), (.move (.t 4)), none, none⟩,
 ⟨(some 26), (.move (.t 3)), none, none⟩,
 ⟨(some 27), (.move (.t 7)), none, none⟩,
 ⟨(some 28), (.iaddr 2 (.t 26) (.t 27)), none, none⟩,
 ⟨(some 29), (.faddr 0 (.t 28)), none, none⟩,
 ⟨(some 30), (.load none (.t 29)), none, none⟩,
 ⟨(some 31), (.row 9 1 [(.t 30)]), none, none⟩,
 ⟨(some 32), (.app 9 1 16 (.t 25) (.t 31)), none, none⟩,
 ⟨(some 4), (.move (.t 32)), none, none⟩])
 (.seq
 (.region [] [] [0, 1, 10, 7, 3, 22, 4, 5, 6, 51, 57, 2] [
 ⟨(some 33), (.move (.t 5)), none, none⟩,
 ⟨(some 34), (.move (.t 33)), none, none⟩,
 ⟨(some 35), (.move (.t 3)), some (34, false), none⟩,
 ⟨(some 36), (.move (.t 7)), some (34, false), none⟩,
 ⟨(some 37), (.iaddr 2 (.t 35) (.t 36)), some (34, false), none⟩,
 ⟨(some 38), (.faddr 1 (.t 37)), some (34, false), none⟩,
 ⟨(some 39), (.load none (.t 38)), some (34, false), none⟩,
 ⟨(some 40), (.bin .gtr (.t 39) (.k (rI .i64 8))), some (34, false), none⟩,
 ⟨(some 41), (.pick (.t 34) (.k (rB true)) (.t 40)), none, none⟩,
 ⟨(some 5), (.move (.t 41)), none, none⟩])
 (.region [] [] [0, 1, 10, 7, 3, 22, 4, 5, 6, 51, 57, 2] [
 ⟨(some 42), (.move (.t 6)), none, none⟩,
 ⟨(some 43), (.move (.t 42)), none, none⟩,
 ⟨(some 44), (.move (.t 3)), some (43, false), none⟩,
 ⟨(some 45), (.move (.t 7)), some (43, false), none⟩,
 ⟨(some 46), (.iaddr 2 (.t 44) (.t 45)), some (43, false), none⟩,
 ⟨(some 47), (.faddr 0 (.t 46)), some (43, false), none⟩,
 ⟨(some 48), (.load none (.t 47)), some (43, false), none⟩,
 ⟨(some 49), (.callp (.k (rF 212)) [(.t 48)]), some (43, false), none⟩,
 ⟨(some 50), (.pick (.t 43) (.k (rB true)) (.t 49)), none, none⟩,
 ⟨(some 6), (.move (.t 50)), none, none⟩]))))
 (.region [] [] [0, 1, 10, 7, 3, 22, 4, 5, 6, 51, 57, 2] [
 ⟨(some 23), (.move (.t 7)), none, none⟩,
 ⟨(some 24), (.bin .add (.t 23) (.k (rI .i64 1))), none, none⟩,
 ⟨(some 7), (.move (.t 24)), none, none⟩])))

/-- pedigree/pedigreeref07.ofRule -/
def ic2211h : IC :=
 (.seq
 (.region [1] [] [0, 1, 10, 7, 3, 22, 4, 5, 6, 51, 57, 2] [
 ⟨(some 1), (.box 29 (.t 0)), none, none⟩,
 ⟨(some 2), (.move (.k (rI .i64 0))), none, none⟩])
 (.seq
 (.seq
 (.region [] [] [0, 1, 10, 7, 3, 22, 4, 5, 6, 51, 57, 2] [
 ⟨(some 8), (.load (some 3) (.t 1)), none, none⟩,
 ⟨(some 9), (.callp (.k (rF 46)) [(.t 8)]), none, none⟩,
 ⟨(some 10), (.bin .neq (.t 9) (.k (rI .i64 0))), none, none⟩])
 (.cond (.t 10)
 (.seq
 (.region [] [] [0, 1, 10, 7, 3, 22, 4, 5, 6, 51, 57, 2] [
 ⟨(some 2), (.move (.k (rI .i64 40))), none, none⟩])
 .ret)
 .skip))
 (.seq
 (.region [] [] [0, 1, 10, 7, 3, 22, 4, 5, 6, 51, 57, 2] [
 ⟨(some 11), (.load (some 3) (.t 1)), none, none⟩,
 ⟨(some 12), (.callp (.k (rF 131)) [(.t 11)]), none, none⟩,
 ⟨(some 3), (.move (.t 12)), none, none⟩])
 (.seq
 (.region [] [] [0, 1, 10, 7, 3, 22, 4, 5, 6, 51, 57, 2] [
 ⟨(some 13), (.load (some 3) (.t 1)), none, none⟩,
 ⟨(some 14), (.call (.k (rF 48)) [(.t 13)]), none, none⟩,
 ⟨(some 4), (.move (.t 14)), none, none⟩])
 (.seq
 (.region [] [] [0, 1, 10, 7, 3, 22, 4, 5, 6, 51, 57, 2] [
 ⟨(some 15), (.faddr 2 (.t 1)), none, none⟩,
 ⟨(some 16), (.load none (.t 15)), none, none⟩,
 ⟨(some 17), (.len (.t 16)), none, none⟩,
 ⟨(some 18), (.bin .gtr (.t 17) (.k (rI .i64 12))), none, none⟩,
 ⟨(some 5), (.move (.t 18)), none, none⟩])
 (.seq
 (.region [] [] [0, 1, 10, 7, 3, 22, 4, 5, 6, 51, 57, 2] [
 ⟨(some 6), (.move (.k (rB false))), none, none⟩])
 (.seq
 (.seq
 (.region [] [] [0, 1, 10, 7, 3, 22, 4, 5, 6, 51, 57, 2] [
 ⟨(some 7), (.move (.k (rI .i64 0))), none, none⟩])
 (.block 0
 (.loop ic2211l0h)))
 (.seq
 (.block 2
 (.seq
 (.region [] [] [0, 1, 10, 7, 3, 22, 4, 5, 6, 51, 57, 2] [
 ⟨(some 52), (.move (.t 5)), none, none⟩,
 ⟨(some 53), (.move (.t 52)), none, none⟩,
 ⟨(some 54), (.move (.t 4)), some (53, false), none⟩,
 ⟨(some 55), (.callp (.k (rF 215)) [(.t 54)]), some (53, false), none⟩,
 ⟨(some 56), (.pick (.t 53) (.k (rB true)) (.t 55)), none, none⟩,
 ⟨(some 51), (.move (.t 56)), none, none⟩])
 (.cond (.t 51)
 (.seq
 (.region [] [] [0, 1, 10, 7, 3, 22, 4, 5, 6, 51, 57, 2] [
 ⟨(some 2), (.move (.k (rI .i64 70))), none, none⟩])
 .ret)
 (.seq
 (.region [] [] [0, 1, 10, 7, 3, 22, 4, 5, 6, 51, 57, 2] [
 ⟨(some 58), (.move (.t 6)), none, none⟩,
 ⟨(some 57), (.move (.t 58)), none, none⟩])
 (.cond (.t 57)
 (.seq
 (.region [] [] [0, 1, 10, 7, 3, 22, 4, 5, 6, 51, 57, 2] [
 ⟨(some 2), (.move (.k (rI .i64 71))), none, none⟩])
 .ret)
 .skip)))))
 (.seq
 (.region [] [] [0, 1, 10, 7, 3, 22, 4, 5, 6, 51, 57, 2] [
 ⟨(some 59), (.load (some 3) (.t 1)), none, none⟩,
 ⟨(some 60), (.callp (.k (rF 27)) [(.t 59)]), none, none⟩,
 ⟨(some 2), (.move (.t 60)), none, none⟩])
 .ret)))))))))
def ir2211h : List IRes := [.tmp 2]
theorem ie2211h : cmpFunc Go.Proofs.Tryz.prog ⟨[(14, none)], []⟩ Go.Proofs.Tryz.f211 [0, 1, 10, 7, 3, 22, 4, 5, 6, 51, 57, 2] = some ic2211h := by kernel_rfl
theorem ig2211h : cmpRes Go.Proofs.Tryz.prog Go.Proofs.Tryz.f211.results.toList = some ir2211h := by kernel_rfl

end Go.Proofs.YtiomojlcnemnhaaGreatDoor

/- Contracts, on: a rule of a user, the document's way; both are one. (Labels of 2000 and more: seat ZD.) -/
namespace Go.Proofs.YtiomojlcnemnhaaGreatDoor
open Go.Fx Go.RowKit Go.Ped
variable {G : World → Prop}

/-- The variables of terms, as a list of the function's own. -/
theorem m98o (l : List Tm) (sp : Sp) (hl : l.length ≤ 1048576) :
    MeetsH Tryz.prog G 141 [.one (.c (.sl (l.map Tm.row) sp))] (hp [] [] F0) (.x (.one (.own 32 ((tmVars l).map nmRow)))) (hp [] [(32, ⟨9, 1, (tmVars l).length⟩)] F0) := by
  refine meetsH [] Tryz.func141 ie98 ig98 (Nat.le_of_ble_eq_true rfl) (by simp) (by simp) (by simp) (by simp) (by simp) (sameKeys_refl F0) (by simp) (by simp) ?_
  generalize hR : tmVars l = R
  simp [ic98, ir98]
  refine w_loopA [.t 32 3 9 1] [31] [0, 3, 4] (by simp [ownKey]) (fun a : Nat × List Name => st [(0, .k true (.x (.one (.c (.sl (l.map Tm.row) sp))))), (3, .k true (.x (.one (.own 32 (a.2.map nmRow))))), (4, tI .i64 a.1)] [] [(32, ⟨9, 1, a.2.length⟩)] F0) (fun a => l.length - a.1)
    (fun a => a.1 ≤ l.length ∧ R = varsOn a.2 ((l.drop a.1).map Tm.v) ∧ a.2.length ≤ a.1) (0, []) (by simp [promoteT_st]) (by simp; exact hR.symm) ?_
  rintro ⟨i, f⟩ K hK ⟨hi, hd, hf⟩
  simp only at hi hd hf
  obtain hlt | hge := Nat.lt_or_ge i l.length
  · rw [List.drop_eq_getElem_cons hlt, List.map_cons, varsOn] at hd
    simp [ic98l0, hlt]
    refine call_i (fun _ => m30 l[i].v f [] (by unfold maxLen; omega)) ?_
    simp
    refine condI_of (fun h => ?_) (fun h => ?_)
    · have hc : (Ped.isVar l[i].v && !f.contains l[i].v) = true := by simp [Ped.isVar, us] at h ⊢; grind
      rw [hc] at hd
      simp
      refine ⟨by unfold maxLen; omega, by unfold maxBytes; omega, ?_⟩
      simp (disch := omega) only [wrap64]
      exact hK (i + 1, f ++ [l[i].v]) _ (by simp) ⟨by simp; omega, by simpa using hd, by simp; omega⟩ (by simp; omega)
    · have hc : (Ped.isVar l[i].v && !f.contains l[i].v) = false := by simp [Ped.isVar, us] at h ⊢; grind
      rw [hc] at hd
      simp
      simp (disch := omega) only [wrap64]
      exact hK (i + 1, f) _ (by simp) ⟨by simp; omega, by simpa using hd, by simp only; omega⟩ (by simp; omega)
  · rw [List.drop_eq_nil_of_le hge, List.map_nil, varsOn] at hd
    simp [ic98l0, Nat.not_lt.mpr hge, hd]
    exact ret_st (by simp) (by simp) (by simp) (by simp) (by simp) (by simp)

theorem m69h (r : Rule) (hs : r.small 1048576) (hle : r.terms.length ≤ 1048576) : MeetsH Tryz.prog G 48 [.agg (r.row.map A.c)] (hp [] [] F0) (.x (.one (.own 32 ((tmVars r.terms).map nmRow)))) (hp [] [(32, ⟨9, 1, (tmVars r.terms).length⟩)] F0) := by
  refine meetsH [] Tryz.func48 ie69h ig69h (Nat.le_of_ble_eq_true rfl) (by simp) (by simp) (by simp) (by simp) (by simp) (sameKeys_refl F0) (by simp) (by simp) ?_
  simp [ic69h, ir69h]
  refine call_of (m136 r hs hle) ?_
  simp
  refine r_callW _ _ [] [] _ [] _ (MeetsV.of_fun (m98o r.terms [] hle)) rfl rfl rfl (by simp [X.fits, A.fits]) (by simp) ?_
  simp
  exact ret_st (by simp) (by simp) (by simp) (by simp) (by simp) (by simp)

def wideP (p : Pd) : Bool := decide (p.n > 8)
def resP (p : Pd) : Bool := qq.isPrefixOf p.name
def refBad (r : Rule) : Bool := decide (r.body.length > 12) || (standOf r).any wideP || ((tmVars r.terms).any longN || (standOf r).any fun p => longN p.name)
def refRes (r : Rule) : Bool := (standOf r).any resP
def refErr (r : Rule) : Int := if ruleOk r then (if refBad r = true then 70 else if refRes r = true then 71 else ruleErr r) else 40

/- Both are one. -/
theorem sizeErr_eq (v : Name) (n : Int) : sizeErr v n = if longN v || decide (n > 8) then 70 else if qq.isPrefixOf v then 71 else 0 := by
  unfold sizeErr longN
  by_cases h1 : v.length > 24 <;> by_cases h2 : n > 8 <;> simp [h1, h2]
def badP (p : Pd) : Bool := longN p.name || wideP p
theorem litsErr_eq : ∀ (l : List Lit) (w : Int), (∀ x ∈ l, x.kind = 1 ∨ x.kind = 2 ∨ x.kind = 3) → (w = 0 ∨ w = 70 ∨ w = 71) →
    litsErr w l = if w = 70 ∨ ((l.filter isAtom).map litPd).any badP = true then 70 else if w = 71 ∨ ((l.filter isAtom).map litPd).any resP = true then 71 else 0
  | [], w, _, hw => by rcases hw with rfl | rfl | rfl <;> simp [litsErr]
  | x :: l, w, hk, hw => by
    have hk' : ∀ y ∈ l, y.kind = 1 ∨ y.kind = 2 ∨ y.kind = 3 := fun y hy => hk y (List.mem_cons_of_mem _ hy)
    rw [litsErr]
    by_cases h3 : x.kind = 3
    · have hn : isAtom x = false := by simp [isAtom, h3]
      rw [if_pos h3, litsErr_eq l w hk' hw, List.filter_cons_of_neg (by simp [hn])]
    · have hy : isAtom x = true := by
        rcases hk x (List.mem_cons_self ..) with h | h | h
        · simp [isAtom, h]
        · simp [isAtom, h]
        · exact absurd h h3
      rw [if_neg h3, List.filter_cons_of_pos hy, List.map_cons, List.any_cons, List.any_cons]
      have hs := sizeErr_eq x.p x.l.length
      have hb : badP (litPd x) = (longN x.p || decide ((x.l.length : Int) > 8)) := rfl
      have hr : resP (litPd x) = qq.isPrefixOf x.p := rfl
      rw [hb, hr]
      cases e1 : (longN x.p || decide ((x.l.length : Int) > 8)) with
      | true =>
        rw [e1] at hs
        simp only [if_true] at hs
        rw [hs, litsErr_eq l _ hk' (by rcases hw with rfl | rfl | rfl <;> simp [stepErr])]
        simp [stepErr]
      | false =>
        rw [e1] at hs
        simp only [Bool.false_eq_true, if_false] at hs
        cases e2 : qq.isPrefixOf x.p with
        | true =>
          rw [e2] at hs
          simp only [if_true] at hs
          rw [hs, litsErr_eq l _ hk' (by rcases hw with rfl | rfl | rfl <;> simp [stepErr])]
          rcases hw with rfl | rfl | rfl <;> simp [stepErr]
        | false =>
          rw [e2] at hs
          simp only [Bool.false_eq_true, if_false] at hs
          rw [hs, litsErr_eq l _ hk' (by rcases hw with rfl | rfl | rfl <;> simp [stepErr])]
          rcases hw with rfl | rfl | rfl <;> simp [stepErr]

theorem ok_kinds {r : Rule} (h : ruleOk r = true) : ∀ x ∈ r.body, x.kind = 1 ∨ x.kind = 2 ∨ x.kind = 3 := fun x hx => by
  simp only [ruleOk, Bool.and_eq_true] at h
  have := List.all_eq_true.1 h.1.2 x hx
  unfold litOk at this
  split at this
  · rename_i hk; rcases hk with hk | hk
    · exact .inl hk
    · exact .inr (.inl hk)
  · split at this
    · rename_i hk; exact .inr (.inr hk)
    · cases this

theorem user_same (r : Rule) : userErr r = refErr r := by
  unfold userErr refErr
  cases hk : ruleOk r with
  | false => rfl
  | true =>
    simp only [if_true]
    have hkin := ok_kinds hk
    have h0 : firstW r = 0 ∨ firstW r = 70 ∨ firstW r = 71 := by
      unfold firstW sizeErr
      split
      · simp
      · split
        · simp
        · split <;> simp
    rw [litsErr_eq r.body _ hkin h0]
    have hst : standOf r = ⟨r.p, r.head.length⟩ :: (r.body.filter isAtom).map litPd := rfl
    have hB : refBad r = (decide (r.body.length > 12) || (decide ((r.head.length : Int) > 8) || ((r.body.filter isAtom).map litPd).any wideP) || ((tmVars r.terms).any longN || (longN r.p || ((r.body.filter isAtom).map litPd).any fun p => longN p.name))) := by
      unfold refBad; rw [hst]; rfl
    have hRs : refRes r = (qq.isPrefixOf r.p || ((r.body.filter isAtom).map litPd).any resP) := by
      unfold refRes; rw [hst]; rfl
    rw [hB, hRs]
    generalize (r.body.filter isAtom).map litPd = L at *
    have hbad : L.any badP = (L.any wideP || L.any fun p => longN p.name) := by
      clear hst h0 hB hRs
      induction L with
      | nil => rfl
      | cons p L ih =>
        simp only [List.any_cons, ih, badP]
        cases longN p.name <;> cases wideP p <;> cases L.any wideP <;> simp
    rw [hbad]
    have hf : firstW r = if decide (r.body.length > 12) || (tmVars r.terms).any longN then 70 else if longN r.p || decide ((r.head.length : Int) > 8) then 70 else if qq.isPrefixOf r.p then 71 else 0 := by
      unfold firstW
      rw [sizeErr_eq]
      by_cases h1 : r.body.length > 12
      · simp [h1]
      · cases h2 : (tmVars r.terms).any longN <;> simp [h1, h2]
    rw [hf]
    cases decide (r.body.length > 12) <;> cases (tmVars r.terms).any longN <;> cases longN r.p <;> cases decide ((r.head.length : Int) > 8) <;> cases qq.isPrefixOf r.p <;> cases L.any wideP <;> cases (L.any fun p => longN p.name) <;> cases L.any resP <;> simp
end Go.Proofs.YtiomojlcnemnhaaGreatDoor

import Derived.Test.YtiomojlcnemnhaaGreatDoorJGxZ2
import Derived.Test.YtiomojlcnemnhaaGreatDoorJGxZ4
import Derived.Test.YtiomojlcnemnhaaGreatDoorJFxWb
import Derived.Test.YtiomojlcnemnhaaGreatDoorProg
import Derived.KernelRfl
/- Plain words for the variables that a body limits, on: they are the least that hold what is found first and are closed under the equations; each is told once, behind its reason. -/
namespace Go.Ped

/-- Each one of a list behind a first part has its reason ahead of it. -/
def Just (l : List Eqn) (f e : List Name) : Prop := ∀ p v s, e = p ++ v :: s → ∃ q ∈ l, take (f ++ p) q = some v

theorem Just.nil {l : List Eqn} {f : List Name} : Just l f [] := fun p v s h => by simp at h
theorem Just.cons {l : List Eqn} {f e : List Name} {v : Name} {q : Eqn} (hq : q ∈ l) (ht : take f q = some v) (h : Just l (f ++ [v]) e) : Just l f (v :: e) := by
  intro p w s he
  cases p with
  | nil => simp at he; obtain ⟨rfl, rfl⟩ := he; exact ⟨q, hq, by simpa using ht⟩
  | cons u p =>
    simp at he
    obtain ⟨rfl, rfl⟩ := he
    obtain ⟨q', h1, h2⟩ := h p w s rfl
    exact ⟨q', h1, by simpa using h2⟩
theorem Just.append {l : List Eqn} : ∀ {e f e' : List Name}, Just l f e → Just l (f ++ e) e' → Just l f (e ++ e')
  | [], f, e', _, h => by simpa using h
  | v :: e, f, e', h, h' => by
    obtain ⟨q, hq, ht⟩ := h [] v e rfl
    refine Just.cons hq (by simpa using ht) (Just.append (fun p w s he => ?_) (by simpa using h'))
    obtain ⟨q', g1, g2⟩ := h (v :: p) w s (by simp [he])
    exact ⟨q', g1, by simpa using g2⟩
theorem Just.mono {l l' : List Eqn} {f e : List Name} (h : Just l f e) (hs : ∀ q ∈ l, q ∈ l') : Just l' f e := fun p v s he => by
  obtain ⟨q, h1, h2⟩ := h p v s he
  exact ⟨q, hs q h1, h2⟩

theorem goRound_sub : ∀ (w : List Eqn) (f : List Name), ∀ q ∈ (goRound f w).2, q ∈ w
  | [], f, q, h => by simp [goRound] at h
  | p :: w, f, q, h => by
    simp only [goRound] at h
    split at h
    · exact List.mem_cons_of_mem _ (goRound_sub w _ q h)
    · rcases List.mem_cons.1 h with rfl | h
      · exact List.mem_cons_self ..
      · exact List.mem_cons_of_mem _ (goRound_sub w _ q h)

theorem Waits.none {f : List Name} {eqs w : List Eqn} (h : Waits f eqs w) : (∀ q ∈ w, take f q = none) → ∀ q ∈ eqs, take f q = none := by
  induction h with
  | nil => intro _ q hq; cases hq
  | keep h ih =>
    intro g q hq
    rcases List.mem_cons.1 hq with rfl | hq
    · exact g _ (List.mem_cons_self ..)
    · exact ih (fun p hp => g p (List.mem_cons_of_mem _ hp)) q hq
  | gone hd h ih =>
    intro g q hq
    rcases List.mem_cons.1 hq with rfl | hq
    · exact hd _ fun _ hv => hv
    · exact ih g q hq

/-- Is a set closed under equations? -/
def Closed (S : Name → Prop) (eqs : List Eqn) : Prop := ∀ q ∈ eqs, (q.left ≠ [] → (∀ u ∈ q.rights, S u) → S q.left) ∧ (q.right ≠ [] → (∀ u ∈ q.lefts, S u) → S q.right)

end Go.Ped

/- What a body limits, on: plain words for CheckRules, CheckFixed and CheckTurned; no program in sight. -/
namespace Go.Proofs.YtiomojlcnemnhaaGreatDoor
open Go.Fx Go.RowKit Go.Ped

/-- The error of a rule, as it is; does it make values? -/
def ruleErr (r : Rule) : Int := if ruleOk r then (if allIn (tmVars r.terms) (limitsOf r.body) then 0 else 73) else 40
theorem ruleErr_tw (r : Rule) : ruleErr r.tw = ruleErr r := by
  unfold ruleErr
  rw [ruleOk_tw, Rule.terms_tw]
  simp only [Rule.tw, limitsOf_tw]
end Go.Proofs.YtiomojlcnemnhaaGreatDoor

/- Functions of the seat, as the small language has them. -/
namespace Go.Proofs.YtiomojlcnemnhaaGreatDoor
open Go.Fx

/-- pedigree/check.Rule -/
def ic85 : IC :=
 (.seq
 (.region [1] [] [0, 1, 3, 7, 15, 2] [
 ⟨(some 1), (.box 29 (.t 0)), none, none⟩,
 ⟨(some 2), (.move (.k (rI .i64 0))), none, none⟩])
 (.seq
 (.seq
 (.region [] [] [0, 1, 3, 7, 15, 2] [
 ⟨(some 4), (.load (some 3) (.t 1)), none, none⟩,
 ⟨(some 5), (.callp (.k (rF 93)) [(.t 4)]), none, none⟩,
 ⟨(some 3), (.move (.t 5)), none, none⟩])
 (.seq
 (.region [] [] [0, 1, 3, 7, 15, 2] [
 ⟨(some 6), (.move (.t 3)), none, none⟩,
 ⟨(some 7), (.bin .neq (.t 6) (.k (rI .i64 0))), none, none⟩])
 (.cond (.t 7)
 (.seq
 (.region [] [] [0, 1, 3, 7, 15, 2] [
 ⟨(some 8), (.move (.t 3)), none, none⟩,
 ⟨(some 2), (.move (.t 8)), none, none⟩])
 .ret)
 .skip)))
 (.seq
 (.seq
 (.region [] [] [0, 1, 3, 7, 15, 2] [
 ⟨(some 9), (.faddr 2 (.t 1)), none, none⟩,
 ⟨(some 10), (.load none (.t 9)), none, none⟩,
 ⟨(some 11), (.call (.k (rF 94)) [(.t 10)]), none, (some [7, 9, 22])⟩,
 ⟨(some 12), (.load (some 3) (.t 1)), none, (some [1])⟩,
 ⟨(some 13), (.callp (.k (rF 96)) [(.t 12)]), none, none⟩,
 ⟨(some 14), (.call (.k (rF 95)) [(.t 11), (.t 13)]), none, (some [7, 9, 22])⟩,
 ⟨(some 15), (.un .not (.t 14)), none, none⟩])
 (.cond (.t 15)
 (.seq
 (.region [] [] [0, 1, 3, 7, 15, 2] [
 ⟨(some 2), (.move (.k (rI .i64 73))), none, none⟩])
 .ret)
 .skip))
 (.seq
 (.region [] [] [0, 1, 3, 7, 15, 2] [
 ⟨(some 2), (.move (.k (rI .i64 0))), none, none⟩])
 .ret))))
def ir85 : List IRes := [.tmp 2]
theorem ie85 : cmpFunc Go.Proofs.Tryz.prog ⟨[(11, (some [7, 9, 22])), (12, (some [1])), (14, (some [7, 9, 22])), (11, none), (14, none)], []⟩ Go.Proofs.Tryz.f26 [0, 1, 3, 7, 15, 2] = some ic85 := by kernel_rfl
theorem ig85 : cmpRes Go.Proofs.Tryz.prog Go.Proofs.Tryz.f26.results.toList = some ir85 := by kernel_rfl

end Go.Proofs.YtiomojlcnemnhaaGreatDoor

/- Contracts, on: may a rule be used? -/
namespace Go.Proofs.YtiomojlcnemnhaaGreatDoor
open Go.Fx Go.RowKit Go.Ped
variable {G : World → Prop}

theorem c155 (acc l : List Name) (sp : Sp) (hl : l.length ≤ maxLen) :
    MeetsV Tryz.prog G (fnA 95) [.one (.ref 9 0 0), .one (.c (.sl (l.map nmRow) sp))] (hp (OF 9 7 22 acc) (UF 22 acc) F0) (rB (allIn l acc)) (hp (OF 9 7 22 acc) (UF 22 acc) F0) := by
  have h := (((MeetsV.of_fun (m155 (G := G) acc l sp hl)).ren (π := swR 10009 9)).ren (π := swR 10007 7)).ren (π := swR 10022 22)
  simp [swF, thr_ren] at h
  simpa using h

/-- A rule that is not too great. -/
def Rule.fit (r : Rule) : Prop := r.small 1048576 ∧ (∀ x ∈ r.body, x.fit) ∧ r.terms.length ≤ 1048576 ∧ (r.body.map fun x => x.l.length).sum ≤ 10000000

theorem m85 (r : Rule) (hr : r.fit) : Meets Tryz.prog G 26 [.agg r.row] (.x (.one (cI .i64 (ruleErr r)))) := by
  obtain ⟨hs, hf, hl, hb⟩ := hr
  refine meets Tryz.func26 ie85 ig85 (Nat.le_of_ble_eq_true rfl) ?_
  have hv := tmVars_len r.terms
  simp [ic85, ir85]
  refine call_of (m66 r hs (by omega)) ?_
  simp
  by_cases hk : ruleOk r = true
  · simp [hk]
    refine r_callN [7, 9, 22] _ _ [] [] _ (OF 9 7 22 (limitsOf r.body)) (UF 22 (limitsOf r.body)) (MeetsV.of_fun (m121 r.body r.bsp hf hs.2.1 hb)) rfl rfl rfl (by simp) (by simp) (by simp) ?_
    simp
    refine call_of (m68 r hs (by omega)) ?_
    simp
    refine r_callN [7, 9, 22] _ _ (OF 9 7 22 (limitsOf r.body)) (UF 22 (limitsOf r.body)) _ (OF 9 7 22 (limitsOf r.body)) (UF 22 (limitsOf r.body)) (c155 _ (tmVars r.terms) [] (by unfold maxLen; omega)) rfl rfl rfl (by simp [X.fits, A.fits]) (by simp) (by simp) ?_
    simp
    refine condI_of (fun h => ?_) (fun h => ?_)
    · simp at h
      simp [ruleErr, hk, h]
    · simp at h
      simp [ruleErr, hk, h]
  · simp [hk, ruleErr]
end Go.Proofs.YtiomojlcnemnhaaGreatDoor

/- Functions of the seat, as the small language has them. -/
namespace Go.Proofs.YtiomojlcnemnhaaGreatDoor
open Go.Fx

/-- pedigree/pedigreeref07.Rule -/
def ic2027 : IC :=
 (.seq
 (.region [1] [] [0, 1, 5, 12, 2] [
 ⟨(some 1), (.box 29 (.t 0)), none, none⟩,
 ⟨(some 2), (.move (.k (rI .i64 0))), none, none⟩])
 (.seq
 (.seq
 (.region [] [] [0, 1, 5, 12, 2] [
 ⟨(some 3), (.load (some 3) (.t 1)), none, none⟩,
 ⟨(some 4), (.callp (.k (rF 46)) [(.t 3)]), none, none⟩,
 ⟨(some 5), (.bin .neq (.t 4) (.k (rI .i64 0))), none, none⟩])
 (.cond (.t 5)
 (.seq
 (.region [] [] [0, 1, 5, 12, 2] [
 ⟨(some 2), (.move (.k (rI .i64 40))), none, none⟩])
 .ret)
 .skip))
 (.seq
 (.seq
 (.region [] [] [0, 1, 5, 12, 2] [
 ⟨(some 6), (.load (some 3) (.t 1)), none, none⟩,
 ⟨(some 7), (.callp (.k (rF 48)) [(.t 6)]), none, none⟩,
 ⟨(some 8), (.faddr 2 (.t 1)), none, none⟩,
 ⟨(some 9), (.load none (.t 8)), none, none⟩,
 ⟨(some 10), (.callp (.k (rF 97)) [(.t 9)]), none, none⟩,
 ⟨(some 11), (.callp (.k (rF 66)) [(.t 7), (.t 10)]), none, none⟩,
 ⟨(some 12), (.un .not (.t 11)), none, none⟩])
 (.cond (.t 12)
 (.seq
 (.region [] [] [0, 1, 5, 12, 2] [
 ⟨(some 2), (.move (.k (rI .i64 73))), none, none⟩])
 .ret)
 .skip))
 (.seq
 (.region [] [] [0, 1, 5, 12, 2] [
 ⟨(some 2), (.move (.k (rI .i64 0))), none, none⟩])
 .ret))))
def ir2027 : List IRes := [.tmp 2]
theorem ie2027 : cmpFunc Go.Proofs.Tryz.prog ⟨[], []⟩ Go.Proofs.Tryz.f27 [0, 1, 5, 12, 2] = some ic2027 := by kernel_rfl
theorem ig2027 : cmpRes Go.Proofs.Tryz.prog Go.Proofs.Tryz.f27.results.toList = some ir2027 := by kernel_rfl

end Go.Proofs.YtiomojlcnemnhaaGreatDoor

/- Contracts, on: may a rule be used, does it make values: the document's, the program's; the law. (Labels of 2000 and more: seat ZD.) -/
namespace Go.Proofs.YtiomojlcnemnhaaGreatDoor
open Go.Fx Go.RowKit Go.Ped
variable {G : World → Prop}

theorem m2027 (r : Rule) (hr : r.fit) : Meets Tryz.prog G 27 [.agg r.row] (.x (.one (cI .i64 (ruleErr r)))) := by
  obtain ⟨hs, hf, hl, hb⟩ := hr
  refine meets Tryz.func27 ie2027 ig2027 (Nat.le_of_ble_eq_true rfl) ?_
  have hv := tmVars_len r.terms
  have hq : (limitsOf r.body).length ≤ maxLen := by
    have h1 := goRounds_len (eqsOf r.body) (atomsOn [] r.body)
    have h2 := atomsOn_len r.body []
    have h3 := eqsOf_len r.body
    have h4 := hs.2.1
    simp only [List.length_nil] at h2
    unfold maxLen limitsOf; omega
  simp [ic2027, ir2027]
  refine call_of (m67 r hs hl) ?_
  simp
  by_cases hk : ruleOk r = true
  · simp [hk]
    refine call_of (m69 r hs hl) ?_
    simp
    refine call_of (m51 r.body r.bsp hf hs.2.1 hb) ?_
    simp
    refine call_of (m179 (tmVars r.terms) (limitsOf r.body) [] [] (by unfold maxLen; omega) hq) ?_
    simp
    refine condI_of (fun h => ?_) (fun h => ?_)
    · simp at h
      simp [ruleErr, hk, h]
    · simp at h
      simp [ruleErr, hk, h]
  · simp [hk, ruleErr]

/-- The head alone. -/
def Rule.bare (r : Rule) : Rule := ⟨[], r.head, r.hsp, [], []⟩
theorem fit_twr {r : Rule} (h : r.fit) : r.tw.fit := ⟨Rule.small_tw h.1, fun x hx => by
  obtain ⟨y, hy, rfl⟩ := List.mem_map.1 hx
  exact fit_tw (h.2.1 y hy), by rw [Rule.terms_tw]; exact h.2.2.1, by
  show ((r.body.map Lit.tw).map fun x => x.l.length).sum ≤ _
  rw [List.map_map]; exact h.2.2.2⟩

end Go.Proofs.YtiomojlcnemnhaaGreatDoor

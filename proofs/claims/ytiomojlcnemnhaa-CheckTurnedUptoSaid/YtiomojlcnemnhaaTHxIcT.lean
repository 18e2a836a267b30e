import Derived.Test.YtiomojlcnemnhaaTHxZ4
import Derived.Test.YtiomojlcnemnhaaTPedN
import Derived.Test.YtiomojlcnemnhaaTFxWb
import Derived.Test.YtiomojlcnemnhaaProg
import Derived.KernelRfl
/- What a body limits, on: plain words for CheckRules, CheckFixed and CheckTurned; no program in sight. -/
namespace Go.Proofs.Ytiomojlcnemnhaa
open Go.Fx Go.RowKit Go.Ped

theorem mem_addAll : ∀ {l acc : List Name} {v : Name}, v ∈ addAll acc l ↔ v ∈ acc ∨ v ∈ l
  | [], acc, v => by simp [addAll]
  | u :: l, acc, v => by
    rw [addAll, mem_addAll, List.mem_cons]
    by_cases h : acc.contains u = true
    · rw [if_pos h]
      constructor
      · rintro (h1 | h1)
        · exact .inl h1
        · exact .inr (.inr h1)
      · rintro (h1 | rfl | h1)
        · exact .inl h1
        · exact .inl (by simpa using h)
        · exact .inr h1
    · rw [if_neg h]
      simp only [List.mem_append, List.mem_singleton]
      constructor
      · rintro ((h1 | h1) | h1)
        · exact .inl h1
        · exact .inr (.inl h1)
        · exact .inr (.inr h1)
      · rintro (h1 | h1 | h1)
        · exact .inl (.inl h1)
        · exact .inl (.inr h1)
        · exact .inr h1
theorem addAll_nodup : ∀ {l acc : List Name}, acc.Nodup → (addAll acc l).Nodup
  | [], acc, h => h
  | u :: l, acc, h => by
    rw [addAll]
    refine addAll_nodup ?_
    by_cases hc : acc.contains u = true
    · rw [if_pos hc]; exact h
    · rw [if_neg hc, List.nodup_append]
      refine ⟨h, by simp, fun a ha b hb e => ?_⟩
      simp only [List.mem_singleton] at hb
      subst hb; subst e
      exact hc (by simpa using ha)
theorem mem_atomsOn : ∀ {l : List Lit} {acc : List Name} {v : Name}, v ∈ atomsOn acc l ↔ v ∈ acc ∨ ∃ x ∈ l, x.kind = 1 ∧ v ∈ tmVars x.l
  | [], acc, v => by simp [atomsOn]
  | x :: l, acc, v => by
    rw [atomsOn, mem_atomsOn]
    by_cases h : x.kind = 1
    · rw [if_pos h, mem_addAll]
      constructor
      · rintro ((h1 | h1) | ⟨y, h1, h2⟩)
        · exact .inl h1
        · exact .inr ⟨x, List.mem_cons_self .., h, h1⟩
        · exact .inr ⟨y, List.mem_cons_of_mem _ h1, h2⟩
      · rintro (h1 | ⟨y, h1, h2⟩)
        · exact .inl (.inl h1)
        · rcases List.mem_cons.1 h1 with rfl | h1
          · exact .inl (.inr h2.2)
          · exact .inr ⟨y, h1, h2⟩
    · rw [if_neg h]
      constructor
      · rintro (h1 | ⟨y, h1, h2⟩)
        · exact .inl h1
        · exact .inr ⟨y, List.mem_cons_of_mem _ h1, h2⟩
      · rintro (h1 | ⟨y, h1, h2⟩)
        · exact .inl h1
        · rcases List.mem_cons.1 h1 with rfl | h1
          · exact absurd h2.1 h
          · exact .inr ⟨y, h1, h2⟩
theorem atomsOn_nodup : ∀ {l : List Lit} {acc : List Name}, acc.Nodup → (atomsOn acc l).Nodup
  | [], acc, h => h
  | x :: l, acc, h => by
    rw [atomsOn]
    refine atomsOn_nodup ?_
    split
    · exact addAll_nodup h
    · exact h

theorem goRounds_nil (f : List Name) : goRounds f [] = f := by
  rw [goRounds]; rfl
theorem limits_spec (l : List Lit) : (∀ v ∈ atomsOn [] l, v ∈ limitsOf l) ∧ Closed (· ∈ limitsOf l) (eqsOf l) ∧ (∀ S : Name → Prop, Closed S (eqsOf l) → (∀ v ∈ atomsOn [] l, S v) → ∀ v ∈ limitsOf l, S v) ∧ (limitsOf l).Nodup := by
  obtain ⟨h1, h2, h3, h4⟩ := goRounds_spec (eqs_wf l) (atomsOn [] l)
  exact ⟨h1, h2, h3, h4 (atomsOn_nodup List.nodup_nil)⟩
theorem mem_eqsOf {q : Eqn} {l : List Lit} : q ∈ eqsOf l ↔ ∃ x ∈ l, isEqn x = true ∧ eqnOf x = q :=
  ⟨eqsOf_mem, fun ⟨x, h1, h2, h3⟩ => by subst h3; exact List.mem_map_of_mem (List.mem_filter.2 ⟨h1, h2⟩)⟩
/-- With more literals all is limited still. -/
theorem limits_mono {l m : List Lit} (h : ∀ x ∈ l, x ∈ m) : ∀ v ∈ limitsOf l, v ∈ limitsOf m := by
  obtain ⟨_, _, h3, _⟩ := limits_spec l
  obtain ⟨g1, g2, _, _⟩ := limits_spec m
  refine h3 _ (fun q hq => ?_) fun v hv => ?_
  · obtain ⟨x, hx, he, rfl⟩ := mem_eqsOf.1 hq
    exact g2 _ (mem_eqsOf.2 ⟨x, h x hx, he, rfl⟩)
  · rcases mem_atomsOn.1 hv with hv | ⟨x, hx, hk, hv⟩
    · cases hv
    · exact g1 v (mem_atomsOn.2 (.inr ⟨x, h x hx, hk, hv⟩))
theorem nodup_len {α : Type} [DecidableEq α] : ∀ {l m : List α}, l.Nodup → (∀ v ∈ l, v ∈ m) → l.length ≤ m.length
  | [], _, _, _ => Nat.zero_le _
  | a :: l, m, hn, h => by
    have g := List.nodup_cons.1 hn
    have ha := h a (List.mem_cons_self ..)
    have h1 := nodup_len (l := l) (m := m.erase a) g.2 fun v hv => (List.mem_erase_of_ne (fun e => g.1 (by rw [← e]; exact hv))).2 (h v (List.mem_cons_of_mem _ hv))
    have h2 := List.length_erase_of_mem ha
    have h3 := List.length_pos_of_mem ha
    simp only [List.length_cons]
    omega
/-- The order of the literals is nothing to it. -/
theorem limits_len {l m : List Lit} (h1 : ∀ x ∈ l, x ∈ m) (h2 : ∀ x ∈ m, x ∈ l) : (limitsOf m).length = (limitsOf l).length :=
  Nat.le_antisymm (nodup_len (limits_spec m).2.2.2 (limits_mono h2)) (nodup_len (limits_spec l).2.2.2 (limits_mono h1))
theorem limits_allIn {l m : List Lit} (h : ∀ x ∈ l, x ∈ m) : allIn (limitsOf l) (limitsOf m) = true := allIn_iff.2 (limits_mono h)

/-- The error of a rule, as it is; does it make values? -/
def ruleErr (r : Rule) : Int := if ruleOk r then (if allIn (tmVars r.terms) (limitsOf r.body) then 0 else 73) else 40
end Go.Proofs.Ytiomojlcnemnhaa

/- Functions of the seat, as the small language has them. -/
namespace Go.Proofs.Ytiomojlcnemnhaa
open Go.Fx

/-- pedigree/check.Rule -/
def ic85 : IC :=
 (.seq
 (.region [1] [] [0, 1, 3, 7, 15, 2] [
 ⟨(some 1), (.box 186 (.t 0)), none, none⟩,
 ⟨(some 2), (.move (.k (rI .i64 0))), none, none⟩])
 (.seq
 (.seq
 (.region [] [] [0, 1, 3, 7, 15, 2] [
 ⟨(some 4), (.load (some 3) (.t 1)), none, none⟩,
 ⟨(some 5), (.callp (.k (rF 109)) [(.t 4)]), none, none⟩,
 ⟨(some 3), (.move (.t 5)), none, none⟩])
 (.seq
 (.region [] [] [0, 1, 3, 7, 15, 2] [
 ⟨(some 6), (.move (.t 3)), none, none⟩,
 ⟨(some 7), (.bin .neq (.t 6) (.k (rI .i64 0))), none, none⟩])
 (.cond (.t 7)
 (.seq
 (.region [] [] [0, 1, 3, 7, 15, 2] [
 ⟨(some 8), (.move (.t 3)), none, none⟩,
 ⟨(some 2), (.move (.t 8)), none, none⟩])
 .ret)
 .skip)))
 (.seq
 (.seq
 (.region [] [] [0, 1, 3, 7, 15, 2] [
 ⟨(some 9), (.faddr 2 (.t 1)), none, none⟩,
 ⟨(some 10), (.load none (.t 9)), none, none⟩,
 ⟨(some 11), (.call (.k (rF 66)) [(.t 10)]), none, (some [7, 9, 22])⟩,
 ⟨(some 12), (.load (some 3) (.t 1)), none, (some [1])⟩,
 ⟨(some 13), (.callp (.k (rF 111)) [(.t 12)]), none, none⟩,
 ⟨(some 14), (.call (.k (rF 110)) [(.t 11), (.t 13)]), none, (some [7, 9, 22])⟩,
 ⟨(some 15), (.un .not (.t 14)), none, none⟩])
 (.cond (.t 15)
 (.seq
 (.region [] [] [0, 1, 3, 7, 15, 2] [
 ⟨(some 2), (.move (.k (rI .i64 73))), none, none⟩])
 .ret)
 .skip))
 (.seq
 (.region [] [] [0, 1, 3, 7, 15, 2] [
 ⟨(some 2), (.move (.k (rI .i64 0))), none, none⟩])
 .ret))))
def ir85 : List IRes := [.tmp 2]
theorem ie85 : cmpFunc Go.Proofs.Try.prog ⟨[(11, (some [7, 9, 22])), (12, (some [1])), (14, (some [7, 9, 22])), (11, none), (14, none)], []⟩ Go.Proofs.Try.f65 [0, 1, 3, 7, 15, 2] = some ic85 := by kernel_rfl
theorem ig85 : cmpRes Go.Proofs.Try.prog Go.Proofs.Try.f65.results.toList = some ir85 := by kernel_rfl

end Go.Proofs.Ytiomojlcnemnhaa

/- Contracts, on: may a rule be used? -/
namespace Go.Proofs.Ytiomojlcnemnhaa
open Go.Fx Go.RowKit Go.Ped
variable {G : World → Prop}

theorem c155 (acc l : List Name) (sp : Sp) (hl : l.length ≤ maxLen) :
    MeetsV Try.prog G (fnA 110) [.one (.ref 9 0 0), .one (.c (.sl (l.map nmRow) sp))] (hp (OF 9 7 22 acc) (UF 22 acc) F0) (rB (allIn l acc)) (hp (OF 9 7 22 acc) (UF 22 acc) F0) := by
  have h := (((MeetsV.of_fun (m155 (G := G) acc l sp hl)).ren (π := swR 10009 9)).ren (π := swR 10007 7)).ren (π := swR 10022 22)
  simp [swF, thr_ren] at h
  simpa using h

/-- A rule that is not too great. -/
def Rule.fit (r : Rule) : Prop := r.small 1048576 ∧ (∀ x ∈ r.body, x.fit) ∧ r.terms.length ≤ 1048576 ∧ (r.body.map fun x => x.l.length).sum ≤ 10000000

theorem m85 (r : Rule) (hr : r.fit) : Meets Try.prog G 65 [.agg r.row] (.x (.one (cI .i64 (ruleErr r)))) := by
  obtain ⟨hs, hf, hl, hb⟩ := hr
  refine meets Try.func65 ie85 ig85 (Nat.le_of_ble_eq_true rfl) ?_
  have hv := tmVars_len r.terms
  simp [ic85, ir85]
  refine call_of (m66 r hs (by omega)) ?_
  simp
  by_cases hk : ruleOk r = true
  · simp [hk]
    refine r_callN [7, 9, 22] _ _ [] [] _ (OF 9 7 22 (limitsOf r.body)) (UF 22 (limitsOf r.body)) (MeetsV.of_fun (m121 r.body r.bsp hf hs.2.1 hb)) rfl rfl rfl (by simp) (by simp) (by simp) ?_
    simp
    refine call_of (m68 r hs (by omega)) ?_
    simp
    refine r_callN [7, 9, 22] _ _ (OF 9 7 22 (limitsOf r.body)) (UF 22 (limitsOf r.body)) _ (OF 9 7 22 (limitsOf r.body)) (UF 22 (limitsOf r.body)) (c155 _ (tmVars r.terms) [] (by unfold maxLen; omega)) rfl rfl rfl (by simp [X.fits, A.fits]) (by simp) (by simp) ?_
    simp
    refine condI_of (fun h => ?_) (fun h => ?_)
    · simp at h
      simp [ruleErr, hk, h]
    · simp at h
      simp [ruleErr, hk, h]
  · simp [hk, ruleErr]
end Go.Proofs.Ytiomojlcnemnhaa

/- Functions of the seat, as the small language has them. -/
namespace Go.Proofs.Ytiomojlcnemnhaa
open Go.Fx

end Go.Proofs.Ytiomojlcnemnhaa

/- Contracts, on: may a rule be used, does it make values: the document's, the program's; the law. (Labels of 2000 and more: seat ZD.) -/
namespace Go.Proofs.Ytiomojlcnemnhaa
open Go.Fx Go.RowKit Go.Ped
variable {G : World → Prop}

/-- The head alone. -/
def Rule.bare (r : Rule) : Rule := ⟨[], r.head, r.hsp, [], []⟩
end Go.Proofs.Ytiomojlcnemnhaa

/- Functions of the seat, as the small language has them. -/
namespace Go.Proofs.Ytiomojlcnemnhaa
open Go.Fx

end Go.Proofs.Ytiomojlcnemnhaa

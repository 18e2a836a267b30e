import Derived.Test.YtiomojlcnemnhaaGreatDoorGxZ4
import Derived.Test.YtiomojlcnemnhaaGreatDoorPedN
import Derived.Test.YtiomojlcnemnhaaGreatDoorFxWb
import Derived.Test.YtiomojlcnemnhaaGreatDoorProg
import Derived.KernelRfl
/- What a body limits, on: plain words for CheckRules, CheckFixed and CheckTurned; no program in sight. -/
namespace Go.Proofs.YtiomojlcnemnhaaGreatDoor
open Go.Fx Go.RowKit Go.Ped

theorem mem_addAll : ∀ {l acc : List Name} {v : Name}, v ∈ addAll acc l ↔ v ∈ acc ∨ v ∈ l
  | [], acc, v => by simp [addAll]
  | u :: l, acc, v => by
    rw [addAll, mem_addAll, List.mem_cons]
    by_cases h : acc.contains u = true
    · rw [if_pos h]
      constructor
      · rintro (h1 | h1)
        · exact .inl h1
        · exact .inr (.inr h1)
      · rintro (h1 | rfl | h1)
        · exact .inl h1
        · exact .inl (by simpa using h)
        · exact .inr h1
    · rw [if_neg h]
      simp only [List.mem_append, List.mem_singleton]
      constructor
      · rintro ((h1 | h1) | h1)
        · exact .inl h1
        · exact .inr (.inl h1)
        · exact .inr (.inr h1)
      · rintro (h1 | h1 | h1)
        · exact .inl (.inl h1)
        · exact .inl (.inr h1)
        · exact .inr h1
theorem addAll_nodup : ∀ {l acc : List Name}, acc.Nodup → (addAll acc l).Nodup
  | [], acc, h => h
  | u :: l, acc, h => by
    rw [addAll]
    refine addAll_nodup ?_
    by_cases hc : acc.contains u = true
    · rw [if_pos hc]; exact h
    · rw [if_neg hc, List.nodup_append]
      refine ⟨h, by simp, fun a ha b hb e => ?_⟩
      simp only [List.mem_singleton] at hb
      subst hb; subst e
      exact hc (by simpa using ha)
theorem mem_atomsOn : ∀ {l : List Lit} {acc : List Name} {v : Name}, v ∈ atomsOn acc l ↔ v ∈ acc ∨ ∃ x ∈ l, x.kind = 1 ∧ v ∈ tmVars x.l
  | [], acc, v => by simp [atomsOn]
  | x :: l, acc, v => by
    rw [atomsOn, mem_atomsOn]
    by_cases h : x.kind = 1
    · rw [if_pos h, mem_addAll]
      constructor
      · rintro ((h1 | h1) | ⟨y, h1, h2⟩)
        · exact .inl h1
        · exact .inr ⟨x, List.mem_cons_self .., h, h1⟩
        · exact .inr ⟨y, List.mem_cons_of_mem _ h1, h2⟩
      · rintro (h1 | ⟨y, h1, h2⟩)
        · exact .inl (.inl h1)
        · rcases List.mem_cons.1 h1 with rfl | h1
          · exact .inl (.inr h2.2)
          · exact .inr ⟨y, h1, h2⟩
    · rw [if_neg h]
      constructor
      · rintro (h1 | ⟨y, h1, h2⟩)
        · exact .inl h1
        · exact .inr ⟨y, List.mem_cons_of_mem _ h1, h2⟩
      · rintro (h1 | ⟨y, h1, h2⟩)
        · exact .inl h1
        · rcases List.mem_cons.1 h1 with rfl | h1
          · exact absurd h2.1 h
          · exact .inr ⟨y, h1, h2⟩
theorem atomsOn_nodup : ∀ {l : List Lit} {acc : List Name}, acc.Nodup → (atomsOn acc l).Nodup
  | [], acc, h => h
  | x :: l, acc, h => by
    rw [atomsOn]
    refine atomsOn_nodup ?_
    split
    · exact addAll_nodup h
    · exact h

/-- Of the atoms alone no more is limited than they have. -/
theorem atomsOn_pos : ∀ (l : List Lit) (acc : List Name), atomsOn acc (l.filter fun x => x.kind == 1) = atomsOn acc l
  | [], _ => rfl
  | x :: l, acc => by
    by_cases h : x.kind = 1
    · rw [List.filter_cons_of_pos (by simpa using h), atomsOn, atomsOn, if_pos h]; exact atomsOn_pos l _
    · rw [List.filter_cons_of_neg (by simpa using h), atomsOn, if_neg h]; exact atomsOn_pos l _
theorem eqsOf_pos (l : List Lit) : eqsOf (l.filter fun x => x.kind == 1) = [] := by
  unfold eqsOf
  rw [List.filter_filter]
  have : (l.filter fun x => isEqn x && x.kind == 1) = [] := by
    rw [List.filter_eq_nil_iff]
    intro x _ h
    simp only [isEqn, Bool.and_eq_true, beq_iff_eq] at h
    omega
  rw [this]; rfl
theorem goRounds_nil (f : List Name) : goRounds f [] = f := by
  rw [goRounds]; rfl
theorem limitsOf_pos (l : List Lit) : limitsOf (l.filter fun x => x.kind == 1) = atomsOn [] l := by
  unfold limitsOf
  rw [eqsOf_pos, atomsOn_pos, goRounds_nil]

theorem limits_spec (l : List Lit) : (∀ v ∈ atomsOn [] l, v ∈ limitsOf l) ∧ Closed (· ∈ limitsOf l) (eqsOf l) ∧ (∀ S : Name → Prop, Closed S (eqsOf l) → (∀ v ∈ atomsOn [] l, S v) → ∀ v ∈ limitsOf l, S v) ∧ (limitsOf l).Nodup := by
  obtain ⟨h1, h2, h3, h4⟩ := goRounds_spec (eqs_wf l) (atomsOn [] l)
  exact ⟨h1, h2, h3, h4 (atomsOn_nodup List.nodup_nil)⟩
theorem mem_eqsOf {q : Eqn} {l : List Lit} : q ∈ eqsOf l ↔ ∃ x ∈ l, isEqn x = true ∧ eqnOf x = q :=
  ⟨eqsOf_mem, fun ⟨x, h1, h2, h3⟩ => by subst h3; exact List.mem_map_of_mem (List.mem_filter.2 ⟨h1, h2⟩)⟩
/-- With more literals all is limited still. -/
theorem limits_mono {l m : List Lit} (h : ∀ x ∈ l, x ∈ m) : ∀ v ∈ limitsOf l, v ∈ limitsOf m := by
  obtain ⟨_, _, h3, _⟩ := limits_spec l
  obtain ⟨g1, g2, _, _⟩ := limits_spec m
  refine h3 _ (fun q hq => ?_) fun v hv => ?_
  · obtain ⟨x, hx, he, rfl⟩ := mem_eqsOf.1 hq
    exact g2 _ (mem_eqsOf.2 ⟨x, h x hx, he, rfl⟩)
  · rcases mem_atomsOn.1 hv with hv | ⟨x, hx, hk, hv⟩
    · cases hv
    · exact g1 v (mem_atomsOn.2 (.inr ⟨x, h x hx, hk, hv⟩))
theorem nodup_len {α : Type} [DecidableEq α] : ∀ {l m : List α}, l.Nodup → (∀ v ∈ l, v ∈ m) → l.length ≤ m.length
  | [], _, _, _ => Nat.zero_le _
  | a :: l, m, hn, h => by
    have g := List.nodup_cons.1 hn
    have ha := h a (List.mem_cons_self ..)
    have h1 := nodup_len (l := l) (m := m.erase a) g.2 fun v hv => (List.mem_erase_of_ne (fun e => g.1 (by rw [← e]; exact hv))).2 (h v (List.mem_cons_of_mem _ hv))
    have h2 := List.length_erase_of_mem ha
    have h3 := List.length_pos_of_mem ha
    simp only [List.length_cons]
    omega
/-- The order of the literals is nothing to it. -/
theorem limits_len {l m : List Lit} (h1 : ∀ x ∈ l, x ∈ m) (h2 : ∀ x ∈ m, x ∈ l) : (limitsOf m).length = (limitsOf l).length :=
  Nat.le_antisymm (nodup_len (limits_spec m).2.2.2 (limits_mono h2)) (nodup_len (limits_spec l).2.2.2 (limits_mono h1))
theorem limits_allIn {l m : List Lit} (h : ∀ x ∈ l, x ∈ m) : allIn (limitsOf l) (limitsOf m) = true := allIn_iff.2 (limits_mono h)

/-- Does an equation of the body give this variable, if these have been found? -/
def equated (l : List Lit) (v : Name) (f : List Name) : Bool :=
  l.any fun x => isEqn x && ((loneOf x.left != [] && loneOf x.left == v && allIn (tmVars x.right.terms) f) || (loneOf x.right != [] && loneOf x.right == v && allIn (tmVars x.left.terms) f))
theorem equated_iff {l : List Lit} {v : Name} {f : List Name} : equated l v f = true ↔ v ≠ [] ∧ ∃ q ∈ eqsOf l, (q.left = v ∧ ∀ u ∈ q.rights, u ∈ f) ∨ (q.right = v ∧ ∀ u ∈ q.lefts, u ∈ f) := by
  unfold equated
  simp only [List.any_eq_true, Bool.and_eq_true, Bool.or_eq_true, bne_iff_ne, ne_eq, beq_iff_eq, allIn_iff]
  constructor
  · rintro ⟨x, hx, he, h⟩
    refine ⟨?_, eqnOf x, mem_eqsOf.2 ⟨x, hx, he, rfl⟩, ?_⟩
    · rcases h with ⟨⟨h1, h2⟩, _⟩ | ⟨⟨h1, h2⟩, _⟩
      · rw [← h2]; exact h1
      · rw [← h2]; exact h1
    · rcases h with ⟨⟨_, h2⟩, h3⟩ | ⟨⟨_, h2⟩, h3⟩
      · exact .inl ⟨h2, h3⟩
      · exact .inr ⟨h2, h3⟩
  · rintro ⟨hv, q, hq, h⟩
    obtain ⟨x, hx, he, rfl⟩ := mem_eqsOf.1 hq
    refine ⟨x, hx, he, ?_⟩
    rcases h with ⟨h1, h2⟩ | ⟨h1, h2⟩
    · have h1 : loneOf x.left = v := h1
      exact .inl ⟨⟨by rw [h1]; exact hv, h1⟩, h2⟩
    · have h1 : loneOf x.right = v := h1
      exact .inr ⟨⟨by rw [h1]; exact hv, h1⟩, h2⟩
/-- What is limited and equated by it is limited. -/
theorem equated_in {l : List Lit} {v : Name} (h : equated l v (limitsOf l) = true) : v ∈ limitsOf l := by
  obtain ⟨hv, q, hq, h⟩ := equated_iff.1 h
  have hc := (limits_spec l).2.1 q hq
  rcases h with ⟨h1, h2⟩ | ⟨h1, h2⟩
  · rw [← h1]; exact hc.1 (by rw [h1]; exact hv) h2
  · rw [← h1]; exact hc.2 (by rw [h1]; exact hv) h2
/-- Each has its reason ahead. -/
theorem limits_just (l : List Lit) : ∃ e, limitsOf l = atomsOn [] l ++ e ∧ ∀ p v s, e = p ++ v :: s → equated l v (atomsOn [] l ++ p) = true := by
  obtain ⟨e, h1, h2⟩ := goRounds_just (atomsOn [] l) (eqsOf l)
  refine ⟨e, h1, fun p v s he => ?_⟩
  obtain ⟨q, hq, ht⟩ := h2 p v s he
  obtain ⟨_, hv, h⟩ := take_some ht
  refine equated_iff.2 ⟨hv, q, hq, ?_⟩
  rcases h with ⟨g1, g2⟩ | ⟨g1, g2⟩
  · exact .inl ⟨g1.symm, g2⟩
  · exact .inr ⟨g1.symm, g2⟩
theorem limits_at (l : List Lit) (i : Nat) (h : i < (limitsOf l).length) : (limitsOf l)[i] ∉ (limitsOf l).take i ∧ ((limitsOf l)[i] ∈ atomsOn [] l ∨ equated l (limitsOf l)[i] ((limitsOf l).take i) = true) := by
  obtain ⟨_, _, _, hn⟩ := limits_spec l
  obtain ⟨e, h1, h2⟩ := limits_just l
  refine ⟨fun hm => ?_, ?_⟩
  · obtain ⟨j, hj, he⟩ := List.mem_take_iff_getElem.1 hm
    have := (List.getElem_inj (h₀ := by omega) (h₁ := h) hn).1 he
    omega
  · generalize limitsOf l = L at *
    subst h1
    by_cases hi : i < (atomsOn [] l).length
    · exact .inl (by rw [List.getElem_append_left hi]; exact List.getElem_mem hi)
    · right
      have hi' : i - (atomsOn [] l).length < e.length := by simp at h; omega
      have hs := h2 (e.take (i - (atomsOn [] l).length)) e[i - (atomsOn [] l).length] (e.drop (i - (atomsOn [] l).length + 1)) (by rw [← List.drop_eq_getElem_cons hi', List.take_append_drop])
      rw [List.getElem_append_right (by omega), List.take_append, List.take_of_length_le (by omega)]
      exact hs

/-- The error of a rule, as it is; does it make values? -/
def ruleErr (r : Rule) : Int := if ruleOk r then (if allIn (tmVars r.terms) (limitsOf r.body) then 0 else 73) else 40
def works (x : Lit) : Bool := x.kind == 3 && (x.left.op != 0 || x.right.op != 0)
def makesOf (r : Rule) : Bool := ruleErr r == 0 && r.body.any works && !allIn (tmVars (r.head.map Arg.t)) (atomsOn [] r.body)
theorem ruleErr_tw (r : Rule) : ruleErr r.tw = ruleErr r := by
  unfold ruleErr
  rw [ruleOk_tw, Rule.terms_tw]
  simp only [Rule.tw, limitsOf_tw]
theorem makesOf_tw (r : Rule) : makesOf r.tw = makesOf r := by
  unfold makesOf
  rw [ruleErr_tw]
  have h : (works ∘ Lit.tw) = works := by
    funext x
    obtain ⟨kind, p, l, sp, rel, left, right⟩ := x
    obtain ⟨o1, t1, k1, s1⟩ := left
    obtain ⟨o2, t2, k2, s2⟩ := right
    simp [works, Lit.twin, Ex.twin_mk]
  simp only [Rule.tw, List.any_map, h, atomsOn_tw]
end Go.Proofs.YtiomojlcnemnhaaGreatDoor

/- Functions of the seat, as the small language has them. -/
namespace Go.Proofs.YtiomojlcnemnhaaGreatDoor
open Go.Fx

/-- pedigree/check.Rule -/
def ic85 : IC :=
 (.seq
  (.region [1] [] [0, 1, 3, 7, 15, 2] [
    ⟨(some 1), (.box 29 (.t 0)), none, none⟩,
    ⟨(some 2), (.move (.k (rI .i64 0))), none, none⟩])
  (.seq
   (.seq
    (.region [] [] [0, 1, 3, 7, 15, 2] [
      ⟨(some 4), (.load (some 3) (.t 1)), none, none⟩,
      ⟨(some 5), (.callp (.k (rF 93)) [(.t 4)]), none, none⟩,
      ⟨(some 3), (.move (.t 5)), none, none⟩])
    (.seq
     (.region [] [] [0, 1, 3, 7, 15, 2] [
       ⟨(some 6), (.move (.t 3)), none, none⟩,
       ⟨(some 7), (.bin .neq (.t 6) (.k (rI .i64 0))), none, none⟩])
     (.cond (.t 7)
      (.seq
       (.region [] [] [0, 1, 3, 7, 15, 2] [
         ⟨(some 8), (.move (.t 3)), none, none⟩,
         ⟨(some 2), (.move (.t 8)), none, none⟩])
       .ret)
      .skip)))
   (.seq
    (.seq
     (.region [] [] [0, 1, 3, 7, 15, 2] [
       ⟨(some 9), (.faddr 2 (.t 1)), none, none⟩,
       ⟨(some 10), (.load none (.t 9)), none, none⟩,
       ⟨(some 11), (.call (.k (rF 94)) [(.t 10)]), none, (some [7, 9, 22])⟩,
       ⟨(some 12), (.load (some 3) (.t 1)), none, (some [1])⟩,
       ⟨(some 13), (.callp (.k (rF 96)) [(.t 12)]), none, none⟩,
       ⟨(some 14), (.call (.k (rF 95)) [(.t 11), (.t 13)]), none, (some [7, 9, 22])⟩,
       ⟨(some 15), (.un .not (.t 14)), none, none⟩])
     (.cond (.t 15)
      (.seq
       (.region [] [] [0, 1, 3, 7, 15, 2] [
         ⟨(some 2), (.move (.k (rI .i64 73))), none, none⟩])
       .ret)
      .skip))
    (.seq
     (.region [] [] [0, 1, 3, 7, 15, 2] [
       ⟨(some 2), (.move (.k (rI .i64 0))), none, none⟩])
     .ret))))
def ir85 : List IRes := [.tmp 2]
theorem ie85 : cmpFunc Go.Proofs.Tryz.prog ⟨[(11, (some [7, 9, 22])), (12, (some [1])), (14, (some [7, 9, 22])), (11, none), (14, none)], []⟩ Go.Proofs.Tryz.f26 [0, 1, 3, 7, 15, 2] = some ic85 := by kernel_rfl
theorem ig85 : cmpRes Go.Proofs.Tryz.prog Go.Proofs.Tryz.f26.results.toList = some ir85 := by kernel_rfl

end Go.Proofs.YtiomojlcnemnhaaGreatDoor

/- Contracts, on: may a rule be used? -/
namespace Go.Proofs.YtiomojlcnemnhaaGreatDoor
open Go.Fx Go.RowKit Go.Ped
variable {G : World → Prop}

theorem c155 (acc l : List Name) (sp : Sp) (hl : l.length ≤ maxLen) :
    MeetsV Tryz.prog G (fnA 95) [.one (.ref 9 0 0), .one (.c (.sl (l.map nmRow) sp))] (hp (OF 9 7 22 acc) (UF 22 acc) F0) (rB (allIn l acc)) (hp (OF 9 7 22 acc) (UF 22 acc) F0) := by
  have h := (((MeetsV.of_fun (m155 (G := G) acc l sp hl)).ren (π := swR 10009 9)).ren (π := swR 10007 7)).ren (π := swR 10022 22)
  simp [swF, thr_ren] at h
  simpa using h

/-- A rule that is not too great. -/
def Rule.fit (r : Rule) : Prop := r.small 1048576 ∧ (∀ x ∈ r.body, x.fit) ∧ r.terms.length ≤ 1048576 ∧ (r.body.map fun x => x.l.length).sum ≤ 10000000

theorem m85 (r : Rule) (hr : r.fit) : Meets Tryz.prog G 26 [.agg r.row] (.x (.one (cI .i64 (ruleErr r)))) := by
  obtain ⟨hs, hf, hl, hb⟩ := hr
  refine meets Tryz.func26 ie85 ig85 (Nat.le_of_ble_eq_true rfl) ?_
  have hv := tmVars_len r.terms
  simp [ic85, ir85]
  refine call_of (m66 r hs (by omega)) ?_
  simp
  by_cases hk : ruleOk r = true
  · simp [hk]
    refine r_callN [7, 9, 22] _ _ [] [] _ (OF 9 7 22 (limitsOf r.body)) (UF 22 (limitsOf r.body)) (MeetsV.of_fun (m121 r.body r.bsp hf hs.2.1 hb)) rfl rfl rfl (by simp) (by simp) (by simp) ?_
    simp
    refine call_of (m68 r hs (by omega)) ?_
    simp
    refine r_callN [7, 9, 22] _ _ (OF 9 7 22 (limitsOf r.body)) (UF 22 (limitsOf r.body)) _ (OF 9 7 22 (limitsOf r.body)) (UF 22 (limitsOf r.body)) (c155 _ (tmVars r.terms) [] (by unfold maxLen; omega)) rfl rfl rfl (by simp [X.fits, A.fits]) (by simp) (by simp) ?_
    simp
    refine condI_of (fun h => ?_) (fun h => ?_)
    · simp at h
      simp [ruleErr, hk, h]
    · simp at h
      simp [ruleErr, hk, h]
  · simp [hk, ruleErr]
end Go.Proofs.YtiomojlcnemnhaaGreatDoor

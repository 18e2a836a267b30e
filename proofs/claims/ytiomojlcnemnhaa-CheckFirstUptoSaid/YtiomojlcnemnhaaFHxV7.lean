/- Contracts, on: the law CheckFirst. (Labels of 3000 and more: the plain seat.) -/
import Derived.Test.YtiomojlcnemnhaaFHxQ2
import Derived.Test.YtiomojlcnemnhaaFHxQg
namespace Go.Proofs.Ytiomojlcnemnhaa
open Go.Fx Go.RowKit Go.Ped
variable {G : World → Prop}

theorem refMeet_mem {m m' : List Pd} {p : Pd} (h : refMeet ltN m p = some m') : ∀ q, q ∈ m' ↔ q ∈ m ∨ q = p := by
  unfold refMeet at h
  cases hk : lookP m p.name with
  | some k =>
    rw [hk] at h
    obtain ⟨q, hq, h1, h2⟩ := lookP_some hk
    simp only at h
    split at h
    · rename_i e
      injection h with h
      subst h
      have hp : p ∈ m := by
        have : q = p := by
          cases q; cases p
          simp only at h1 h2 e
          rw [h1, h2, e]
        exact this ▸ hq
      intro x
      constructor
      · exact .inl
      · rintro (h | rfl)
        · exact h
        · exact hp
    · cases h
  | none =>
    rw [hk] at h
    injection h with h
    subst h
    intro q
    rw [mem_insP]
    exact Or.comm
theorem refMeets_mem : ∀ {l m m' : List Pd}, refMeets ltN m l = some m' → ∀ q, q ∈ m' ↔ q ∈ m ∨ q ∈ l
  | [], m, m', h, q => by injection h with h; subst h; simp
  | p :: l, m, m', h, q => by
    rw [refMeets] at h
    split at h
    · rename_i m1 h1
      rw [refMeets_mem h q, refMeet_mem h1 q, List.mem_cons, or_assoc]
    · cases h
theorem okPd_not {L : List Pd} {x : Pd} (h : okPd L) (hn : ¬ okPd (L ++ [x])) : ∃ a ∈ L, a.name = x.name ∧ a.n ≠ x.n := by
  apply Classical.byContradiction
  intro hc
  apply hn
  have key : ∀ a ∈ L, a.name = x.name → a.n = x.n := fun a ha e => Classical.byContradiction fun hne => hc ⟨a, ha, e, hne⟩
  intro a ha b hb hab
  rcases List.mem_append.1 ha with ha | ha <;> rcases List.mem_append.1 hb with hb | hb
  · exact h a ha b hb hab
  · rw [List.mem_singleton.1 hb] at hab ⊢; exact key a ha hab
  · rw [List.mem_singleton.1 ha] at hab ⊢; exact (key b hb hab.symm).symm
  · rw [List.mem_singleton.1 ha, List.mem_singleton.1 hb]

theorem n2038 (rules : List Rule) (sp : Sp) (facts : List Fc) (sq : Sp) (p : Name) (l : List Tm) (qs : Sp) (hs : ∀ r ∈ rules, r.fit) (hl : rules.length ≤ 1048576) (hf : ∀ f ∈ facts, f.l.length ≤ 1048576) (hfl : facts.length ≤ 1048576) (hq : l.length ≤ 1048576) {x : List C} (hx : inE rules facts p l = x) :
    Meets Try.prog G 36 [.agg [.sl (rules.map Rule.row) sp], .one (.sl (facts.map Fc.row) sq), .agg [cS (bs p), .sl (l.map Tm.row) qs]] (.x (.agg x)) := by
  have := m2038 (G := G) rules sp facts sq ⟨p, l, qs⟩ hs hl hf hfl hq
  rw [input_same] at this
  subst hx
  exact this
theorem n3038 (rules : List Rule) (sp : Sp) (facts : List Fc) (sq : Sp) (hs : ∀ r ∈ rules, r.fit) (hf : ∀ f ∈ facts, f.l.length ≤ 1048576) (hl : rules.length ≤ 1048576) (hfl : facts.length ≤ 1048576) :
    Meets Try.prog G 38 [.one (.sl (rules.map Rule.row) sp), .one (.sl (facts.map Fc.row) sq)] (.x (.agg [cS (bs (blankP rules facts)), .sl ((List.replicate (blankN rules facts) tB_).map Tm.row) []])) :=
  m3038 rules sp facts sq (fun r hr => (hs r hr).1) hf hl hfl
theorem blank_len {rules : List Rule} {facts : List Fc} (hs : ∀ r ∈ rules, r.fit) (hf : ∀ f ∈ facts, f.l.length ≤ 1048576) : (List.replicate (blankN rules facts) tB_).length ≤ 1048576 := by
  rw [List.length_replicate]
  cases rules with
  | cons r l => exact (hs r (List.mem_cons_self ..)).1.1
  | nil => cases facts with
    | cons f l => exact hf f (List.mem_cons_self ..)
    | nil => simp [blankN]
theorem row_take {α : Type} {row : α → List C} {l : List α} {k : Nat} (hk : k ≤ l.length) (sp : Sp) : (l.map row ++ sp).take k = (l.take k).map row := by
  rw [List.take_append_of_le_length (by rw [List.length_map]; exact hk), List.map_take]
theorem row_one {α : Type} {row : α → List C} {l : List α} {k : Nat} (hk : k < l.length) (sp : Sp) : ((l.map row ++ sp).take (k + 1)).drop k = [row l[k]] := by
  rw [row_take (by omega), List.take_succ_eq_append_getElem hk, List.map_append, List.drop_left' (by rw [List.length_map, List.length_take]; omega)]
  rfl
theorem row_len' {α : Type} {row : α → List C} {l : List α} {n : Nat} (h : ∀ x, (row x).length = n) {sp : Sp} (hsp : ∀ e ∈ sp, e.length = n) : ∀ e, (∃ a, a ∈ l ∧ row a = e) ∨ e ∈ sp → e.length = n := fun e he => by
  rcases he with ⟨x, _, rfl⟩ | he
  · exact h x
  · exact hsp e he
theorem row_len {α : Type} {row : α → List C} {l : List α} {n : Nat} (h : ∀ x, (row x).length = n) {sp : Sp} (hsp : ∀ e ∈ sp, e.length = n) : ∀ e ∈ l.map row ++ sp, e.length = n := fun e he => by
  rcases List.mem_append.1 he with he | he
  · obtain ⟨x, _, rfl⟩ := List.mem_map.1 he; exact h x
  · exact hsp e he

set_option maxHeartbeats 1000000 in
theorem m3009 (rules : List Rule) (sp : Sp) (facts : List Fc) (sq : Sp) (p : Name) (l : List Tm) (qs : Sp) (hj : JobFit rules facts) (hsp : ∀ e ∈ sp, e.length = 3) (hsq : ∀ e ∈ sq, e.length = 2) (hql : l.length ≤ 1048576) :
    Meets Try.prog GT 9 [.one (.sl (rules.map Rule.row) sp), .one (.sl (facts.map Fc.row) sq), .agg [cS (bs p), .sl (l.map Tm.row) qs]] (.x (.one (cB true))) := by
  have hs1 : ∀ r ∈ rules, r.small 1048576 := fun r hr => (hj.rfit r hr).1
  have h35 := m2035 (G := GT) rules sp facts sq hs1 hj.rlen hj.ffit hj.flen
  have h38 := n3038 (G := GT) rules sp facts sq hj.rfit hj.ffit hj.rlen hj.flen
  have hrl := hj.rlen
  have hfl := hj.flen
  have hbl := blank_len hj.rfit hj.ffit
  have hR3 := row_len' (row := Rule.row) (l := rules) (fun _ => rfl) hsp
  have hF2 := row_len' (row := Fc.row) (l := facts) (fun _ => rfl) hsq
  have hin : ∀ x, inE rules facts p l = x → Meets Try.prog GT 36 [.agg [.sl (rules.map Rule.row) sp], .one (.sl (facts.map Fc.row) sq), .agg [cS (bs p), .sl (l.map Tm.row) qs]] (.x (.agg x)) := fun x hx => n2038 rules sp facts sq p l qs hj.rfit hj.rlen hj.ffit hj.flen hql hx
  have hc := in_case rules facts p l
  generalize hX : inE rules facts p l = X at hc
  have hin := hin X hX
  have hbF := fun (h : ProgOk rules) (hf : facts.length ≤ 65536) (h0 : ∀ f ∈ facts, factErr f = 0) (h1 : okPd (allPd rules facts)) => in_blank h hf h0 h1 rules facts (.inl ⟨rfl, rfl⟩)
  refine meets Try.func9 ie3009 ig3009 (Nat.le_of_ble_eq_true rfl) ?_
  simp [ic3009, ir3009]
  refine call_of h35 ?_
  simp
  refine condI_of (fun h => ?_) (fun h => ?_)
  · simp
  simp
  refine call_of m2062 ?_
  simp
  refine call_of h38 ?_
  simp
  refine call_of hin ?_
  cases hc with
  | ok => simp [refuse]
  | rules h =>
    have h' : (500 : Int) < rules.length := by omega
    simp [refuse, h']
  | facts h hf =>
    have h' : (65536 : Int) < facts.length := by omega
    simp [refuse, h']
  | rule h5 k hk h0 he =>
    have hf : ∀ r ∈ rules.take k, r.fit := fun r hr => hj.rfit r (List.mem_of_mem_take hr)
    have hf1 : ∀ r ∈ rules.take (k + 1), r.fit := fun r hr => hj.rfit r (List.mem_of_mem_take hr)
    have ln : (rules.take k).length = k := by rw [List.length_take]; omega
    have ln1 : (rules.take (k + 1)).length = k + 1 := by rw [List.length_take]; omega
    have e72 := refErr_72 rules[k]
    have hah := in_ahead h5 h0
    have hw : inE (rules.take (k + 1)) [] (blankP rules facts) (List.replicate (blankN rules facts) tB_) = refuse 1 (refErr rules[k]) k := by
      have hk' : k < (rules.take (k + 1)).length := by omega
      have := in_C (rules := rules.take (k + 1)) (facts := []) (p := blankP rules facts) (l := List.replicate (blankN rules facts) tB_) (by omega) hk' (by rwa [List.take_take, Nat.min_eq_left (by omega)]) (by rwa [List.getElem_take])
      rwa [List.getElem_take] at this
    have ho : inE [rules[k]] [] (blankP rules facts) (List.replicate (blankN rules facts) tB_) = refuse 1 (refErr rules[k]) 0 :=
      in_C (rules := [rules[k]]) (k := 0) (by simp) (by simp) (by simp) he
    have hT := row_take (row := Rule.row) (l := rules) (k := k) (by omega) sp
    have hT1 := row_take (row := Rule.row) (l := rules) (k := k + 1) (by omega) sp
    have hO := row_one (row := Rule.row) (l := rules) hk sp
    have c1 := n3038 (G := GT) (rules.take k) ((rules.map Rule.row ++ sp).drop k) [] [] hf (by simp) (by omega) (by simp)
    have hb1 := blank_len (rules := rules.take k) (facts := []) hf (by simp)
    have c3 := n2038 (G := GT) (rules.take (k + 1)) ((rules.map Rule.row ++ sp).drop (k + 1)) [] [] (blankP rules facts) (List.replicate (blankN rules facts) tB_) [] hf1 (by omega) (by simp) (by simp) hbl hw
    have c4 := n2038 (G := GT) [rules[k]] ((rules.map Rule.row ++ sp).drop (k + 1)) [] [] (blankP rules facts) (List.replicate (blankN rules facts) tB_) [] (fun r hr => by rw [List.mem_singleton.1 hr]; exact hj.rfit _ (List.getElem_mem hk)) (by simp) (by simp) (by simp) hbl ho
    have c2 : ∃ a b c, (([a, b, c] : List Int) = [0, 0, 0] ∨ ([a, b] : List Int) = [1, 72]) ∧ Meets Try.prog GT 36 [.agg [.sl ((rules.take k).map Rule.row) ((rules.map Rule.row ++ sp).drop k)], .one (.sl ([].map Fc.row) []), .agg [cS (bs (blankP (rules.take k) [])), .sl ((List.replicate (blankN (rules.take k) []) tB_).map Tm.row) []]] (.x (.agg [cI .i8 a, cI .i64 b, cI .i64 c])) := by
      rcases hah with h | ⟨j, h⟩
      · exact ⟨0, 0, 0, .inl rfl, n2038 (rules.take k) _ [] [] _ _ [] hf (by omega) (by simp) (by simp) hb1 h⟩
      · exact ⟨1, 72, j, .inr rfl, n2038 (rules.take k) _ [] [] _ _ [] hf (by omega) (by simp) (by simp) hb1 h⟩
    obtain ⟨a1, a2, a3, ha, c2⟩ := c2
    rw [← hT] at c1 c2
    rw [← hT1] at c3
    rw [show ([rules[k]] : List Rule).map Rule.row = [rules[k].row] from rfl, ← hO] at c4
    simp only [List.map_replicate] at c1 c2 c3 c4
    generalize refErr rules[k] = e at *
    have q1 : ¬ (500 : Int) < rules.length := by omega
    have q2 : (k : Int) < rules.length := by omega
    have q3 : (k : Int) ≤ rules.length + sp.length := by omega
    have q4 : (k : Int) + 1 ≤ rules.length + sp.length := by omega
    have q5 : (k : Int) ≤ k + 1 := by omega
    have q9 : (0 : Int) ≤ k + 1 := by omega
    have q6 : IntKind.i64.wrap ((k : Int) + 1) = (k : Int) + 1 := wrap64 (by omega) (by omega)
    have q7 : ((k : Int) + 1).toNat = k + 1 := by omega
    have q0 : ¬ (k : Int) < 0 := by omega
    have q8 : ¬ rules.length ≤ k := by omega
    simp [refuse, q0, q1, q8]
    clear hin hF2 h35 h38 hs1 hw ho hX hb1 hah hf hf1 ln ln1 h0 hbF hj
    simp [freeze_st, fzL, freezeO, maxLen, closeL, A.close, q0, q1, q3, q8]
    refine ⟨hR3, ?_⟩
    refine call_of c1 ?_
    simp
    refine call_of c2 ?_
    simp [freeze_st, fzL, freezeO, maxLen, closeL, A.close, q4, q6, q7, q9]
    refine ⟨hR3, ?_⟩
    refine call_of c3 ?_
    simp [refuse, q4, q5, q6, q7, q9]
    refine ⟨hR3, ?_⟩
    refine call_of c4 ?_
    rcases ha with h | h
    · simp only [List.cons.injEq, and_true] at h
      obtain ⟨rfl, rfl, rfl⟩ := h
      simp [refuse, e72]
    · simp only [List.cons.injEq, and_true] at h
      obtain ⟨rfl, rfl⟩ := h
      simp [refuse, e72]
  | pred h5 hr k hk h1 h2 =>
    have hf : ∀ r ∈ rules.take k, r.fit := fun r hr => hj.rfit r (List.mem_of_mem_take hr)
    have hf1 : ∀ r ∈ rules.take (k + 1), r.fit := fun r hr => hj.rfit r (List.mem_of_mem_take hr)
    have ln : (rules.take k).length = k := by rw [List.length_take]; omega
    have ln1 : (rules.take (k + 1)).length = k + 1 := by rw [List.length_take]; omega
    have hah : inE (rules.take k) [] (blankP (rules.take k) []) (List.replicate (blankN (rules.take k) []) tB_) = refuse 0 0 0 :=
      in_blank (prog_take h5 (fun r hm => hr r (List.mem_of_mem_take hm)) h1) (by simp) (by simp) (by simpa [allPd] using h1) _ _ (.inl ⟨rfl, rfl⟩)
    have hw : inE (rules.take (k + 1)) [] (blankP rules facts) (List.replicate (blankN rules facts) tB_) = refuse 1 72 k := by
      refine in_D (by omega) (fun r hm => hr r (List.mem_of_mem_take hm)) (k := k) (by omega) ?_ ?_
      · rwa [List.take_take, Nat.min_eq_left (by omega)]
      · rwa [List.take_take, Nat.min_self]
    obtain ⟨o1, o2, o3, ho⟩ := in_three [rules[k]] [] ⟨blankP rules facts, List.replicate (blankN rules facts) tB_, []⟩
    have hT := row_take (row := Rule.row) (l := rules) (k := k) (by omega) sp
    have hT1 := row_take (row := Rule.row) (l := rules) (k := k + 1) (by omega) sp
    have hO := row_one (row := Rule.row) (l := rules) hk sp
    have hb1 := blank_len (rules := rules.take k) (facts := []) hf (by simp)
    have c1 := n3038 (G := GT) (rules.take k) ((rules.map Rule.row ++ sp).drop k) [] [] hf (by simp) (by omega) (by simp)
    have c2 := n2038 (G := GT) (rules.take k) ((rules.map Rule.row ++ sp).drop k) [] [] _ _ [] hf (by omega) (by simp) (by simp) hb1 hah
    have c3 := n2038 (G := GT) (rules.take (k + 1)) ((rules.map Rule.row ++ sp).drop (k + 1)) [] [] (blankP rules facts) (List.replicate (blankN rules facts) tB_) [] hf1 (by omega) (by simp) (by simp) hbl hw
    have c4 := n2038 (G := GT) [rules[k]] ((rules.map Rule.row ++ sp).drop (k + 1)) [] [] (blankP rules facts) (List.replicate (blankN rules facts) tB_) [] (fun r hr => by rw [List.mem_singleton.1 hr]; exact hj.rfit _ (List.getElem_mem hk)) (by simp) (by simp) (by simp) hbl ho
    rw [← hT] at c1 c2
    rw [← hT1] at c3
    rw [show ([rules[k]] : List Rule).map Rule.row = [rules[k].row] from rfl, ← hO] at c4
    simp only [List.map_replicate] at c1 c2 c3 c4
    have q0 : ¬ (k : Int) < 0 := by omega
    have q1 : ¬ (500 : Int) < rules.length := by omega
    have q3 : (k : Int) ≤ rules.length + sp.length := by omega
    have q4 : (k : Int) + 1 ≤ rules.length + sp.length := by omega
    have q5 : (k : Int) ≤ k + 1 := by omega
    have q9 : (0 : Int) ≤ k + 1 := by omega
    have q6 : IntKind.i64.wrap ((k : Int) + 1) = (k : Int) + 1 := wrap64 (by omega) (by omega)
    have q7 : ((k : Int) + 1).toNat = k + 1 := by omega
    have q8 : ¬ rules.length ≤ k := by omega
    simp [refuse, q0, q1, q8]
    clear hin hF2 h35 h38 hs1 hw ho hX hb1 hah hf hf1 ln ln1 hr hbF hj
    simp [freeze_st, fzL, freezeO, maxLen, closeL, A.close, q0, q1, q3, q8]
    refine ⟨hR3, ?_⟩
    refine call_of c1 ?_
    simp
    refine call_of c2 ?_
    simp [refuse, freeze_st, fzL, freezeO, maxLen, closeL, A.close, q4, q6, q7, q9]
    refine ⟨hR3, ?_⟩
    refine call_of c3 ?_
    simp [refuse, q4, q5, q6, q7, q9]
    refine ⟨hR3, ?_⟩
    refine call_of c4 ?_
    simp [refuse]
  | fact h hf k hk h0 h1 he =>
    have hk1 : facts.length ≤ 65536 := hf
    have hff : ∀ f ∈ facts.take k, f.l.length ≤ 1048576 := fun f hm => hj.ffit f (List.mem_of_mem_take hm)
    have hff1 : ∀ f ∈ facts.take (k + 1), f.l.length ≤ 1048576 := fun f hm => hj.ffit f (List.mem_of_mem_take hm)
    have ln : (facts.take k).length = k := by rw [List.length_take]; omega
    have ln1 : (facts.take (k + 1)).length = k + 1 := by rw [List.length_take]; omega
    have h00 : ∀ f ∈ facts.take k, factErr f = 0 := h0
    have e1 : inE rules [] (blankP rules []) (List.replicate (blankN rules []) tB_) = refuse 0 0 0 := in_blank h (by simp) (by simp) (by simpa [allPd] using h.2.2) _ _ (.inl ⟨rfl, rfl⟩)
    have e2 : inE rules (facts.take k) (blankP rules (facts.take k)) (List.replicate (blankN rules (facts.take k)) tB_) = refuse 0 0 0 := in_blank h (by omega) h00 h1 _ _ (.inl ⟨rfl, rfl⟩)
    have e3 : inE rules (facts.take (k + 1)) (blankP rules facts) (List.replicate (blankN rules facts) tB_) = refuse 2 (factErr facts[k]) k := by
      have hk' : k < (facts.take (k + 1)).length := by omega
      have := in_F (rules := rules) (facts := facts.take (k + 1)) (p := blankP rules facts) (l := List.replicate (blankN rules facts) tB_) h (by omega) hk' (by rwa [List.take_take, Nat.min_eq_left (by omega)]) (by rwa [List.take_take, Nat.min_eq_left (by omega)]) (by rwa [List.getElem_take])
      rwa [List.getElem_take] at this
    have hT := row_take (row := Fc.row) (l := facts) (k := k) (by omega) sq
    have hT1 := row_take (row := Fc.row) (l := facts) (k := k + 1) (by omega) sq
    have b1 := n3038 (G := GT) rules sp [] [] hj.rfit (by simp) hj.rlen (by simp)
    have b2 := n3038 (G := GT) rules sp (facts.take k) ((facts.map Fc.row ++ sq).drop k) hj.rfit hff hj.rlen (by omega)
    have i1 := n2038 (G := GT) rules sp [] [] (blankP rules []) (List.replicate (blankN rules []) tB_) [] hj.rfit hj.rlen (by simp) (by simp) (blank_len hj.rfit (by simp)) e1
    have i2 := n2038 (G := GT) rules sp (facts.take k) ((facts.map Fc.row ++ sq).drop k) (blankP rules (facts.take k)) (List.replicate (blankN rules (facts.take k)) tB_) [] hj.rfit hj.rlen hff (by omega) (blank_len hj.rfit hff) e2
    have i3 := n2038 (G := GT) rules sp (facts.take (k + 1)) ((facts.map Fc.row ++ sq).drop (k + 1)) (blankP rules facts) (List.replicate (blankN rules facts) tB_) [] hj.rfit hj.rlen hff1 (by omega) hbl e3
    rw [← hT] at b2 i2
    rw [← hT1] at i3
    simp only [List.map_replicate] at b1 b2 i1 i2 i3
    generalize factErr facts[k] = e at *
    have q0 : ¬ (k : Int) < 0 := by omega
    have q1 : ¬ (65536 : Int) < facts.length := by omega
    have q3 : (k : Int) ≤ facts.length + sq.length := by omega
    have q4 : (k : Int) + 1 ≤ facts.length + sq.length := by omega
    have q9 : (0 : Int) ≤ k + 1 := by omega
    have q6 : IntKind.i64.wrap ((k : Int) + 1) = (k : Int) + 1 := wrap64 (by omega) (by omega)
    have q7 : ((k : Int) + 1).toNat = k + 1 := by omega
    have q8 : ¬ facts.length ≤ k := by omega
    simp [refuse, q0, q1, q8]
    refine call_of b1 ?_
    simp
    refine call_of i1 ?_
    simp [refuse, q3]
    refine ⟨hF2, ?_⟩
    refine call_of b2 ?_
    simp
    refine call_of i2 ?_
    simp [refuse, q4, q6, q7, q9]
    refine ⟨hF2, ?_⟩
    refine call_of i3 ?_
    simp [refuse]
  | met h hf k hk h0 h1 h2 =>
    have hk1 : facts.length ≤ 65536 := hf
    have hff : ∀ f ∈ facts.take k, f.l.length ≤ 1048576 := fun f hm => hj.ffit f (List.mem_of_mem_take hm)
    have hff1 : ∀ f ∈ facts.take (k + 1), f.l.length ≤ 1048576 := fun f hm => hj.ffit f (List.mem_of_mem_take hm)
    have ln : (facts.take k).length = k := by rw [List.length_take]; omega
    have ln1 : (facts.take (k + 1)).length = k + 1 := by rw [List.length_take]; omega
    have h00 : ∀ f ∈ facts.take k, factErr f = 0 := fun f hm => h0 f (by rw [List.take_succ_eq_append_getElem hk]; exact List.mem_append_left _ hm)
    have e1 : inE rules [] (blankP rules []) (List.replicate (blankN rules []) tB_) = refuse 0 0 0 := in_blank h (by simp) (by simp) (by simpa [allPd] using h.2.2) _ _ (.inl ⟨rfl, rfl⟩)
    have e2 : inE rules (facts.take k) (blankP rules (facts.take k)) (List.replicate (blankN rules (facts.take k)) tB_) = refuse 0 0 0 := in_blank h (by omega) h00 h1 _ _ (.inl ⟨rfl, rfl⟩)
    have e3 : inE rules (facts.take (k + 1)) (blankP rules facts) (List.replicate (blankN rules facts) tB_) = refuse 2 72 k := by
      refine in_G (rules := rules) (facts := facts.take (k + 1)) (k := k) h (by omega) (by omega) ?_ ?_ ?_
      · rwa [List.take_take, Nat.min_self]
      · rwa [List.take_take, Nat.min_eq_left (by omega)]
      · rwa [List.take_take, Nat.min_self]
    have hT := row_take (row := Fc.row) (l := facts) (k := k) (by omega) sq
    have hT1 := row_take (row := Fc.row) (l := facts) (k := k + 1) (by omega) sq
    have b1 := n3038 (G := GT) rules sp [] [] hj.rfit (by simp) hj.rlen (by simp)
    have b2 := n3038 (G := GT) rules sp (facts.take k) ((facts.map Fc.row ++ sq).drop k) hj.rfit hff hj.rlen (by omega)
    have i1 := n2038 (G := GT) rules sp [] [] (blankP rules []) (List.replicate (blankN rules []) tB_) [] hj.rfit hj.rlen (by simp) (by simp) (blank_len hj.rfit (by simp)) e1
    have i2 := n2038 (G := GT) rules sp (facts.take k) ((facts.map Fc.row ++ sq).drop k) (blankP rules (facts.take k)) (List.replicate (blankN rules (facts.take k)) tB_) [] hj.rfit hj.rlen hff (by omega) (blank_len hj.rfit hff) e2
    have i3 := n2038 (G := GT) rules sp (facts.take (k + 1)) ((facts.map Fc.row ++ sq).drop (k + 1)) (blankP rules facts) (List.replicate (blankN rules facts) tB_) [] hj.rfit hj.rlen hff1 (by omega) hbl e3
    rw [← hT] at b2 i2
    rw [← hT1] at i3
    simp only [List.map_replicate] at b1 b2 i1 i2 i3
    have q0 : ¬ (k : Int) < 0 := by omega
    have q1 : ¬ (65536 : Int) < facts.length := by omega
    have q3 : (k : Int) ≤ facts.length + sq.length := by omega
    have q4 : (k : Int) + 1 ≤ facts.length + sq.length := by omega
    have q9 : (0 : Int) ≤ k + 1 := by omega
    have q6 : IntKind.i64.wrap ((k : Int) + 1) = (k : Int) + 1 := wrap64 (by omega) (by omega)
    have q7 : ((k : Int) + 1).toNat = k + 1 := by omega
    have q8 : ¬ facts.length ≤ k := by omega
    simp [refuse, q0, q1, q8]
    refine call_of b1 ?_
    simp
    refine call_of i1 ?_
    simp [refuse, q3]
    refine ⟨hF2, ?_⟩
    refine call_of b2 ?_
    simp
    refine call_of i2 ?_
    simp [refuse, q4, q6, q7, q9]
    refine ⟨hF2, ?_⟩
    refine call_of i3 ?_
    simp [refuse]
  | query h hf h0 h1 hq =>
    have hE : inE [] [] p l = refuse 3 (queryErr p l) 0 := queryErr_own hq
    have c1 := n2038 (G := GT) [] [] [] [] p l qs (by simp) (by simp) (by simp) (by simp) hql hE
    have c2 := n2038 (G := GT) rules sp facts sq (blankP rules facts) (List.replicate (blankN rules facts) tB_) [] hj.rfit hj.rlen hj.ffit hj.flen hbl (hbF h hf h0 h1)
    have cp := m2043 (G := GT) rules sp facts sq hs1 hj.rlen hj.flen hj.stand hj.names
    obtain ⟨m, hm⟩ := refMeets_some h1
    rw [preds_eq, show rules.flatMap standOf ++ facts.map Fc.pd = allPd rules facts from rfl, hm] at cp
    have e72 := queryErr_72 p l
    simp only [List.map_replicate] at c2
    generalize queryErr p l = e at *
    simp [refuse]
    refine call_of cp ?_
    simp [predsR, hq, e72]
    refine call_of c1 ?_
    simp [refuse]
    refine call_of c2 ?_
    simp [refuse]
  | arity h hf h0 h1 hq h2 =>
    have cp := m2043 (G := GT) rules sp facts sq hs1 hj.rlen hj.flen hj.stand hj.names
    obtain ⟨m, hm⟩ := refMeets_some h1
    rw [preds_eq, show rules.flatMap standOf ++ facts.map Fc.pd = allPd rules facts from rfl, hm] at cp
    obtain ⟨a, ha1, ha2, ha3⟩ := okPd_not h1 h2
    have ham : a ∈ m := (refMeets_mem hm a).2 (.inr ha1)
    have hun : ∀ b ∈ m, b.name = p → b.n ≠ l.length := fun b hb e1 e2 => by
      have hb' : b ∈ allPd rules facts := ((refMeets_mem hm b).1 hb).resolve_left (by simp)
      exact ha3 ((h1 a ha1 b hb' (ha2.trans e1.symm)).trans e2)
    simp [refuse]
    refine call_of cp ?_
    have hml : m.length ≤ 100000000 := by
      have h5 := refMeets_len hm
      have h6 := hj.stand
      simp only [allPd, List.length_append, List.length_map, List.length_nil] at h5
      omega
    obtain ⟨ja, hja, rfl⟩ := List.mem_iff_getElem.1 ham
    clear h35 h38 hin hbF hR3 hF2 hs1
    simp [predsR]
    refine w_loopA [] [] [5, 13, 15] (by simp)
      (fun i : Nat => st [(5, .k true (.x (.one (.ref 5 0 0)))), (13, .k true (.x (.one (.c (.sl (m.map pdC) []))))), (15, tI .i64 i)] [(8, ⟨142, 3, [[.c (cI .i8 3), .c (cI .i64 72), .c (cI .i64 0)]], none⟩), (7, ⟨122, 2, [[.c (cS (bs (blankP rules facts))), .c (.sl (List.replicate (blankN rules facts) tB_.row) [])]], none⟩), (5, ⟨122, 2, [[.c (cS (bs p)), .c (.sl (l.map Tm.row) qs)]], none⟩)] [] F0) (fun i => m.length - i)
      (fun i => i ≤ m.length ∧ ∀ j (hj : j < m.length), j < i → m[j].name ≠ p) 0 (by simp) (by simp) ?_
    rintro i K hK ⟨hi, hd⟩
    obtain hlt | hge := Nat.lt_or_ge i m.length
    · have hne := hun m[i] (List.getElem_mem hlt)
      by_cases he : m[i].name = p
      · have hne := hne he
        simp [ic3009l0, hlt, pdC, he, hne]
      · simp [ic3009l0, hlt, pdC, he]
        simp (disch := omega) only [wrap64]
        refine hK (i + 1) _ (by simp) ⟨by omega, fun j hj hji => ?_⟩ (by omega)
        rcases Nat.lt_succ_iff_lt_or_eq.1 hji with h | rfl
        · exact hd j hj h
        · exact he
    · exact absurd ha2 (hd ja hja (by omega))
end Go.Proofs.Ytiomojlcnemnhaa

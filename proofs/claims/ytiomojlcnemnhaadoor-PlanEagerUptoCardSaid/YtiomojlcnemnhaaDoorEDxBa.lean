import Derived.Test.YtiomojlcnemnhaaDoorEDxLx
import Derived.Test.YtiomojlcnemnhaaDoorEDxIcK
import Derived.Test.YtiomojlcnemnhaaDoorEDxB5
namespace Go.Proofs.YtiomojlcnemnhaaDoor
open Go.Fx Go.RowKit Go.Ped
variable {G : World → Prop}
def Rule.fit (r : Rule) : Prop := r.small 1048576 ∧ (∀ x ∈ r.body, x.fit) ∧ r.terms.length ≤ 1048576 ∧ (r.body.map fun x => x.l.length).sum ≤ 10000000
end Go.Proofs.YtiomojlcnemnhaaDoor

namespace Go.Proofs.YtiomojlcnemnhaaDoor
open Go.Fx Go.RowKit Go.Ped
theorem bare_twin (mk : List C) : ∀ e : Ex, e.bare.twin mk = e.twin mk := by
  refine Ex.ind fun op t kids sp ih => ?_
  rw [Ex.bare_mk, Ex.twin_mk, Ex.twin_mk, List.map_map]
  congr 1
  exact List.map_congr_left fun k hk => ih k hk
theorem bareL_tw (x : Lit) : x.bareL.tw = x.tw := by
  unfold Lit.bareL
  show Lit.twin _ _ _ = Lit.twin _ _ _
  unfold Lit.twin
  simp only [bare_twin]
theorem bareR_tw (r : Rule) : r.bareR.tw = r.tw := by
  show (⟨r.p, r.head, _, (r.body.map Lit.bareL).map Lit.tw, _⟩ : Rule) = ⟨r.p, r.head, _, r.body.map Lit.tw, _⟩
  rw [List.map_map]
  congr 1
  exact List.map_congr_left fun x _ => bareL_tw x
theorem may_bare (r : Rule) (ks : List Name) : mayOf r.bareR ks = mayOf r ks := by
  have h1 : ruleOk r.bareR = ruleOk r := by rw [← ruleOk_tw r.bareR, bareR_tw, ruleOk_tw]
  have h2 : limitsOf (r.bareR.body ++ ks.map knLit) = limitsOf (r.body ++ ks.map knLit) := by
    rw [← limitsOf_tw, ← limitsOf_tw (r.body ++ ks.map knLit), List.map_append, List.map_append]
    congr 2
    show (r.body.map Lit.bareL).map Lit.tw = _
    rw [List.map_map]
    exact List.map_congr_left fun x _ => bareL_tw x
  unfold mayOf mayIn
  rw [h1, h2, bareR_terms]
theorem rightOn_bare (body : List Lit) : ∀ (l : List Stp) (m : Nat) (ns : List Name), rightOn (body.map Lit.bareL) m ns l = rightOn body m ns l
  | [], m, ns => rfl
  | s :: l, m, ns => by
    rw [rightOn, rightOn, List.length_map, List.getElem?_map]
    cases body[s.lit.toNat]? with
    | none => rfl
    | some x =>
      simp only [Option.map_some, stepOf_bare, rightOn_bare body l]
theorem rightB_bare (r : Rule) (l : List Stp) (ks : List Name) : rightB r.bareR l ks = rightB r l ks := by
  unfold rightB
  rw [may_bare]
  show (if mayOf r ks = 0 then rightOn (r.body.map Lit.bareL) (2 ^ (r.body.map Lit.bareL).length - 1) (learnOn [] ks) l else false) = _
  rw [List.length_map, rightOn_bare]
theorem Tr.lits {body : List Lit} {first : Int} : ∀ {l : List Stp} {m : Nat} {ns : List Name}, Tr body first m ns l → l.length = (bitsOf m).length ∧ (∀ s ∈ l, ∃ j ∈ bitsOf m, s.lit = (j : Int)) ∧ (l.map Stp.lit).Nodup
  | [], m, ns, h => by
    have h0 : m = 0 := h
    rw [h0, bitsOf_zero]
    exact ⟨rfl, by simp, List.nodup_nil⟩
  | s :: l, m, ns, h => by
    obtain ⟨j, hj, _, ho, rfl, ht⟩ := h
    obtain ⟨h1, h2, h3⟩ := ht.lits
    have hl := clr_len hj
    have hsl : (stepAt body ns j).lit = (j : Int) := by
      unfold okAt at ho
      unfold stepAt
      cases hx : body[j]? with
      | none => rw [hx] at ho; cases ho
      | some x => exact step_lit _ _ _
    refine ⟨by rw [List.length_cons]; omega, fun t ht2 => ?_, ?_⟩
    · rcases List.mem_cons.1 ht2 with rfl | ht2
      · exact ⟨j, hj, hsl⟩
      · obtain ⟨i, hi, e⟩ := h2 t ht2
        exact ⟨i, ((clr_bits (bitsOf_mem hj).1).1 hi).1, e⟩
    · rw [List.map_cons, List.nodup_cons, hsl]
      refine ⟨fun hm => ?_, h3⟩
      obtain ⟨t, ht2, e⟩ := List.mem_map.1 hm
      obtain ⟨i, hi, e2⟩ := h2 t ht2
      have := ((clr_bits (bitsOf_mem hj).1).1 hi).2
      omega
theorem full_len {n : Nat} (hn : n ≤ 24) : (bitsOf (2 ^ n - 1)).length = n := by
  have e : bitsOf (2 ^ n - 1) = List.range n := by
    unfold bitsOf
    have h1 : List.range 24 = List.range n ++ List.range' n (24 - n) := by
      rw [List.range_eq_range', List.range_eq_range']
      have := List.range'_append_1 (s := 0) (m := n) (n := 24 - n)
      rw [Nat.zero_add] at this
      rw [this]
      congr 1
      omega
    rw [h1, List.filter_append, List.filter_eq_self.2 (fun j hj => by rw [Nat.testBit_two_pow_sub_one]; simpa using hj), List.filter_eq_nil_iff.2 (fun j hj => by
      rw [Nat.testBit_two_pow_sub_one]
      have := (List.mem_range'_1.1 hj).1
      simp; omega), List.append_nil]
  rw [e, List.length_range]
theorem make_len {r : Rule} {ks : List Name} {first : Int} {l : List Stp} (hok : ruleOk r = true) (ht : Tr r.body first (2 ^ r.body.length - 1) (learnOn [] ks) l) : l.length = r.body.length := by
  rw [ht.lits.1, full_len (by have := (rule_body24 hok).1; omega)]
end Go.Proofs.YtiomojlcnemnhaaDoor

namespace Go.Proofs.YtiomojlcnemnhaaDoor
open Go.Fx Go.RowKit Go.Ped
theorem stepAt_lit {body : List Lit} {ns : List Name} {j : Nat} (h : okAt body ns j = true) : (stepAt body ns j).lit = (j : Int) := by
  unfold okAt at h
  unfold stepAt
  cases hx : body[j]? with
  | none => rw [hx] at h; cases h
  | some x => exact step_lit _ _ _
theorem Tr.cut {body : List Lit} {first : Int} : ∀ {l : List Stp} {m : Nat} {ns : List Name}, (∀ i ∈ bitsOf m, i < body.length) → Tr body first m ns l → ∀ i, i ≤ l.length →
    ∃ m' ns', Tr body first m' ns' (l.drop i) ∧ (∀ j ∈ bitsOf m', j ∈ bitsOf m) ∧ (0 < i → 0 ≤ first → first.toNat ∉ bitsOf m') ∧ ∀ rest, rightOn body m ns (l.take i ++ rest) = rightOn body m' ns' rest
  | l, m, ns, hin, h, 0, _ => ⟨m, ns, h, fun _ hj => hj, fun h0 => absurd h0 (by omega), fun rest => rfl⟩
  | [], m, ns, _, _, i + 1, hi => absurd hi (by simp)
  | s :: l, m, ns, hin, h, i + 1, hi => by
    obtain ⟨j, hj, hp, ho, rfl, ht⟩ := h
    have hjl := hin j hj
    have h24 := (bitsOf_mem hj).1
    obtain ⟨m', ns', h1, h2, h3, h4⟩ := ht.cut (fun i hi => hin i ((clr_bits h24).1 hi).1) i (by simpa using hi)
    refine ⟨m', ns', h1, fun k hk => ((clr_bits h24).1 (h2 k hk)).1, fun _ h0 hf => ?_, fun rest => ?_⟩
    · have hf2 := (clr_bits h24).1 (h2 _ hf)
      unfold pickL at hp
      rw [if_neg (by
        rintro (h | h)
        · omega
        · rw [(bitsOf_mem hf2.1).2] at h; cases h)] at hp
      exact hf2.2 (by omega)
    · rw [← h4, List.take_succ_cons, List.cons_append, rightOn]
      have hx : body[j]? = some body[j] := List.getElem?_eq_getElem hjl
      rw [stepAt_lit ho, if_neg (by omega), Int.toNat_natCast, if_neg (by rw [(bitsOf_mem hj).2]; exact Bool.noConfusion), hx]
      rw [okAt_at hx] at ho
      simp only [stepAt_at hx]
      rw [if_pos ⟨ho, trivial, trivial, trivial⟩]
theorem Tr.turn {r : Rule} {ks : List Name} {first : Int} {l : List Stp} (hok : ruleOk r = true) (ht : Tr r.body first (2 ^ r.body.length - 1) (learnOn [] ks) l) {i : Nat} (hi : i < l.length) (hreg : ¬ (i = 0 ∧ 0 ≤ first)) :
    ∃ (m' : Nat) (ns' : List Name) (j : Nat), l[i].lit = (j : Int) ∧ j ∈ bitsOf m' ∧ (∀ h ∈ bitsOf m', h < r.body.length) ∧ (∀ k (hk : k < l.length), i < k → ∃ x ∈ bitsOf m', l[k].lit = (x : Int) ∧ x ≠ j) ∧
      ((atomAt r.body j = true ∧ (∀ h ∈ bitsOf m', atomAt r.body h = false → okAt r.body ns' h = false) ∧ ∀ h ∈ bitsOf m', atomAt r.body h = true → j ≤ h) ∨
       (atomAt r.body j = false ∧ ∀ h ∈ bitsOf m', h < j → atomAt r.body h = false → okAt r.body ns' h = false)) ∧
      ∀ rest, rightOn r.body (2 ^ r.body.length - 1) (learnOn [] ks) (l.take i ++ rest) = rightOn r.body m' ns' rest := by
  have hin := (at_start (ks := ks) hok).inn
  obtain ⟨m', ns', h1, h2, h3, h4⟩ := ht.cut hin i (by omega)
  rw [List.drop_eq_getElem_cons hi] at h1
  have hlits := h1.lits
  obtain ⟨j, hj, hp, ho, hs, ht'⟩ := h1
  have hin' : ∀ h ∈ bitsOf m', h < r.body.length := fun h hh => hin h (h2 h hh)
  have hnext : nextL r.body ns' m' = j := by
    rw [← hp]
    unfold pickL
    rw [if_pos]
    by_cases h0 : first < 0
    · exact .inl h0
    · have hi0 : 0 < i := by omega
      refine .inr ?_
      cases hb : m'.testBit first.toNat with
      | false => rfl
      | true =>
        have hlt24 : first.toNat < 24 := by
          apply Classical.byContradiction
          intro hn
          have hm' : m' < 2 ^ 24 := by
            apply Classical.byContradiction
            intro hge
            have hfl : m'.testBit first.toNat = true := hb
            unfold pickL at hp
            rw [if_neg (by rintro (h | h); exact h0 h; rw [hb] at h; cases h)] at hp
            have := (bitsOf_mem hj).1
            omega
          rw [Nat.testBit_lt_two_pow (Nat.lt_of_lt_of_le hm' (Nat.pow_le_pow_right (by omega) (by omega)))] at hb
          cases hb
        exact absurd (List.mem_filter.2 ⟨List.mem_range.2 hlt24, hb⟩) (h3 hi0 (by omega))
  refine ⟨m', ns', j, by rw [hs]; exact stepAt_lit ho, hj, hin', fun k hk hik => ?_, ?_, h4⟩
  · have hmem : l[k] ∈ l.drop (i + 1) := by
      refine List.mem_iff_getElem.2 ⟨k - (i + 1), by rw [List.length_drop]; omega, ?_⟩
      rw [List.getElem_drop]
      congr 1
      omega
    obtain ⟨x, hx, e⟩ := ht'.lits.2.1 _ hmem
    have := (clr_bits (bitsOf_mem hj).1).1 hx
    exact ⟨x, this.1, e, this.2⟩
  · rcases next_spec ns' hin' with ⟨hneg, _⟩ | ⟨i', hi', he, hc⟩
    · omega
    · have : i' = j := by omega
      subst this
      rcases hc with h | ⟨h5, _, h6⟩
      · exact .inl h
      · exact .inr ⟨h5, h6⟩
def movedN (l : List Stp) (f t : Nat) : Nat → List Stp
  | 0 => []
  | i + 1 => movedN l f t i ++ ((if i = t then (l[f]?).toList else []) ++ (if i = f then [] else (l[i]?).toList))
theorem moved_head {l : List Stp} {f t : Nat} (htf : t < f) (hf : f < l.length) : ∀ n, n ≤ l.length → (n ≤ t → movedN l f t n = l.take n) ∧ (t < n → ∃ rest, movedN l f t n = l.take t ++ l[f] :: rest)
  | 0, _ => ⟨fun _ => rfl, fun h => absurd h (by omega)⟩
  | n + 1, hn => by
    obtain ⟨h1, h2⟩ := moved_head htf hf n (by omega)
    refine ⟨fun hle => ?_, fun hlt => ?_⟩
    · rw [movedN, h1 (by omega), if_neg (by omega), if_neg (by omega), List.nil_append, List.getElem?_eq_getElem (by omega), List.take_succ_eq_append_getElem (by omega)]
      rfl
    · by_cases e : n = t
      · subst e
        rw [movedN, h1 (Nat.le_refl _), if_pos rfl, List.getElem?_eq_getElem hf]
        exact ⟨_, rfl⟩
      · obtain ⟨rest, hr⟩ := h2 (by omega)
        rw [movedN, hr]
        exact ⟨rest ++ _, by rw [List.append_assoc, List.cons_append]⟩
theorem moved_wrong {r : Rule} {ks : List Name} {first : Int} {l : List Stp} (hm : mayOf r ks = 0) (ht : Tr r.body first (2 ^ r.body.length - 1) (learnOn [] ks) l) {i k : Nat} (hik : i < k) (hk : k < l.length) (hreg : ¬ (i = 0 ∧ 0 ≤ first))
    {x j : Nat} (hx : l[k].lit = (x : Int)) (hj : (l[i]'(by omega)).lit = (j : Int)) (hax : atomAt r.body x = false) (hc : atomAt r.body j = true ∨ x < j) : rightB r.bareR (movedN l k i l.length) ks = false := by
  obtain ⟨m', ns', j', q1, q2, q3, q4, q5, q6⟩ := ht.turn (mayOf_ok hm) (i := i) (by omega) hreg
  have : j' = j := by omega
  subst this
  obtain ⟨x', p1, p2, p3⟩ := q4 k hk hik
  have : x' = x := by omega
  subst this
  have hno : okAt r.body ns' x' = false := by
    rcases q5 with ⟨h1, h2, _⟩ | ⟨h1, h2⟩
    · exact h2 x' p1 hax
    · rcases hc with h | h
      · rw [h1] at h; cases h
      · exact h2 x' p1 h hax
  obtain ⟨rest, hr⟩ := (moved_head hik hk l.length (Nat.le_refl _)).2 (by omega)
  rw [rightB_bare]
  unfold rightB
  rw [if_pos hm, hr, q6, rightOn, p2, if_neg (by have := q3 x' p1; omega), Int.toNat_natCast, if_neg (by rw [(bitsOf_mem p1).2]; exact Bool.noConfusion), List.getElem?_eq_getElem (q3 x' p1)]
  rw [okAt_at (List.getElem?_eq_getElem (q3 x' p1))] at hno
  simp only
  rw [if_neg (by rintro ⟨h, _⟩; rw [hno] at h; cases h)]
def lastN (body : List Lit) (first : Int) (l : List Stp) : Nat → Int
  | 0 => -1
  | i + 1 => match l[i]? with
    | none => lastN body first l i
    | some s => if (i = 0 ∧ 0 ≤ first) ∨ atomAt body s.lit.toNat = false then lastN body first l i else s.lit
theorem last_lt {r : Rule} {ks : List Name} {first : Int} {l : List Stp} (hok : ruleOk r = true) (ht : Tr r.body first (2 ^ r.body.length - 1) (learnOn [] ks) l) {i : Nat} (hi : i < l.length) {j : Nat} (hj : l[i].lit = (j : Int)) (ha : atomAt r.body j = true) : lastN r.body first l i < j := by
  have key : ∀ n, n ≤ i → lastN r.body first l n < j := fun n => by
    induction n with
    | zero => intro _; rw [lastN]; omega
    | succ n ih =>
      intro hn
      rw [lastN, List.getElem?_eq_getElem (show n < l.length by omega)]
      simp only
      split
      · exact ih (by omega)
      · rename_i hc
        have h1 : ¬ (n = 0 ∧ 0 ≤ first) := fun h => hc (.inl h)
        have h2 : atomAt r.body l[n].lit.toNat = true := by
          cases h : atomAt r.body l[n].lit.toNat with
          | true => rfl
          | false => exact absurd (.inr h) hc
        obtain ⟨m', ns', j', q1, q2, q3, q4, q5, _⟩ := ht.turn hok (i := n) (by omega) h1
        rw [q1, Int.toNat_natCast] at h2
        obtain ⟨x, p1, p2, p3⟩ := q4 i hi (by omega)
        have : x = j := by omega
        subst this
        rcases q5 with ⟨_, _, h3⟩ | ⟨h3, _⟩
        · have := h3 x p1 ha
          omega
        · rw [h3] at h2; cases h2
  exact key i (Nat.le_refl _)
end Go.Proofs.YtiomojlcnemnhaaDoor

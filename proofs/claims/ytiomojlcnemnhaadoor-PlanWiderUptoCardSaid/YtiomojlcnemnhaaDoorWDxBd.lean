import Derived.Test.YtiomojlcnemnhaaDoorWDxB5
import Derived.Test.YtiomojlcnemnhaaDoorWDxIcK
namespace Go.Proofs.YtiomojlcnemnhaaDoor
open Go.Fx Go.RowKit Go.Ped
variable {G : World → Prop}
def Rule.fit (r : Rule) : Prop := r.small 1048576 ∧ (∀ x ∈ r.body, x.fit) ∧ r.terms.length ≤ 1048576 ∧ (r.body.map fun x => x.l.length).sum ≤ 10000000
end Go.Proofs.YtiomojlcnemnhaaDoor

namespace Go.Proofs.YtiomojlcnemnhaaDoor
open Go.Fx Go.RowKit Go.Ped
theorem may_cases (r : Rule) (ks : List Name) : (mayOf r ks = 40 ∧ ruleOk r = false) ∨ (ruleOk r = true ∧ ((mayOf r ks = 1 ∧ knOkOn [] ks = false) ∨ (mayOf r ks = 73 ∧ knOkOn [] ks = true) ∨ (mayOf r ks = 0 ∧ knOkOn [] ks = true))) := by
  unfold mayOf mayIn
  cases hr : ruleOk r with
  | false => exact .inl ⟨rfl, rfl⟩
  | true =>
    refine .inr ⟨rfl, ?_⟩
    rw [if_pos rfl]
    cases hk : knOkOn [] ks with
    | false => exact .inl ⟨rfl, rfl⟩
    | true =>
      rw [if_pos rfl]
      split
      · exact .inr (.inr ⟨rfl, rfl⟩)
      · exact .inr (.inl ⟨rfl, rfl⟩)
theorem may_more {r : Rule} {ks ls : List Name} (h : mayOf r ks = 73) (hsub : ∀ v ∈ ls, v ∈ ks) (hls : knOkOn [] ls = true) : mayOf r ls = 73 := by
  have hok : ruleOk r = true := by
    rcases may_cases r ks with ⟨e, _⟩ | ⟨e, _⟩
    · rw [h] at e; cases e
    · exact e
  have hkn : knOkOn [] ks = true := by
    rcases may_cases r ks with ⟨e, _⟩ | ⟨_, ⟨e, _⟩ | ⟨_, e⟩ | ⟨e, _⟩⟩
    · rw [h] at e; cases e
    · rw [h] at e; cases e
    · exact e
    · rw [h] at e; cases e
  unfold mayOf mayIn at h ⊢
  rw [if_pos hok, if_pos hkn] at h
  rw [if_pos hok, if_pos hls, if_neg]
  intro hall
  rw [if_pos] at h
  · cases h
  · refine List.all_eq_true.2 fun v hv => ?_
    have h1 := List.all_eq_true.1 hall v hv
    have h2 : v ∈ limitsOf (r.body ++ ls.map knLit) := by simpa using h1
    have h3 := limits_mono (m := r.body ++ ks.map knLit) (fun x hx => by
      rcases List.mem_append.1 hx with hx | hx
      · exact List.mem_append_left _ hx
      · obtain ⟨u, hu, rfl⟩ := List.mem_map.1 hx
        exact List.mem_append_right _ (List.mem_map_of_mem (hsub u hu))) v h2
    simpa using h3
theorem Tr.lits {body : List Lit} {first : Int} : ∀ {l : List Stp} {m : Nat} {ns : List Name}, Tr body first m ns l → l.length = (bitsOf m).length ∧ (∀ s ∈ l, ∃ j ∈ bitsOf m, s.lit = (j : Int)) ∧ (l.map Stp.lit).Nodup
  | [], m, ns, h => by
    have h0 : m = 0 := h
    rw [h0, bitsOf_zero]
    exact ⟨rfl, by simp, List.nodup_nil⟩
  | s :: l, m, ns, h => by
    obtain ⟨j, hj, _, ho, rfl, ht⟩ := h
    obtain ⟨h1, h2, h3⟩ := ht.lits
    have hl := clr_len hj
    have hsl : (stepAt body ns j).lit = (j : Int) := by
      unfold okAt at ho
      unfold stepAt
      cases hx : body[j]? with
      | none => rw [hx] at ho; cases ho
      | some x => exact step_lit _ _ _
    refine ⟨by rw [List.length_cons]; omega, fun t ht2 => ?_, ?_⟩
    · rcases List.mem_cons.1 ht2 with rfl | ht2
      · exact ⟨j, hj, hsl⟩
      · obtain ⟨i, hi, e⟩ := h2 t ht2
        exact ⟨i, ((clr_bits (bitsOf_mem hj).1).1 hi).1, e⟩
    · rw [List.map_cons, List.nodup_cons, hsl]
      refine ⟨fun hm => ?_, h3⟩
      obtain ⟨t, ht2, e⟩ := List.mem_map.1 hm
      obtain ⟨i, hi, e2⟩ := h2 t ht2
      have := ((clr_bits (bitsOf_mem hj).1).1 hi).2
      omega
theorem full_len {n : Nat} (hn : n ≤ 24) : (bitsOf (2 ^ n - 1)).length = n := by
  have e : bitsOf (2 ^ n - 1) = List.range n := by
    unfold bitsOf
    have h1 : List.range 24 = List.range n ++ List.range' n (24 - n) := by
      rw [List.range_eq_range', List.range_eq_range']
      have := List.range'_append_1 (s := 0) (m := n) (n := 24 - n)
      rw [Nat.zero_add] at this
      rw [this]
      congr 1
      omega
    rw [h1, List.filter_append, List.filter_eq_self.2 (fun j hj => by rw [Nat.testBit_two_pow_sub_one]; simpa using hj), List.filter_eq_nil_iff.2 (fun j hj => by
      rw [Nat.testBit_two_pow_sub_one]
      have := (List.mem_range'_1.1 hj).1
      simp; omega), List.append_nil]
  rw [e, List.length_range]
theorem make_len {r : Rule} {ks : List Name} {first : Int} {l : List Stp} (hok : ruleOk r = true) (ht : Tr r.body first (2 ^ r.body.length - 1) (learnOn [] ks) l) : l.length = r.body.length := by
  rw [ht.lits.1, full_len (by have := (rule_body24 hok).1; omega)]
end Go.Proofs.YtiomojlcnemnhaaDoor

namespace Go.Proofs.YtiomojlcnemnhaaDoor
open Go.Fx Go.RowKit Go.Ped
theorem stepAt_lit {body : List Lit} {ns : List Name} {j : Nat} (h : okAt body ns j = true) : (stepAt body ns j).lit = (j : Int) := by
  unfold okAt at h
  unfold stepAt
  cases hx : body[j]? with
  | none => rw [hx] at h; cases h
  | some x => exact step_lit _ _ _
end Go.Proofs.YtiomojlcnemnhaaDoor

namespace Go.Proofs.YtiomojlcnemnhaaDoor
open Go.Fx Go.RowKit Go.Ped
theorem or_step (c1 c2 a b : Nat) (h1 : c1 ≤ 1) (h2 : c2 ≤ 1) : (c1 + 2 * a) ||| (c2 + 2 * b) = (c1 ||| c2) + 2 * (a ||| b) := by
  have hd : ∀ c x : Nat, c ≤ 1 → (c + 2 * x) / 2 = x ∧ (c + 2 * x).testBit 0 = c.testBit 0 := fun c x hc => by
    refine ⟨by omega, ?_⟩
    rw [Nat.testBit_zero, Nat.testBit_zero]
    congr 1
    rw [eq_iff_iff]
    omega
  have hor : (c1 ||| c2) ≤ 1 := by
    have : ∀ x y : Fin 2, (x.val ||| y.val) ≤ 1 := by decide
    exact this ⟨c1, by omega⟩ ⟨c2, by omega⟩
  apply Nat.eq_of_testBit_eq
  intro i
  cases i with
  | zero => rw [Nat.testBit_or, (hd c1 a h1).2, (hd c2 b h2).2, (hd _ (a ||| b) hor).2, Nat.testBit_or]
  | succ i => rw [Nat.testBit_or, Nat.testBit_succ, Nat.testBit_succ, Nat.testBit_succ, (hd c1 a h1).1, (hd c2 b h2).1, (hd _ (a ||| b) hor).1, Nat.testBit_or]
theorem mark_or {ns ms : List Name} (h : ∀ v ∈ ns, v ∈ ms) : ∀ l : List Tm, markOf ns l ||| markOf ms l = markOf ms l
  | [] => by simp [markOf]
  | t :: l => by
    have hb : ∀ c : Prop, [Decidable c] → (if c then 1 else 0) ≤ 1 := fun c _ => by split <;> omega
    rw [markOf, markOf, or_step _ _ _ _ (hb _) (hb _), mark_or h l]
    congr 1
    by_cases h1 : t.v = [] ∨ ns.contains t.v = true
    · have h2 : t.v = [] ∨ ms.contains t.v = true := h1.imp id fun h3 => by simpa using h t.v (by simpa using h3)
      rw [if_pos h1, if_pos h2]
      rfl
    · rw [if_neg h1, Nat.zero_or]
theorem known_or {ns ms : List Name} (h : ∀ v ∈ ns, v ∈ ms) (x : Lit) (i : Nat) : ∃ a b : Nat, (stepOf ns x i).1.known = (a : Int) ∧ (stepOf ms x i).1.known = (b : Int) ∧ a ||| b = b ∧ (a = 0 ∨ a = markOf ns x.l) ∧ (b = 0 ∨ b = markOf ms x.l) := by
  by_cases k1 : x.kind = 1
  · refine ⟨markOf ns x.l, markOf ms x.l, ?_, ?_, mark_or h _, .inr rfl, .inr rfl⟩ <;> unfold stepOf <;> rw [if_pos k1]
  · by_cases k2 : x.kind = 2
    · refine ⟨markOf ns x.l, markOf ms x.l, ?_, ?_, mark_or h _, .inr rfl, .inr rfl⟩ <;> unfold stepOf <;> rw [if_neg k1, if_pos k2]
    · refine ⟨0, 0, ?_, ?_, rfl, .inl rfl, .inl rfl⟩ <;> unfold stepOf <;> rw [if_neg k1, if_neg k2] <;> split <;> try rfl
      · split <;> rfl
      · split <;> rfl
theorem wrap_or (a b : Nat) (ha : a < 2 ^ 24) (hb : b < 2 ^ 24) (h : a ||| b = b) : bits .or .u32 (a : Int) (b : Int) = (b : Int) := by
  have ha2 : a < 16777216 := ha
  have hb2 : b < 16777216 := hb
  unfold bits
  simp only [BitVec.ofInt_natCast, BitVec.toNat_or, BitVec.toNat_ofNat]
  have hp : (2 : Nat) ^ IntKind.u32.bits = 4294967296 := by decide
  rw [hp, Nat.mod_eq_of_lt (by omega), Nat.mod_eq_of_lt (by omega), h, wrap_u32 _ (by omega)]
def Wide (more : Name) (a b : Stp) : Prop := (∃ x y : Nat, a.known = (x : Int) ∧ b.known = (y : Int) ∧ x ||| y = y ∧ x < 2 ^ 24 ∧ y < 2 ^ 24) ∧ ∀ v ∈ b.gives, v ∈ a.gives ∧ v ≠ more
theorem mark_lt24 {ns : List Name} {l : List Tm} (h : l.length ≤ 24) : markOf ns l < 2 ^ 24 := by
  have key : ∀ l : List Tm, markOf ns l < 2 ^ l.length := fun l => by
    induction l with
    | nil => exact Nat.one_pos
    | cons t l ih =>
      rw [markOf, List.length_cons, Nat.pow_succ]
      split <;> omega
  exact Nat.lt_of_lt_of_le (key l) (Nat.pow_le_pow_right (by omega) h)
theorem wide_of {body : List Lit} (hlit : ∀ x ∈ body, litOk x = true) {first : Int} {more : Name} : ∀ {l1 l2 : List Stp} {m : Nat} {ns ms : List Name}, (∀ i ∈ bitsOf m, i < body.length) → (∀ v ∈ ns, v ∈ ms) → more ∈ ms → Tr body first m ns l1 → Tr body first m ms l2 → l1.map Stp.lit = l2.map Stp.lit →
    ∀ i (h1 : i < l1.length) (h2 : i < l2.length), Wide more l1[i] l2[i]
  | [], _, _, _, _, _, _, _, _, _, _, i, h1, _ => absurd h1 (by simp)
  | _ :: _, [], _, _, _, _, _, _, _, _, _, i, _, h2 => absurd h2 (by simp)
  | s1 :: l1, s2 :: l2, m, ns, ms, hin, hsub, hmore, t1, t2, he, i, h1, h2 => by
    obtain ⟨j, hj, _, o1, rfl, t1⟩ := t1
    obtain ⟨j', hj', _, o2, rfl, t2⟩ := t2
    rw [List.map_cons, List.map_cons] at he
    injection he with he1 he2
    rw [stepAt_lit o1, stepAt_lit o2] at he1
    obtain rfl : j = j' := by omega
    have hjl := hin j hj
    have hx : body[j]? = some body[j] := List.getElem?_eq_getElem hjl
    have hxm : body[j] ∈ body := List.getElem_mem hjl
    rw [okAt_at hx] at o1 o2
    simp only [stepAt_at hx] at t1 t2 ⊢
    have hk := lit_kind (hlit _ hxm)
    obtain ⟨a1, _, a3⟩ := step_gives_ok ns hk j o1
    obtain ⟨b1, _, b3⟩ := step_gives_ok ms hk j o2
    cases i with
    | zero =>
      obtain ⟨a, b, e1, e2, e3, e4, e5⟩ := known_or hsub body[j] j
      have hl24 := lit_args (hlit _ hxm)
      refine ⟨⟨a, b, e1, e2, e3, ?_, ?_⟩, fun v hv => ⟨?_, fun e => ?_⟩⟩
      · rcases e4 with rfl | rfl
        · decide
        · exact mark_lt24 hl24
      · rcases e5 with rfl | rfl
        · decide
        · exact mark_lt24 hl24
      · obtain ⟨hv1, hv2⟩ := b1 v hv
        rcases a3 v hv1 with h | h
        · have : ms.contains v = true := by simpa using hsub v (by simpa using h)
          rw [hv2] at this; cases this
        · exact h
      · have hv2 := (b1 v hv).2
        have : ms.contains v = true := by rw [e]; simpa using hmore
        rw [hv2] at this; cases this
    | succ i =>
      have h24 := (bitsOf_mem hj).1
      refine wide_of hlit (fun i hi => hin i ((clr_bits h24).1 hi).1) (fun v hv => ?_) ((learnOn_mem _ _ _).2 (.inl hmore)) t1 t2 he2 i (by simpa using h1) (by simpa using h2)
      rcases (learnOn_mem _ _ _).1 hv with hv | hv
      · exact (learnOn_mem _ _ _).2 (.inl (hsub v hv))
      · rcases b3 v (a1 v hv).1 with h | h
        · exact (learnOn_mem _ _ _).2 (.inl (by simpa using h))
        · exact (learnOn_mem _ _ _).2 (.inr h)
theorem make_wide {r : Rule} {ks : List Name} {more : Name} {first : Int} {l1 l2 : List Stp} (hok : ruleOk r = true) (t1 : Tr r.body first (2 ^ r.body.length - 1) (learnOn [] ks) l1) (t2 : Tr r.body first (2 ^ r.body.length - 1) (learnOn [] (ks ++ [more])) l2) (he : ∀ i (h1 : i < l1.length) (h2 : i < l2.length), l1[i].lit = l2[i].lit) :
    ∀ i (h1 : i < l1.length) (h2 : i < l2.length), Wide more l1[i] l2[i] := by
  have hl1 := make_len hok t1
  have hl2 := make_len hok t2
  refine wide_of (rule_body24 hok).2 (at_start (ks := ks) hok).inn (fun v hv => ?_) ((learnOn_mem _ _ _).2 (.inr (by simp))) t1 t2 ?_
  · rcases (learnOn_mem _ _ _).1 hv with h | h
    · cases h
    · exact (learnOn_mem _ _ _).2 (.inr (List.mem_append_left _ h))
  · refine List.ext_getElem (by rw [List.length_map, List.length_map, hl1, hl2]) fun i h1 h2 => ?_
    rw [List.getElem_map, List.getElem_map]
    exact he i (by simpa using h1) (by simpa using h2)
theorem may_wider {r : Rule} {ks : List Name} {more : Name} (h : mayOf r ks = 0) : mayOf r (ks ++ [more]) = 0 ∨ mayOf r (ks ++ [more]) = 1 := by
  have hkn : knOkOn [] ks = true := by
    rcases may_cases r ks with ⟨e, _⟩ | ⟨_, ⟨e, _⟩ | ⟨e, _⟩ | ⟨_, e⟩⟩
    · rw [h] at e; cases e
    · rw [h] at e; cases e
    · rw [h] at e; cases e
    · exact e
  rcases may_cases r (ks ++ [more]) with ⟨_, e⟩ | ⟨_, ⟨e, _⟩ | ⟨e, _⟩ | ⟨e, _⟩⟩
  · rw [mayOf_ok h] at e; cases e
  · exact .inr e
  · have := may_more e (ls := ks) (fun v hv => List.mem_append_left _ hv) hkn
    rw [h] at this; cases this
  · exact .inl e
end Go.Proofs.YtiomojlcnemnhaaDoor

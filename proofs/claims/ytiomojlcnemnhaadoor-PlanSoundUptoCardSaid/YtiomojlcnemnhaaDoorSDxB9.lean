import Derived.Test.YtiomojlcnemnhaaDoorSDxB5
import Derived.Test.YtiomojlcnemnhaaDoorSDxIcK
import Derived.Test.YtiomojlcnemnhaaDoorSDxB3
import Derived.Test.YtiomojlcnemnhaaDoorSDxJ8
namespace Go.Proofs.YtiomojlcnemnhaaDoor
open Go.Fx Go.RowKit Go.Ped
variable {G : World → Prop}
theorem c155 (acc l : List Name) (sp : Sp) (hl : l.length ≤ maxLen) :
    MeetsV Tryd.prog G (fnA 155) [.one (.ref 9 0 0), .one (.c (.sl (l.map nmRow) sp))] (hp (OF 9 7 22 acc) (UF 22 acc) F0) (rB (allIn l acc)) (hp (OF 9 7 22 acc) (UF 22 acc) F0) := by
  have h := (((MeetsV.of_fun (m155 (G := G) acc l sp hl)).ren (π := swR 10009 9)).ren (π := swR 10007 7)).ren (π := swR 10022 22)
  simp [swF, thr_ren] at h
  simpa using h
def Rule.fit (r : Rule) : Prop := r.small 1048576 ∧ (∀ x ∈ r.body, x.fit) ∧ r.terms.length ≤ 1048576 ∧ (r.body.map fun x => x.l.length).sum ≤ 10000000
theorem m85 (r : Rule) (hr : r.fit) : Meets Tryd.prog G 85 [.agg r.row] (.x (.one (cI .i64 (ruleErr r)))) := by
  obtain ⟨hs, hf, hl, hb⟩ := hr
  refine meets Tryd.func85 ie85 ig85 (Nat.le_of_ble_eq_true rfl) ?_
  have hv := tmVars_len r.terms
  simp [ic85, ir85]
  refine call_of (m66 r hs (by omega)) ?_
  simp
  by_cases hk : ruleOk r = true
  · simp [hk]
    refine r_callN [7, 9, 22] _ _ [] [] _ (OF 9 7 22 (limitsOf r.body)) (UF 22 (limitsOf r.body)) (MeetsV.of_fun (m121 r.body r.bsp hf hs.2.1 hb)) rfl rfl rfl (by simp) (by simp) (by simp) ?_
    simp
    refine call_of (m68 r hs (by omega)) ?_
    simp
    refine r_callN [7, 9, 22] _ _ (OF 9 7 22 (limitsOf r.body)) (UF 22 (limitsOf r.body)) _ (OF 9 7 22 (limitsOf r.body)) (UF 22 (limitsOf r.body)) (c155 _ (tmVars r.terms) [] (by unfold maxLen; omega)) rfl rfl rfl (by simp [X.fits, A.fits]) (by simp) (by simp) ?_
    simp
    refine condI_of (fun h => ?_) (fun h => ?_)
    · simp at h
      simp [ruleErr, hk, h]
    · simp at h
      simp [ruleErr, hk, h]
  · simp [hk, ruleErr]
end Go.Proofs.YtiomojlcnemnhaaDoor

namespace Go.Proofs.YtiomojlcnemnhaaDoor
open Go.Fx Go.RowKit Go.Ped
theorem bare_twin (mk : List C) : ∀ e : Ex, e.bare.twin mk = e.twin mk := by
  refine Ex.ind fun op t kids sp ih => ?_
  rw [Ex.bare_mk, Ex.twin_mk, Ex.twin_mk, List.map_map]
  congr 1
  exact List.map_congr_left fun k hk => ih k hk
theorem bareL_tw (x : Lit) : x.bareL.tw = x.tw := by
  unfold Lit.bareL
  show Lit.twin _ _ _ = Lit.twin _ _ _
  unfold Lit.twin
  simp only [bare_twin]
theorem bareR_tw (r : Rule) : r.bareR.tw = r.tw := by
  show (⟨r.p, r.head, _, (r.body.map Lit.bareL).map Lit.tw, _⟩ : Rule) = ⟨r.p, r.head, _, r.body.map Lit.tw, _⟩
  rw [List.map_map]
  congr 1
  exact List.map_congr_left fun x _ => bareL_tw x
theorem may_bare (r : Rule) (ks : List Name) : mayOf r.bareR ks = mayOf r ks := by
  have h1 : ruleOk r.bareR = ruleOk r := by rw [← ruleOk_tw r.bareR, bareR_tw, ruleOk_tw]
  have h2 : limitsOf (r.bareR.body ++ ks.map knLit) = limitsOf (r.body ++ ks.map knLit) := by
    rw [← limitsOf_tw, ← limitsOf_tw (r.body ++ ks.map knLit), List.map_append, List.map_append]
    congr 2
    show (r.body.map Lit.bareL).map Lit.tw = _
    rw [List.map_map]
    exact List.map_congr_left fun x _ => bareL_tw x
  unfold mayOf mayIn
  rw [h1, h2, bareR_terms]
theorem may_nil (r : Rule) : mayOf r [] = ruleErr r := by
  unfold mayOf mayIn ruleErr
  rw [List.map_nil, List.append_nil, if_pos (show knOkOn [] [] = true from rfl)]
  rfl
theorem may_cases (r : Rule) (ks : List Name) : (mayOf r ks = 40 ∧ ruleOk r = false) ∨ (ruleOk r = true ∧ ((mayOf r ks = 1 ∧ knOkOn [] ks = false) ∨ (mayOf r ks = 73 ∧ knOkOn [] ks = true) ∨ (mayOf r ks = 0 ∧ knOkOn [] ks = true))) := by
  unfold mayOf mayIn
  cases hr : ruleOk r with
  | false => exact .inl ⟨rfl, rfl⟩
  | true =>
    refine .inr ⟨rfl, ?_⟩
    rw [if_pos rfl]
    cases hk : knOkOn [] ks with
    | false => exact .inl ⟨rfl, rfl⟩
    | true =>
      rw [if_pos rfl]
      split
      · exact .inr (.inr ⟨rfl, rfl⟩)
      · exact .inr (.inl ⟨rfl, rfl⟩)
theorem may_more {r : Rule} {ks ls : List Name} (h : mayOf r ks = 73) (hsub : ∀ v ∈ ls, v ∈ ks) (hls : knOkOn [] ls = true) : mayOf r ls = 73 := by
  have hok : ruleOk r = true := by
    rcases may_cases r ks with ⟨e, _⟩ | ⟨e, _⟩
    · rw [h] at e; cases e
    · exact e
  have hkn : knOkOn [] ks = true := by
    rcases may_cases r ks with ⟨e, _⟩ | ⟨_, ⟨e, _⟩ | ⟨_, e⟩ | ⟨e, _⟩⟩
    · rw [h] at e; cases e
    · rw [h] at e; cases e
    · exact e
    · rw [h] at e; cases e
  unfold mayOf mayIn at h ⊢
  rw [if_pos hok, if_pos hkn] at h
  rw [if_pos hok, if_pos hls, if_neg]
  intro hall
  rw [if_pos] at h
  · cases h
  · refine List.all_eq_true.2 fun v hv => ?_
    have h1 := List.all_eq_true.1 hall v hv
    have h2 : v ∈ limitsOf (r.body ++ ls.map knLit) := by simpa using h1
    have h3 := limits_mono (m := r.body ++ ks.map knLit) (fun x hx => by
      rcases List.mem_append.1 hx with hx | hx
      · exact List.mem_append_left _ hx
      · obtain ⟨u, hu, rfl⟩ := List.mem_map.1 hx
        exact List.mem_append_right _ (List.mem_map_of_mem (hsub u hu))) v h2
    simpa using h3
theorem Tr.right {body : List Lit} {first : Int} : ∀ {l : List Stp} {m : Nat} {ns : List Name}, (∀ i ∈ bitsOf m, i < body.length) → Tr body first m ns l → rightOn body m ns l = true
  | [], m, ns, _, h => by
    have h0 : m = 0 := h
    rw [rightOn, h0]; rfl
  | s :: l, m, ns, hin, h => by
    obtain ⟨j, hj, _, ho, rfl, ht⟩ := h
    have hjl := hin j hj
    have hx : body[j]? = some body[j] := List.getElem?_eq_getElem hjl
    rw [okAt_at hx] at ho
    rw [stepAt_at hx] at ht ⊢
    have ih := Tr.right (fun i hi => hin i ((clr_bits (bitsOf_mem hj).1).1 hi).1) ht
    rw [rightOn, step_lit, if_neg (by omega), Int.toNat_natCast, if_neg (by rw [(bitsOf_mem hj).2]; exact Bool.noConfusion), hx]
    simp only
    rw [if_pos ⟨ho, trivial, trivial, trivial⟩]
    exact ih
theorem rightOn_bare (body : List Lit) : ∀ (l : List Stp) (m : Nat) (ns : List Name), rightOn (body.map Lit.bareL) m ns l = rightOn body m ns l
  | [], m, ns => rfl
  | s :: l, m, ns => by
    rw [rightOn, rightOn, List.length_map, List.getElem?_map]
    cases body[s.lit.toNat]? with
    | none => rfl
    | some x =>
      simp only [Option.map_some, stepOf_bare, rightOn_bare body l]
theorem rightB_bare (r : Rule) (l : List Stp) (ks : List Name) : rightB r.bareR l ks = rightB r l ks := by
  unfold rightB
  rw [may_bare]
  show (if mayOf r ks = 0 then rightOn (r.body.map Lit.bareL) (2 ^ (r.body.map Lit.bareL).length - 1) (learnOn [] ks) l else false) = _
  rw [List.length_map, rightOn_bare]
theorem make_right {r : Rule} {ks : List Name} {first : Int} {l : List Stp} (hm : mayOf r ks = 0) (ht : Tr r.body first (2 ^ r.body.length - 1) (learnOn [] ks) l) : rightB r.bareR l ks = true := by
  rw [rightB_bare]
  unfold rightB
  rw [if_pos hm]
  exact ht.right (at_start (ks := ks) (mayOf_ok hm)).inn
theorem Tr.lits {body : List Lit} {first : Int} : ∀ {l : List Stp} {m : Nat} {ns : List Name}, Tr body first m ns l → l.length = (bitsOf m).length ∧ (∀ s ∈ l, ∃ j ∈ bitsOf m, s.lit = (j : Int)) ∧ (l.map Stp.lit).Nodup
  | [], m, ns, h => by
    have h0 : m = 0 := h
    rw [h0, bitsOf_zero]
    exact ⟨rfl, by simp, List.nodup_nil⟩
  | s :: l, m, ns, h => by
    obtain ⟨j, hj, _, ho, rfl, ht⟩ := h
    obtain ⟨h1, h2, h3⟩ := ht.lits
    have hl := clr_len hj
    have hsl : (stepAt body ns j).lit = (j : Int) := by
      unfold okAt at ho
      unfold stepAt
      cases hx : body[j]? with
      | none => rw [hx] at ho; cases ho
      | some x => exact step_lit _ _ _
    refine ⟨by rw [List.length_cons]; omega, fun t ht2 => ?_, ?_⟩
    · rcases List.mem_cons.1 ht2 with rfl | ht2
      · exact ⟨j, hj, hsl⟩
      · obtain ⟨i, hi, e⟩ := h2 t ht2
        exact ⟨i, ((clr_bits (bitsOf_mem hj).1).1 hi).1, e⟩
    · rw [List.map_cons, List.nodup_cons, hsl]
      refine ⟨fun hm => ?_, h3⟩
      obtain ⟨t, ht2, e⟩ := List.mem_map.1 hm
      obtain ⟨i, hi, e2⟩ := h2 t ht2
      have := ((clr_bits (bitsOf_mem hj).1).1 hi).2
      omega
theorem full_len {n : Nat} (hn : n ≤ 24) : (bitsOf (2 ^ n - 1)).length = n := by
  have e : bitsOf (2 ^ n - 1) = List.range n := by
    unfold bitsOf
    have h1 : List.range 24 = List.range n ++ List.range' n (24 - n) := by
      rw [List.range_eq_range', List.range_eq_range']
      have := List.range'_append_1 (s := 0) (m := n) (n := 24 - n)
      rw [Nat.zero_add] at this
      rw [this]
      congr 1
      omega
    rw [h1, List.filter_append, List.filter_eq_self.2 (fun j hj => by rw [Nat.testBit_two_pow_sub_one]; simpa using hj), List.filter_eq_nil_iff.2 (fun j hj => by
      rw [Nat.testBit_two_pow_sub_one]
      have := (List.mem_range'_1.1 hj).1
      simp; omega), List.append_nil]
  rw [e, List.length_range]
theorem make_len {r : Rule} {ks : List Name} {first : Int} {l : List Stp} (hok : ruleOk r = true) (ht : Tr r.body first (2 ^ r.body.length - 1) (learnOn [] ks) l) : l.length = r.body.length := by
  rw [ht.lits.1, full_len (by have := (rule_body24 hok).1; omega)]
theorem make_first {r : Rule} {ks : List Name} {first : Int} {l : List Stp} (hok : ruleOk r = true) (hg : ¬ badFirst r first) (h0 : 0 ≤ first) (ht : Tr r.body first (2 ^ r.body.length - 1) (learnOn [] ks) l) : ∃ s l', l = s :: l' ∧ s.lit = first := by
  have hlt : first < r.body.length := by
    apply Classical.byContradiction
    intro hn
    exact hg (.inr (.inl (by omega)))
  have hl := make_len hok ht
  cases l with
  | nil => rw [List.length_nil] at hl; omega
  | cons s l =>
    obtain ⟨j, hj, hp, ho, rfl, _⟩ := ht
    refine ⟨_, _, rfl, ?_⟩
    have hjf : first = j := by
      rw [← hp]
      unfold pickL
      rw [if_neg]
      rintro (h | h)
      · omega
      · rw [Nat.testBit_two_pow_sub_one] at h
        have : ¬ first.toNat < r.body.length := by simpa using h
        omega
    rw [hjf]
    unfold okAt at ho
    unfold stepAt
    cases hx : r.body[j]? with
    | none => rw [hx] at ho; cases ho
    | some x => exact step_lit _ _ _
end Go.Proofs.YtiomojlcnemnhaaDoor

namespace Go.Proofs.YtiomojlcnemnhaaDoor
open Go.Fx Go.RowKit Go.Ped
theorem sum_l_le : ∀ l : List Lit, (l.map fun x => x.l.length).sum ≤ (l.flatMap Lit.terms).length
  | [] => Nat.le_refl _
  | x :: l => by
    have := sum_l_le l
    rw [List.map_cons, List.sum_cons, List.flatMap_cons, List.length_append]
    have h2 : x.l.length ≤ x.terms.length := by unfold Lit.terms; simp only [List.length_append]; omega
    omega
theorem rule_fit {r : Rule} (hr : r.small 1048576) (hle : r.terms.length ≤ 1048576) : r.fit :=
  ⟨hr, fun x hx => ⟨hr.2.2 x hx, rule_left hx hle, rule_right hx hle⟩, hle, by
    have h1 := sum_l_le r.body
    unfold Rule.terms at hle
    rw [List.length_append] at hle
    omega⟩
theorem make_nil (r : Rule) (hr : r.small 1048576) (hle : r.terms.length ≤ 1048576) (hk : r.body.length ≤ 1048576) : ∃ a b c d, Meets Tryd.prog GB 82 [.agg r.row, .one (.sl [] []), .one (cI .i64 (-1))] (.tup [.agg [a, b, c, d], .one (cI .i64 (ruleErr r))]) := by
  have hg : ¬ badFirst r (-1) := by
    rintro (h | h | ⟨h, _⟩) <;> omega
  by_cases hm : mayOf r [] = 0
  · obtain ⟨l, hl, _⟩ := make_some hm hg
    have h := m82 r [] [] (-1) hr hle (by simpa using hk) (by simp) _ (.inr (.inr ⟨hm, hg, l, hl, rfl⟩))
    rw [← may_nil, hm]
    exact ⟨_, _, _, _, h⟩
  · have h := m82 r [] [] (-1) hr hle (by simpa using hk) (by simp) _ (.inl ⟨hm, rfl⟩)
    rw [← may_nil]
    exact ⟨_, _, _, _, h⟩
set_option maxRecDepth 100000 in
set_option maxHeartbeats 16000000 in
theorem m18 (r : Rule) (ks : List Name) (sp : Sp) (first : Int) (hr : r.small 1048576) (hle : r.terms.length ≤ 1048576) (hk : ks.length + r.body.length ≤ 1048576) (hsp : ∀ e ∈ sp, e.length = 1) :
    Meets Tryd.prog GB 18 [.agg r.row, .one (.sl (ks.map nmRow) sp), .one (cI .i64 first)] (.x (.one (cB true))) := by
  have h62 := m62 (G := GB) r hr
  generalize decide (ruleParts r 1048576 > 1048576) = big at h62
  obtain ⟨a0, b0, c0, d0, h82n⟩ := make_nil r hr hle (by omega)
  have h82 := m82 r ks sp first hr hle hk hsp
  have h85 := m85 (G := GB) r (rule_fit hr hle)
  have h86 := m86 (G := GB) ks sp (by omega) hsp
  have h79 := m79
  have hrow : r.row = [cS (bs r.p), .sl (r.head.map Arg.row) r.hsp, .sl (r.body.map Lit.row) r.bsp] := rfl
  have hfour : first < -1 ∨ (¬ first < -1 ∧ (r.body.length : Int) ≤ first) ∨ first = -1 ∨ ∃ j : Nat, first = j ∧ j < r.body.length := by
    by_cases h1 : first < -1
    · exact .inl h1
    · by_cases h2 : (r.body.length : Int) ≤ first
      · exact .inr (.inl ⟨h1, h2⟩)
      · by_cases h3 : first = -1
        · exact .inr (.inr (.inl h3))
        · exact .inr (.inr (.inr ⟨first.toNat, by omega, by omega⟩))
  refine meets Tryd.func18 ie18 ig18 (Nat.le_of_ble_eq_true rfl) ?_
  rw [hrow] at h62 h82n h82 h85 ⊢
  simp [ic18, ir18]
  refine call_of h62 ?_
  cases big with
  | true => simp
  | false =>
  simp
  by_cases hm : mayOf r ks = 0
  · by_cases hg : badFirst r first
    · refine call_of (h82 _ (.inr (.inl ⟨hm, hg, rfl⟩))) ?_
      simp
      refine call_of h82n ?_
      simp
      refine call_of h85 ?_
      simp
      have hkn : knOkOn [] ks = true := by
        rcases may_cases r ks with ⟨e, _⟩ | ⟨_, ⟨e, _⟩ | ⟨e, _⟩ | ⟨_, e⟩⟩
        · rw [hm] at e; cases e
        · rw [hm] at e; cases e
        · rw [hm] at e; cases e
        · exact e
      rw [hkn] at h86
      refine call_of h86 ?_
      simp
      rcases hfour with h1 | ⟨h1, h2⟩ | rfl | ⟨j, rfl, hjl⟩
      · simp [h1, pickT_true]
        refine call_of h79 ?_
        simp
      · simp [h1, h2, pickT_true]
        refine call_of h79 ?_
        simp
      · exact absurd hg (by rintro (h | h | ⟨h, _⟩) <;> omega)
      · have hr16 := lit16 r.body[j]
        have h1 : ¬ ((j : Int) < -1) := by omega
        have hk1 : ¬ r.body[j].kind = 1 := by
          rcases hg with h | h | ⟨_, h⟩
          · omega
          · omega
          · exact h _ (by rw [Int.toNat_natCast]; exact List.getElem?_eq_getElem hjl)
        simp [hjl, hr16, hk1, h1, Nat.not_le.2 hjl]
        refine call_of h79 ?_
        simp
    · obtain ⟨l, hl, ht⟩ := make_some hm hg
      have h82' := h82 _ (.inr (.inr ⟨hm, hg, l, hl, rfl⟩))
      have hok := mayOf_ok hm
      have hllen := make_len hok ht
      have hb16 := (rule_body24 hok).1
      have hnd := ht.lits.2.2
      have hfst := fun h0 => make_first hok hg h0 ht
      have hright := make_right hm ht
      have hlen : r.bareR.body.length = r.body.length := List.length_map ..
      have hS : (l.map fun s => ((s, []) : Stp × Sp)).map srow = l.map fun s => s.row [] := by rw [List.map_map]; rfl
      have h78 := m78 (G := GB) r.bareR (l.map fun s => (s, [])) [] ks sp (bareR_small hr) (by rw [bareR_terms]; exact hle) (by rw [hlen]; exact hk) hsp (by rw [List.length_map]; unfold maxLen; omega)
      rw [show ((l.map fun s => ((s, []) : Stp × Sp)).map (·.1)) = l by rw [List.map_map]; exact List.map_id _, hright] at h78
      have h72 := m72b (G := GB) r hr
      have hbrow : r.bareR.row = [cS (bs r.p), .sl (r.head.map Arg.row) [], .sl (r.bareR.body.map Lit.row) []] := rfl
      rw [hbrow, hrow] at h72
      unfold madeRow at h82'
      unfold planRow at h82' h78
      rw [hS] at h82' h78
      rw [show r.bareR.p = r.p from rfl, show r.bareR.head = r.head from rfl, show r.bareR.hsp = [] from rfl, show r.bareR.bsp = [] from rfl] at h82' h78
      generalize r.bareR.body.map Lit.row = B at *
      refine call_of h82' ?_
      simp
      refine call_of h82n ?_
      simp
      refine call_of h85 ?_
      simp
      refine call_of h78 ?_
      simp [hllen]
      refine call_of h72 ?_
      simp
      refine w_loopA [] [139] [2, 7, 12, 13] (by simp [ownKey])
        (fun a : Nat × A × List (Nat × Fx.Tok) => st [(2, tI .i64 first), (7, .k true (.x (.one (.ref 7 0 0)))), (12, .k true (.x (.one a.2.1))), (13, tI .i64 a.1)]
          [(9, ⟨115, 4, [[.c a0, .c b0, .c c0, .c d0]], none⟩), (7, ⟨115, 4, [[.c (cS (bs r.p)), .c (.sl (r.head.map Arg.row) []), .c (.sl B []), .c (.sl (l.map fun s => s.row []) [])]], none⟩), (3, ⟨96, 3, [[.c (cS (bs r.p)), .c (.sl (r.head.map Arg.row) r.hsp), .c (.sl (r.body.map Lit.row) r.bsp)]], none⟩)] a.2.2 F0)
        (fun a => l.length - a.1) (fun a => a.1 ≤ l.length ∧ AccN 140 3 1 ((l.take a.1).map fun s => [cI .i64 s.lit]) a.2.1 a.2.2) (0, .nil, []) (by simp) ⟨Nat.zero_le _, .nil⟩ ?_
      rintro ⟨i, t, U⟩ K hK ⟨hi, hacc⟩
      simp only at hi hacc
      have hUk : ∀ k, k ≠ 140 → strikeU [k] U = U := fun k h => hacc.strikeU h
      obtain hlt | hge := Nat.lt_or_ge i l.length
      · have hsr : ∀ (k : Nat) (h : k < l.length), l[k].row [] = [cI .i8 l[k].kind, cI .i64 l[k].lit, cI .u32 l[k].known, .sl (l[k].gives.map nmRow) []] := fun _ _ => rfl
        rcases hacc with ⟨h0, rfl, rfl⟩ | ⟨rfl, rfl⟩
        · have hi0 : i = 0 := by
            have h2 : (l.take i).length = 0 := by simpa using congrArg List.length h0
            rw [List.length_take] at h2
            omega
          subst hi0
          simp [ic18l1, hlt]
          refine w_loopA [] [] [2, 7, 12, 13, 14] (by simp)
            (fun k : Nat => st [(2, tI .i64 first), (7, .k true (.x (.one (.ref 7 0 0)))), (12, .k true (.x (.one .nil))), (13, tI .i64 0), (14, tI .i64 k)]
              [(9, ⟨115, 4, [[.c a0, .c b0, .c c0, .c d0]], none⟩), (7, ⟨115, 4, [[.c (cS (bs r.p)), .c (.sl (r.head.map Arg.row) []), .c (.sl B []), .c (.sl (l.map fun s => s.row []) [])]], none⟩), (3, ⟨96, 3, [[.c (cS (bs r.p)), .c (.sl (r.head.map Arg.row) r.hsp), .c (.sl (r.body.map Lit.row) r.bsp)]], none⟩)] [] F0)
            (fun k => 0 - k) (fun k => k ≤ 0) 0 (by simp) (Nat.zero_le _) ?_
          rintro k K2 hK2 hki
          have hk0 : ¬ (k : Int) < 0 := by omega
          have hget0 : l[0]? = some l[0] := List.getElem?_eq_getElem hlt
          simp [ic18l0, hk0, hlt, hsr 0 hlt]
          refine ⟨by unfold maxLen; omega, by unfold maxBytes; omega, ?_⟩
          simp (disch := omega) only [wrap64]
          refine hK (1, .own 140 [[cI .i64 l[0].lit]], [(140, ⟨3, 1, 1⟩)]) _ (by simp) ⟨by omega, ?_⟩ (by omega)
          rw [show List.take 1 l = [l[0]] by rw [List.take_succ_eq_append_getElem hlt]; rfl]
          exact .own rfl
        · obtain ⟨E, hE⟩ : ∃ E, (l.take i).map (fun s => [cI .i64 s.lit]) = E := ⟨_, rfl⟩
          have hEl : E.length = i := by rw [← hE, List.length_map, List.length_take]; omega
          have hEk : ∀ k (h : k < i), E[k]'(by omega) = [cI .i64 (l[k]'(by omega)).lit] := fun k h => by simp [← hE]
          have hEn : (l.take (i + 1)).map (fun s => [cI .i64 s.lit]) = E ++ [[cI .i64 l[i].lit]] := by rw [List.take_succ_eq_append_getElem hlt, List.map_append, hE]; rfl
          rw [hE]
          simp [ic18l1, hlt]
          refine w_loopA [] [] [2, 7, 12, 13, 14] (by simp)
            (fun k : Nat => st [(2, tI .i64 first), (7, .k true (.x (.one (.ref 7 0 0)))), (12, .k true (.x (.one (.own 140 E)))), (13, tI .i64 i), (14, tI .i64 k)]
              [(9, ⟨115, 4, [[.c a0, .c b0, .c c0, .c d0]], none⟩), (7, ⟨115, 4, [[.c (cS (bs r.p)), .c (.sl (r.head.map Arg.row) []), .c (.sl B []), .c (.sl (l.map fun s => s.row []) [])]], none⟩), (3, ⟨96, 3, [[.c (cS (bs r.p)), .c (.sl (r.head.map Arg.row) r.hsp), .c (.sl (r.body.map Lit.row) r.bsp)]], none⟩)] [(140, ⟨3, 1, E.length⟩)] F0)
            (fun k => i - k) (fun k => k ≤ i) 0 (by simp) (Nat.zero_le _) ?_
          rintro k K2 hK2 hki
          obtain hkl | hkg := Nat.lt_or_ge k i
          · have hne : ¬ l[k].lit = l[i].lit := fun e => by
              have h1 : k < (l.map Stp.lit).length := by rw [List.length_map]; omega
              have h2 : i < (l.map Stp.lit).length := by rw [List.length_map]; omega
              have h3 := (List.getElem_inj (h₀ := h1) (h₁ := h2) hnd).1 (by simpa using e)
              omega
            have hEk' := hEk k hkl
            simp [ic18l0, hlt, hsr, hkl, hne, hEl, hEk']
            simp (disch := omega) only [wrap64]
            exact hK2 (k + 1) _ (by simp [hEl]) (by omega) (by omega)
          · have hkg' : ¬ k < i := by omega
            simp [ic18l0, hlt, hsr, hEl, hkg']
            refine ⟨by unfold maxLen; omega, by unfold maxBytes; omega, ?_⟩
            simp (disch := omega) only [wrap64]
            refine hK (i + 1, .own 140 (E ++ [[cI .i64 l[i].lit]]), [(140, ⟨3, 1, i + 1⟩)]) _ (by simp) ⟨by omega, ?_⟩ (by show _ - _ < _; omega)
            rw [hEn]
            exact .own (by simp [hEl])
      · have hi2 : i = l.length := by omega
        subst hi2
        rw [List.take_length] at hacc
        rcases hacc with ⟨h0, rfl, rfl⟩ | ⟨rfl, rfl⟩
        · obtain rfl : l = [] := by simpa using h0
          by_cases h1 : first < 0
          · simp [ic18l1, h1, pickT_true]
            refine call_of h79 ?_
            simp
          · obtain ⟨s, l', e, _⟩ := hfst (by omega)
            cases e
        · by_cases h1 : first < 0
          · simp [ic18l1, h1, pickT_true]
            refine call_of h79 ?_
            simp
          · obtain ⟨s, l', e, hs⟩ := hfst (by omega)
            subst e
            subst hs
            simp [ic18l1, h1]
            refine call_of h79 ?_
            simp
  · refine call_of (h82 _ (.inl ⟨hm, rfl⟩)) ?_
    simp
    refine call_of h82n ?_
    simp
    refine call_of h85 ?_
    simp [hm]
    rcases may_cases r ks with ⟨e, hrk⟩ | ⟨hrk, ⟨e, hkn⟩ | ⟨e, hkn⟩ | ⟨e, hkn⟩⟩
    · have he : ruleErr r = 40 := by unfold ruleErr; rw [hrk]; rfl
      rw [e, he]
      simp
      refine call_of h85 ?_
      simp [he]
      refine call_of h79 ?_
      simp
    · rw [e]
      rw [hkn] at h86
      simp
      refine call_of h86 ?_
      simp
      rcases hfour with h1 | ⟨h1, h2⟩ | rfl | ⟨j, rfl, hjl⟩
      · simp [h1, pickT_true]
        refine call_of h79 ?_
        simp
      · simp [h1, h2, pickT_true]
        refine call_of h79 ?_
        simp
      · have h2 : ¬ (r.body.length : Int) ≤ -1 := by omega
        simp [h2, pickT_false]
        refine call_of h79 ?_
        simp
      · have hr16 := lit16 r.body[j]
        have h1 : ¬ ((j : Int) < -1) := by omega
        by_cases hk1 : r.body[j].kind = 1
        · simp [hjl, hr16, hk1, h1, Nat.not_le.2 hjl]
          refine call_of h79 ?_
          simp
        · simp [hjl, hr16, hk1, h1, Nat.not_le.2 hjl]
          refine call_of h79 ?_
          simp
    · have he : ruleErr r = 73 := by rw [← may_nil]; exact may_more e (by simp) rfl
      rw [e, he]
      rw [hkn] at h86
      simp
      refine call_of h86 ?_
      simp
      rcases hfour with h1 | ⟨h1, h2⟩ | rfl | ⟨j, rfl, hjl⟩
      · simp [h1, pickT_true]
        refine call_of h79 ?_
        simp
      · simp [h1, h2, pickT_true]
        refine call_of h79 ?_
        simp
      · have h2 : ¬ (r.body.length : Int) ≤ -1 := by omega
        simp [h2, pickT_false]
        refine call_of h79 ?_
        simp
      · have hr16 := lit16 r.body[j]
        have h1 : ¬ ((j : Int) < -1) := by omega
        by_cases hk1 : r.body[j].kind = 1
        · simp [hjl, hr16, hk1, h1, Nat.not_le.2 hjl]
          refine call_of h79 ?_
          simp
        · simp [hjl, hr16, hk1, h1, Nat.not_le.2 hjl]
          refine call_of h79 ?_
          simp
    · exact absurd e hm
end Go.Proofs.YtiomojlcnemnhaaDoor

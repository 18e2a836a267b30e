import Derived.Test.YtiomojlcnemnhaaDoorEDxLu
import Derived.Test.YtiomojlcnemnhaaDoorEDxLy
import Derived.Test.YtiomojlcnemnhaaDoorEDxLx
namespace Go.Proofs.YtiomojlcnemnhaaDoor
open Go.Fx Go.RowKit Go.Ped
set_option maxRecDepth 100000 in
theorem v154p (body : List Lit) (sb : Sp) (ns : List Name) (m : Nat) (hm : m < 2 ^ 24) (hin : ∀ i ∈ bitsOf m, i < body.length) (hfit : BodyFit body) :
    MeetsV Tryd.prog GB (fnA 154) [.one (.ref 5009 0 0), .one (.c (cI .u32 m))] (hp (OS 5009 5007 (.sl (body.map Lit.row) sb) ns) [] F0) (.x (.one (.c (cI .i64 (nextL body ns m))))) (hp (OS 5009 5007 (.sl (body.map Lit.row) sb) ns) [] F0) := by
  have h := (MeetsV.of_fun (m154 body sb ns m hm hin hfit)).ren (π := swR 10009 5009)
  simp [swF, kn_ren] at h
  have h2 := h.ren (π := swR 10007 5007)
  simp [swF, kn_ren] at h2
  simpa using h2
theorem pickT_false (g gb y : Bool) (a : T) : pickT g false a (.k gb (rB y)) = .k (g && gb) (rB y) := by
  unfold pickT
  split
  · rename_i h2
    injection h2 with e1 e2
    subst e1
    cases e2
    rfl
  · rfl
theorem pickT_true (g ga x : Bool) (b : T) : pickT g true (.k ga (rB x)) b = .k (g && ga) (rB x) := by
  unfold pickT
  split
  · rename_i h1
    injection h1 with e1 e2
    subst e1
    cases e2
    rfl
  · rfl
theorem bitsOf_clr {m j i : Nat} (hj : j < 24) (h : i ∈ bitsOf (clr m j)) : i ∈ bitsOf m := by
  obtain ⟨h1, h2⟩ := bitsOf_mem h
  rw [clr_bit hj (by omega)] at h2
  simp only [Bool.and_eq_true] at h2
  exact List.mem_filter.2 ⟨List.mem_range.2 h1, h2.1⟩
abbrev madeRow (r : Rule) (steps : List Stp) : List C := planRow r.bareR (steps.map fun s => (s, [])) []
abbrev zeroPlan : List C := [cS (bs []), .sl [] [], .sl [] [], .sl [] []]
def badFirst (r : Rule) (first : Int) : Prop := first < -1 ∨ (r.body.length : Int) ≤ first ∨ 0 ≤ first ∧ ∀ x, r.body[first.toNat]? = some x → x.kind ≠ 1
def MakeIs (r : Rule) (ks : List Name) (first : Int) (res : CR) : Prop :=
  (mayOf r ks ≠ 0 ∧ res = .tup [.agg zeroPlan, .one (cI .i64 (mayOf r ks))]) ∨
  (mayOf r ks = 0 ∧ badFirst r first ∧ res = .tup [.agg zeroPlan, .one (cI .i64 120)]) ∨
  (mayOf r ks = 0 ∧ ¬ badFirst r first ∧ ∃ steps, makeOn r.body first r.body.length (2 ^ r.body.length - 1) (learnOn [] ks) = some steps ∧ res = .tup [.agg (madeRow r steps), .one (cI .i64 0)])
set_option maxRecDepth 100000 in
set_option maxHeartbeats 16000000 in
theorem m82 (r : Rule) (ks : List Name) (sp : Sp) (first : Int) (hr : r.small 1048576) (hle : r.terms.length ≤ 1048576) (hk : ks.length + r.body.length ≤ 1048576) (hsp : ∀ e ∈ sp, e.length = 1) (res : CR) (hres : MakeIs r ks first res) :
    Meets Tryd.prog GB 82 [.agg r.row, .one (.sl (ks.map nmRow) sp), .one (cI .i64 first)] res := by
  have h146 := m146 (G := GB) r ks sp hr hle hk hsp
  have hrow : r.row = [cS (bs r.p), .sl (r.head.map Arg.row) r.hsp, .sl (r.body.map Lit.row) r.bsp] := rfl
  have h153 := m153 (G := GB) r hr
  rw [hrow] at h146 h153 ⊢
  unfold MakeIs at hres
  by_cases hm : mayOf r ks = 0
  · rw [hm] at h146 hres
    have hok := mayOf_ok hm
    obtain ⟨hb16, hlit⟩ := rule_body24 hok
    rcases hres with ⟨h, _⟩ | ⟨_, hbad, rfl⟩ | ⟨_, hgood, steps, hsteps, rfl⟩
    · exact absurd rfl h
    · refine meets Tryd.func82 ie82 ig82 (Nat.le_of_ble_eq_true rfl) ?_
      simp [ic82, ir82]
      refine call_of h146 ?_
      simp
      by_cases h1 : first < -1
      · simp [h1, pickT_true]
      · by_cases h2 : (r.body.length : Int) ≤ first
        · simp [h1, h2, pickT_true]
        · rcases hbad with h | h | ⟨h3, h4⟩
          · exact absurd h h1
          · exact absurd h h2
          · obtain ⟨j, rfl⟩ : ∃ j : Nat, first = j := ⟨first.toNat, by omega⟩
            have hjl : j < r.body.length := by omega
            have hkj : ¬ r.body[j].kind = 1 := h4 _ (by simp [hjl])
            have hr16 := lit16 r.body[j]
            simp [hjl, hr16, hkj, h3]
    · unfold badFirst at hgood
      have h1 : ¬ first < -1 := fun h => hgood (.inl h)
      have h2 : ¬ (r.body.length : Int) ≤ first := fun h => hgood (.inr (.inl h))
      have hlen : r.bareR.body.length = r.body.length := List.length_map ..
      have h147 := v147p (G := GB) (r.bareR.body.map Lit.row) [] ks sp (by unfold maxLen; omega)
      have h148 := m148 (G := GB) r.body.length (by omega)
      have hfit := bareR_fit hr hle hok
      have hbrow : r.bareR.row = [cS (bs r.p), .sl (r.head.map Arg.row) [], .sl (r.bareR.body.map Lit.row) []] := rfl
      rw [hbrow] at h153
      have hmade : madeRow r steps = [cS (bs r.p), .sl (r.head.map Arg.row) [], .sl (r.bareR.body.map Lit.row) [], .sl (steps.map fun s => s.row []) []] := by
        show [_, _, _, C.sl ((steps.map fun s => (s, [])).map srow) []] = _
        rw [List.map_map]
        rfl
      rw [hmade]
      have hbt : bitsTo r.body.length = ((2 ^ r.body.length - 1 : Nat) : Int) := by
        have := Nat.one_le_two_pow (n := r.body.length)
        unfold bitsTo
        rw [Int.natCast_sub this]
        simp
      have hm0 : 2 ^ r.body.length - 1 < 2 ^ 24 := by
        have := Nat.pow_le_pow_right (show 0 < 2 by omega) (show r.body.length ≤ 16 from hb16)
        have h2 : (2 : Nat) ^ 16 < 2 ^ 24 := by decide
        omega
      have hsl := makeOn_len _ _ _ _ hsteps
      have hin0 : ∀ i ∈ bitsOf (2 ^ r.body.length - 1), i < r.body.length := fun i hi => by
        have h := (bitsOf_mem hi).2
        rw [Nat.testBit_two_pow_sub_one] at h
        simpa using h
      refine meets Tryd.func82 ie82 ig82 (Nat.le_of_ble_eq_true rfl) ?_
      by_cases hf : first < 0
      · obtain rfl : first = -1 := by omega
        clear h1 hf
        simp [ic82, ir82]
        refine call_of h146 ?_
        simp [h2, pickT_false]
        refine call_of h153 ?_
        simp
        refine r_callW _ _ [] [] _ (OS 5009 5007 (.sl (r.bareR.body.map Lit.row) []) (learnOn [] ks)) [] h147 rfl rfl rfl (by simp [X.fits, A.fits]) (by simp) ?_
        simp
        refine call_of h148 ?_
        simp
        rw [hbt]
        refine w_loopA [] [13, 81] [2, 6, 9, 10, 11] (by simp [ownKey])
          (fun a : Nat × List Name × List Stp × A × List (Nat × Fx.Tok) => st [(2, tI .i64 (-1)), (6, .k true (.x (.one (.ref 6 0 0)))), (9, .k true (.x (.one (.ref 9 0 0)))), (10, .k true (.x (.one (.ref 5009 0 0)))), (11, .k true (rI .u32 a.1))]
            [(9, ⟨115, 4, [[.c (cS (bs r.p)), .c (.sl (r.head.map Arg.row) []), .c (.sl (r.bareR.body.map Lit.row) []), a.2.2.2.1]], none⟩), (6, ⟨115, 4, [[.c (cS (bs [])), .nil, .nil, .nil]], none⟩), (3, ⟨96, 3, [[.c (cS (bs r.p)), .c (.sl (r.head.map Arg.row) r.hsp), .c (.sl (r.body.map Lit.row) r.bsp)]], none⟩),
              (5007, ⟨0, 1, a.2.1.map knRow, some (.string, false)⟩), (5009, ⟨239, 2, [[.c (.sl (r.bareR.body.map Lit.row) []), .mapr 5007]], none⟩)] a.2.2.2.2 F0) (fun a => r.body.length - a.2.2.1.length)
          (fun a => a.1 < 2 ^ 24 ∧ (∀ i ∈ bitsOf a.1, i < r.body.length) ∧ a.2.2.1.length ≤ r.body.length ∧ (∃ l, makeOn r.body (-1) (r.body.length - a.2.2.1.length) a.1 a.2.1 = some l ∧ steps = a.2.2.1 ++ l) ∧ AccN 82 121 4 (a.2.2.1.map fun s => s.row []) a.2.2.2.1 a.2.2.2.2) (2 ^ r.body.length - 1, learnOn [] ks, [], .nil, []) (by simp [kn_strike']) ⟨hm0, hin0, Nat.zero_le _, ⟨steps, hsteps, rfl⟩, .nil⟩ ?_
        rintro ⟨m, ns, done, t, U⟩ K hK ⟨hm24, hin, hdl, ⟨l, hl, hst⟩, hacc⟩
        simp only at hm24 hin hdl hl hst hacc
        have hUk : ∀ k, k ≠ 82 → strikeU [k] U = U := fun k h => hacc.strikeU h
        by_cases hmz : m = 0
        · subst hmz
          have hl0 : l = [] := by
            cases hq : r.body.length - done.length with
            | zero => rw [hq, makeOn, if_pos rfl] at hl; exact (Option.some.inj hl).symm
            | succ n => rw [hq, makeOn, if_pos rfl] at hl; exact (Option.some.inj hl).symm
          subst hl0
          rw [List.append_nil] at hst
          subst hst
          rcases hacc with ⟨h0, rfl, rfl⟩ | ⟨rfl, rfl⟩
          · rw [h0]
            simp [ic82l0]
          · simp [ic82l0]
        · obtain ⟨n, hn⟩ : ∃ n, r.body.length - done.length = n + 1 := by
            cases hq : r.body.length - done.length with
            | zero => rw [hq, makeOn, if_neg hmz] at hl; cases hl
            | succ n => exact ⟨n, rfl⟩
          rw [hn, makeOn, if_neg hmz] at hl
          split at hl
          · cases hl
          rename_i hnn
          split at hl
          · cases hl
          rename_i x hx
          obtain ⟨l', hl', rfl⟩ := Option.map_eq_some_iff.1 hl
          have hmne : ((m : Int) == 0) = false := beq_eq_false_iff_ne.2 (by omega)
          have hU : ∀ (a : Nat) (b : Fx.Tok), (a, b) ∈ U → a < 15000 := fun a b h => by
            rcases hacc with ⟨_, _, rfl⟩ | ⟨_, rfl⟩
            · cases h
            · simp only [List.mem_singleton, Prod.mk.injEq] at h
              omega
          have hpk : pickL r.body (-1) m ns = nextL r.body ns m := if_pos (.inl (by omega))
          have h154 := v154p r.bareR.body [] ns m hm24 (by rw [hlen]; exact hin) hfit
          rw [show nextL r.bareR.body ns m = nextL r.body ns m from nextL_bare _ _ _] at h154
          rw [hpk] at hnn hx hl' hst
          obtain ⟨j, hj⟩ : ∃ j : Nat, nextL r.body ns m = j := ⟨(nextL r.body ns m).toNat, by omega⟩
          rw [hj] at h154 hx hl' hst
          rw [Int.toNat_natCast] at hx hl' hst
          obtain ⟨hjl, rfl⟩ := List.getElem?_eq_some_iff.1 hx
          have hxm : r.body[j] ∈ r.body := List.getElem_mem hjl
          have hjl' : j < r.bareR.body.length := by rw [hlen]; exact hjl
          have hbj : r.bareR.body[j] = r.body[j].bareL := by simp [Rule.bareR]
          have hle2 : r.body[j].terms.length ≤ 1048576 := Nat.le_trans (lit_terms_le hxm) hle
          have h149 := v149p (G := GB) r.bareR.body [] ns j hjl' (by rw [hbj]; exact bareL_small (hr.2.2 _ hxm)) (by rw [hbj, bareL_terms]; exact hle2) (fun _ => by rw [hbj]; show r.body[j].l.length ≤ 24; exact lit_args (hlit _ hxm))
          rw [hbj, stepOf_bare] at h149
          have hgl := step_gives ns r.body[j] j
          generalize stepOf ns r.body[j] j = S at *
          obtain ⟨y, ok⟩ := S
          have h151 := v151p (G := GB) (.sl (r.bareR.body.map Lit.row) []) ns y.gives [] (by simp only at hgl; unfold maxLen; omega)
          have hclr := andNot_bit j m (by omega) hm24
          have hclt : clr m j < 2 ^ 24 := clr_lt hm24
          have hjn : ¬ ((j : Int) < 0) := by omega
          simp only at hl' hst
          unfold stepX Stp.row at h149
          simp only at h149
          simp [ic82l0, hmne]
          refine r_callW _ _ (OS 5009 5007 (.sl (r.bareR.body.map Lit.row) []) ns) [] _ (OS 5009 5007 (.sl (r.bareR.body.map Lit.row) []) ns) [] h154 rfl rfl rfl (by simp [X.fits, A.fits]) (by simp; exact hU) ?_
          simp [kn_strike']
          refine r_callW _ _ (OS 5009 5007 (.sl (r.bareR.body.map Lit.row) []) ns) [] _ (OS 5009 5007 (.sl (r.bareR.body.map Lit.row) []) ns) [] h149 rfl rfl rfl (by simp [X.fits, A.fits]) (by simp [hUk 13 (by decide)]; exact hU) ?_
          rcases hacc with ⟨h0, rfl, rfl⟩ | ⟨rfl, rfl⟩
          · obtain rfl : done = [] := by simpa using h0
            simp [kn_strike']
            refine ⟨by unfold maxLen; omega, by unfold maxBytes; omega, ?_⟩
            refine r_callW _ _ (OS 5009 5007 (.sl (r.bareR.body.map Lit.row) []) ns) [] _ (OS 5009 5007 (.sl (r.bareR.body.map Lit.row) []) (learnOn ns y.gives)) [] h151 rfl rfl rfl (by simp [X.fits, A.fits]) (by simp) ?_
            simp [hclr]
            refine hK (clr m j, learnOn ns y.gives, ([] : List Stp) ++ [y], .own 82 ((([] : List Stp) ++ [y]).map fun s => s.row []), [(82, ⟨121, 4, 0 + 1⟩)]) _ (by simp [Stp.row, kn_strike']) ⟨hclt, fun i hi => ?_, ?_, ⟨l', ?_, ?_⟩, .own ?_⟩ ?_
            · exact hin i (bitsOf_clr (by omega) hi)
            · simp only [List.length_append, List.length_singleton, List.length_nil]; omega
            · have hq : r.body.length - (([] : List Stp) ++ [y]).length = n := by
                simp only [List.length_append, List.length_singleton, List.length_nil]
                try simp only [List.length_nil] at hn
                omega
              rw [hq]; exact hl'
            · rw [hst, List.append_assoc]; rfl
            · simp
            · simp only [List.length_append, List.length_singleton, List.length_nil]; try simp only [List.length_nil] at hn
              omega
          · simp [kn_strike']
            refine ⟨by unfold maxLen; omega, by unfold maxBytes; omega, ?_⟩
            refine r_callW _ _ (OS 5009 5007 (.sl (r.bareR.body.map Lit.row) []) ns) [] _ (OS 5009 5007 (.sl (r.bareR.body.map Lit.row) []) (learnOn ns y.gives)) [] h151 rfl rfl rfl (by simp [X.fits, A.fits]) (by simp) ?_
            simp [hclr]
            refine hK (clr m j, learnOn ns y.gives, done ++ [y], .own 82 ((done ++ [y]).map fun s => s.row []), [(82, ⟨121, 4, done.length + 1⟩)]) _ (by simp [Stp.row, kn_strike']) ⟨hclt, fun i hi => ?_, ?_, ⟨l', ?_, ?_⟩, .own ?_⟩ ?_
            · exact hin i (bitsOf_clr (by omega) hi)
            · simp only [List.length_append, List.length_singleton]; omega
            · have hq : r.body.length - (done ++ [y]).length = n := by
                simp only [List.length_append, List.length_singleton]
                omega
              rw [hq]; exact hl'
            · rw [hst, List.append_assoc]; rfl
            · simp
            · simp only [List.length_append, List.length_singleton]
              omega
      · obtain ⟨j0, rfl⟩ : ∃ j0 : Nat, first = j0 := ⟨first.toNat, by omega⟩
        have hjl0 : j0 < r.body.length := by omega
        have hk1 : r.body[j0].kind = 1 := by
          by_cases hk : r.body[j0].kind = 1
          · exact hk
          · exact absurd (.inr (.inr ⟨by omega, fun x hx => by rw [Int.toNat_natCast, List.getElem?_eq_getElem hjl0] at hx; cases hx; exact hk⟩)) hgood
        have hr16 := lit16 r.body[j0]
        simp [ic82, ir82]
        refine call_of h146 ?_
        simp [hjl0, hr16, hk1, h1, Nat.not_le.2 hjl0]
        refine call_of h153 ?_
        simp
        refine r_callW _ _ [] [] _ (OS 5009 5007 (.sl (r.bareR.body.map Lit.row) []) (learnOn [] ks)) [] h147 rfl rfl rfl (by simp [X.fits, A.fits]) (by simp) ?_
        simp
        refine call_of h148 ?_
        simp
        rw [hbt]
        refine w_loopA [] [13, 81] [2, 6, 9, 10, 11] (by simp [ownKey])
          (fun a : Nat × List Name × List Stp × A × List (Nat × Fx.Tok) => st [(2, tI .i64 j0), (6, .k true (.x (.one (.ref 6 0 0)))), (9, .k true (.x (.one (.ref 9 0 0)))), (10, .k true (.x (.one (.ref 5009 0 0)))), (11, .k true (rI .u32 a.1))]
            [(9, ⟨115, 4, [[.c (cS (bs r.p)), .c (.sl (r.head.map Arg.row) []), .c (.sl (r.bareR.body.map Lit.row) []), a.2.2.2.1]], none⟩), (6, ⟨115, 4, [[.c (cS (bs [])), .nil, .nil, .nil]], none⟩), (3, ⟨96, 3, [[.c (cS (bs r.p)), .c (.sl (r.head.map Arg.row) r.hsp), .c (.sl (r.body.map Lit.row) r.bsp)]], none⟩),
              (5007, ⟨0, 1, a.2.1.map knRow, some (.string, false)⟩), (5009, ⟨239, 2, [[.c (.sl (r.bareR.body.map Lit.row) []), .mapr 5007]], none⟩)] a.2.2.2.2 F0) (fun a => r.body.length - a.2.2.1.length)
          (fun a => a.1 < 2 ^ 24 ∧ (∀ i ∈ bitsOf a.1, i < r.body.length) ∧ a.2.2.1.length ≤ r.body.length ∧ (∃ l, makeOn r.body j0 (r.body.length - a.2.2.1.length) a.1 a.2.1 = some l ∧ steps = a.2.2.1 ++ l) ∧ AccN 82 121 4 (a.2.2.1.map fun s => s.row []) a.2.2.2.1 a.2.2.2.2) (2 ^ r.body.length - 1, learnOn [] ks, [], .nil, []) (by simp [kn_strike']) ⟨hm0, hin0, Nat.zero_le _, ⟨steps, hsteps, rfl⟩, .nil⟩ ?_
        rintro ⟨m, ns, done, t, U⟩ K hK ⟨hm24, hin, hdl, ⟨l, hl, hst⟩, hacc⟩
        simp only at hm24 hin hdl hl hst hacc
        have hUk : ∀ k, k ≠ 82 → strikeU [k] U = U := fun k h => hacc.strikeU h
        by_cases hmz : m = 0
        · subst hmz
          have hl0 : l = [] := by
            cases hq : r.body.length - done.length with
            | zero => rw [hq, makeOn, if_pos rfl] at hl; exact (Option.some.inj hl).symm
            | succ n => rw [hq, makeOn, if_pos rfl] at hl; exact (Option.some.inj hl).symm
          subst hl0
          rw [List.append_nil] at hst
          subst hst
          rcases hacc with ⟨h0, rfl, rfl⟩ | ⟨rfl, rfl⟩
          · rw [h0]
            simp [ic82l0]
          · simp [ic82l0]
        · obtain ⟨n, hn⟩ : ∃ n, r.body.length - done.length = n + 1 := by
            cases hq : r.body.length - done.length with
            | zero => rw [hq, makeOn, if_neg hmz] at hl; cases hl
            | succ n => exact ⟨n, rfl⟩
          rw [hn, makeOn, if_neg hmz] at hl
          split at hl
          · cases hl
          rename_i hnn
          split at hl
          · cases hl
          rename_i x hx
          obtain ⟨l', hl', rfl⟩ := Option.map_eq_some_iff.1 hl
          have hmne : ((m : Int) == 0) = false := beq_eq_false_iff_ne.2 (by omega)
          have hU : ∀ (a : Nat) (b : Fx.Tok), (a, b) ∈ U → a < 15000 := fun a b h => by
            rcases hacc with ⟨_, _, rfl⟩ | ⟨_, rfl⟩
            · cases h
            · simp only [List.mem_singleton, Prod.mk.injEq] at h
              omega
          have hand := and_bit j0 m (by omega) hm24
          by_cases hb : m.testBit j0 = false
          · rw [if_neg (by rw [hb]; exact Bool.noConfusion)] at hand
            have hpk : pickL r.body j0 m ns = nextL r.body ns m := if_pos (.inr (by rw [Int.toNat_natCast]; exact hb))
            have h154 := v154p r.bareR.body [] ns m hm24 (by rw [hlen]; exact hin) hfit
            rw [show nextL r.bareR.body ns m = nextL r.body ns m from nextL_bare _ _ _] at h154
            rw [hpk] at hnn hx hl' hst
            obtain ⟨j, hj⟩ : ∃ j : Nat, nextL r.body ns m = j := ⟨(nextL r.body ns m).toNat, by omega⟩
            rw [hj] at h154 hx hl' hst
            rw [Int.toNat_natCast] at hx hl' hst
            obtain ⟨hjl, rfl⟩ := List.getElem?_eq_some_iff.1 hx
            have hxm : r.body[j] ∈ r.body := List.getElem_mem hjl
            have hjl' : j < r.bareR.body.length := by rw [hlen]; exact hjl
            have hbj : r.bareR.body[j] = r.body[j].bareL := by simp [Rule.bareR]
            have hle2 : r.body[j].terms.length ≤ 1048576 := Nat.le_trans (lit_terms_le hxm) hle
            have h149 := v149p (G := GB) r.bareR.body [] ns j hjl' (by rw [hbj]; exact bareL_small (hr.2.2 _ hxm)) (by rw [hbj, bareL_terms]; exact hle2) (fun _ => by rw [hbj]; show r.body[j].l.length ≤ 24; exact lit_args (hlit _ hxm))
            rw [hbj, stepOf_bare] at h149
            have hgl := step_gives ns r.body[j] j
            generalize stepOf ns r.body[j] j = S at *
            obtain ⟨y, ok⟩ := S
            have h151 := v151p (G := GB) (.sl (r.bareR.body.map Lit.row) []) ns y.gives [] (by simp only at hgl; unfold maxLen; omega)
            have hclr := andNot_bit j m (by omega) hm24
            have hclt : clr m j < 2 ^ 24 := clr_lt hm24
            have hjn : ¬ ((j : Int) < 0) := by omega
            simp only at hl' hst
            unfold stepX Stp.row at h149
            simp only at h149
            simp [ic82l0, hmne, hand]
            refine r_callW _ _ (OS 5009 5007 (.sl (r.bareR.body.map Lit.row) []) ns) [] _ (OS 5009 5007 (.sl (r.bareR.body.map Lit.row) []) ns) [] h154 rfl rfl rfl (by simp [X.fits, A.fits]) (by simp; exact hU) ?_
            simp [kn_strike']
            refine r_callW _ _ (OS 5009 5007 (.sl (r.bareR.body.map Lit.row) []) ns) [] _ (OS 5009 5007 (.sl (r.bareR.body.map Lit.row) []) ns) [] h149 rfl rfl rfl (by simp [X.fits, A.fits]) (by simp [hUk 13 (by decide)]; exact hU) ?_
            rcases hacc with ⟨h0, rfl, rfl⟩ | ⟨rfl, rfl⟩
            · obtain rfl : done = [] := by simpa using h0
              simp [kn_strike']
              refine ⟨by unfold maxLen; omega, by unfold maxBytes; omega, ?_⟩
              refine r_callW _ _ (OS 5009 5007 (.sl (r.bareR.body.map Lit.row) []) ns) [] _ (OS 5009 5007 (.sl (r.bareR.body.map Lit.row) []) (learnOn ns y.gives)) [] h151 rfl rfl rfl (by simp [X.fits, A.fits]) (by simp) ?_
              simp [hclr]
              refine hK (clr m j, learnOn ns y.gives, ([] : List Stp) ++ [y], .own 82 ((([] : List Stp) ++ [y]).map fun s => s.row []), [(82, ⟨121, 4, 0 + 1⟩)]) _ (by simp [Stp.row, kn_strike']) ⟨hclt, fun i hi => ?_, ?_, ⟨l', ?_, ?_⟩, .own ?_⟩ ?_
              · exact hin i (bitsOf_clr (by omega) hi)
              · simp only [List.length_append, List.length_singleton, List.length_nil]; omega
              · have hq : r.body.length - (([] : List Stp) ++ [y]).length = n := by
                  simp only [List.length_append, List.length_singleton, List.length_nil]
                  try simp only [List.length_nil] at hn
                  omega
                rw [hq]; exact hl'
              · rw [hst, List.append_assoc]; rfl
              · simp
              · simp only [List.length_append, List.length_singleton, List.length_nil]; try simp only [List.length_nil] at hn
                omega
            · simp [kn_strike']
              refine ⟨by unfold maxLen; omega, by unfold maxBytes; omega, ?_⟩
              refine r_callW _ _ (OS 5009 5007 (.sl (r.bareR.body.map Lit.row) []) ns) [] _ (OS 5009 5007 (.sl (r.bareR.body.map Lit.row) []) (learnOn ns y.gives)) [] h151 rfl rfl rfl (by simp [X.fits, A.fits]) (by simp) ?_
              simp [hclr]
              refine hK (clr m j, learnOn ns y.gives, done ++ [y], .own 82 ((done ++ [y]).map fun s => s.row []), [(82, ⟨121, 4, done.length + 1⟩)]) _ (by simp [Stp.row, kn_strike']) ⟨hclt, fun i hi => ?_, ?_, ⟨l', ?_, ?_⟩, .own ?_⟩ ?_
              · exact hin i (bitsOf_clr (by omega) hi)
              · simp only [List.length_append, List.length_singleton]; omega
              · have hq : r.body.length - (done ++ [y]).length = n := by
                  simp only [List.length_append, List.length_singleton]
                  omega
                rw [hq]; exact hl'
              · rw [hst, List.append_assoc]; rfl
              · simp
              · simp only [List.length_append, List.length_singleton]
                omega
          · rw [if_pos (by simpa using hb)] at hand
            have hpk : pickL r.body j0 m ns = j0 := if_neg (by
              rintro (h | h)
              · omega
              · rw [Int.toNat_natCast] at h; exact hb h)
            have hpw : ((2 : Int) ^ j0 == 0) = false := beq_eq_false_iff_ne.2 fun e => by
              have h1 := Nat.one_le_two_pow (n := j0)
              have h2 : ((2 ^ j0 : Nat) : Int) = 0 := by rw [Int.natCast_pow]; exact e
              omega
            rw [hpk] at hnn hx hl' hst
            rw [Int.toNat_natCast] at hx hl' hst
            obtain ⟨hjl, rfl⟩ := List.getElem?_eq_some_iff.1 hx
            have hxm : r.body[j0] ∈ r.body := List.getElem_mem hjl
            have hjl' : j0 < r.bareR.body.length := by rw [hlen]; exact hjl
            have hbj : r.bareR.body[j0] = r.body[j0].bareL := by simp [Rule.bareR]
            have hle2 : r.body[j0].terms.length ≤ 1048576 := Nat.le_trans (lit_terms_le hxm) hle
            have h149 := v149p (G := GB) r.bareR.body [] ns j0 hjl' (by rw [hbj]; exact bareL_small (hr.2.2 _ hxm)) (by rw [hbj, bareL_terms]; exact hle2) (fun _ => by rw [hbj]; show r.body[j0].l.length ≤ 24; exact lit_args (hlit _ hxm))
            rw [hbj, stepOf_bare] at h149
            have hgl := step_gives ns r.body[j0] j0
            generalize stepOf ns r.body[j0] j0 = S at *
            obtain ⟨y, ok⟩ := S
            have h151 := v151p (G := GB) (.sl (r.bareR.body.map Lit.row) []) ns y.gives [] (by simp only at hgl; unfold maxLen; omega)
            have hclr := andNot_bit j0 m (by omega) hm24
            have hclt : clr m j0 < 2 ^ 24 := clr_lt hm24
            have hjn : ¬ ((j0 : Int) < 0) := by omega
            simp only at hl' hst
            unfold stepX Stp.row at h149
            simp only at h149
            simp [ic82l0, hmne, hand, hpw, hjn]
            refine r_callW _ _ (OS 5009 5007 (.sl (r.bareR.body.map Lit.row) []) ns) [] _ (OS 5009 5007 (.sl (r.bareR.body.map Lit.row) []) ns) [] h149 rfl rfl rfl (by simp [X.fits, A.fits]) (by simp [hUk 13 (by decide)]; exact hU) ?_
            rcases hacc with ⟨h0, rfl, rfl⟩ | ⟨rfl, rfl⟩
            · obtain rfl : done = [] := by simpa using h0
              simp [kn_strike']
              refine ⟨by unfold maxLen; omega, by unfold maxBytes; omega, ?_⟩
              refine r_callW _ _ (OS 5009 5007 (.sl (r.bareR.body.map Lit.row) []) ns) [] _ (OS 5009 5007 (.sl (r.bareR.body.map Lit.row) []) (learnOn ns y.gives)) [] h151 rfl rfl rfl (by simp [X.fits, A.fits]) (by simp) ?_
              simp [hclr]
              refine hK (clr m j0, learnOn ns y.gives, ([] : List Stp) ++ [y], .own 82 ((([] : List Stp) ++ [y]).map fun s => s.row []), [(82, ⟨121, 4, 0 + 1⟩)]) _ (by simp [Stp.row, kn_strike']) ⟨hclt, fun i hi => ?_, ?_, ⟨l', ?_, ?_⟩, .own ?_⟩ ?_
              · exact hin i (bitsOf_clr (by omega) hi)
              · simp only [List.length_append, List.length_singleton, List.length_nil]; omega
              · have hq : r.body.length - (([] : List Stp) ++ [y]).length = n := by
                  simp only [List.length_append, List.length_singleton, List.length_nil]
                  try simp only [List.length_nil] at hn
                  omega
                rw [hq]; exact hl'
              · rw [hst, List.append_assoc]; rfl
              · simp
              · simp only [List.length_append, List.length_singleton, List.length_nil]; try simp only [List.length_nil] at hn
                omega
            · simp [kn_strike']
              refine ⟨by unfold maxLen; omega, by unfold maxBytes; omega, ?_⟩
              refine r_callW _ _ (OS 5009 5007 (.sl (r.bareR.body.map Lit.row) []) ns) [] _ (OS 5009 5007 (.sl (r.bareR.body.map Lit.row) []) (learnOn ns y.gives)) [] h151 rfl rfl rfl (by simp [X.fits, A.fits]) (by simp) ?_
              simp [hclr]
              refine hK (clr m j0, learnOn ns y.gives, done ++ [y], .own 82 ((done ++ [y]).map fun s => s.row []), [(82, ⟨121, 4, done.length + 1⟩)]) _ (by simp [Stp.row, kn_strike']) ⟨hclt, fun i hi => ?_, ?_, ⟨l', ?_, ?_⟩, .own ?_⟩ ?_
              · exact hin i (bitsOf_clr (by omega) hi)
              · simp only [List.length_append, List.length_singleton]; omega
              · have hq : r.body.length - (done ++ [y]).length = n := by
                  simp only [List.length_append, List.length_singleton]
                  omega
                rw [hq]; exact hl'
              · rw [hst, List.append_assoc]; rfl
              · simp
              · simp only [List.length_append, List.length_singleton]
                omega
  · rcases hres with ⟨h, rfl⟩ | ⟨h, _⟩ | ⟨h, _⟩
    · refine meets Tryd.func82 ie82 ig82 (Nat.le_of_ble_eq_true rfl) ?_
      simp [ic82, ir82]
      refine call_of h146 ?_
      simp [hm]
    · exact absurd h hm
    · exact absurd h hm
end Go.Proofs.YtiomojlcnemnhaaDoor

namespace Go.Proofs.YtiomojlcnemnhaaDoor
open Go.Fx Go.RowKit Go.Ped
theorem lit_bare {x : Lit} (h : litOk x = true) (hk : ¬ x.kind = 1) (hk2 : ¬ x.kind = 2) : x.l = [] := by
  unfold litOk at h
  rw [if_neg (by rintro (e | e); exact hk e; exact hk2 e)] at h
  split at h
  · simp only [Bool.and_eq_true, List.isEmpty_iff] at h
    exact h.1.1.1.1.2
  · cases h
theorem mem_open {ns : List Name} {x : Lit} {v : Name} : v ∈ openOf ns x ↔ v ∈ tmVars x.terms ∧ v ∉ ns := by
  rw [unk_mem]; simp
theorem open_one {ns : List Name} {x : Lit} {u : Name} (h1 : u ∈ tmVars x.terms) (h2 : u ∉ ns) (h3 : ∀ v ∈ tmVars x.terms, v ∉ ns → v = u) : openOf ns x = [u] := by
  have hnd : (openOf ns x).Nodup := (tmVars_nodupL x.terms).sublist List.filter_sublist
  have hu : u ∈ openOf ns x := mem_open.2 ⟨h1, h2⟩
  have hall : ∀ v ∈ openOf ns x, v = u := fun v hv => h3 v (mem_open.1 hv).1 (mem_open.1 hv).2
  cases hO : openOf ns x with
  | nil => rw [hO] at hu; cases hu
  | cons a l =>
    rw [hO] at hnd hall
    obtain rfl := hall a (List.mem_cons_self ..)
    cases l with
    | nil => rfl
    | cons b l =>
      have hb := hall b (List.mem_cons_of_mem _ (List.mem_cons_self ..))
      rw [hb] at hnd
      simp at hnd
theorem step_open {ns : List Name} {x : Lit} {i : Nat} (h : openOf ns x = []) : (stepOf ns x i).2 = true := by
  unfold stepOf
  split
  · rfl
  · split
    · rw [h]; rfl
    · rw [h]
theorem step_set {ns : List Name} {x : Lit} {i : Nat} {u : Name} (hk : ¬ x.kind = 1) (hk2 : ¬ x.kind = 2) (h : openOf ns x = [u]) (hr : x.rel = 1) (hl : (isLone x.left x.right u || isLone x.right x.left u) = true) : (stepOf ns x i).2 = true := by
  unfold stepOf
  rw [if_neg hk, if_neg hk2, h]
  simp only
  rw [if_pos ⟨trivial, hr, hl⟩]
theorem lone_is {e o : Ex} {ns : List Name} (h : loneOf e ≠ []) (hn : loneOf e ∉ ns) (ho : ∀ u ∈ tmVars o.terms, u ∈ ns) : isLone e o (loneOf e) = true := by
  unfold isLone
  have hc : e.op = 0 ∧ e.t.v = loneOf e := by
    unfold loneOf at h ⊢
    split at h
    · rename_i hc; rw [if_pos hc]; exact ⟨hc.1, rfl⟩
    · exact absurd rfl h
  have h3 : (tmVars o.terms).contains (loneOf e) = false := by
    cases hq : (tmVars o.terms).contains (loneOf e) with
    | false => rfl
    | true => exact absurd (ho _ (by simpa using hq)) hn
  rw [h3, hc.1, hc.2]
  simp
theorem mem_vars_lit {x : Lit} {v : Name} : v ∈ tmVars x.terms ↔ v ∈ tmVars x.l ∨ v ∈ tmVars x.left.terms ∨ v ∈ tmVars x.right.terms := by
  simp only [mem_tmVarsL, Lit.terms, List.map_append, List.mem_append]
  constructor
  · rintro ⟨h, (h1 | h1) | h1⟩
    · exact .inl ⟨h, h1⟩
    · exact .inr (.inl ⟨h, h1⟩)
    · exact .inr (.inr ⟨h, h1⟩)
  · rintro (⟨h, h1⟩ | ⟨h, h1⟩ | ⟨h, h1⟩)
    · exact ⟨h, .inl (.inl h1)⟩
    · exact ⟨h, .inl (.inr h1)⟩
    · exact ⟨h, .inr h1⟩
theorem closed_at {ns : List Name} {x : Lit} {i : Nat} (hlit : litOk x = true) (hq : isEqn x = true) (hno : (stepOf ns x i).2 = false) :
    ((eqnOf x).left ≠ [] → (∀ u ∈ (eqnOf x).rights, u ∈ ns) → (eqnOf x).left ∈ ns) ∧ ((eqnOf x).right ≠ [] → (∀ u ∈ (eqnOf x).lefts, u ∈ ns) → (eqnOf x).right ∈ ns) := by
  unfold isEqn at hq
  simp only [Bool.and_eq_true, beq_iff_eq] at hq
  have hk : ¬ x.kind = 1 := by omega
  have hk2 : ¬ x.kind = 2 := by omega
  have hl0 : tmVars x.l = [] := by rw [lit_bare hlit hk hk2]; rfl
  have hvars : ∀ v, v ∈ tmVars x.terms ↔ v ∈ tmVars x.left.terms ∨ v ∈ tmVars x.right.terms := fun v => by rw [mem_vars_lit, hl0]; simp
  constructor
  · intro hne hr
    apply Classical.byContradiction
    intro hn
    have hw : tmVars x.left.terms = [loneOf x.left] := lone_wf hne
    have ho : openOf ns x = [loneOf x.left] := open_one ((hvars _).2 (.inl (by rw [hw]; exact List.mem_singleton.2 rfl))) hn fun v hv hvn => by
      rcases (hvars v).1 hv with h | h
      · rw [hw] at h; exact List.mem_singleton.1 h
      · exact absurd (hr v h) hvn
    rw [step_set hk hk2 ho hq.2 (by rw [lone_is hne hn hr]; rfl)] at hno
    cases hno
  · intro hne hr
    apply Classical.byContradiction
    intro hn
    have hw : tmVars x.right.terms = [loneOf x.right] := lone_wf hne
    have ho : openOf ns x = [loneOf x.right] := open_one ((hvars _).2 (.inr (by rw [hw]; exact List.mem_singleton.2 rfl))) hn fun v hv hvn => by
      rcases (hvars v).1 hv with h | h
      · exact absurd (hr v h) hvn
      · rw [hw] at h; exact List.mem_singleton.1 h
    rw [step_set hk hk2 ho hq.2 (by rw [lone_is hne hn hr, Bool.or_true])] at hno
    cases hno
theorem may_limits {r : Rule} {ks : List Name} (hm : mayOf r ks = 0) : ∀ v ∈ tmVars r.terms, v ∈ limitsOf (r.body ++ ks.map knLit) := fun v hv => by
  have hok := mayOf_ok hm
  unfold mayOf at hm
  rw [if_pos hok] at hm
  unfold mayIn at hm
  split at hm
  · split at hm
    · rename_i ha
      simpa using List.all_eq_true.1 ha v hv
    · cases hm
  · cases hm
theorem lit_vars_rule {r : Rule} {x : Lit} (hx : x ∈ r.body) {v : Name} (hv : v ∈ tmVars x.terms) : v ∈ tmVars r.terms := by
  refine tmVars_sub (fun t ht => ?_) hv
  unfold Rule.terms
  exact List.mem_append_right _ (List.mem_flatMap.2 ⟨x, hx, ht⟩)
theorem At.next {r : Rule} {ks : List Name} {m : Nat} {ns : List Name} (h : At r ks m ns) (hm : mayOf r ks = 0) (hne : m ≠ 0) : ¬ nextL r.body ns m < 0 := by
  intro hneg
  obtain ⟨_, hlit⟩ := rule_body24 (mayOf_ok hm)
  have hleft : ∀ j ∈ bitsOf m, atomAt r.body j = false ∧ okAt r.body ns j = false := by
    rcases next_spec ns h.inn with ⟨_, h2⟩ | ⟨i, _, h2, _⟩
    · exact h2
    · rw [h2] at hneg; omega
  have hlim : ∀ v ∈ limitsOf (r.body ++ ks.map knLit), v ∈ ns := by
    obtain ⟨_, _, hmin, _⟩ := limits_spec (r.body ++ ks.map knLit)
    refine hmin (· ∈ ns) (fun q hq => ?_) (fun v hv => ?_)
    · obtain ⟨x, hx, he, rfl⟩ := mem_eqsOf.1 hq
      have hxb : x ∈ r.body := by
        rcases List.mem_append.1 hx with hx | hx
        · exact hx
        · obtain ⟨u, _, rfl⟩ := List.mem_map.1 hx
          cases he
      obtain ⟨j, hj, rfl⟩ := List.mem_iff_getElem.1 hxb
      by_cases hjm : j ∈ bitsOf m
      · have hno := (hleft j hjm).2
        rw [okAt_at (List.getElem?_eq_getElem hj)] at hno
        exact closed_at (hlit _ hxb) he hno
      · have hd := h.done j hj hjm
        refine ⟨fun hl _ => hd _ (mem_vars_lit.2 (.inr (.inl ?_))), fun hl _ => hd _ (mem_vars_lit.2 (.inr (.inr ?_)))⟩
        · show loneOf r.body[j].left ∈ _
          rw [lone_wf hl]; exact List.mem_singleton.2 rfl
        · show loneOf r.body[j].right ∈ _
          rw [lone_wf hl]; exact List.mem_singleton.2 rfl
    · rcases mem_atomsOn.1 hv with h0 | ⟨x, hx, hk, hvx⟩
      · cases h0
      · rcases List.mem_append.1 hx with hx | hx
        · obtain ⟨j, hj, rfl⟩ := List.mem_iff_getElem.1 hx
          by_cases hjm : j ∈ bitsOf m
          · have hat := (hleft j hjm).1
            rw [atomAt_at (List.getElem?_eq_getElem hj)] at hat
            simp [hk] at hat
          · exact h.done j hj hjm v (mem_vars_lit.2 (.inl hvx))
        · obtain ⟨u, hu, rfl⟩ := List.mem_map.1 hx
          have h2 := (mem_tmVarsL.1 hvx).2
          have : v = u := by simpa [knLit] using h2
          exact h.kn v (this ▸ hu)
  obtain ⟨i, hi⟩ := bits_none h.lt hne
  have hil := h.inn i hi
  have hno := (hleft i hi).2
  rw [okAt_at (List.getElem?_eq_getElem hil)] at hno
  have ho : openOf ns r.body[i] = [] := by
    refine List.eq_nil_iff_forall_not_mem.2 fun v hv => ?_
    obtain ⟨h1, h2⟩ := mem_open.1 hv
    exact h2 (hlim v (may_limits hm v (lit_vars_rule (List.getElem_mem hil) h1)))
  rw [step_open ho] at hno
  cases hno
def Tr (body : List Lit) (first : Int) : Nat → List Name → List Stp → Prop
  | m, _, [] => m = 0
  | m, ns, s :: l => ∃ j ∈ bitsOf m, pickL body first m ns = j ∧ okAt body ns j = true ∧ s = stepAt body ns j ∧ Tr body first (clr m j) (learnOn ns s.gives) l
theorem make_tr {r : Rule} {ks : List Name} {first : Int} (hm : mayOf r ks = 0) (hg : ¬ badFirst r first) : ∀ (f m : Nat) (ns : List Name), At r ks m ns → (bitsOf m).length ≤ f → ∃ l, makeOn r.body first f m ns = some l ∧ Tr r.body first m ns l := by
  intro f
  obtain ⟨_, hlit⟩ := rule_body24 (mayOf_ok hm)
  induction f with
  | zero =>
    intro m ns h hl
    have hm0 : m = 0 := by
      apply Classical.byContradiction
      intro hne
      obtain ⟨i, hi⟩ := bits_none h.lt hne
      have := List.length_pos_of_mem hi
      omega
    exact ⟨[], by rw [makeOn, if_pos hm0], hm0⟩
  | succ f ih =>
    intro m ns h hl
    by_cases hm0 : m = 0
    · exact ⟨[], by rw [makeOn, if_pos hm0], hm0⟩
    obtain ⟨j, hj, hp, ho⟩ : ∃ j ∈ bitsOf m, pickL r.body first m ns = j ∧ okAt r.body ns j = true := by
      unfold pickL
      by_cases hc : first < 0 ∨ m.testBit first.toNat = false
      · rw [if_pos hc]
        rcases next_spec ns h.inn with ⟨h1, _⟩ | ⟨i, hi, h2, h3⟩
        · exact absurd h1 (h.next hm hm0)
        · refine ⟨i, hi, h2, ?_⟩
          rcases h3 with ⟨h4, _⟩ | ⟨_, h4, _⟩
          · have hil := h.inn i hi
            rw [atomAt_at (List.getElem?_eq_getElem hil)] at h4
            rw [okAt_at (List.getElem?_eq_getElem hil)]
            exact ok_atom (by simpa using h4)
          · exact h4
      · rw [if_neg hc]
        have h1 : ¬ first < 0 := fun h => hc (.inl h)
        have h2 : m.testBit first.toNat = true := by
          cases hb : m.testBit first.toNat with
          | true => rfl
          | false => exact absurd (.inr hb) hc
        have h3 : first < r.body.length := by
          apply Classical.byContradiction
          intro hn
          exact hg (.inr (.inl (by omega)))
        have hfl : first.toNat < r.body.length := by omega
        have hb : first.toNat ∈ bitsOf m := by
          refine List.mem_filter.2 ⟨List.mem_range.2 ?_, h2⟩
          apply Classical.byContradiction
          intro hn
          have := Nat.testBit_lt_two_pow (i := first.toNat) (x := m) (Nat.lt_of_lt_of_le h.lt (Nat.pow_le_pow_right (by omega) (by omega)))
          rw [this] at h2
          cases h2
        refine ⟨first.toNat, hb, by omega, ?_⟩
        rw [okAt_at (List.getElem?_eq_getElem hfl)]
        refine ok_atom ?_
        apply Classical.byContradiction
        intro hk
        exact hg (.inr (.inr ⟨by omega, fun x hx => by rw [List.getElem?_eq_getElem hfl] at hx; cases hx; exact hk⟩))
    have hjl := h.inn j hj
    obtain ⟨l, hl1, hl2⟩ := ih _ _ (h.step hlit hj ho) (by have := clr_len hj; omega)
    refine ⟨stepAt r.body ns j :: l, ?_, j, hj, hp, ho, rfl, hl2⟩
    rw [makeOn, if_neg hm0, hp, if_neg (by omega), Int.toNat_natCast, List.getElem?_eq_getElem hjl]
    simp only
    rw [← stepAt_at (List.getElem?_eq_getElem hjl), hl1]
    rfl
theorem at_start {r : Rule} {ks : List Name} (hok : ruleOk r = true) : At r ks (2 ^ r.body.length - 1) (learnOn [] ks) := by
  obtain ⟨hb16, _⟩ := rule_body24 hok
  have hbit : ∀ j, j < 24 → (j ∈ bitsOf (2 ^ r.body.length - 1) ↔ j < r.body.length) := fun j hj => by
    unfold bitsOf
    rw [List.mem_filter, Nat.testBit_two_pow_sub_one]
    simp [hj]
  refine ⟨?_, fun i hi => (hbit i (bitsOf_mem hi).1).1 hi, fun v hv => (learnOn_mem _ _ _).2 (.inr hv), fun j hj hn => absurd ((hbit j (by omega)).2 hj) hn, fun v hv => ?_⟩
  · have := Nat.pow_le_pow_right (show 0 < 2 by omega) (show r.body.length ≤ 16 from hb16)
    have h2 : (2 : Nat) ^ 16 < 2 ^ 24 := by decide
    omega
  · rcases (learnOn_mem _ _ _).1 hv with h | h
    · cases h
    · exact .inl h
theorem make_some {r : Rule} {ks : List Name} {first : Int} (hm : mayOf r ks = 0) (hg : ¬ badFirst r first) :
    ∃ l, makeOn r.body first r.body.length (2 ^ r.body.length - 1) (learnOn [] ks) = some l ∧ Tr r.body first (2 ^ r.body.length - 1) (learnOn [] ks) l := by
  have h := at_start (ks := ks) (mayOf_ok hm)
  refine make_tr hm hg _ _ _ h ?_
  have hnd : (bitsOf (2 ^ r.body.length - 1)).Nodup := (bitsOf_sorted _).imp fun h => Nat.ne_of_lt h
  have := nodup_len hnd (m := List.range r.body.length) fun j hj => List.mem_range.2 (h.inn j hj)
  rwa [List.length_range] at this
end Go.Proofs.YtiomojlcnemnhaaDoor

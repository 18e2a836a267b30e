import Derived.Test.YtiomojlcnemnhaaDoorWDxBd
import Derived.Test.YtiomojlcnemnhaaDoorWDxBc
import Derived.Test.YtiomojlcnemnhaaDoorWDxIc8
import Derived.Test.YtiomojlcnemnhaaDoorWDxB5
namespace Go.Proofs.YtiomojlcnemnhaaDoor
open Go.Fx Go.RowKit Go.Ped
theorem make_any (r : Rule) (ks : List Name) (sp : Sp) (first : Int) (hr : r.small 1048576) (hle : r.terms.length ≤ 1048576) (hk : ks.length + r.body.length ≤ 1048576) (hsp : ∀ e ∈ sp, e.length = 1) : ∃ a b c d F, Meets Tryd.prog GB 82 [.agg r.row, .one (.sl (ks.map nmRow) sp), .one (cI .i64 first)] (.tup [.agg [a, b, c, d], .one (cI .i64 F)]) := by
  have h82 := m82 r ks sp first hr hle hk hsp
  by_cases hm : mayOf r ks = 0
  · by_cases hg : badFirst r first
    · exact ⟨_, _, _, _, _, h82 _ (.inr (.inl ⟨hm, hg, rfl⟩))⟩
    · obtain ⟨l, hl, _⟩ := make_some hm hg
      exact ⟨_, _, _, _, _, h82 _ (.inr (.inr ⟨hm, hg, l, hl, rfl⟩))⟩
  · exact ⟨_, _, _, _, _, h82 _ (.inl ⟨hm, rfl⟩)⟩
theorem made_rows (r : Rule) (l : List Stp) : madeRow r l = [cS (bs r.p), .sl (r.head.map Arg.row) [], .sl (r.bareR.body.map Lit.row) [], .sl (l.map sRow) []] := by
  show [_, _, _, C.sl ((l.map fun s => (s, [])).map srow) []] = _
  rw [List.map_map]
  rfl
theorem Tr.gives_len {r : Rule} {first : Int} : ∀ {l : List Stp} {m : Nat} {ns : List Name}, Tr r.body first m ns l → ∀ s ∈ l, s.gives.length ≤ r.terms.length + 1
  | [], _, _, _, _, hs => by cases hs
  | t :: l, m, ns, h, s, hs => by
    obtain ⟨j, _, _, ho, rfl, ht⟩ := h
    rcases List.mem_cons.1 hs with rfl | hs
    · unfold okAt at ho
      unfold stepAt
      cases hx : r.body[j]? with
      | none => rw [hx] at ho; cases ho
      | some x =>
        have h1 := step_gives ns x j
        have h2 := lit_terms_le (List.mem_of_getElem? hx)
        show (stepOf ns x j).1.gives.length ≤ _
        omega
    · exact Tr.gives_len ht s hs
set_option maxRecDepth 100000 in
set_option maxHeartbeats 16000000 in
theorem m84 (r : Rule) (ks : List Name) (sp : Sp) (more : Name) (first : Int) (hr : r.small 1048576) (hle : r.terms.length ≤ 1048576) (hk : ks.length + 1 + r.body.length ≤ 1048576) (hsp : ∀ e ∈ sp, e.length = 1) :
    Meets Tryd.prog GB 84 [.agg r.row, .one (.sl (ks.map nmRow) sp), .one (cS (bs more)), .one (cI .i64 first)] (.x (.one (cB true))) := by
  have h62 := m62 (G := GB) r hr
  generalize decide (ruleParts r 1048576 > 1048576) = big at h62
  have h82 := m82 r ks sp first hr hle (by omega) hsp
  have h82b := m82 r (ks ++ [more]) [] first hr hle (by rw [List.length_append, List.length_singleton]; exact hk) (by simp)
  obtain ⟨a0, b0, c0, d0, F, h82c⟩ := make_any r (ks ++ [more]) [] first hr hle (by rw [List.length_append, List.length_singleton]; exact hk) (by simp)
  rw [List.map_append, List.map_singleton, show nmRow more = [cS (bs more)] from rfl] at h82b h82c
  have h79 := m79
  have hrow : r.row = [cS (bs r.p), .sl (r.head.map Arg.row) r.hsp, .sl (r.body.map Lit.row) r.bsp] := rfl
  have hml : (ks.map nmRow).length = ks.length := List.length_map ..
  refine meets Tryd.func84 ie84 ig84 (Nat.le_of_ble_eq_true rfl) ?_
  rw [hrow] at h62 h82 h82b h82c ⊢
  simp [ic84, ir84]
  refine call_of h62 ?_
  cases big with
  | true => simp
  | false =>
  simp
  by_cases hm : mayOf r ks = 0
  · by_cases hg : badFirst r first
    · refine call_of (h82 _ (.inr (.inl ⟨hm, hg, rfl⟩))) ?_
      simp
      refine ⟨by unfold maxLen; omega, by unfold maxBytes; omega, by unfold maxLen; omega, by unfold maxBytes; omega, ?_⟩
      refine call_of h82c ?_
      simp
      refine call_of h79 ?_
      simp
    · obtain ⟨l1, hl1, t1⟩ := make_some hm hg
      have h82' := h82 _ (.inr (.inr ⟨hm, hg, l1, hl1, rfl⟩))
      rw [made_rows] at h82'
      refine call_of h82' ?_
      simp
      refine ⟨by unfold maxLen; omega, by unfold maxBytes; omega, by unfold maxLen; omega, by unfold maxBytes; omega, ?_⟩
      rcases may_wider (more := more) hm with hm2 | hm2
      · obtain ⟨l2, hl2, t2⟩ := make_some hm2 hg
        have h82b' := h82b _ (.inr (.inr ⟨hm2, hg, l2, hl2, rfl⟩))
        rw [made_rows] at h82b'
        have hok := mayOf_ok hm
        have hn1 := make_len hok t1
        have hn2 := make_len hok t2
        have hwide := make_wide hok t1 t2
        generalize r.bareR.body.map Lit.row = B at *
        refine call_of h82b' ?_
        simp [freeze_st, fzL, freezeO, maxLen]
        have hll : l2.length = l1.length := by omega
        simp [hll]
        refine w_loopA [] [] [2, 9, 12, 14] (by simp)
          (fun i : Nat => st [(2, .k true (.x (.one (.c (cS (bs more)))))), (9, .k true (.x (.one (.elem [[cS (bs r.p), .sl (r.head.map Arg.row) [], .sl B [], .sl (l1.map sRow) []]] [] 0 0)))), (12, .k true (.x (.one (.elem [[cS (bs r.p), .sl (r.head.map Arg.row) [], .sl B [], .sl (l2.map sRow) []]] [] 0 0)))), (14, tI .i64 i)] [(4, ⟨96, 3, [[.c (cS (bs r.p)), .c (.sl (r.head.map Arg.row) r.hsp), .c (.sl (r.body.map Lit.row) r.bsp)]], none⟩)] [(35, ⟨9, 1, 1⟩), (28, ⟨9, 1, ks.length + 1⟩)] F0)
          (fun i => l1.length - i) (fun i => i ≤ l1.length ∧ ∀ k (h1 : k < l1.length), k < i → l1[k].lit = (l2[k]'(by omega)).lit) 0 (by simp) ⟨Nat.zero_le _, fun k _ h => absurd h (by omega)⟩ ?_
        rintro i K hK ⟨hi, heq⟩
        obtain hlt | hge := Nat.lt_or_ge i l1.length
        · have hlt2 : i < l2.length := by omega
          have hsr1 : sRow l1[i] = [cI .i8 l1[i].kind, cI .i64 l1[i].lit, cI .u32 l1[i].known, .sl (l1[i].gives.map nmRow) []] := rfl
          have hsr2 : sRow l2[i] = [cI .i8 l2[i].kind, cI .i64 l2[i].lit, cI .u32 l2[i].known, .sl (l2[i].gives.map nmRow) []] := rfl
          by_cases hsame : l1[i].lit = l2[i].lit
          · simp [ic84l0, hlt, hlt2, hsr1, hsr2, hsame]
            simp (disch := omega) only [wrap64]
            refine hK (i + 1) _ (by simp) ⟨by omega, fun k h1 h2 => ?_⟩ (by omega)
            by_cases e : k = i
            · subst e; exact hsame
            · exact heq k h1 (by omega)
          · simp [ic84l0, hlt, hlt2, hsr1, hsr2, hsame]
            refine call_of h79 ?_
            simp
        · have hi2 : i = l1.length := by omega
          subst hi2
          have hw := hwide fun i h1 h2 => heq i h1 h1
          simp [ic84l0]
          refine w_loopA [] [16, 17] [2, 9, 12, 15] (by simp [ownKey])
            (fun i : Nat => st [(2, .k true (.x (.one (.c (cS (bs more)))))), (9, .k true (.x (.one (.elem [[cS (bs r.p), .sl (r.head.map Arg.row) [], .sl B [], .sl (l1.map sRow) []]] [] 0 0)))), (12, .k true (.x (.one (.elem [[cS (bs r.p), .sl (r.head.map Arg.row) [], .sl B [], .sl (l2.map sRow) []]] [] 0 0)))), (15, tI .i64 i)] [(4, ⟨96, 3, [[.c (cS (bs r.p)), .c (.sl (r.head.map Arg.row) r.hsp), .c (.sl (r.body.map Lit.row) r.bsp)]], none⟩)] [(35, ⟨9, 1, 1⟩), (28, ⟨9, 1, ks.length + 1⟩)] F0)
            (fun i => l1.length - i) (fun i => i ≤ l1.length) 0 (by simp) (Nat.zero_le _) ?_
          rintro i K2 hK2 hi
          obtain hlt | hge := Nat.lt_or_ge i l1.length
          · have hlt2 : i < l2.length := by omega
            obtain ⟨⟨x, y, ex, ey, exy, hx24, hy24⟩, hgives⟩ := hw i hlt hlt2
            have hor := wrap_or x y hx24 hy24 exy
            have hsr1 : sRow l1[i] = [cI .i8 l1[i].kind, cI .i64 l1[i].lit, cI .u32 x, .sl (l1[i].gives.map nmRow) []] := by rw [← ex]; rfl
            have hsr2 : sRow l2[i] = [cI .i8 l2[i].kind, cI .i64 l2[i].lit, cI .u32 y, .sl (l2[i].gives.map nmRow) []] := by rw [← ey]; rfl
            simp (config := { maxSteps := 4000000 }) [ic84l2, hlt, hlt2, hsr1, hsr2, hor]
            refine w_loopA [] [] [2, 9, 12, 15, 16, 17, 18] (by simp)
              (fun k : Nat => st [(2, .k true (.x (.one (.c (cS (bs more)))))), (9, .k true (.x (.one (.elem [[cS (bs r.p), .sl (r.head.map Arg.row) [], .sl B [], .sl (l1.map sRow) []]] [] 0 0)))), (12, .k true (.x (.one (.elem [[cS (bs r.p), .sl (r.head.map Arg.row) [], .sl B [], .sl (l2.map sRow) []]] [] 0 0)))), (15, tI .i64 i), (16, .k true (.x (.one (.ref 16 0 0)))), (17, .k true (.x (.one (.ref 17 0 0)))), (18, tI .i64 k)] [(17, ⟨121, 4, [[.c (cI .i8 l2[i].kind), .c (cI .i64 l2[i].lit), .c (cI .u32 y), .c (.sl (l2[i].gives.map nmRow) [])]], none⟩), (16, ⟨121, 4, [[.c (cI .i8 l1[i].kind), .c (cI .i64 l1[i].lit), .c (cI .u32 x), .c (.sl (l1[i].gives.map nmRow) [])]], none⟩), (4, ⟨96, 3, [[.c (cS (bs r.p)), .c (.sl (r.head.map Arg.row) r.hsp), .c (.sl (r.body.map Lit.row) r.bsp)]], none⟩)] [(35, ⟨9, 1, 1⟩), (28, ⟨9, 1, ks.length + 1⟩)] F0)
              (fun k => l2[i].gives.length - k) (fun k => k ≤ l2[i].gives.length) 0 (by simp) (Nat.zero_le _) ?_
            rintro k K3 hK3 hki
            obtain hkl | hkg := Nat.lt_or_ge k l2[i].gives.length
            · obtain ⟨g1, g2⟩ := hgives _ (List.getElem_mem hkl)
              have h80 : Meets Tryd.prog GB 80 [.one (.sl (l1[i].gives.map nmRow) []), .one (cS (bs l2[i].gives[k]))] (.x (.one (cB (l1[i].gives.contains l2[i].gives[k])))) := Meets.len (by kernel_rfl) fun hl => m80 _ _ _ (by rwa [List.length_map] at hl)
              rw [show l1[i].gives.contains l2[i].gives[k] = true by simpa using g1] at h80
              simp [ic84l1, hkl]
              refine call_of h80 ?_
              simp [hkl, g2]
              have hgl := t2.gives_len _ (List.getElem_mem hlt2)
              simp (disch := omega) only [wrap64]
              exact hK3 (k + 1) _ (by simp) (by omega) (by omega)
            · simp [ic84l1, Nat.not_lt.2 hkg]
              simp (disch := omega) only [wrap64]
              exact hK2 (i + 1) _ (by simp) (by omega) (by omega)
          · simp [ic84l2, Nat.not_lt.2 hge]
            refine call_of h79 ?_
            simp
      · refine call_of (h82b _ (.inl ⟨by rw [hm2]; decide, rfl⟩)) ?_
        rw [hm2]
        simp
        refine call_of h79 ?_
        simp
  · refine call_of (h82 _ (.inl ⟨hm, rfl⟩)) ?_
    simp
    refine ⟨by unfold maxLen; omega, by unfold maxBytes; omega, by unfold maxLen; omega, by unfold maxBytes; omega, ?_⟩
    refine call_of h82c ?_
    simp [hm]
    refine call_of h79 ?_
    simp
theorem m17 (r : Rule) (ks : List Name) (sp : Sp) (more : Name) (first : Int) (hr : r.small 1048576) (hle : r.terms.length ≤ 1048576) (hk : ks.length + 1 + r.body.length ≤ 1048576) (hsp : ∀ e ∈ sp, e.length = 1) :
    Meets Tryd.prog GB 17 [.agg (r.row ++ [.sl (ks.map nmRow) sp, cS (bs more), cI .i64 first])] (.x (.one (cB true))) := by
  have h84 := m84 r ks sp more first hr hle hk hsp
  have hrow : r.row = [cS (bs r.p), .sl (r.head.map Arg.row) r.hsp, .sl (r.body.map Lit.row) r.bsp] := rfl
  refine meets Tryd.func17 ie17 ig17 (Nat.le_of_ble_eq_true rfl) ?_
  rw [hrow] at h84 ⊢
  simp [ic17, ir17]
  refine call_of h84 ?_
  simp
end Go.Proofs.YtiomojlcnemnhaaDoor

namespace Go.Proofs.YtiomojlcnemnhaaDoor
open Go.Fx Go.RowKit Go.Ped
theorem ty_wider {cs : List C} (h : Typed Tryd.prog 129 cs) : ∃ (r : Rule) (ks : List Name) (sp : Sp) (more : Name) (n : Int), cs = r.row ++ [.sl (ks.map nmRow) sp, cS (bs more), cI .i64 n] ∧ ∀ e ∈ sp, e.length = 1 := by
  obtain ⟨a, r, rfl, ha, b, r', rfl, hb, c, r'', rfl, hc, d, r3, rfl, hd, hr⟩ := h.asStruct Tryd.underlying129
  cases hr
  obtain ⟨x, rfl⟩ := ty_rule ha
  obtain ⟨l, sp, rfl, hsp⟩ := ty_names hb
  obtain ⟨s, rfl⟩ := ty_str hc
  obtain ⟨n, rfl, _⟩ := hd.asInt Tryd.underlying3
  exact ⟨x, l, sp, s, n, rfl, hsp⟩
theorem wider_bulk (r : Rule) (ks : List Name) (sp : Sp) (more : Name) (n : Int) : rowBulk r.row + rowsBulk (ks.map nmRow) + 1 ≤ rowBulk (r.row ++ [.sl (ks.map nmRow) sp, cS (bs more), cI .i64 n]) := by
  rw [rowBulk_append]
  simp only [rowBulk, C.bulk]
  omega
end Go.Proofs.YtiomojlcnemnhaaDoor

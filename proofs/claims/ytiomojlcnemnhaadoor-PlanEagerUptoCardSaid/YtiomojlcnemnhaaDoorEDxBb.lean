import Derived.Test.YtiomojlcnemnhaaDoorEDxJ8
import Derived.Test.YtiomojlcnemnhaaDoorEDxIc1
import Derived.Test.YtiomojlcnemnhaaDoorEDxLu
import Derived.Test.YtiomojlcnemnhaaDoorEDxBa
namespace Go.Proofs.YtiomojlcnemnhaaDoor
open Go.Fx Go.RowKit Go.Ped
variable {G : World → Prop}
end Go.Proofs.YtiomojlcnemnhaaDoor

namespace Go.Proofs.YtiomojlcnemnhaaDoor
open Go.Fx Go.RowKit Go.Ped
variable {G : World → Prop}
end Go.Proofs.YtiomojlcnemnhaaDoor

namespace Go.Proofs.YtiomojlcnemnhaaDoor
open Go.Fx Go.RowKit Go.Ped
variable {G : World → Prop}
end Go.Proofs.YtiomojlcnemnhaaDoor

namespace Go.Proofs.YtiomojlcnemnhaaDoor
open Go.Fx Go.RowKit Go.Ped
end Go.Proofs.YtiomojlcnemnhaaDoor

namespace Go.Proofs.YtiomojlcnemnhaaDoor
open Go.Fx Go.RowKit Go.Ped
set_option maxRecDepth 100000 in
set_option maxHeartbeats 16000000 in
theorem m16 (r : Rule) (ks : List Name) (sp : Sp) (first : Int) (hr : r.small 1048576) (hle : r.terms.length ≤ 1048576) (hk : ks.length + r.body.length ≤ 1048576) (hsp : ∀ e ∈ sp, e.length = 1) :
    Meets Tryd.prog GB 16 [.agg r.row, .one (.sl (ks.map nmRow) sp), .one (cI .i64 first)] (.x (.one (cB true))) := by
  have h62 := m62 (G := GB) r hr
  generalize decide (ruleParts r 1048576 > 1048576) = big at h62
  have h82 := m82 r ks sp first hr hle hk hsp
  have h79 := m79
  have hrow : r.row = [cS (bs r.p), .sl (r.head.map Arg.row) r.hsp, .sl (r.body.map Lit.row) r.bsp] := rfl
  refine meets Tryd.func16 ie16 ig16 (Nat.le_of_ble_eq_true rfl) ?_
  rw [hrow] at h62 h82 ⊢
  simp [ic16, ir16]
  refine call_of h62 ?_
  cases big with
  | true => simp
  | false =>
  simp
  by_cases hm : mayOf r ks = 0
  · by_cases hg : badFirst r first
    · refine call_of (h82 _ (.inr (.inl ⟨hm, hg, rfl⟩))) ?_
      simp
      refine call_of h79 ?_
      simp
    · obtain ⟨l, hl, ht⟩ := make_some hm hg
      have h82' := h82 _ (.inr (.inr ⟨hm, hg, l, hl, rfl⟩))
      have hok := mayOf_ok hm
      have hllen := make_len hok ht
      have hb16 := (rule_body24 hok).1
      have hlen : r.bareR.body.length = r.body.length := List.length_map ..
      have hS : ∀ l : List Stp, (l.map fun s => ((s, []) : Stp × Sp)).map srow = l.map sRow := fun l => by rw [List.map_map]; rfl
      have hlit : ∀ (k : Nat) (h : k < l.length), ∃ j : Nat, l[k].lit = j ∧ j < r.body.length := fun k h => by
        obtain ⟨j, hj, e⟩ := ht.lits.2.1 _ (List.getElem_mem h)
        exact ⟨j, e, (at_start (ks := ks) hok).inn j hj⟩
      have h78 : ∀ f t, t < f → f < l.length → Meets Tryd.prog GB 78 [.agg [cS (bs r.p), .sl (r.head.map Arg.row) [], .sl (r.bareR.body.map Lit.row) [], .sl ((movedN l f t l.length).map sRow) []], .one (.sl (ks.map nmRow) sp)] (.x (.one (cB (rightB r.bareR (movedN l f t l.length) ks)))) := fun f t h1 h2 => by
        have h := m78 (G := GB) r.bareR ((movedN l f t l.length).map fun s => (s, [])) [] ks sp (bareR_small hr) (by rw [bareR_terms]; exact hle) (by rw [hlen]; exact hk) hsp (by rw [List.length_map]; have := movedN_len l f t l.length; unfold maxLen; omega)
        rw [show (((movedN l f t l.length).map fun s => ((s, []) : Stp × Sp)).map (·.1)) = movedN l f t l.length by rw [List.map_map]; exact List.map_id _] at h
        unfold planRow at h
        rw [hS] at h
        exact h
      unfold madeRow planRow at h82'
      rw [hS] at h82'
      rw [show r.bareR.p = r.p from rfl, show r.bareR.head = r.head from rfl, show r.bareR.hsp = [] from rfl, show r.bareR.bsp = [] from rfl] at h82'
      have h83 := fun f t h1 h2 => m83 (G := GB) (cS (bs r.p)) (.sl (r.head.map Arg.row) []) (.sl (r.bareR.body.map Lit.row) []) l f t h1 h2 (by omega)
      generalize r.bareR.body.map Lit.row = B at *
      have hsr : ∀ s : Stp, sRow s = [cI .i8 s.kind, cI .i64 s.lit, cI .u32 s.known, .sl (s.gives.map nmRow) []] := fun _ => rfl
      refine call_of h82' ?_
      simp
      refine w_loopA [] [] [1, 2, 3, 7, 9, 10] (by simp)
        (fun i : Nat => st [(1, .k true (.x (.one (.c (.sl (ks.map nmRow) sp))))), (2, tI .i64 first), (3, .k true (.x (.one (.ref 3 0 0)))), (7, .k true (.x (.one (.ref 7 0 0)))), (9, tI .i64 (lastN r.body first l i)), (10, tI .i64 i)]
          [(7, ⟨115, 4, [[.c (cS (bs r.p)), .c (.sl (r.head.map Arg.row) []), .c (.sl B []), .c (.sl (l.map sRow) [])]], none⟩), (3, ⟨96, 3, [[.c (cS (bs r.p)), .c (.sl (r.head.map Arg.row) r.hsp), .c (.sl (r.body.map Lit.row) r.bsp)]], none⟩)] [] F0)
        (fun i => l.length - i) (fun i => i ≤ l.length) 0 (by simp [lastN]) (Nat.zero_le _) ?_
      rintro i K hK hi
      obtain hlt | hge := Nat.lt_or_ge i l.length
      · obtain ⟨j, hj, hjl⟩ := hlit i hlt
        have hr16 := lit16 r.body[j]
        have hjn : ¬ (j : Int) < 0 := by omega
        have hat : atomAt r.body j = decide (r.body[j].kind = 1) := atomAt_at (List.getElem?_eq_getElem hjl)
        have hln : lastN r.body first l (i + 1) = if (i = 0 ∧ 0 ≤ first) ∨ atomAt r.body j = false then lastN r.body first l i else j := by
          rw [lastN, List.getElem?_eq_getElem hlt]
          simp only [hj, Int.toNat_natCast]
        have hgi : sRow l[i] = [cI .i8 l[i].kind, cI .i64 j, cI .u32 l[i].known, .sl (l[i].gives.map nmRow) []] := by rw [hsr, hj]
        by_cases hskip : i = 0 ∧ 0 ≤ first
        · rw [if_pos (.inl hskip)] at hln
          obtain ⟨rfl, h0⟩ := hskip
          simp [ic16l1, hlt, hgi, hjl, hr16, hjn, Nat.not_le.2 hjl, h0]
          exact hK 1 _ (by simp [hln, show IntKind.i64.wrap 1 = 1 by decide]) (by omega) (by omega)
        · have hsk : ((i : Int) == 0 && decide (0 ≤ first)) = false := by
            cases hb : ((i : Int) == 0 && decide (0 ≤ first)) with
            | false => rfl
            | true =>
              simp only [Bool.and_eq_true, beq_iff_eq, decide_eq_true_eq] at hb
              exact absurd ⟨by omega, hb.2⟩ hskip
          by_cases hpos : r.body[j].kind = 1
          · have hlast := last_lt hok ht hlt hj (by rw [hat]; simpa using hpos)
            have hle2 : ¬ (j : Int) ≤ lastN r.body first l i := by omega
            rw [if_neg (by
              rintro (h | h)
              · exact hskip h
              · rw [hat] at h; simp [hpos] at h)] at hln
            simp [ic16l1, hlt, hgi, hjl, hr16, hjn, Nat.not_le.2 hjl, hsk, hpos, hle2]
            simp (disch := omega) only [wrap64]
            refine w_loopA [] [] [1, 2, 3, 7, 9, 10, 11, 12] (by simp)
              (fun k : Nat => st [(1, .k true (.x (.one (.c (.sl (ks.map nmRow) sp))))), (2, tI .i64 first), (3, .k true (.x (.one (.ref 3 0 0)))), (7, .k true (.x (.one (.ref 7 0 0)))), (9, tI .i64 j), (10, tI .i64 i), (11, tB true), (12, tI .i64 k)]
                [(7, ⟨115, 4, [[.c (cS (bs r.p)), .c (.sl (r.head.map Arg.row) []), .c (.sl B []), .c (.sl (l.map sRow) [])]], none⟩), (3, ⟨96, 3, [[.c (cS (bs r.p)), .c (.sl (r.head.map Arg.row) r.hsp), .c (.sl (r.body.map Lit.row) r.bsp)]], none⟩)] [] F0)
              (fun k => l.length - k) (fun k => i < k ∧ k ≤ l.length) (i + 1) (by simp) ⟨by omega, by omega⟩ ?_
            rintro k K2 hK2 ⟨hik, hkl⟩
            obtain hklt | hkge := Nat.lt_or_ge k l.length
            · obtain ⟨x, hx, hxl⟩ := hlit k hklt
              have hx16 := lit16 r.body[x]
              have hxn : ¬ (x : Int) < 0 := by omega
              have hgk : sRow l[k] = [cI .i8 l[k].kind, cI .i64 x, cI .u32 l[k].known, .sl (l[k].gives.map nmRow) []] := by rw [hsr, hx]
              have hax : atomAt r.body x = decide (r.body[x].kind = 1) := atomAt_at (List.getElem?_eq_getElem hxl)
              have h83' := h83 k i hklt hik
              have h78' := h78 k i hik hklt
              by_cases hkx : r.body[x].kind = 1
              · simp [ic16l0, hklt, hgk, hxl, hx16, hxn, Nat.not_le.2 hxl, hkx, pickT_true]
                refine call_no (.x (.agg zeroPlan)) ?_
                simp
                refine call_no (.x (.one (cB true))) ?_
                simp
                simp (disch := omega) only [wrap64]
                exact hK2 (k + 1) _ (by simp) ⟨by omega, by omega⟩ (by omega)
              · rw [moved_wrong hm ht hik hklt hskip hx hj (by rw [hax]; simpa using hkx) (.inl (by rw [hat]; simpa using hpos))] at h78'
                simp [ic16l0, hklt, hgk, hxl, hx16, hxn, Nat.not_le.2 hxl, hkx, pickT_true]
                refine call_of h83' ?_
                simp
                refine call_of h78' ?_
                simp
                simp (disch := omega) only [wrap64]
                exact hK2 (k + 1) _ (by simp) ⟨by omega, by omega⟩ (by omega)
            · simp [ic16l0, Nat.not_lt.2 hkge]
              simp (disch := omega) only [wrap64]
              exact hK (i + 1) _ (by simp [hln]) (by omega) (by omega)
          · rw [if_pos (.inr (by rw [hat]; simpa using hpos))] at hln
            simp [ic16l1, hlt, hgi, hjl, hr16, hjn, Nat.not_le.2 hjl, hsk, hpos]
            simp (disch := omega) only [wrap64]
            refine w_loopA [] [] [1, 2, 3, 7, 9, 10, 11, 12] (by simp)
              (fun k : Nat => st [(1, .k true (.x (.one (.c (.sl (ks.map nmRow) sp))))), (2, tI .i64 first), (3, .k true (.x (.one (.ref 3 0 0)))), (7, .k true (.x (.one (.ref 7 0 0)))), (9, tI .i64 (lastN r.body first l i)), (10, tI .i64 i), (11, tB false), (12, tI .i64 k)]
                [(7, ⟨115, 4, [[.c (cS (bs r.p)), .c (.sl (r.head.map Arg.row) []), .c (.sl B []), .c (.sl (l.map sRow) [])]], none⟩), (3, ⟨96, 3, [[.c (cS (bs r.p)), .c (.sl (r.head.map Arg.row) r.hsp), .c (.sl (r.body.map Lit.row) r.bsp)]], none⟩)] [] F0)
              (fun k => l.length - k) (fun k => i < k ∧ k ≤ l.length) (i + 1) (by simp) ⟨by omega, by omega⟩ ?_
            rintro k K2 hK2 ⟨hik, hkl⟩
            obtain hklt | hkge := Nat.lt_or_ge k l.length
            · obtain ⟨x, hx, hxl⟩ := hlit k hklt
              have hx16 := lit16 r.body[x]
              have hxn : ¬ (x : Int) < 0 := by omega
              have hgk : sRow l[k] = [cI .i8 l[k].kind, cI .i64 x, cI .u32 l[k].known, .sl (l[k].gives.map nmRow) []] := by rw [hsr, hx]
              have hax : atomAt r.body x = decide (r.body[x].kind = 1) := atomAt_at (List.getElem?_eq_getElem hxl)
              have h83' := h83 k i hklt hik
              have h78' := h78 k i hik hklt
              by_cases hkx : r.body[x].kind = 1
              · simp [ic16l0, hklt, hgk, hxl, hx16, hxn, Nat.not_le.2 hxl, hkx, pickT_false]
                refine call_no (.x (.agg zeroPlan)) ?_
                simp
                refine call_no (.x (.one (cB true))) ?_
                simp
                simp (disch := omega) only [wrap64]
                exact hK2 (k + 1) _ (by simp) ⟨by omega, by omega⟩ (by omega)
              · by_cases hxj : x < j
                · rw [moved_wrong hm ht hik hklt hskip hx hj (by rw [hax]; simpa using hkx) (.inr hxj)] at h78'
                  simp [ic16l0, hklt, hgk, hgi, hlt, hxl, hx16, hxn, Nat.not_le.2 hxl, hkx, hxj]
                  refine call_of h83' ?_
                  simp
                  refine call_of h78' ?_
                  simp
                  simp (disch := omega) only [wrap64]
                  exact hK2 (k + 1) _ (by simp) ⟨by omega, by omega⟩ (by omega)
                · simp [ic16l0, hklt, hgk, hgi, hlt, hxl, hx16, hxn, Nat.not_le.2 hxl, hkx, hxj]
                  refine call_no (.x (.agg zeroPlan)) ?_
                  simp
                  refine call_no (.x (.one (cB true))) ?_
                  simp
                  simp (disch := omega) only [wrap64]
                  exact hK2 (k + 1) _ (by simp) ⟨by omega, by omega⟩ (by omega)
            · simp [ic16l0, Nat.not_lt.2 hkge]
              simp (disch := omega) only [wrap64]
              exact hK (i + 1) _ (by simp [hln]) (by omega) (by omega)
      · have hi2 : i = l.length := by omega
        subst hi2
        simp [ic16l1]
        refine call_of h79 ?_
        simp
  · refine call_of (h82 _ (.inl ⟨hm, rfl⟩)) ?_
    simp [hm]
    refine call_of h79 ?_
    simp
end Go.Proofs.YtiomojlcnemnhaaDoor

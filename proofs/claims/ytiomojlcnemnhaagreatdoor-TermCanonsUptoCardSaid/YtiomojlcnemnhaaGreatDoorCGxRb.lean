import Derived.Test.YtiomojlcnemnhaaGreatDoorCGxY3
import Derived.Test.YtiomojlcnemnhaaGreatDoorCGxIcY
import Derived.Test.YtiomojlcnemnhaaGreatDoorCGxRa
namespace Go.Proofs.YtiomojlcnemnhaaGreatDoor
open Go.Fx Go.RowKit Go.Ped
variable {G : World → Prop}
def beyR : List Rule → Int → Bool
  | [], _ => false
  | r :: l, n => if n + ruleParts r 1048576 > 1048576 then true else beyR l (n + ruleParts r 1048576)
theorem ruleParts_bound (r : Rule) (h : r.small 1048576) : 0 ≤ ruleParts r 1048576 ∧ ruleParts r 1048576 ≤ 1048577 := by
  have h1 := bodyParts_bound (left := 1048576) r.body (1 + r.head.length) (by omega)
  have h2 := h.1
  unfold ruleParts
  omega
theorem m2030 (l : List Rule) (sp : Sp) (hs : ∀ r ∈ l, r.small 1048576) (hl : l.length ≤ 1048576) : Meets Tryz.prog G 30 [.one (.sl (l.map Rule.row) sp)] (.x (.one (cB (beyR l 0)))) := by
  refine meets Tryz.func30 ie2030 ig2030 (Nat.le_of_ble_eq_true rfl) ?_
  generalize hB : beyR l 0 = B
  simp [ic2030, ir2030]
  refine w_loopA [] [] [0, 3, 4] (by simp)
    (fun a : Nat × Int => st [(0, .k true (.x (.one (.c (.sl (l.map Rule.row) sp))))), (3, tI .i64 a.2), (4, tI .i64 a.1)] [] [] F0) (fun a => l.length - a.1)
    (fun a => a.1 ≤ l.length ∧ B = beyR (l.drop a.1) a.2 ∧ 0 ≤ a.2 ∧ a.2 ≤ 1048576) (0, 0) (by simp) (by simp [hB]) ?_
  rintro ⟨i, n⟩ K hK ⟨hi, hd, hn0, hn1⟩
  simp only at hi hd hn0 hn1
  obtain hlt | hge := Nat.lt_or_ge i l.length
  · rw [List.drop_eq_getElem_cons hlt, beyR] at hd
    have hr := hs _ (List.getElem_mem hlt)
    have hb := ruleParts_bound l[i] hr
    simp [ic2030l0, hlt]
    refine call_of (m119 l[i] 1048576 (by omega) (by omega) hr) ?_
    simp
    rw [wrap64 (by omega) (by omega)]
    by_cases hc : n + ruleParts l[i] 1048576 > 1048576
    · rw [if_pos hc] at hd
      simp [hc, hd]
    · rw [if_neg hc] at hd
      simp [hc]
      simp (disch := omega) only [wrap64]
      exact hK (i + 1, n + ruleParts l[i] 1048576) _ (by simp) ⟨by simp; omega, hd, by simp; omega, by simp; omega⟩ (by simp; omega)
  · rw [List.drop_eq_nil_of_le hge, beyR] at hd
    simp [ic2030l0, Nat.not_lt.mpr hge, hd]
end Go.Proofs.YtiomojlcnemnhaaGreatDoor

namespace Go.Proofs.YtiomojlcnemnhaaGreatDoor
open Go.Fx Go.RowKit Go.Ped
variable {G : World → Prop}
theorem canon_tw (r : Rule) : canon r.tw = canon r := by unfold canon; rw [Rule.mapT_tw, Rule.terms_tw]
theorem canonR_tw (r : Rule) : canonR r.tw = canonR r := by unfold canonR; rw [ruleOk_tw, canon_tw]
theorem alikeB_tw (a b : Rule) : alikeB a.tw b.tw = alikeB a b := by unfold alikeB; rw [ruleOk_tw, ruleOk_tw, canon_tw, canon_tw]
set_option maxHeartbeats 4000000 in
theorem m2005 (a b : Rule) (ha : a.small 1048576) (hb : b.small 1048576) (hla : a.terms.length ≤ 1048576) (hlb : b.terms.length ≤ 1048576) : Meets Tryz.prog GT 5 [.agg a.row, .agg b.row] (.x (.one (cB true))) := by
  have a1 := m2030 (G := GT) [a, b] [] (by intro x hx; simp at hx; rcases hx with rfl | rfl; exact ha; exact hb) (by simp)
  generalize beyR [a, b] 0 = big at a1
  have sa := Rule.small_tw ha
  have sb := Rule.small_tw hb
  have la : a.tw.terms.length ≤ 1048576 := by rw [Rule.terms_tw]; exact hla
  have lb : b.tw.terms.length ≤ 1048576 := by rw [Rule.terms_tw]; exact hlb
  have a2 := m2031 (G := GT) a ha hla
  have a3 := m63 a ha
  have a4 := m63 b hb
  have a5 := m2032 a.tw sa la
  rw [canonR_tw] at a5
  have hz : Meets Tryz.prog GT 22 [.agg zeroRule, .agg zeroRule] (.x (.one (cB true))) := m72 (G := GT) ⟨[], [], [], [], []⟩ ⟨by simp, by simp, by simp⟩
  have a6 := m72 (G := GT) (canon a) (canon_small ha)
  have b1 := m2033 a.tw b.tw sa sb la lb
  rw [alikeB_tw] at b1
  have b2 := m2034 (G := GT) a b ha hb hla hlb
  have b3 := m2033 b.tw a.tw sb sa lb la
  rw [alikeB_tw] at b3
  have b4 := m2034 (G := GT) b a hb ha hlb hla
  have b5 := m70 a ha
  have b6 := m70 b hb
  have hx1 : (canon a).row = [cS (bs (canon a).p), .sl ((canon a).head.map Arg.row) (canon a).hsp, .sl ((canon a).body.map Lit.row) (canon a).bsp] := rfl
  have hra : a.row = [cS (bs a.p), .sl (a.head.map Arg.row) a.hsp, .sl (a.body.map Lit.row) a.bsp] := rfl
  have hrb : b.row = [cS (bs b.p), .sl (b.head.map Arg.row) b.hsp, .sl (b.body.map Lit.row) b.bsp] := rfl
  have hta : a.tw.row = [cS (bs a.tw.p), .sl (a.tw.head.map Arg.row) a.tw.hsp, .sl (a.tw.body.map Lit.row) a.tw.bsp] := rfl
  have htb : b.tw.row = [cS (bs b.tw.p), .sl (b.tw.head.map Arg.row) b.tw.hsp, .sl (b.tw.body.map Lit.row) b.tw.bsp] := rfl
  simp only [List.map_cons, List.map_nil] at a1
  generalize alikeB a b = r1 at *
  generalize alikeB b a = r2 at *
  unfold canonR at a2 a5
  rw [hx1] at a2 a5 a6
  rw [hta] at a3 a5 b1 b3 b5
  rw [htb] at a4 b1 b3 b6
  rw [hra] at a1 a2 a3 b2 b4 b5 ⊢
  rw [hrb] at a1 a4 b2 b4 b6 ⊢
  generalize a.tw.p = t1 at *
  generalize a.tw.head.map Arg.row = t2 at *
  generalize a.tw.hsp = t3 at *
  generalize a.tw.body.map Lit.row = t4 at *
  generalize a.tw.bsp = t5 at *
  generalize b.tw.p = u1 at *
  generalize b.tw.head.map Arg.row = u2 at *
  generalize b.tw.hsp = u3 at *
  generalize b.tw.body.map Lit.row = u4 at *
  generalize b.tw.bsp = u5 at *
  generalize (canon a).p = n1 at *
  generalize (canon a).head.map Arg.row = n2 at *
  generalize (canon a).hsp = n3 at *
  generalize (canon a).body.map Lit.row = n4 at *
  generalize (canon a).bsp = n5 at *
  refine meets Tryz.func5 ie2005 ig2005 (Nat.le_of_ble_eq_true rfl) ?_
  simp [ic2005, ir2005]
  refine call_of a1 ?_
  cases big with
  | true => simp
  | false =>
  simp
  by_cases hc : ruleOk a = true
  · rw [if_pos hc] at a2 a5
    refine call_of a2 ?_
    simp
    refine call_of a3 ?_
    simp
    refine call_of a4 ?_
    simp
    refine call_of a5 ?_
    simp
    refine call_of a6 ?_
    simp
    refine call_of b1 ?_
    simp
    refine call_of b2 ?_
    simp
    refine call_of b3 ?_
    simp
    refine call_of b4 ?_
    simp
    refine call_of b5 ?_
    simp
    refine call_of b6 ?_
    simp
  · rw [if_neg hc] at a2 a5
    refine call_of a2 ?_
    simp
    refine call_of a3 ?_
    simp
    refine call_of a4 ?_
    simp
    refine call_of a5 ?_
    simp
    refine call_of hz ?_
    simp
    refine call_of b1 ?_
    simp
    refine call_of b2 ?_
    simp
    refine call_of b3 ?_
    simp
    refine call_of b4 ?_
    simp
    refine call_of b5 ?_
    simp
    refine call_of b6 ?_
    simp
end Go.Proofs.YtiomojlcnemnhaaGreatDoor

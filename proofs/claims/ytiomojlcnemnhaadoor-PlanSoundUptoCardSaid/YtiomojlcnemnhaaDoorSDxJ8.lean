import Derived.Test.YtiomojlcnemnhaaDoorSDxIc7
import Derived.Test.YtiomojlcnemnhaaDoorSDxLj
import Derived.Test.YtiomojlcnemnhaaDoorSDxB3
import Derived.Test.YtiomojlcnemnhaaDoorSDxJ3
import Derived.Test.YtiomojlcnemnhaaDoorSDxX11
import Derived.Test.YtiomojlcnemnhaaDoorSDxB1
import Derived.Test.YtiomojlcnemnhaaDoorSDxY3
import Derived.Test.YtiomojlcnemnhaaDoorSDxLb
namespace Go.Proofs.YtiomojlcnemnhaaDoor
open Go.Fx Go.RowKit Go.Ped
variable {G : World → Prop}
theorem kn_word (v : Name) : wordOk 65 90 v = (termOk v 0 0 [] && !(v == []) && !(v == [95])) := by
  by_cases h : v = []
  · subst h; simp [wordOk]
  · by_cases h2 : v = [95]
    · subst h2; simp [wordOk]
    · simp [termOk, h, h2]
set_option maxHeartbeats 8000000 in
theorem m86 (ks : List Name) (sp : Sp) (hk : ks.length ≤ 1048576) (hsp : ∀ e ∈ sp, e.length = 1) : Meets Tryd.prog G 86 [.one (.sl (ks.map nmRow) sp)] (.x (.one (cB (!knOkOn [] ks)))) := by
  refine meets Tryd.func86 ie86 ig86 (Nat.le_of_ble_eq_true rfl) ?_
  generalize hR : knOkOn [] ks = R
  simp [ic86, ir86]
  refine w_loopA [] [] [0, 3] (by simp [ownKey])
    (fun i : Nat => st [(0, .k true (.x (.one (.c (.sl (ks.map nmRow) sp))))), (3, tI .i64 i)] [] [] F0) (fun i => ks.length - i)
    (fun i => i ≤ ks.length ∧ R = knOkOn (ks.take i) (ks.drop i)) 0 (by simp) ⟨Nat.zero_le _, hR.symm⟩ ?_
  rintro i K hK ⟨hi, hd⟩
  obtain hlt | hge := Nat.lt_or_ge i ks.length
  · have hget : ks[i]? = some ks[i] := List.getElem?_eq_getElem hlt
    have h80 := m80 (G := G) (ks.take i) ks[i] (List.drop i (ks.map nmRow ++ sp)) (by rw [List.length_take]; unfold maxLen; omega)
    have h117 := m117 (G := G) ks[i] 0 0 []
    rw [List.drop_eq_getElem_cons hlt, knOkOn] at hd
    have ht1 : List.take i (ks.map nmRow ++ sp) = (ks.take i).map nmRow := by rw [List.take_append_of_le_length (by rw [List.length_map]; omega), List.map_take]
    simp [ic86l0, hlt]
    refine ⟨⟨by omega, fun e he => ?_⟩, ?_⟩
    · rcases he with ⟨a, _, rfl⟩ | he
      · rfl
      · exact hsp e he
    rw [ht1]
    refine call_of h80 ?_
    rw [kn_word] at hd
    cases hc : (ks.take i).contains ks[i] with
    | true =>
      rw [hc] at hd
      simp only [Bool.not_true, Bool.and_false, Bool.false_and] at hd
      subst hd
      simp [hlt]
      refine call_no (.x (.one (cI .i64 0))) ?_
      simp [hlt]
    | false =>
      rw [hc] at hd
      simp [hlt]
      refine call_of h117 ?_
      cases ht : termOk ks[i] 0 0 [] with
      | false =>
        rw [ht] at hd
        simp only [Bool.false_and] at hd
        subst hd
        simp [hlt]
      | true =>
        rw [ht] at hd
        by_cases h0 : ks[i] = []
        · rw [h0] at hd
          simp only [BEq.rfl, Bool.not_true, Bool.and_false, Bool.false_and] at hd
          subst hd
          simp [hlt, h0]
        · by_cases h1 : ks[i] = [95]
          · rw [h1] at hd
            simp only [BEq.rfl, Bool.not_true, Bool.and_false, Bool.false_and] at hd
            subst hd
            simp [hlt, h1]
          · have h2 : List.isEmpty ks[i] = false := by simpa using h0
            simp [h1, h2] at hd
            simp [hlt, h1, h2]
            simp (disch := omega) only [wrap64]
            refine hK (i + 1) _ (by simp) ⟨by omega, ?_⟩ (by omega)
            rw [hd, List.take_succ_eq_append_getElem hlt]
  · have hi2 : i = ks.length := by omega
    subst hi2
    rw [List.drop_length, knOkOn] at hd
    subst hd
    simp [ic86l0]
end Go.Proofs.YtiomojlcnemnhaaDoor

namespace Go.Proofs.YtiomojlcnemnhaaDoor
open Go.Fx Go.RowKit Go.Ped
variable {G : World → Prop}
end Go.Proofs.YtiomojlcnemnhaaDoor

namespace Go.Proofs.YtiomojlcnemnhaaDoor
open Go.Fx Go.RowKit Go.Ped
variable {G : World → Prop}
end Go.Proofs.YtiomojlcnemnhaaDoor

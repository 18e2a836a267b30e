import Derived.Test.YtiomojlcnemnhaaDoorEDxBa
import Derived.Test.YtiomojlcnemnhaaDoorEDxIc7
import Derived.Test.YtiomojlcnemnhaaDoorEDxB5
import Derived.Test.YtiomojlcnemnhaaDoorEDxLn
import Derived.Test.YtiomojlcnemnhaaDoorEDxJ3
import Derived.Test.YtiomojlcnemnhaaDoorEDxX11
import Derived.Test.YtiomojlcnemnhaaDoorEDxLu
import Derived.Test.YtiomojlcnemnhaaDoorEDxY3
import Derived.Test.YtiomojlcnemnhaaDoorEDxLb
namespace Go.Proofs.YtiomojlcnemnhaaDoor
open Go.Fx Go.RowKit Go.Ped
variable {G : World → Prop}
abbrev sRow (s : Stp) : List C := s.row []
theorem movedN_len (l : List Stp) (f t : Nat) : ∀ n, (movedN l f t n).length ≤ 2 * n
  | 0 => Nat.le_refl _
  | n + 1 => by
    have := movedN_len l f t n
    rw [movedN, List.length_append, List.length_append]
    have h1 : (if n = t then (l[f]?).toList else []).length ≤ 1 := by cases l[f]? <;> split <;> simp
    have h2 : (if n = f then [] else (l[n]?).toList).length ≤ 1 := by cases l[n]? <;> split <;> simp
    omega
set_option maxRecDepth 100000 in
set_option maxHeartbeats 8000000 in
theorem m83 (a b c : C) (l : List Stp) (f t : Nat) (hf : f < l.length) (htf : t < f) (hl : l.length ≤ 1000) :
    Meets Tryd.prog G 83 [.agg [a, b, c, .sl (l.map sRow) []], .one (cI .i64 f), .one (cI .i64 t)] (.x (.agg [a, b, c, .sl ((movedN l f t l.length).map sRow) []])) := by
  have hsr : ∀ s : Stp, sRow s = [cI .i8 s.kind, cI .i64 s.lit, cI .u32 s.known, .sl (s.gives.map nmRow) []] := fun _ => rfl
  refine meets Tryd.func83 ie83 ig83 (Nat.le_of_ble_eq_true rfl) ?_
  simp [ic83, ir83]
  refine w_loopA [] [25, 36] [1, 2, 3, 6, 7, 8] (by simp [ownKey])
    (fun a' : Nat × A × List (Nat × Fx.Tok) => st [(1, tI .i64 f), (2, tI .i64 t), (3, .k true (.x (.one (.ref 3 0 0)))), (6, .k true (.x (.one (.ref 6 0 0)))), (7, .k true (.x (.one a'.2.1))), (8, tI .i64 a'.1)]
      [(6, ⟨115, 4, [[.c (cS (bs [])), .nil, .nil, .nil]], none⟩), (3, ⟨115, 4, [[.c a, .c b, .c c, .c (.sl (l.map sRow) [])]], none⟩)] a'.2.2 F0)
    (fun a' => l.length - a'.1) (fun a' => a'.1 ≤ l.length ∧ ((movedN l f t a'.1 = [] ∧ a'.2.1 = .nil ∧ a'.2.2 = []) ∨ ∃ k, (k = 26 ∨ k = 37) ∧ a'.2.1 = .own k ((movedN l f t a'.1).map sRow) ∧ a'.2.2 = [(k, ⟨121, 4, ((movedN l f t a'.1).map sRow).length⟩)])) (0, .nil, []) (by simp) ⟨Nat.zero_le _, .inl ⟨rfl, rfl, rfl⟩⟩ ?_
  rintro ⟨i, w, U⟩ K hK ⟨hi, hacc⟩
  simp only at hi hacc
  have hml := movedN_len l f t i
  obtain hlt | hge := Nat.lt_or_ge i l.length
  · have hgi : l[i]? = some l[i] := List.getElem?_eq_getElem hlt
    have hgf : l[f]? = some l[f] := List.getElem?_eq_getElem hf
    have hM : movedN l f t (i + 1) = movedN l f t i ++ ((if i = t then [l[f]] else []) ++ (if i = f then [] else [l[i]])) := by rw [movedN, hgi, hgf]; rfl
    by_cases hit : i = t
    · have hif : ¬ i = f := by omega
      rw [if_pos hit, if_neg hif] at hM
      have hii : ((i : Int) == (t : Int)) = true := by rw [hit]; exact beq_self_eq_true _
      have hff : ((i : Int) == (f : Int)) = false := beq_eq_false_iff_ne.2 (by omega)
      rcases hacc with ⟨h0, rfl, rfl⟩ | ⟨k, hk, rfl, rfl⟩
      · simp [ic83l0, hlt, hf, hii, hff, hsr]
        refine ⟨by unfold maxLen; omega, by unfold maxBytes; omega, by unfold maxLen; omega, by unfold maxBytes; omega, ?_⟩
        simp (disch := omega) only [wrap64]
        refine hK (i + 1, .own 26 ((movedN l f t (i + 1)).map sRow), [(26, ⟨121, 4, ((movedN l f t (i + 1)).map sRow).length⟩)]) _ (by simp [hM, h0, hsr]) ⟨by omega, .inr ⟨26, by omega, rfl, rfl⟩⟩ (by show _ - _ < _; omega)
      · rcases hk with rfl | rfl
        · simp [ic83l0, hlt, hf, hii, hff, hsr]
          refine ⟨by unfold maxLen; omega, by unfold maxBytes; omega, by unfold maxLen; omega, by unfold maxBytes; omega, ?_⟩
          simp (disch := omega) only [wrap64]
          refine hK (i + 1, .own 26 ((movedN l f t (i + 1)).map sRow), [(26, ⟨121, 4, ((movedN l f t (i + 1)).map sRow).length⟩)]) _ (by simp [hM, hsr]) ⟨by omega, .inr ⟨26, by omega, rfl, rfl⟩⟩ (by show _ - _ < _; omega)
        · simp [ic83l0, hlt, hf, hii, hff, hsr]
          refine ⟨by unfold maxLen; omega, by unfold maxBytes; omega, by unfold maxLen; omega, by unfold maxBytes; omega, ?_⟩
          simp (disch := omega) only [wrap64]
          refine hK (i + 1, .own 37 ((movedN l f t (i + 1)).map sRow), [(37, ⟨121, 4, ((movedN l f t (i + 1)).map sRow).length⟩)]) _ (by simp [hM, hsr]) ⟨by omega, .inr ⟨37, by omega, rfl, rfl⟩⟩ (by show _ - _ < _; omega)
    · rw [if_neg hit] at hM
      have hii : ((i : Int) == (t : Int)) = false := beq_eq_false_iff_ne.2 (by omega)
      by_cases hif : i = f
      · rw [if_pos hif] at hM
        have hff : ((i : Int) == (f : Int)) = true := by rw [hif]; exact beq_self_eq_true _
        rcases hacc with ⟨h0, rfl, rfl⟩ | ⟨k, hk, rfl, rfl⟩
        · simp [ic83l0, hlt, hii, hff]
          simp (disch := omega) only [wrap64]
          refine hK (i + 1, .nil, []) _ (by simp) ⟨by omega, .inl ⟨by rw [hM, h0]; rfl, rfl, rfl⟩⟩ (by show _ - _ < _; omega)
        · rcases hk with rfl | rfl
          · simp [ic83l0, hlt, hii, hff]
            simp (disch := omega) only [wrap64]
            refine hK (i + 1, .own 26 ((movedN l f t (i + 1)).map sRow), [(26, ⟨121, 4, ((movedN l f t (i + 1)).map sRow).length⟩)]) _ (by simp [hM]) ⟨by omega, .inr ⟨26, by omega, rfl, rfl⟩⟩ (by show _ - _ < _; omega)
          · simp [ic83l0, hlt, hii, hff]
            simp (disch := omega) only [wrap64]
            refine hK (i + 1, .own 37 ((movedN l f t (i + 1)).map sRow), [(37, ⟨121, 4, ((movedN l f t (i + 1)).map sRow).length⟩)]) _ (by simp [hM]) ⟨by omega, .inr ⟨37, by omega, rfl, rfl⟩⟩ (by show _ - _ < _; omega)
      · rw [if_neg hif] at hM
        have hff : ((i : Int) == (f : Int)) = false := beq_eq_false_iff_ne.2 (by omega)
        rcases hacc with ⟨h0, rfl, rfl⟩ | ⟨k, hk, rfl, rfl⟩
        · simp [ic83l0, hlt, hii, hff, hsr]
          refine ⟨by unfold maxLen; omega, by unfold maxBytes; omega, ?_⟩
          simp (disch := omega) only [wrap64]
          refine hK (i + 1, .own 37 ((movedN l f t (i + 1)).map sRow), [(37, ⟨121, 4, ((movedN l f t (i + 1)).map sRow).length⟩)]) _ (by simp [hM, h0, hsr]) ⟨by omega, .inr ⟨37, by omega, rfl, rfl⟩⟩ (by show _ - _ < _; omega)
        · rcases hk with rfl | rfl
          · simp [ic83l0, hlt, hii, hff, hsr]
            refine ⟨by unfold maxLen; omega, by unfold maxBytes; omega, ?_⟩
            simp (disch := omega) only [wrap64]
            refine hK (i + 1, .own 26 ((movedN l f t (i + 1)).map sRow), [(26, ⟨121, 4, ((movedN l f t (i + 1)).map sRow).length⟩)]) _ (by simp [hM, hsr]) ⟨by omega, .inr ⟨26, by omega, rfl, rfl⟩⟩ (by show _ - _ < _; omega)
          · simp [ic83l0, hlt, hii, hff, hsr]
            refine ⟨by unfold maxLen; omega, by unfold maxBytes; omega, ?_⟩
            simp (disch := omega) only [wrap64]
            refine hK (i + 1, .own 37 ((movedN l f t (i + 1)).map sRow), [(37, ⟨121, 4, ((movedN l f t (i + 1)).map sRow).length⟩)]) _ (by simp [hM, hsr]) ⟨by omega, .inr ⟨37, by omega, rfl, rfl⟩⟩ (by show _ - _ < _; omega)
  · have hi2 : i = l.length := by omega
    subst hi2
    rcases hacc with ⟨h0, rfl, rfl⟩ | ⟨k, hk, rfl, rfl⟩
    · rw [h0]
      simp [ic83l0]
    · simp [ic83l0]
end Go.Proofs.YtiomojlcnemnhaaDoor

namespace Go.Proofs.YtiomojlcnemnhaaDoor
open Go.Fx Go.RowKit Go.Ped
abbrev stp1 : Stp := ⟨2, 1, 1, [[77]]⟩
abbrev stp2 : Stp := ⟨6, 0, 0, [[78]]⟩
theorem other_may : mayOf otherR [[88]] = 0 := by kernel_rfl
theorem other_make : makeOn otherR.body (-1) otherR.body.length (2 ^ otherR.body.length - 1) (learnOn [] [[88]]) = some [stp1, stp2] := by kernel_rfl
theorem other_right : rightB otherR [stp1, stp2] [[88]] = true := by kernel_rfl
theorem other_wrong : rightB otherR [stp1, stp2] [] = false := by kernel_rfl
theorem other_bare : otherR.bareR = otherR := by kernel_rfl
theorem ex_small_leaf (op : Int) (t : Tm) : (Ex.mk op t [] []).small 1048576 := Ex.small_mk.2 ⟨by simp, by simp⟩
theorem other_small : otherR.small 1048576 := by
  refine ⟨by simp [otherR], by simp [otherR], fun x hx => ?_⟩
  have hx' : x = setN ∨ x = atomE := by simpa [otherR] using hx
  rcases hx' with rfl | rfl
  · refine ⟨by simp [setN], ex_small_leaf _ _, Ex.small_mk.2 ⟨by simp, fun k hk => ?_⟩⟩
    have hk' : k = exT vM ∨ k = exT ⟨[], ⟨1, 1, []⟩⟩ := by simpa using hk
    rcases hk' with rfl | rfl <;> exact ex_small_leaf _ _
  · exact ⟨by simp [atomE], ex_small_leaf _ _, ex_small_leaf _ _⟩
theorem other_terms : otherR.terms.length ≤ 1048576 := by
  have h : otherR.terms.length = 10 := by kernel_rfl
  omega
theorem other_good : ¬ badFirst otherR (-1) := by
  rintro (h | h | ⟨h, _⟩)
  · omega
  · have h2 : otherR.body.length = 2 := rfl
    omega
  · omega
set_option maxRecDepth 100000 in
set_option maxHeartbeats 8000000 in
theorem m79 : Meets Tryd.prog GB 79 [] (.x (.one (cB true))) := by
  have h152 := m152 (G := GB)
  have h82 := m82 otherR [[88]] [] (-1) other_small other_terms (by show 1 + 2 ≤ _; omega) (by simp) _ (.inr (.inr ⟨other_may, other_good, _, other_make, rfl⟩))
  have h78 := m78 (G := GB) otherR ([stp1, stp2].map fun s => (s, [])) [] [[88]] [] other_small other_terms (by show 1 + 2 ≤ _; omega) (by simp) (by simp [maxLen])
  have h78' := m78 (G := GB) otherR ([stp1, stp2].map fun s => (s, [])) [] [] [] other_small other_terms (by show 0 + 2 ≤ _; omega) (by simp) (by simp [maxLen])
  rw [show (([stp1, stp2].map fun s => ((s, []) : Stp × Sp)).map (·.1)) = [stp1, stp2] from rfl, other_right] at h78
  rw [show (([stp1, stp2].map fun s => ((s, []) : Stp × Sp)).map (·.1)) = [stp1, stp2] from rfl, other_wrong] at h78'
  unfold madeRow at h82
  rw [other_bare] at h82
  have hrow : otherR.row = [cS (bs otherR.p), .sl (otherR.head.map Arg.row) otherR.hsp, .sl (otherR.body.map Lit.row) otherR.bsp] := rfl
  rw [hrow] at h152 h82
  unfold planRow at h82 h78 h78'
  generalize otherR = r at *
  have hs1 : (([stp1, stp2].map fun s => ((s, []) : Stp × Sp)).map srow) = [[cI .i8 2, cI .i64 1, cI .u32 1, .sl [nmRow [77]] []], [cI .i8 6, cI .i64 0, cI .u32 0, .sl [nmRow [78]] []]] := rfl
  rw [hs1] at h82 h78 h78'
  refine meets Tryd.func79 ie79 ig79 (Nat.le_of_ble_eq_true rfl) ?_
  simp [ic79, ir79]
  refine call_of h152 ?_
  simp
  refine call_of h82 ?_
  simp
  refine k_rowg (g := true) rfl rfl rfl (by simp) ?_
  simp
  refine call_of h78 ?_
  simp
  refine call_of h78' ?_
  simp
end Go.Proofs.YtiomojlcnemnhaaDoor

namespace Go.Proofs.YtiomojlcnemnhaaDoor
open Go.Fx Go.RowKit Go.Ped
variable {G : World → Prop}
end Go.Proofs.YtiomojlcnemnhaaDoor

namespace Go.Proofs.YtiomojlcnemnhaaDoor
open Go.Fx Go.RowKit Go.Ped
variable {G : World → Prop}
end Go.Proofs.YtiomojlcnemnhaaDoor

namespace Go.Proofs.YtiomojlcnemnhaaDoor
open Go.Fx Go.RowKit Go.Ped
variable {G : World → Prop}
end Go.Proofs.YtiomojlcnemnhaaDoor

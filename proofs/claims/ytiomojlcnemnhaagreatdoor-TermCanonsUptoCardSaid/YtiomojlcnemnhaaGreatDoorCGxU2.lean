import Derived.Test.YtiomojlcnemnhaaGreatDoorCFxZ
import Derived.Test.YtiomojlcnemnhaaGreatDoorProg
import Derived.KernelRfl
import Derived.Test.YtiomojlcnemnhaaGreatDoorCGxM3
import Derived.Test.YtiomojlcnemnhaaGreatDoorCGxN3
namespace Go.Proofs.YtiomojlcnemnhaaGreatDoor
open Go.Fx
abbrev ks100 (t1 t3 t13 t4 t5 t0 t18 t28 : T) (O : List (Nat × Box)) (U : List (Nat × Fx.Tok)) (H : FHp) : S := st [(1, t1), (3, t3), (13, t13), (4, t4), (5, t5), (0, t0), (18, t18), (28, t28)] O U H
def ic100l0 : IC :=
 (.seq
 (.seq
 (.region [] [] [1, 3, 13, 4, 5, 0, 18, 28] [⟨some 15, (.move (.t 5)), none, none⟩,⟨some 16, (.move (.t 0)), none, none⟩,⟨some 17, (.len (.t 16)), none, none⟩,⟨some 18, (.bin .lss (.t 15) (.t 17)), none, none⟩])
 (.cond (.t 18)
 .skip
 (.exit 0)))
 (.seq
 (.block 1
 (.seq
 (.region [] [] [1, 3, 13, 4, 5, 0, 18, 28] [⟨some 21, (.move (.t 0)), none, none⟩,⟨some 22, (.move (.t 5)), none, none⟩,⟨some 23, (.iaddr 5 (.t 21) (.t 22)), none, none⟩,⟨some 24, (.faddr 0 (.t 23)), none, none⟩,⟨some 25, (.load none (.t 24)), none, none⟩,⟨some 26, (.faddr 0 (.t 3)), none, none⟩,⟨some 27, (.load none (.t 26)), none, none⟩,⟨some 28, (.bin .eql (.t 25) (.t 27)), none, none⟩])
 (.cond (.t 28)
 (.seq
 (.region [] [] [1, 3, 13, 4, 5, 0, 18, 28] [⟨some 29, (.move (.t 0)), none, none⟩,⟨some 30, (.move (.t 5)), none, none⟩,⟨some 31, (.iaddr 5 (.t 29) (.t 30)), none, none⟩,⟨some 32, (.faddr 1 (.t 31)), none, none⟩,⟨some 33, (.load (some 4) (.t 32)), none, none⟩,⟨none, (.store (some 4) (.t 4) (.t 33)), none, none⟩])
 .ret)
 .skip)))
 (.region [] [] [1, 3, 13, 4, 5, 0, 18, 28] [⟨some 19, (.move (.t 5)), none, none⟩,⟨some 20, (.bin .add (.t 19) (.k (rI .i64 1))), none, none⟩,⟨some 5, (.move (.t 20)), none, none⟩])))
def ic100 : IC :=
 (.seq
 (.region [3, 4] [] [1, 3, 13, 4, 5, 0, 18, 28] [⟨some 3, (.box 73 (.t 1)), none, none⟩,⟨some 4, (.zero 73 [(.c (.v (.string (bs [])))), (.c (.v (.int .i8 0))), (.c (.v (.int .i64 0))), (.c (.v (.string (bs []))))]), none, none⟩])
 (.seq
 (.seq
 (.region [] [] [1, 3, 13, 4, 5, 0, 18, 28] [⟨some 6, (.faddr 0 (.t 3)), none, none⟩,⟨some 7, (.load none (.t 6)), none, none⟩,⟨some 8, (.bin .eql (.t 7) (.k (rS (bs [])))), none, none⟩,⟨some 9, (.move (.t 8)), none, none⟩,⟨some 10, (.faddr 0 (.t 3)), some (9, false), none⟩,⟨some 11, (.load none (.t 10)), some (9, false), none⟩,⟨some 12, (.bin .eql (.t 11) (.k (rS (bs [95])))), some (9, false), none⟩,⟨some 13, (.pick (.t 9) (.k (rB true)) (.t 12)), none, none⟩])
 (.cond (.t 13)
 (.seq
 (.region [] [] [1, 3, 13, 4, 5, 0, 18, 28] [⟨some 14, (.load (some 4) (.t 3)), none, none⟩,⟨none, (.store (some 4) (.t 4) (.t 14)), none, none⟩])
 .ret)
 .skip))
 (.seq
 (.seq
 (.region [] [] [1, 3, 13, 4, 5, 0, 18, 28] [⟨some 5, (.move (.k (rI .i64 0))), none, none⟩])
 (.block 0
 (.loop ic100l0)))
 (.seq
 (.region [] [] [1, 3, 13, 4, 5, 0, 18, 28] [⟨some 34, (.load (some 4) (.t 3)), none, none⟩,⟨none, (.store (some 4) (.t 4) (.t 34)), none, none⟩])
 .ret))))
def ir100 : List IRes := [.cell 4 (some 4)]
theorem ie100 : cmpFunc Go.Proofs.Tryz.prog ⟨[], []⟩ Go.Proofs.Tryz.f85 [1, 3, 13, 4, 5, 0, 18, 28] = some ic100 := by kernel_rfl
theorem ig100 : cmpRes Go.Proofs.Tryz.prog Go.Proofs.Tryz.f85.results.toList = some ir100 := by kernel_rfl
end Go.Proofs.YtiomojlcnemnhaaGreatDoor

namespace Go.Ped
def Way (c : List Pr) : Nat → Tm → Prop
  | 0, t => nextOf c t.v = none ∧ endOf c t = t
  | n + 1, t => ∃ u, nextOf c t.v = some u ∧ endOf c t = endOf c u ∧ Way c n u
theorem next_snoc (c : List Pr) (p : Pr) (w : Name) : nextOf (c ++ [p]) w = match nextOf c w with | some x => some x | none => if p.v = w then some p.t else none := by
  unfold nextOf
  rw [find_snoc]
  cases c.find? (·.v == w) with
  | some q => rfl
  | none => simp
theorem next_out {c : List Pr} {v : Name} (h : v ∉ keys c) : nextOf c v = none := by
  unfold nextOf; rw [find_out h]; rfl
theorem Good.way {c : List Pr} (h : Good c) : ∀ t, ∃ n, Way c n t := by
  induction h with
  | nil => exact fun t => ⟨0, rfl, rfl⟩
  | @snoc c v u h h1 h2 h3 h4 h5 h6 ih =>
    have key : ∀ n t, Way c n t → ∃ m, Way (c ++ [⟨v, u⟩]) m t := by
      intro n
      induction n with
      | zero =>
        intro t ⟨w1, w2⟩
        by_cases hv : v = t.v
        · refine ⟨1, u, ?_, ?_, ?_, ?_⟩
          · rw [next_snoc, w1]; simp [hv]
          · rw [endOf_snoc, endOf_snoc, w2, if_pos hv.symm, endOf_out h4, if_neg h5]
          · rw [next_snoc, next_out h4]; simp [Ne.symm h5]
          · rw [endOf_snoc, endOf_out h4, if_neg h5]
        · refine ⟨0, ?_, ?_⟩
          · rw [next_snoc, w1]; simp [hv]
          · rw [endOf_snoc, w2, if_neg (fun e => hv e.symm)]
      | succ n ihn =>
        intro t ⟨u', w1, w2, w3⟩
        obtain ⟨m, hm⟩ := ihn u' w3
        refine ⟨m + 1, u', ?_, ?_, hm⟩
        · rw [next_snoc, w1]
        · rw [endOf_snoc, endOf_snoc, w2]
    intro t
    obtain ⟨n, hn⟩ := ih t
    exact key n t hn
theorem Good.more {c : List Pr} (h : Good c) {a b : Tm} (ha : a.bare) (hb : b.bare) (h1 : (endOf c a).v ≠ us) (h3 : endOf c a ≠ endOf c b) (h0 : (endOf c a).v ≠ []) : Good (c ++ [⟨(endOf c a).v, endOf c b⟩]) := by
  refine .snoc h h0 h1 (h.end_out a) (h.end_out b) (fun e => h3 ?_) (h.end_bare hb)
  have ba := h.end_bare ha h0
  have bb := h.end_bare hb (by rw [e]; exact h0)
  generalize endOf c a = x at *
  generalize endOf c b = y at *
  obtain ⟨xv, xx⟩ := x
  obtain ⟨yv, yy⟩ := y
  simp only at *
  rw [e, ba, bb]
end Go.Ped

namespace Go.Proofs.YtiomojlcnemnhaaGreatDoor
open Go.Fx Go.RowKit Go.Ped
variable {G : World → Prop}
def nxRow (p : Pr) : List A := .c (cS (bs p.v)) :: p.t.row.map A.c
def _root_.Go.Ped.Pr.row (p : Pr) : List C := cS (bs p.v) :: p.t.row
abbrev zTm : List A := [.c (cS (bs [])), .c (cI .i8 0), .c (cI .i64 0), .c (cS (bs []))]
theorem nx_find (v : Name) (c : List Pr) : (c.map nxRow).find? (keyEq (.string (bs v))) = (c.find? (·.v == v)).map nxRow := by
  rw [List.find?_map]
  congr 2
  funext p
  simp [keyEq, nxRow]
theorem nx_any (v : Name) (c : List Pr) : (c.map nxRow).any (keyEq (.string (bs v))) = (nextOf c v).isSome := by
  unfold nextOf
  rw [Option.isSome_map, List.any_map, ← List.isSome_find?]
  congr 2
  funext p
  simp [keyEq, nxRow]
theorem nx_strike (ks : List Nat) (p : Pr) : strikeL ks (nxRow p) = nxRow p := by simp [nxRow]
theorem nx_strike' (ks : List Nat) : strikeL ks ∘ nxRow = nxRow := funext fun p => nx_strike ks p
end Go.Proofs.YtiomojlcnemnhaaGreatDoor

namespace Go.Proofs.YtiomojlcnemnhaaGreatDoor
open Go.Fx Go.RowKit Go.Ped
variable {G : World → Prop}
@[simp] theorem _root_.Go.Ped.Pr.row_length (p : Pr) : p.row.length = 5 := rfl
theorem m100 (s : List Pr) (t : Tm) (sp : List (List C)) (hl : s.length ≤ maxLen) : Meets Tryz.prog G 85 [.one (.sl (s.map Pr.row) sp), .agg t.row] (.x (.agg (putS s t).row)) := by
  refine meets Tryz.func85 ie100 ig100 (Nat.le_of_ble_eq_true rfl) ?_
  by_cases h0 : t.v = []
  · simp [ic100, ir100, Tm.row, h0, putS]
  by_cases h1 : t.v = [95]
  · simp [ic100, ir100, Tm.row, h1, putS, us]
  simp [ic100, ir100, Tm.row, h0, h1]
  let k : Nat → T → T → T → S := fun i t18 t28 t13 => ks100 (.k true (.x (.agg (t.row.map A.c)))) (.k true (.x (.one (.ref 3 0 0)))) t13 (.k true (.x (.one (.ref 4 0 0)))) (tI .i64 i) (.k true (.x (.one (.c (.sl (s.map Pr.row) sp))))) t18 t28
    [(4, ⟨73, 4, [zTm], none⟩), (3, ⟨73, 4, [t.row.map A.c], none⟩)] [] F0
  have hput : putS s t = ((s.find? (·.v == t.v)).map (·.t)).getD t := by
    unfold putS; rw [if_neg (by simp [h0, us, h1])]; cases s.find? (·.v == t.v) <;> rfl
  refine w_loopK (fun n σ => ∃ (i : Nat) (t18 t28 t13 : T), i + n = s.length ∧ s.find? (·.v == t.v) = (s.drop i).find? (·.v == t.v) ∧ σ = k i t18 t28 t13)
    s.length ⟨0, _, _, _, by simp, by simp, rfl⟩ ?_
  rintro n σ1 K hK ⟨i, t18, t28, t13, hi, hd, rfl⟩
  obtain hlt | hge := Nat.lt_or_ge i s.length
  · rw [List.drop_eq_getElem_cons hlt, List.find?_cons] at hd
    simp [k, ic100l0, hlt, wrap_next hlt (by unfold maxLen at hl; omega), Pr.row, Tm.row]
    refine ⟨fun h => ?_, fun h => ?_⟩
    · rw [hput, hd]; simp [h]
    · rw [show (s[i].v == t.v) = false by simp [h]] at hd
      exact hK _ (n - 1) (by omega) ⟨i + 1, _, _, _, by omega, hd, rfl⟩
  · rw [List.drop_eq_nil_of_le hge] at hd
    simp [k, ic100l0, Nat.not_lt.mpr hge]
    rw [hput, hd]; simp [Tm.row]
end Go.Proofs.YtiomojlcnemnhaaGreatDoor

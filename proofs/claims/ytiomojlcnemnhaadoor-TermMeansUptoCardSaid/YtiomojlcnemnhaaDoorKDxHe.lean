/- Contracts, on: an expression with its variables replaced; and what that is. -/
import Derived.Test.YtiomojlcnemnhaaDoorKDxHd
import Derived.Test.YtiomojlcnemnhaaDoorKDxIcH
import Derived.Test.YtiomojlcnemnhaaDoorKDxZ3
import Derived.Test.YtiomojlcnemnhaaDoorKDxIcQ
namespace Go.Proofs.YtiomojlcnemnhaaDoor
open Go.Fx Go.RowKit Go.Ped
variable {G : World → Prop}

mutual
/-- An expression with its variables replaced, in memory of its own. -/
def Ex.put (s : List Pr) : Ex → Ex
  | .mk op t kids _ => .mk op (putS s t) (exPuts s kids) []
def exPuts (s : List Pr) : List Ex → List Ex
  | [] => []
  | e :: l => e.put s :: exPuts s l
end
theorem exPuts_map (s : List Pr) : ∀ l : List Ex, exPuts s l = l.map (Ex.put s)
  | [] => rfl
  | e :: l => by rw [exPuts, exPuts_map s l]; rfl
theorem Ex.put_mk (s : List Pr) (op : Int) (t : Tm) (kids : List Ex) (sp : Sp) : (Ex.mk op t kids sp).put s = .mk op (putS s t) (kids.map (Ex.put s)) [] := by rw [Ex.put, exPuts_map]

theorem m27 (e : Ex) (hs : e.small 1048576) : Meets Tryd.prog G 27 [.agg e.row] (.x (.one (cI .i64 (if exOk 8 e then 0 else 40)))) := by
  refine meets Tryd.func27 ie27 ig27 (Nat.le_of_ble_eq_true rfl) ?_
  have h := m97 (G := G) 8 e hs (by omega)
  rw [Ex.row_eq] at h ⊢
  simp [ic27, ir27]
  refine call_of h ?_
  simp
  refine call_of (m90 _) ?_
  simp

/-- An assignment as pairs. -/
def asPr (t : Tm) : Pr := ⟨t.v, ⟨[], t.x⟩⟩
theorem m32 (l : List Tm) (sp : Sp) (hl : l.length ≤ 4194304) : Meets Tryd.prog G 32 [.one (.sl (l.map Tm.row) sp)] (.x (.one (.sl ((l.map asPr).map Pr.row) []))) := by
  refine meets Tryd.func32 ie32 ig32 (Nat.le_of_ble_eq_true rfl) ?_
  simp [ic32, ir32]
  refine w_loopA [.t 300 3 65 5] [24] [0, 3, 4] (by simp [ownKey])
    (fun a : Nat × List (List C) => st [(0, .k true (.x (.one (.c (.sl (l.map Tm.row) sp))))), (3, .k true (.x (.one (.own 300 a.2)))), (4, tI .i64 a.1)] [] [(300, ⟨65, 5, a.2.length⟩)] F0) (fun a => l.length - a.1)
    (fun a => a.1 ≤ l.length ∧ a.2 = ((l.take a.1).map asPr).map Pr.row) (0, []) (by simp; try rfl) (by simp) ?_
  rintro ⟨i, E⟩ K hK ⟨hi, hE⟩
  simp only at hi hE
  have hEl : E.length = i := by rw [hE]; simp; omega
  obtain hlt | hge := Nat.lt_or_ge i l.length
  · have hr : l[i].row = [cS (bs l[i].v), cI .i8 l[i].x.k, cI .i64 l[i].x.n, cS (bs l[i].x.s)] := rfl
    have hn : ((l.take (i + 1)).map asPr).map Pr.row = E ++ [[cS (bs l[i].v), cS (bs []), cI .i8 l[i].x.k, cI .i64 l[i].x.n, cS (bs l[i].x.s)]] := by
      rw [List.take_succ_eq_append_getElem hlt, List.map_append, List.map_append, ← hE]; rfl
    simp [ic32l0, hlt, hr]
    refine ⟨by rw [hEl]; unfold maxLen; omega, by rw [hEl]; unfold maxBytes; omega, ?_⟩
    simp (disch := omega) only [w64]
    exact hK (i + 1, E ++ [[cS (bs l[i].v), cS (bs []), cI .i8 l[i].x.k, cI .i64 l[i].x.n, cS (bs l[i].x.s)]]) _ (by simp; try rfl) ⟨by simp only; omega, hn.symm⟩ (by simp only; omega)
  · have hi2 : i = l.length := by omega
    subst hi2
    rw [List.take_length, List.map_map] at hE
    rw [← hE]
    simp [ic32l0]

set_option maxHeartbeats 1000000 in
theorem m31 (s : List Pr) (sq : Sp) (hs : s.length ≤ maxLen) : ∀ (e : Ex), e.small 1048576 → Meets Tryd.prog G 31 [.one (.sl (s.map Pr.row) sq), .agg e.row] (.x (.agg (e.put s).row)) := by
  refine Ex.ind fun op t kids sp ih hsm => ?_
  obtain ⟨hkl, hks⟩ := Ex.small_mk.1 hsm
  have hih := fun k hk => ih k hk (hks k hk)
  have h100 := m100 (G := G) s t sq hs
  rw [Ex.put_mk, Ex.row_mk, Ex.row_mk]
  have htr : t.row = [cS (bs t.v), cI .i8 t.x.k, cI .i64 t.x.n, cS (bs t.x.s)] := rfl
  rw [htr] at h100
  generalize putS s t = t' at h100 ⊢
  refine meets Tryd.func31 ie31 ig31 (Nat.le_of_ble_eq_true rfl) ?_
  simp [ic31, ir31]
  refine call_of h100 ?_
  simp [Tm.row]
  refine w_loopA [.o 300 5 5 47 6] [30] [0, 3, 4, 5, 6] (by simp [ownKey])
    (fun a : Nat × List (List C) => st [(0, .k true (.x (.one (.c (.sl (s.map Pr.row) sq))))), (3, .k true (.x (.one (.ref 3 0 0)))), (4, .k true (.x (.one (.ref 4 0 0)))), (5, .k true (.x (.one (.ref 5 0 0)))), (6, tI .i64 a.1)]
      [(5, ⟨47, 6, [[.c (cI .i8 op), .c (cS (bs t'.v)), .c (cI .i8 t'.x.k), .c (cI .i64 t'.x.n), .c (cS (bs t'.x.s)), .own 300 a.2]], none⟩), (4, ⟨47, 6, [[.c (cI .i8 0), .c (cS (bs [])), .c (cI .i8 0), .c (cI .i64 0), .c (cS (bs [])), .nil]], none⟩), (3, ⟨47, 6, [[.c (cI .i8 op), .c (cS (bs t.v)), .c (cI .i8 t.x.k), .c (cI .i64 t.x.n), .c (cS (bs t.x.s)), .c (.sl (kids.map Ex.row) sp)]], none⟩)] [(300, ⟨47, 6, a.2.length⟩)] F0) (fun a => kids.length - a.1)
    (fun a => a.1 ≤ kids.length ∧ a.2 = ((kids.take a.1).map (Ex.put s)).map Ex.row) (0, []) (by simp; try rfl) (by simp) ?_
  rintro ⟨i, E⟩ K hK ⟨hi, hE⟩
  simp only at hi hE
  have hEl : E.length = i := by rw [hE]; simp; omega
  obtain hlt | hge := Nat.lt_or_ge i kids.length
  · have hc := hih _ (List.getElem_mem hlt)
    obtain ⟨x1, x2, x3, x4, x5, x6, hx⟩ : ∃ x1 x2 x3 x4 x5 x6, kids[i].row = [x1, x2, x3, x4, x5, x6] := ⟨_, _, _, _, _, _, Ex.row_eq _⟩
    obtain ⟨y1, y2, y3, y4, y5, y6, hy⟩ : ∃ x1 x2 x3 x4 x5 x6, (kids[i].put s).row = [x1, x2, x3, x4, x5, x6] := ⟨_, _, _, _, _, _, Ex.row_eq _⟩
    rw [hx, hy] at hc
    have hn : ((kids.take (i + 1)).map (Ex.put s)).map Ex.row = E ++ [[y1, y2, y3, y4, y5, y6]] := by
      rw [List.take_succ_eq_append_getElem hlt, List.map_append, List.map_append, List.map_cons, List.map_nil, List.map_cons, List.map_nil, hy, ← hE]
    simp [ic31l0, hlt, hx]
    refine call_of hc ?_
    simp
    refine ⟨by rw [hEl]; unfold maxLen; omega, by rw [hEl]; unfold maxBytes; omega, ?_⟩
    simp (disch := omega) only [w64]
    exact hK (i + 1, E ++ [[y1, y2, y3, y4, y5, y6]]) _ (by simp; try rfl) ⟨by simp only; omega, hn.symm⟩ (by simp only; omega)
  · have hi2 : i = kids.length := by omega
    subst hi2
    rw [List.take_length, List.map_map] at hE
    rw [← hE]
    simp [ic31l0, Tm.row]
end Go.Proofs.YtiomojlcnemnhaaDoor

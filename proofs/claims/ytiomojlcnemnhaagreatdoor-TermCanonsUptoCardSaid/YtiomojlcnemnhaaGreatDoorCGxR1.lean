import Derived.Test.YtiomojlcnemnhaaGreatDoorCGxJa
import Derived.Test.YtiomojlcnemnhaaGreatDoorCGxIc3
namespace Go.Proofs.YtiomojlcnemnhaaGreatDoor
open Go.Fx Go.RowKit Go.Ped
variable {G : World → Prop}
theorem Ex.put_mapT (s : List Pr) : ∀ e : Ex, e.put s = e.mapT (putS s) := by
  refine Ex.ind fun op t kids sp ih => ?_
  rw [Ex.put_mk, Ex.mapT_mk]
  congr 1
  exact List.map_congr_left ih
theorem m2021 (s : List Pr) (ss : Sp) (p : Name) (l : List Tm) (sp : Sp) (hs : s.length ≤ maxLen) (hl : l.length ≤ 1048576) :
    Meets Tryz.prog G 21 [.one (.sl (s.map Pr.row) ss), .agg [cS (bs p), .sl (l.map Tm.row) sp]] (.x (.agg [cS (bs p), .sl ((l.map (putS s)).map Tm.row) []])) := by
  refine meets Tryz.func21 ie2021 ig2021 (Nat.le_of_ble_eq_true rfl) ?_
  generalize hF : (l.map (putS s)).map Tm.row = F
  simp [ic2021, ir2021]
  refine w_loopA [.o 300 5 1 73 4] [26, 27] [0, 3, 4, 5, 6] (by simp [ownKey])
    (fun a : Nat × List (List C) => st [(0, .k true (.x (.one (.c (.sl (s.map Pr.row) ss))))), (3, .k true (.x (.one (.ref 3 0 0)))), (4, .k true (.x (.one (.ref 4 0 0)))), (5, .k true (.x (.one (.ref 5 0 0)))), (6, tI .i64 a.1)]
      [(5, ⟨25, 2, [[.c (cS (bs p)), .own 300 a.2]], none⟩), (4, ⟨25, 2, [[.c (cS (bs [])), .nil]], none⟩), (3, ⟨25, 2, [[.c (cS (bs p)), .c (.sl (l.map Tm.row) sp)]], none⟩)] [(300, ⟨73, 4, a.2.length⟩)] F0) (fun a => l.length - a.1)
    (fun a => a.1 ≤ l.length ∧ a.2 = ((l.take a.1).map (putS s)).map Tm.row) (0, []) (by simp; try rfl) (by simp) ?_
  rintro ⟨i, E⟩ K hK ⟨hi, hE⟩
  simp only at hi hE
  have hEl : E.length = i := by rw [hE]; simp; omega
  obtain hlt | hge := Nat.lt_or_ge i l.length
  · have hr : l[i].row = [cS (bs l[i].v), cI .i8 l[i].x.k, cI .i64 l[i].x.n, cS (bs l[i].x.s)] := rfl
    have h100 := m100 (G := G) s l[i] ss hs
    have hn : ((l.take (i + 1)).map (putS s)).map Tm.row = E ++ [(putS s l[i]).row] := by
      rw [List.take_succ_eq_append_getElem hlt, List.map_append, List.map_append, ← hE]; rfl
    rw [hr] at h100
    generalize putS s l[i] = y at h100 hn
    have hry : y.row = [cS (bs y.v), cI .i8 y.x.k, cI .i64 y.x.n, cS (bs y.x.s)] := rfl
    rw [hry] at h100 hn
    simp [ic2021l0, hlt, hr]
    refine call_of h100 ?_
    simp
    refine ⟨by unfold maxLen; omega, by unfold maxBytes; omega, ?_⟩
    simp (disch := omega) only [wrap64]
    exact hK (i + 1, E ++ [[cS (bs y.v), cI .i8 y.x.k, cI .i64 y.x.n, cS (bs y.x.s)]]) _ (by simp; try rfl) ⟨by simp only; omega, hn.symm⟩ (by simp only; omega)
  · have hi2 : i = l.length := by omega
    subst hi2
    rw [List.take_length, hF] at hE
    subst hE
    simp [ic2021l0]
theorem m2177 (s : List Pr) (ss : Sp) (x : Lit) (hs : s.length ≤ maxLen) (hx : x.small 1048576) : Meets Tryz.prog G 177 [.one (.sl (s.map Pr.row) ss), .agg x.row] (.x (.agg (x.mapT (putS s)).row)) := by
  obtain ⟨h1, h2, h3⟩ := hx
  have a1 := m2021 (G := G) s ss x.p x.l x.sp hs h1
  have a2 := m31 (G := G) s ss hs x.left h2
  have a3 := m31 (G := G) s ss hs x.right h3
  rw [Ex.put_mapT] at a2 a3
  have hres : (x.mapT (putS s)).row = [cI .i8 x.kind, cS (bs x.p), .sl ((x.l.map (putS s)).map Tm.row) [], cI .i8 x.rel] ++ (x.left.mapT (putS s)).row ++ (x.right.mapT (putS s)).row := rfl
  rw [hres]
  generalize x.left.mapT (putS s) = le at *
  generalize x.right.mapT (putS s) = re at *
  generalize (x.l.map (putS s)).map Tm.row = tl at *
  refine meets Tryz.func177 ie2177 ig2177 (Nat.le_of_ble_eq_true rfl) ?_
  unfold Lit.row
  rw [Ex.row_eq x.left, Ex.row_eq x.right, Ex.row_eq le, Ex.row_eq re]
  rw [Ex.row_eq x.left, Ex.row_eq le] at a2
  rw [Ex.row_eq x.right, Ex.row_eq re] at a3
  simp (config := { maxSteps := 4000000 }) [ic2177, ir2177]
  refine call_of a1 ?_
  simp
  refine call_of a2 ?_
  simp
  refine call_of a3 ?_
  simp
theorem m2078 (s : List Pr) (ss : Sp) (r : Rule) (hs : s.length ≤ maxLen) (hr : r.small 1048576) : Meets Tryz.prog G 78 [.one (.sl (s.map Pr.row) ss), .agg r.row] (.x (.agg (r.mapT (putS s)).row)) := by
  obtain ⟨h1, h2, h3⟩ := hr
  have hres : (r.mapT (putS s)).row = [cS (bs r.p), .sl ((r.head.map (Arg.mapT (putS s))).map Arg.row) [], .sl ((r.body.map (Lit.mapT (putS s))).map Lit.row) []] := rfl
  rw [hres]
  generalize hF : (r.head.map (Arg.mapT (putS s))).map Arg.row = F
  generalize hF2 : (r.body.map (Lit.mapT (putS s))).map Lit.row = F2
  refine meets Tryz.func78 ie2078 ig2078 (Nat.le_of_ble_eq_true rfl) ?_
  simp [ic2078, ir2078]
  refine w_loopA [.o 300 5 1 137 5] [35, 36] [0, 3, 4, 5, 6] (by simp [ownKey])
    (fun a : Nat × List (List C) => st [(0, .k true (.x (.one (.c (.sl (s.map Pr.row) ss))))), (3, .k true (.x (.one (.ref 3 0 0)))), (4, .k true (.x (.one (.ref 4 0 0)))), (5, .k true (.x (.one (.ref 5 0 0)))), (6, tI .i64 a.1)]
      [(5, ⟨29, 3, [[.c (cS (bs r.p)), .own 300 a.2, .nil]], none⟩), (4, ⟨29, 3, [[.c (cS (bs [])), .nil, .nil]], none⟩), (3, ⟨29, 3, [r.row.map A.c], none⟩)] [(300, ⟨137, 5, a.2.length⟩)] F0) (fun a => r.head.length - a.1)
    (fun a => a.1 ≤ r.head.length ∧ a.2 = ((r.head.take a.1).map (Arg.mapT (putS s))).map Arg.row) (0, []) (by simp; try rfl) (by simp) ?_
  rintro ⟨i, E⟩ K hK ⟨hi, hE⟩
  simp only at hi hE
  have hEl : E.length = i := by rw [hE]; simp; omega
  obtain hlt | hge := Nat.lt_or_ge i r.head.length
  · have hr : r.head[i].row = [cI .i8 r.head[i].agg, cS (bs r.head[i].t.v), cI .i8 r.head[i].t.x.k, cI .i64 r.head[i].t.x.n, cS (bs r.head[i].t.x.s)] := rfl
    have h100 := m100 (G := G) s r.head[i].t ss hs
    have hn : ((r.head.take (i + 1)).map (Arg.mapT (putS s))).map Arg.row = E ++ [cI .i8 r.head[i].agg :: (putS s r.head[i].t).row] := by
      rw [List.take_succ_eq_append_getElem hlt, List.map_append, List.map_append, ← hE]; rfl
    rw [show r.head[i].t.row = [cS (bs r.head[i].t.v), cI .i8 r.head[i].t.x.k, cI .i64 r.head[i].t.x.n, cS (bs r.head[i].t.x.s)] from rfl] at h100
    generalize putS s r.head[i].t = y at h100 hn
    have hry : y.row = [cS (bs y.v), cI .i8 y.x.k, cI .i64 y.x.n, cS (bs y.x.s)] := rfl
    rw [hry] at h100 hn
    simp [ic2078l0, hlt, hr, Rule.row]
    refine call_of h100 ?_
    simp
    refine ⟨by unfold maxLen; omega, by unfold maxBytes; omega, ?_⟩
    simp (disch := omega) only [wrap64]
    exact hK (i + 1, E ++ [[cI .i8 r.head[i].agg, cS (bs y.v), cI .i8 y.x.k, cI .i64 y.x.n, cS (bs y.x.s)]]) _ (by simp [Rule.row]; try rfl) ⟨by simp only; omega, hn.symm⟩ (by simp only; omega)
  · have hi2 : i = r.head.length := by omega
    subst hi2
    rw [List.take_length, hF] at hE
    subst hE
    simp [ic2078l0, Rule.row]
    refine w_loopA [.o 301 5 2 107 16] [54, 55] [0, 3, 4, 5, 7] (by simp [ownKey])
      (fun a : Nat × List (List C) => st [(0, .k true (.x (.one (.c (.sl (s.map Pr.row) ss))))), (3, .k true (.x (.one (.ref 3 0 0)))), (4, .k true (.x (.one (.ref 4 0 0)))), (5, .k true (.x (.one (.ref 5 0 0)))), (7, tI .i64 a.1)]
        [(5, ⟨29, 3, [[.c (cS (bs r.p)), .own 300 E, .own 301 a.2]], none⟩), (4, ⟨29, 3, [[.c (cS (bs [])), .nil, .nil]], none⟩), (3, ⟨29, 3, [[.c (cS (bs r.p)), .c (.sl (r.head.map Arg.row) r.hsp), .c (.sl (r.body.map Lit.row) r.bsp)]], none⟩)] [(301, ⟨107, 16, a.2.length⟩), (300, ⟨137, 5, E.length⟩)] F0) (fun a => r.body.length - a.1)
      (fun a => a.1 ≤ r.body.length ∧ a.2 = ((r.body.take a.1).map (Lit.mapT (putS s))).map Lit.row) (0, []) (by simp; try rfl) (by simp) ?_
    rintro ⟨i, D⟩ K hK ⟨hi, hD⟩
    simp only at hi hD
    have hDl : D.length = i := by rw [hD]; simp; omega
    obtain hlt | hge := Nat.lt_or_ge i r.body.length
    · have hc := m2177 (G := G) s ss r.body[i] hs (h3 _ (List.getElem_mem hlt))
      have hn : ((r.body.take (i + 1)).map (Lit.mapT (putS s))).map Lit.row = D ++ [(r.body[i].mapT (putS s)).row] := by
        rw [List.take_succ_eq_append_getElem hlt, List.map_append, List.map_append, ← hD]; rfl
      have k1 : (r.body[i].row.map A.c).take 16 = r.body[i].row.map A.c := List.take_of_length_le (by simp)
      have hyl : (r.body[i].mapT (putS s)).row.length = 16 := Lit.row_length _
      generalize (r.body[i].mapT (putS s)).row = y at hc hn hyl
      simp [ic2078l1, hlt, k1]
      refine call_of hc ?_
      simp
      refine ⟨hyl, by unfold maxLen; omega, by unfold maxBytes; omega, ?_⟩
      simp (disch := omega) only [wrap64]
      exact hK (i + 1, D ++ [y]) _ (by simp [Rule.row]; try rfl) ⟨by simp only; omega, hn.symm⟩ (by simp only; omega)
    · have hi2 : i = r.body.length := by omega
      subst hi2
      rw [List.take_length, hF2] at hD
      subst hD
      simp [ic2078l1]
theorem Lit.mapT_tw (f : Tm → Tm) (x : Lit) : (Lit.tw x).mapT f = x.mapT f := by
  have he : ∀ e : Ex, (e.twin markE).mapT f = e.mapT f := Ex.ind fun op t kids sp ih => by
    rw [Ex.twin_mk, Ex.mapT_mk, Ex.mapT_mk, List.map_map]
    congr 1
    exact List.map_congr_left ih
  unfold Lit.mapT
  simp only [Lit.tw, Lit.twin, he]
theorem Rule.mapT_tw (f : Tm → Tm) (r : Rule) : r.tw.mapT f = r.mapT f := by
  unfold Rule.mapT
  simp only [Rule.tw, List.map_map]
  congr 1
  exact List.map_congr_left fun x _ => Lit.mapT_tw f x
end Go.Proofs.YtiomojlcnemnhaaGreatDoor

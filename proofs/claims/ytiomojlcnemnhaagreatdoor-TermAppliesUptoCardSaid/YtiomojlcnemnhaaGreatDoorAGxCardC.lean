import Derived.Test.YtiomojlcnemnhaaGreatDoorAGxJa
import Derived.Test.YtiomojlcnemnhaaGreatDoorAGxIc3
import Derived.Test.YtiomojlcnemnhaaGreatDoorAPedF
/- The law TermApplies. -/
namespace Go.Proofs.YtiomojlcnemnhaaGreatDoor
open Go.Fx Go.RowKit Go.Ped
variable {G : World → Prop}

theorem Ex.put_mapT (s : List Pr) : ∀ e : Ex, e.put s = e.mapT (putS s) := by
  refine Ex.ind fun op t kids sp ih => ?_
  rw [Ex.put_mk, Ex.mapT_mk]
  congr 1
  exact List.map_congr_left ih

theorem m2021 (s : List Pr) (ss : Sp) (p : Name) (l : List Tm) (sp : Sp) (hs : s.length ≤ maxLen) (hl : l.length ≤ 1048576) :
    Meets Tryz.prog G 21 [.one (.sl (s.map Pr.row) ss), .agg [cS (bs p), .sl (l.map Tm.row) sp]] (.x (.agg [cS (bs p), .sl ((l.map (putS s)).map Tm.row) []])) := by
  refine meets Tryz.func21 ie2021 ig2021 (Nat.le_of_ble_eq_true rfl) ?_
  generalize hF : (l.map (putS s)).map Tm.row = F
  simp [ic2021, ir2021]
  refine w_loopA [.o 300 5 1 73 4] [26, 27] [0, 3, 4, 5, 6] (by simp [ownKey])
    (fun a : Nat × List (List C) => st [(0, .k true (.x (.one (.c (.sl (s.map Pr.row) ss))))), (3, .k true (.x (.one (.ref 3 0 0)))), (4, .k true (.x (.one (.ref 4 0 0)))), (5, .k true (.x (.one (.ref 5 0 0)))), (6, tI .i64 a.1)]
      [(5, ⟨25, 2, [[.c (cS (bs p)), .own 300 a.2]], none⟩), (4, ⟨25, 2, [[.c (cS (bs [])), .nil]], none⟩), (3, ⟨25, 2, [[.c (cS (bs p)), .c (.sl (l.map Tm.row) sp)]], none⟩)] [(300, ⟨73, 4, a.2.length⟩)] F0) (fun a => l.length - a.1)
    (fun a => a.1 ≤ l.length ∧ a.2 = ((l.take a.1).map (putS s)).map Tm.row) (0, []) (by simp; try rfl) (by simp) ?_
  rintro ⟨i, E⟩ K hK ⟨hi, hE⟩
  simp only at hi hE
  have hEl : E.length = i := by rw [hE]; simp; omega
  obtain hlt | hge := Nat.lt_or_ge i l.length
  · have hr : l[i].row = [cS (bs l[i].v), cI .i8 l[i].x.k, cI .i64 l[i].x.n, cS (bs l[i].x.s)] := rfl
    have h100 := m100 (G := G) s l[i] ss hs
    have hn : ((l.take (i + 1)).map (putS s)).map Tm.row = E ++ [(putS s l[i]).row] := by
      rw [List.take_succ_eq_append_getElem hlt, List.map_append, List.map_append, ← hE]; rfl
    rw [hr] at h100
    generalize putS s l[i] = y at h100 hn
    have hry : y.row = [cS (bs y.v), cI .i8 y.x.k, cI .i64 y.x.n, cS (bs y.x.s)] := rfl
    rw [hry] at h100 hn
    simp [ic2021l0, hlt, hr]
    refine call_of h100 ?_
    simp
    refine ⟨by unfold maxLen; omega, by unfold maxBytes; omega, ?_⟩
    simp (disch := omega) only [wrap64]
    exact hK (i + 1, E ++ [[cS (bs y.v), cI .i8 y.x.k, cI .i64 y.x.n, cS (bs y.x.s)]]) _ (by simp; try rfl) ⟨by simp only; omega, hn.symm⟩ (by simp only; omega)
  · have hi2 : i = l.length := by omega
    subst hi2
    rw [List.take_length, hF] at hE
    subst hE
    simp [ic2021l0]

theorem m2177 (s : List Pr) (ss : Sp) (x : Lit) (hs : s.length ≤ maxLen) (hx : x.small 1048576) : Meets Tryz.prog G 177 [.one (.sl (s.map Pr.row) ss), .agg x.row] (.x (.agg (x.mapT (putS s)).row)) := by
  obtain ⟨h1, h2, h3⟩ := hx
  have a1 := m2021 (G := G) s ss x.p x.l x.sp hs h1
  have a2 := m31 (G := G) s ss hs x.left h2
  have a3 := m31 (G := G) s ss hs x.right h3
  rw [Ex.put_mapT] at a2 a3
  have hres : (x.mapT (putS s)).row = [cI .i8 x.kind, cS (bs x.p), .sl ((x.l.map (putS s)).map Tm.row) [], cI .i8 x.rel] ++ (x.left.mapT (putS s)).row ++ (x.right.mapT (putS s)).row := rfl
  rw [hres]
  generalize x.left.mapT (putS s) = le at *
  generalize x.right.mapT (putS s) = re at *
  generalize (x.l.map (putS s)).map Tm.row = tl at *
  refine meets Tryz.func177 ie2177 ig2177 (Nat.le_of_ble_eq_true rfl) ?_
  unfold Lit.row
  rw [Ex.row_eq x.left, Ex.row_eq x.right, Ex.row_eq le, Ex.row_eq re]
  rw [Ex.row_eq x.left, Ex.row_eq le] at a2
  rw [Ex.row_eq x.right, Ex.row_eq re] at a3
  simp (config := { maxSteps := 4000000 }) [ic2177, ir2177]
  refine call_of a1 ?_
  simp
  refine call_of a2 ?_
  simp
  refine call_of a3 ?_
  simp

theorem m2078 (s : List Pr) (ss : Sp) (r : Rule) (hs : s.length ≤ maxLen) (hr : r.small 1048576) : Meets Tryz.prog G 78 [.one (.sl (s.map Pr.row) ss), .agg r.row] (.x (.agg (r.mapT (putS s)).row)) := by
  obtain ⟨h1, h2, h3⟩ := hr
  have hres : (r.mapT (putS s)).row = [cS (bs r.p), .sl ((r.head.map (Arg.mapT (putS s))).map Arg.row) [], .sl ((r.body.map (Lit.mapT (putS s))).map Lit.row) []] := rfl
  rw [hres]
  generalize hF : (r.head.map (Arg.mapT (putS s))).map Arg.row = F
  generalize hF2 : (r.body.map (Lit.mapT (putS s))).map Lit.row = F2
  refine meets Tryz.func78 ie2078 ig2078 (Nat.le_of_ble_eq_true rfl) ?_
  simp [ic2078, ir2078]
  refine w_loopA [.o 300 5 1 137 5] [35, 36] [0, 3, 4, 5, 6] (by simp [ownKey])
    (fun a : Nat × List (List C) => st [(0, .k true (.x (.one (.c (.sl (s.map Pr.row) ss))))), (3, .k true (.x (.one (.ref 3 0 0)))), (4, .k true (.x (.one (.ref 4 0 0)))), (5, .k true (.x (.one (.ref 5 0 0)))), (6, tI .i64 a.1)]
      [(5, ⟨29, 3, [[.c (cS (bs r.p)), .own 300 a.2, .nil]], none⟩), (4, ⟨29, 3, [[.c (cS (bs [])), .nil, .nil]], none⟩), (3, ⟨29, 3, [r.row.map A.c], none⟩)] [(300, ⟨137, 5, a.2.length⟩)] F0) (fun a => r.head.length - a.1)
    (fun a => a.1 ≤ r.head.length ∧ a.2 = ((r.head.take a.1).map (Arg.mapT (putS s))).map Arg.row) (0, []) (by simp; try rfl) (by simp) ?_
  rintro ⟨i, E⟩ K hK ⟨hi, hE⟩
  simp only at hi hE
  have hEl : E.length = i := by rw [hE]; simp; omega
  obtain hlt | hge := Nat.lt_or_ge i r.head.length
  · have hr : r.head[i].row = [cI .i8 r.head[i].agg, cS (bs r.head[i].t.v), cI .i8 r.head[i].t.x.k, cI .i64 r.head[i].t.x.n, cS (bs r.head[i].t.x.s)] := rfl
    have h100 := m100 (G := G) s r.head[i].t ss hs
    have hn : ((r.head.take (i + 1)).map (Arg.mapT (putS s))).map Arg.row = E ++ [cI .i8 r.head[i].agg :: (putS s r.head[i].t).row] := by
      rw [List.take_succ_eq_append_getElem hlt, List.map_append, List.map_append, ← hE]; rfl
    rw [show r.head[i].t.row = [cS (bs r.head[i].t.v), cI .i8 r.head[i].t.x.k, cI .i64 r.head[i].t.x.n, cS (bs r.head[i].t.x.s)] from rfl] at h100
    generalize putS s r.head[i].t = y at h100 hn
    have hry : y.row = [cS (bs y.v), cI .i8 y.x.k, cI .i64 y.x.n, cS (bs y.x.s)] := rfl
    rw [hry] at h100 hn
    simp [ic2078l0, hlt, hr, Rule.row]
    refine call_of h100 ?_
    simp
    refine ⟨by unfold maxLen; omega, by unfold maxBytes; omega, ?_⟩
    simp (disch := omega) only [wrap64]
    exact hK (i + 1, E ++ [[cI .i8 r.head[i].agg, cS (bs y.v), cI .i8 y.x.k, cI .i64 y.x.n, cS (bs y.x.s)]]) _ (by simp [Rule.row]; try rfl) ⟨by simp only; omega, hn.symm⟩ (by simp only; omega)
  · have hi2 : i = r.head.length := by omega
    subst hi2
    rw [List.take_length, hF] at hE
    subst hE
    simp [ic2078l0, Rule.row]
    refine w_loopA [.o 301 5 2 107 16] [54, 55] [0, 3, 4, 5, 7] (by simp [ownKey])
      (fun a : Nat × List (List C) => st [(0, .k true (.x (.one (.c (.sl (s.map Pr.row) ss))))), (3, .k true (.x (.one (.ref 3 0 0)))), (4, .k true (.x (.one (.ref 4 0 0)))), (5, .k true (.x (.one (.ref 5 0 0)))), (7, tI .i64 a.1)]
        [(5, ⟨29, 3, [[.c (cS (bs r.p)), .own 300 E, .own 301 a.2]], none⟩), (4, ⟨29, 3, [[.c (cS (bs [])), .nil, .nil]], none⟩), (3, ⟨29, 3, [[.c (cS (bs r.p)), .c (.sl (r.head.map Arg.row) r.hsp), .c (.sl (r.body.map Lit.row) r.bsp)]], none⟩)] [(301, ⟨107, 16, a.2.length⟩), (300, ⟨137, 5, E.length⟩)] F0) (fun a => r.body.length - a.1)
      (fun a => a.1 ≤ r.body.length ∧ a.2 = ((r.body.take a.1).map (Lit.mapT (putS s))).map Lit.row) (0, []) (by simp; try rfl) (by simp) ?_
    rintro ⟨i, D⟩ K hK ⟨hi, hD⟩
    simp only at hi hD
    have hDl : D.length = i := by rw [hD]; simp; omega
    obtain hlt | hge := Nat.lt_or_ge i r.body.length
    · have hc := m2177 (G := G) s ss r.body[i] hs (h3 _ (List.getElem_mem hlt))
      have hn : ((r.body.take (i + 1)).map (Lit.mapT (putS s))).map Lit.row = D ++ [(r.body[i].mapT (putS s)).row] := by
        rw [List.take_succ_eq_append_getElem hlt, List.map_append, List.map_append, ← hD]; rfl
      have k1 : (r.body[i].row.map A.c).take 16 = r.body[i].row.map A.c := List.take_of_length_le (by simp)
      have hyl : (r.body[i].mapT (putS s)).row.length = 16 := Lit.row_length _
      generalize (r.body[i].mapT (putS s)).row = y at hc hn hyl
      simp [ic2078l1, hlt, k1]
      refine call_of hc ?_
      simp
      refine ⟨hyl, by unfold maxLen; omega, by unfold maxBytes; omega, ?_⟩
      simp (disch := omega) only [wrap64]
      exact hK (i + 1, D ++ [y]) _ (by simp [Rule.row]; try rfl) ⟨by simp only; omega, hn.symm⟩ (by simp only; omega)
    · have hi2 : i = r.body.length := by omega
      subst hi2
      rw [List.take_length, hF2] at hD
      subst hD
      simp [ic2078l1]

theorem m2017 (s : List Pr) (ss : Sp) (r : Rule) (hs : s.length ≤ maxLen) (hr : r.small 1048576) (hle : r.terms.length ≤ 1048576) : Meets Tryz.prog G 17 [.one (.sl (s.map Pr.row) ss), .agg r.row] (applyR (putS s) r) := by
  have a1 := m135 (G := G) r hr hle
  have a2 := m2078 (G := G) s ss r hs hr
  have a3 := m135 (G := G) (r.mapT (putS s)) (Rule.mapT_small _ hr) (by rw [Rule.mapT_terms, List.length_map]; exact hle)
  have hx1 : (r.mapT (putS s)).row = [cS (bs (r.mapT (putS s)).p), .sl ((r.mapT (putS s)).head.map Arg.row) (r.mapT (putS s)).hsp, .sl ((r.mapT (putS s)).body.map Lit.row) (r.mapT (putS s)).bsp] := rfl
  have hrow : r.row = [cS (bs r.p), .sl (r.head.map Arg.row) r.hsp, .sl (r.body.map Lit.row) r.bsp] := rfl
  unfold applyR
  refine meets Tryz.func17 ie2017 ig2017 (Nat.le_of_ble_eq_true rfl) ?_
  rw [hx1] at a2 a3 ⊢
  rw [hrow] at a1 a2 ⊢
  generalize (r.mapT (putS s)).p = n1 at *
  generalize (r.mapT (putS s)).head.map Arg.row = n2 at *
  generalize (r.mapT (putS s)).hsp = n3 at *
  generalize (r.mapT (putS s)).body.map Lit.row = n4 at *
  generalize (r.mapT (putS s)).bsp = n5 at *
  generalize ruleOk (r.mapT (putS s)) = ok2 at *
  generalize ruleOk r = ok at *
  cases ok with
  | false =>
    simp [ic2017, ir2017]
    refine call_of a1 ?_
    simp
  | true =>
    simp [ic2017, ir2017]
    refine call_of a1 ?_
    simp
    refine call_of a2 ?_
    simp
    refine call_of a3 ?_
    cases ok2 with
    | false => simp
    | true => simp

def prMark : Pr := ⟨markW 777777, ⟨[], zeroV⟩⟩
theorem prMark_row : prMark.row = [cS (bs (markW 777777)), cS (bs []), cI .i8 0, cI .i64 0, cS (bs [])] := rfl
theorem m2074 : Meets Tryz.prog GT 74 [.one (cI .i64 777777)] (.x (.agg prMark.row)) := by
  refine meets Tryz.func74 ie2074 ig2074 (Nat.le_of_ble_eq_true rfl) ?_
  simp [ic2074, ir2074]
  refine call_of m172' ?_
  simp [prMark_row]
theorem m2089 : Meets Tryz.prog GT 89 [.agg prMark.row, .one (cI .i64 777777)] (.x (.one (cB true))) := by
  refine meets Tryz.func89 ie2089 ig2089 (Nat.le_of_ble_eq_true rfl) ?_
  simp [ic2089, ir2089, prMark_row]
  refine call_of m172' ?_
  simp
theorem m43' (l : List Pr) (sp sq : Sp) (hl : l.length ≤ maxLen) : Meets Tryz.prog G 88 [.one (.sl (l.map Pr.row) sp), .one (.sl (l.map Pr.row) sq)] (.x (.one (cB true))) := by
  have := m43 (G := G) l l sp sq hl
  simpa using this
theorem m2014 (l : List Pr) (sp : Sp) (hl : l.length ≤ 1048576) : Meets Tryz.prog GT 14 [.one (.sl (l.map Pr.row) sp)] (.x (.one (.sl (l.map Pr.row) [prMark.row]))) :=
  twin_gen (x := prMark) encP Tryz.func14 ie2014 ig2014 (Nat.le_of_ble_eq_true rfl) rfl (by omega) m2074 l sp hl
theorem m2023 (l : List Pr) (sp : Sp) (hl : l.length ≤ 1048576) : Meets Tryz.prog GT 23 [.one (.sl (l.map Pr.row) [prMark.row]), .one (.sl (l.map Pr.row) sp)] (.x (.one (cB true))) :=
  left_gen (x := prMark) encP Tryz.func23 ie2023 ig2023 (Nat.le_of_ble_eq_true rfl) l sp hl (m43' l [prMark.row] sp (by unfold maxLen; omega)) m2089

theorem Lit.mapT_tw (f : Tm → Tm) (x : Lit) : (Lit.tw x).mapT f = x.mapT f := by
  have he : ∀ e : Ex, (e.twin markE).mapT f = e.mapT f := Ex.ind fun op t kids sp ih => by
    rw [Ex.twin_mk, Ex.mapT_mk, Ex.mapT_mk, List.map_map]
    congr 1
    exact List.map_congr_left ih
  unfold Lit.mapT
  simp only [Lit.tw, Lit.twin, he]
theorem Rule.mapT_tw (f : Tm → Tm) (r : Rule) : r.tw.mapT f = r.mapT f := by
  unfold Rule.mapT
  simp only [Rule.tw, List.map_map]
  congr 1
  exact List.map_congr_left fun x _ => Lit.mapT_tw f x
theorem applyR_tw (f : Tm → Tm) (r : Rule) : applyR f r.tw = applyR f r := by
  unfold applyR
  rw [Rule.mapT_tw, ruleOk_tw]

theorem m2003 (s : List Pr) (ss : Sp) (p : Name) (l : List Tm) (sp : Sp) (r : Rule) (hs : s.length ≤ 1048576) (hl : l.length ≤ 1048576) (hr : r.small 1048576) (hle : r.terms.length ≤ 1048576) :
    Meets Tryz.prog GT 3 [.one (.sl (s.map Pr.row) ss), .agg [cS (bs p), .sl (l.map Tm.row) sp], .agg r.row] (.x (.one (cB true))) := by
  have a1 := m62 (G := GT) r hr
  generalize decide (ruleParts r 1048576 > 1048576) = big at a1
  have a2 := m2014 s ss hs
  have a3 := m37 p l sp hl
  have a4 := m63 r hr
  have a5 := m2017 (G := GT) s ss r (by unfold maxLen; omega) hr hle
  have hsT := Rule.small_tw hr
  have hleT : r.tw.terms.length ≤ 1048576 := by rw [Rule.terms_tw]; exact hle
  have a6 := m54 (G := GT) s [prMark.row] p l [markT.row] (by unfold maxLen; omega) hl
  have a7 := m71 (G := GT) s [prMark.row] r.tw (by unfold maxLen; omega) hsT (by omega)
  have a8 := m2021 (G := GT) s ss p l sp (by unfold maxLen; omega) hl
  have a9 := m55 (G := GT) p p (l.map (putS s)) (l.map (putS s)) [] [] (by rw [List.length_map]; unfold maxLen; omega)
  simp only [BEq.rfl, decide_true, Bool.and_true] at a9
  have b1 := m2023 s ss hs
  have b2 := m40 p l sp hl
  have b3 := m70 r hr
  rw [putP_fun] at a6
  rw [applyR_tw] at a7
  have hz : Meets Tryz.prog GT 22 [.agg zeroRule, .agg zeroRule] (.x (.one (cB true))) := m72 (G := GT) ⟨[], [], [], [], []⟩ ⟨by simp, by simp, by simp⟩
  have b4 := m72 (G := GT) (r.mapT (putS s)) (Rule.mapT_small _ hr)
  unfold applyR at a5 a7
  have hx1 : (r.mapT (putS s)).row = [cS (bs (r.mapT (putS s)).p), .sl ((r.mapT (putS s)).head.map Arg.row) (r.mapT (putS s)).hsp, .sl ((r.mapT (putS s)).body.map Lit.row) (r.mapT (putS s)).bsp] := rfl
  have hrow : r.row = [cS (bs r.p), .sl (r.head.map Arg.row) r.hsp, .sl (r.body.map Lit.row) r.bsp] := rfl
  have hrowT : r.tw.row = [cS (bs r.tw.p), .sl (r.tw.head.map Arg.row) r.tw.hsp, .sl (r.tw.body.map Lit.row) r.tw.bsp] := rfl
  rw [hx1] at a5 a7 b4
  rw [hrowT] at a4 a7 b3
  rw [hrow] at a1 a4 a5 b3 ⊢
  generalize r.tw.p = t1 at *
  generalize r.tw.head.map Arg.row = t2 at *
  generalize r.tw.hsp = t3 at *
  generalize r.tw.body.map Lit.row = t4 at *
  generalize r.tw.bsp = t5 at *
  generalize (r.mapT (putS s)).p = n1 at *
  generalize (r.mapT (putS s)).head.map Arg.row = n2 at *
  generalize (r.mapT (putS s)).hsp = n3 at *
  generalize (r.mapT (putS s)).body.map Lit.row = n4 at *
  generalize (r.mapT (putS s)).bsp = n5 at *
  generalize l.map (putS s) = l2 at *
  refine meets Tryz.func3 ie2003 ig2003 (Nat.le_of_ble_eq_true rfl) ?_
  simp [ic2003, ir2003]
  refine call_of a1 ?_
  cases big with
  | true => simp
  | false =>
  simp
  refine call_of a2 ?_
  simp
  refine call_of a3 ?_
  simp
  refine call_of a4 ?_
  simp
  by_cases hc : ruleOk r = true ∧ ruleOk (r.mapT (putS s)) = true
  · rw [if_pos hc] at a5 a7
    refine call_of a5 ?_
    simp
    refine call_of a6 ?_
    simp
    refine call_of a7 ?_
    simp
    refine call_of a8 ?_
    simp
    refine call_of a9 ?_
    simp
    refine call_of b4 ?_
    simp
    refine call_of b1 ?_
    simp
    refine call_of b2 ?_
    simp
    refine call_of b3 ?_
    simp
  · rw [if_neg hc] at a5 a7
    refine call_of a5 ?_
    simp
    refine call_of a6 ?_
    simp
    refine call_of a7 ?_
    simp
    refine call_of a8 ?_
    simp
    refine call_of a9 ?_
    simp
    refine call_of hz ?_
    simp
    refine call_of b1 ?_
    simp
    refine call_of b2 ?_
    simp
    refine call_of b3 ?_
    simp
end Go.Proofs.YtiomojlcnemnhaaGreatDoor

/- What the rows of TermApplies and its kin open: pairs. -/
namespace Go.Proofs.YtiomojlcnemnhaaGreatDoor
open Go.Fx Go.RowKit Go.Ped

theorem ty_pr {cs : List C} (h : Typed Tryz.prog 76 cs) : ∃ p : Pr, cs = p.row := by
  obtain ⟨a, r, rfl, ha, b, r', rfl, hb, hr⟩ := h.asStruct Tryz.underlying76
  cases hr
  obtain ⟨v, rfl⟩ := ty_str ha
  obtain ⟨t, rfl⟩ := ty_tm hb
  exact ⟨⟨v, t⟩, rfl⟩
theorem ty_prs {cs : List C} (h : Typed Tryz.prog 22 cs) : ∃ (l : List Pr) (sp : Sp), cs = [.sl (l.map Pr.row) sp] := by
  obtain ⟨es, sp, rfl, hes, _⟩ := h.asSlice Tryz.underlying22
  obtain ⟨l, rfl⟩ := list_of (row := Pr.row) (es := es) fun x hx => ty_pr (hes x (List.mem_append_left _ hx))
  exact ⟨l, sp, rfl⟩
theorem pr_bulk (p : Pr) : 1 ≤ rowBulk p.row := by simp only [Pr.row, rowBulk, C.bulk]; omega
theorem not_aggPrs : ¬ isAggTy Tryz.prog 22 := by
  rintro (⟨fs, h⟩ | ⟨n, e, h⟩) <;> rw [Tryz.underlying22] at h <;> cases h
end Go.Proofs.YtiomojlcnemnhaaGreatDoor

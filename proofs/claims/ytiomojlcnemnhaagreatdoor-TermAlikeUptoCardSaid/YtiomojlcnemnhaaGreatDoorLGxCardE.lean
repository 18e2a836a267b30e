import Derived.Test.YtiomojlcnemnhaaGreatDoorLGxW4
import Derived.Test.YtiomojlcnemnhaaGreatDoorLGxRc
import Derived.Test.YtiomojlcnemnhaaGreatDoorLGxIc9
namespace Go.Proofs.YtiomojlcnemnhaaGreatDoor
open Go.Fx Go.RowKit Go.Ped
variable {G : World → Prop}
abbrev lvT : List Tm := [⟨[88], zeroV⟩, ⟨[95], zeroV⟩, ⟨[], ⟨1, 5, []⟩⟩]
abbrev lvA : List Val := [⟨1, 1, []⟩, ⟨1, 2, []⟩, ⟨1, 5, []⟩]
abbrev lvB : List Val := [⟨1, 1, []⟩, ⟨1, 2, []⟩, ⟨1, 6, []⟩]
theorem lv_match : matchOf [112] lvT [112] lvA = some [bX] := by kernel_rfl
theorem lv_no : matchOf [112] lvT [112] lvB = none := by kernel_rfl
theorem lv_ok : atomOk [112] lvT = true := by kernel_rfl
theorem v21 : MeetsV Tryz.prog G (fnA 138) [.agg [.c (cS (bs [112])), .c (.sl (lvT.map Tm.row) [])], .agg [.c (cS (bs [112])), .arr 17 0 3 3]] (hp [(17, bxV lvA)] [] F0) (.tup [.one (.c (.sl [bX.row] [])), .one (.c (cB true))]) (hp [(17, bxV lvA)] [] F0) := by
  have h := (MeetsV.of_fun (w21 (G := G) [112] [112] lvT lvA [] (by decide))).ren (π := swR 10005 17)
  rw [lv_match] at h
  simp [swF, matchR, CR.open, CX.open, Tm.row, Val.row, zeroV] at h
  exact h
theorem m19 : Meets Tryz.prog GK 45 [] (.x (.one (cB true))) := by
  have h21 := m21 (G := GK) [112] [112] lvT lvB [] [] (by decide)
  rw [lv_no] at h21
  have h44 := m44 (G := GK) [112] lvT [] (by decide)
  rw [lv_ok, if_pos rfl] at h44
  refine meets Tryz.func45 ie19 ig19 (Nat.le_of_ble_eq_true rfl) ?_
  simp [ic19, ir19]
  refine call_of (m87 [88]) ?_
  simp
  refine call_of (m87 [95]) ?_
  simp
  refine call_of (m88 5) ?_
  simp
  refine call_of (m89 1) ?_
  simp
  refine call_of (m89 2) ?_
  simp
  refine call_of (m89 5) ?_
  simp
  refine k_rowb (es := [nmR 1, nmR 2, nmR 5]) rfl rfl (by simp) (by simp) ?_
  simp
  refine r_callN [17] _ _ [(17, bxV lvA)] [] _ [(17, bxV lvA)] [] v21 rfl rfl rfl (by simp [X.fits, A.fits, fitsL, Tm.row, zeroV]) (by simp [Val.row]) (by simp) ?_
  simp
  refine call_of (m89 6) ?_
  simp [Val.row]
  simp [freeze_st, fzL, freezeO, maxLen, closeL, A.close]
  refine call_of h21 ?_
  simp [matchR]
  refine call_of (m87 [88]) ?_
  simp
  refine call_of (m88 2) ?_
  simp
  refine call_of (m26a []) ?_
  simp
  refine call_of (m89 3) ?_
  simp
  refine call_of h44 ?_
  simp
end Go.Proofs.YtiomojlcnemnhaaGreatDoor

namespace Go.Proofs.YtiomojlcnemnhaaGreatDoor
open Go.Fx Go.RowKit Go.Ped
variable {G : World → Prop}
def renC (n : Nat) (b : Int) : Nat := (b.tmod n + n).toNat
theorem renC_eq {n : Nat} (hn : 0 < n) (b : Int) : (renC n b : Int) = b.tmod n + n ∧ renC n b < 2 * n := by
  have h1 : b.tmod n < n := Int.tmod_lt_of_pos b (by omega)
  have h2 : -(n : Int) < b.tmod n := Int.lt_tmod_of_pos b (by omega)
  unfold renC
  omega
theorem m2047 (r : Rule) (b : Int) (hs : r.small 1048576) (hle : r.terms.length ≤ 1048576) : Meets Tryz.prog G 47 [.agg r.row, .one (cI .i64 b)] (.x (.one (.sl ((renS (varsOf r.terms) (renC (varsOf r.terms).length b)).map Pr.row) []))) := by
  have hvl : (varsOf r.terms).length ≤ 1048576 := by
    have h2 := varsOn_length (r.terms.map Tm.v) []
    simp only [List.length_nil, List.length_map, Nat.zero_add] at h2
    exact Nat.le_trans h2 hle
  have h69 : Meets Tryz.prog G 48 [.agg r.row] (.x (.one (.sl ((varsOf r.terms).map nmRow) []))) := m69 (G := G) r hs hle
  have hrow : r.row = [cS (bs r.p), .sl (r.head.map Arg.row) r.hsp, .sl (r.body.map Lit.row) r.bsp] := rfl
  have hnd := vars_nodup r.terms
  generalize varsOf r.terms = vs at *
  rw [hrow] at h69 ⊢
  refine meets Tryz.func47 ie2047 ig2047 (Nat.le_of_ble_eq_true rfl) ?_
  generalize hF : (renS vs (renC vs.length b)).map Pr.row = F
  simp [ic2047, ir2047]
  refine call_of h69 ?_
  simp
  refine w_loopA [.t 300 6 76 5] [43, 44] [1, 2, 4, 5, 6, 7] (by simp [ownKey])
    (fun i : Nat × List (List C) => st [(1, tI .i64 b), (2, .k true (.x (.one (.ref 2 0 0)))), (4, .k true (.x (.one .nil))), (5, .k true (.x (.one (.c (.sl (vs.map nmRow) []))))), (6, .k true (.x (.one (.own 300 i.2)))), (7, tI .i64 i.1)]
      [(2, ⟨29, 3, [[.c (cS (bs r.p)), .c (.sl (r.head.map Arg.row) r.hsp), .c (.sl (r.body.map Lit.row) r.bsp)]], none⟩)] [(300, ⟨76, 5, i.2.length⟩)] F0) (fun i => vs.length - i.1)
    (fun i => i.1 ≤ vs.length ∧ i.2 = ((renS vs (renC vs.length b)).take i.1).map Pr.row) (0, []) (by simp; try rfl) (by simp) ?_
  rintro ⟨i, E⟩ K hK ⟨hi, hE⟩
  simp only at hi hE
  have hEl : E.length = i := by rw [hE, List.length_map, List.length_take]; simp only [renS, List.length_map]; omega
  obtain hlt | hge := Nat.lt_or_ge i vs.length
  · obtain ⟨hc1, hc2⟩ := renC_eq (n := vs.length) (by omega) b
    generalize renC vs.length b = c at *
    have e1 : (i : Int).tmod vs.length = i := Int.tmod_eq_of_lt (by omega) (by omega)
    have e2 : b.tmod vs.length = (c : Int) - vs.length := by omega
    obtain ⟨k, hk0, hk⟩ : ∃ k, (i + c) % vs.length = k ∧ k < vs.length := ⟨_, rfl, Nat.mod_lt _ (by omega)⟩
    have ek : (IntKind.i64.wrap (IntKind.i64.wrap ((i : Int).tmod vs.length + b.tmod vs.length) + vs.length)).tmod vs.length = (k : Int) := by
      rw [e1, e2]
      simp (disch := omega) only [wrap64]
      rw [show (i : Int) + (c - vs.length) + vs.length = ((i + c : Nat) : Int) by omega, Int.tmod_eq_emod_of_nonneg (by omega), ← hk0]
      rfl
    have hne : ¬ vs = [] := by rintro rfl; simp at hlt
    have hnext : ((renS vs c).take (i + 1)).map Pr.row = E ++ [[cS (bs vs[i]), cS (bs vs[k]), cI .i8 0, cI .i64 0, cS (bs [])]] := by
      rw [List.take_succ_eq_append_getElem (by unfold renS; rw [List.length_map]; exact hlt), List.map_append, ← hE]
      unfold renS
      rw [List.getElem_map]
      have hidx : vs.idxOf vs[i] = i := nodup_inj hnd (List.idxOf_lt_length_iff.2 (List.getElem_mem hlt)) hlt (List.getElem_idxOf _)
      have hg : renG vs c vs[i] = vs[k] := by
        unfold renG
        rw [hidx, hk0, List.getD_eq_getElem?_getD, List.getElem?_eq_getElem hk, Option.getD_some]
      rw [hg]
      rfl
    simp [ic2047l0, hlt, hk, ek, hne]
    refine call_of (m87 vs[k]) ?_
    simp
    refine ⟨by unfold maxLen; omega, by unfold maxBytes; omega, ?_⟩
    simp (disch := omega) only [wrap64]
    exact hK (i + 1, _) _ (by simp; try rfl) ⟨by simp only; omega, hnext.symm⟩ (by simp only; omega)
  · have hi2 : i = vs.length := by omega
    subst hi2
    rw [List.take_of_length_le (by unfold renS; rw [List.length_map]; exact Nat.le_refl _), hF] at hE
    subst hE
    simp [ic2047l0]
abbrev GE : World → Prop := fun w => GT w ∧ GK w
theorem Meets.of_imp {P : Program} {G G' : World → Prop} {f : FuncId} {cs : List CX} {res : CR} (hi : ∀ w, G' w → G w) (h : Meets P G f cs res) : Meets P G' f cs res :=
  ⟨h.1, fun w V vs hG hV ha => h.2 w V vs (fun w' hb => hi w' (hG w' hb)) hV ha⟩
theorem toT {f : FuncId} {cs : List CX} {res : CR} (h : Meets Tryz.prog GT f cs res) : Meets Tryz.prog GE f cs res := Meets.of_imp (fun _ h => h.1) h
theorem toK {f : FuncId} {cs : List CX} {res : CR} (h : Meets Tryz.prog GK f cs res) : Meets Tryz.prog GE f cs res := Meets.of_imp (fun _ h => h.2) h
set_option maxHeartbeats 4000000 in
theorem m2008 (r : Rule) (b : Int) (hr : r.small 1048576) (hle : r.terms.length ≤ 1048576) : Meets Tryz.prog GE 8 [.agg r.row, .one (cI .i64 b)] (.x (.one (cB true))) := by
  have a1 := m62 (G := GE) r hr
  generalize decide (ruleParts r 1048576 > 1048576) = big at a1
  have a2 : Meets Tryz.prog GE 45 [] (.x (.one (cB true))) := toK m19
  have a3 := toT (m2032 r hr hle)
  have a4 := m67 (G := GE) r hr hle
  have a5 := toT (m2033 r r hr hr hle hle)
  have hrow : r.row = [cS (bs r.p), .sl (r.head.map Arg.row) r.hsp, .sl (r.body.map Lit.row) r.bsp] := rfl
  by_cases hno : ruleOk r = false
  · have hok : ¬ ruleOk r = true := by rw [hno]; exact Bool.noConfusion
    rw [canonR_no r hok] at a3
    have hf : alikeB r r = false := by unfold alikeB; simp [hok]
    rw [hf] at a5
    rw [hno] at a4
    rw [hrow] at a1 a3 a4 a5 ⊢
    refine meets Tryz.func8 ie2008 ig2008 (Nat.le_of_ble_eq_true rfl) ?_
    simp [ic2008, ir2008]
    refine call_of a1 ?_
    cases big with
    | true => simp
    | false =>
    simp
    refine call_of a2 ?_
    simp
    refine call_of a3 ?_
    simp
    refine call_of a4 ?_
    simp
    refine call_of a5 ?_
    simp
  have hok : ruleOk r = true := by simpa using hno
  have lc : (canon r).terms.length ≤ 1048576 := by rw [canon_terms_len]; exact hle
  have sc := canon_small hr
  have okc := canon_ok hok
  have cc := canon_canon hok
  have a6 := toT (m2032 (canon r) sc lc)
  have a7 := m72 (G := GE) (canon r) sc
  have b1 := toT (m2033 r (canon r) hr sc hle lc)
  have b2 := toT (m2033 (canon r) r sc hr lc hle)
  rw [alike_self hok hok rfl] at a5
  rw [alike_self hok okc cc.symm] at b1
  rw [alike_self okc hok cc] at b2
  have c1 := m2047 (G := GE) r b hr hle
  have c2 := m71 (G := GE) (renS (varsOf r.terms) (renC (varsOf r.terms).length b)) [] r (by unfold renS; rw [List.length_map]; have := vars_le hok; unfold maxLen; omega) hr (by omega)
  have ok1 := perm_ok hok (renC (varsOf r.terms).length b)
  have can1 := canon_perm hok (renC (varsOf r.terms).length b)
  generalize renS (varsOf r.terms) (renC (varsOf r.terms).length b) = rs at *
  have s1 : (r.mapT (putS rs)).small 1048576 := Rule.mapT_small _ hr
  have l1 : (r.mapT (putS rs)).terms.length ≤ 1048576 := by rw [Rule.mapT_terms, List.length_map]; exact hle
  have c3 := toT (m2033 (r.mapT (putS rs)) r s1 hr l1 hle)
  have c4 := toT (m2033 r (r.mapT (putS rs)) hr s1 hle l1)
  rw [alike_self ok1 hok can1] at c3
  rw [alike_self hok ok1 can1.symm] at c4
  unfold applyR at c2
  rw [if_pos ⟨hok, ok1⟩] at c2
  have d1 : Meets Tryz.prog GE 48 [.agg r.row] (.x (.one (.sl ((varsOf r.terms).map nmRow) []))) := m69 (G := GE) r hr hle
  have hx0 : (canon r).row = [cS (bs (canon r).p), .sl ((canon r).head.map Arg.row) [], .sl ((canon r).body.map Lit.row) []] := rfl
  have hx1 : (r.mapT (putS rs)).row = [cS (bs (r.mapT (putS rs)).p), .sl ((r.mapT (putS rs)).head.map Arg.row) [], .sl ((r.mapT (putS rs)).body.map Lit.row) []] := rfl
  rw [canonR_row r hok] at a3
  rw [canonR_row (canon r) okc, cc] at a6
  rw [hok] at a4
  rw [hx0] at a6 a7 b1 b2
  rw [hx1] at c2 c3 c4
  by_cases hn : (varsOf r.terms).length < 2
  · generalize varsOf r.terms = vs at *
    rw [hrow] at a1 a3 a4 a5 b1 b2 c1 c2 c3 c4 d1 ⊢
    generalize (canon r).p = n1 at *
    generalize (canon r).head.map Arg.row = n2 at *
    generalize (canon r).body.map Lit.row = n4 at *
    generalize (r.mapT (putS rs)).p = u1 at *
    generalize (r.mapT (putS rs)).head.map Arg.row = u2 at *
    generalize (r.mapT (putS rs)).body.map Lit.row = u4 at *
    refine meets Tryz.func8 ie2008 ig2008 (Nat.le_of_ble_eq_true rfl) ?_
    simp [ic2008, ir2008]
    refine call_of a1 ?_
    cases big with
    | true => simp
    | false =>
    simp
    refine call_of a2 ?_
    simp
    refine call_of a3 ?_
    simp
    refine call_of a4 ?_
    simp
    refine call_of a6 ?_
    simp
    refine call_of a7 ?_
    simp
    refine call_of a5 ?_
    simp
    refine call_of b1 ?_
    simp
    refine call_of b2 ?_
    simp
    refine call_of c1 ?_
    simp
    refine call_of c2 ?_
    simp
    refine call_of c3 ?_
    simp
    refine call_of c4 ?_
    simp
    refine call_of d1 ?_
    have hn2 : (vs.length : Int) < 2 := by omega
    simp [hn2]
  · have hvn := vars_nodup r.terms
    obtain ⟨u, hk1⟩ : ∃ u, (varsOf r.terms)[(varsOf r.terms).length - 1]? = some u := ⟨_, List.getElem?_eq_getElem (by omega)⟩
    obtain ⟨w, hk2⟩ : ∃ w, (varsOf r.terms)[0]? = some w := ⟨_, List.getElem?_eq_getElem (by omega)⟩
    have hu : u ∈ varsOf r.terms := List.mem_of_getElem? hk1
    have hw : w ∈ varsOf r.terms := List.mem_of_getElem? hk2
    have hne : u ≠ w := fun e => by
      obtain ⟨i1, e1⟩ := List.getElem?_eq_some_iff.1 hk1
      obtain ⟨i2, e2⟩ := List.getElem?_eq_some_iff.1 hk2
      have := nodup_inj hvn i1 i2 (by rw [e1, e2, e])
      omega
    have hvl := vars_le hok
    have g1 := one_ok hok (u := u) hw
    have g2 := one_vars hok hu hw hne
    have f1 := m71 (G := GE) [⟨u, ⟨w, zeroV⟩⟩] [] r (by simp [maxLen]) hr (by omega)
    unfold applyR at f1
    rw [if_pos ⟨hok, g1⟩] at f1
    have f2 := m87 (G := GE) w
    generalize hq : r.mapT (putS [⟨u, ⟨w, zeroV⟩⟩]) = q at *
    have sq : q.small 1048576 := by rw [← hq]; exact Rule.mapT_small _ hr
    have lq : q.terms.length ≤ 1048576 := by rw [← hq, Rule.mapT_terms, List.length_map]; exact hle
    have e1 := toT (m2033 q r sq hr lq hle)
    have e2 := toT (m2033 r q hr sq hle lq)
    rw [alike_not g1 hok (by omega)] at e1
    rw [alike_not hok g1 (by omega)] at e2
    have hx2 : q.row = [cS (bs q.p), .sl (q.head.map Arg.row) q.hsp, .sl (q.body.map Lit.row) q.bsp] := rfl
    rw [hx2] at f1 e1 e2
    generalize q.p = q1 at *
    generalize q.head.map Arg.row = q2 at *
    generalize q.hsp = q3 at *
    generalize q.body.map Lit.row = q4 at *
    generalize q.bsp = q5 at *
    clear hq g1 g2 hu hw hne hvn
    generalize varsOf r.terms = vs at *
    rw [hrow] at a1 a3 a4 a5 b1 b2 c1 c2 c3 c4 d1 f1 e1 e2 ⊢
    generalize (canon r).p = n1 at *
    generalize (canon r).head.map Arg.row = n2 at *
    generalize (canon r).body.map Lit.row = n4 at *
    generalize (r.mapT (putS rs)).p = u1 at *
    generalize (r.mapT (putS rs)).head.map Arg.row = u2 at *
    generalize (r.mapT (putS rs)).body.map Lit.row = u4 at *
    refine meets Tryz.func8 ie2008 ig2008 (Nat.le_of_ble_eq_true rfl) ?_
    simp [ic2008, ir2008]
    refine call_of a1 ?_
    cases big with
    | true => simp
    | false =>
    simp
    refine call_of a2 ?_
    simp
    refine call_of a3 ?_
    simp
    refine call_of a4 ?_
    simp
    refine call_of a6 ?_
    simp
    refine call_of a7 ?_
    simp
    refine call_of a5 ?_
    simp
    refine call_of b1 ?_
    simp
    refine call_of b2 ?_
    simp
    refine call_of c1 ?_
    simp
    refine call_of c2 ?_
    simp
    refine call_of c3 ?_
    simp
    refine call_of c4 ?_
    simp
    refine call_of d1 ?_
    have hn2 : ¬ (vs.length : Int) < 2 := by omega
    have hn3 : IntKind.i64.wrap ((vs.length : Int) - 1) = ((vs.length - 1 : Nat) : Int) := by rw [wrap64 (by omega) (by omega)]; omega
    simp [hn2, hn3, hk1, hk2]
    refine ⟨by omega, by omega, ?_⟩
    refine call_of f2 ?_
    simp
    refine call_of f1 ?_
    simp
    refine call_of e1 ?_
    simp
    refine call_of e2 ?_
    simp
end Go.Proofs.YtiomojlcnemnhaaGreatDoor

namespace Go.Proofs.YtiomojlcnemnhaaGreatDoor
open Go.Fx Go.RowKit Go.Ped
abbrev laidBoth : List (String × DataW Unit) := [("math/bits.deBruijn32tab", Rows.laid_math_bits_deBruijn32tab), ("math/bits.deBruijn64tab", Rows.laid_math_bits_deBruijn64tab), ("internal/strconv.uint64pow10", Rows.laid_internal_strconv_uint64pow10), ("pedigree/value.takes", Rows.laid_pedigree_value_takes)]
theorem held_both {W : World} (h : laidMetH Tryz.prog laidBoth W) : Held GE W := by
  have h1 := plain_laid (by kernel_rfl) h
  have ht : Held GT W := tab_of h1.tail.tail
  have h2 := h1.tail.tail.tail
  rw [takesData] at h2
  have hk : Held GK W := Lib.tabBelow_of_tabIs (Lib.tabIs_of_head gTakes gTakesType Tryz.underlying328 Tryz.underlying52 cells36 cells149 h2)
  exact fun w' hb => ⟨ht w' hb, hk w' hb⟩
end Go.Proofs.YtiomojlcnemnhaaGreatDoor

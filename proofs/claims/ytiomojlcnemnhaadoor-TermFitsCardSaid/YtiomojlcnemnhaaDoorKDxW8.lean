/- Contracts, on: the law TermFits. -/
import Derived.Test.YtiomojlcnemnhaaDoorKDxW7
namespace Go.Proofs.YtiomojlcnemnhaaDoor
open Go.Fx Go.RowKit Go.Ped

theorem m3_l1 {G : World → Prop} {p q : Name} {ts : List Tm} {sp : Sp} {l : List Tm} {vs : List Val} {sq : Sp} (ha : atomOk p ts = true) {Q : Exit → S → Prop} {σ : S}
    (h0 : ((σ.lprep []).strike [14]).keep [3, 9, 16] = st [(3, .k true (.x (.one (.ref 3 0 0)))), (9, .k true (.x (.one (.ref 9 0 0)))), (16, tI .i64 (0 : Nat))] [(9, ⟨28, 2, [[.c (cS (bs p)), .c (.sl (ts.map (Val.row ∘ grV l)) [])]], none⟩), (5, ⟨28, 2, [[.c (cS (bs q)), .c (.sl (vs.map Val.row) sq)]], none⟩), (3, ⟨24, 2, [[.c (cS (bs p)), .c (.sl (ts.map Tm.row) sp)]], none⟩)] [] F0)
    (hQ : ∀ L O, Q (.exit 2) (st L O [] F0)) : wpI Tryd.prog G (.loop ic3l1) Q σ := by
  have ht : ts.length ≤ 24 := by simp [atomOk] at ha; omega
  refine w_loopA [] [14] [3, 9, 16] (by simp [ownKey])
    (fun i : Nat => st [(3, .k true (.x (.one (.ref 3 0 0)))), (9, .k true (.x (.one (.ref 9 0 0)))), (16, tI .i64 i)] [(9, ⟨28, 2, [[.c (cS (bs p)), .c (.sl (ts.map (Val.row ∘ grV l)) [])]], none⟩), (5, ⟨28, 2, [[.c (cS (bs q)), .c (.sl (vs.map Val.row) sq)]], none⟩), (3, ⟨24, 2, [[.c (cS (bs p)), .c (.sl (ts.map Tm.row) sp)]], none⟩)] [] F0) (fun i => ts.length - i)
    (fun i => i ≤ ts.length) 0 h0 (by simp) ?_
  rintro i K hK hi
  obtain hlt | hge := Nat.lt_or_ge i ts.length
  · have hr : ts[i].row = [cS (bs ts[i].v), cI .i8 ts[i].x.k, cI .i64 ts[i].x.n, cS (bs ts[i].x.s)] := rfl
    by_cases hb : ts[i].v = [95]
    · simp [ic3l1, hlt, hr, hb]
      refine call_no (.x (.one (cB true))) ?_
      simp
      simp (disch := omega) only [wrap64]
      exact hK (i + 1) _ (by simp) (by omega) (by omega)
    · have h24 := m24 (G := G) p ts sp l i hlt ha hb
      rw [List.map_map] at h24
      simp [ic3l1, hlt, hr, hb]
      refine call_of h24 ?_
      simp
      simp (disch := omega) only [wrap64]
      exact hK (i + 1) _ (by simp) (by omega) (by omega)
  · simp [ic3l1, Nat.not_lt.mpr hge]
    exact hQ _ _

theorem m3 (p q : Name) (ts : List Tm) (sp : Sp) (l : List Tm) (sl : Sp) (vs : List Val) (sq : Sp) (ht : ts.length ≤ maxLen) (hl : l.length ≤ maxLen) :
    Meets Tryd.prog GK 3 [.agg [cS (bs p), .sl (ts.map Tm.row) sp], .one (.sl (l.map Tm.row) sl), .agg [cS (bs q), .sl (vs.map Val.row) sq]] (.x (.one (cB true))) := by
  have c1 := m20 (G := GK) p ts sp
  have c2 := m21 (G := GK) p q ts vs sp sq ht
  refine meets Tryd.func3 ie3 ig3 (Nat.le_of_ble_eq_true rfl) ?_
  simp [ic3, ir3]
  refine call_of m19 ?_
  simp
  refine call_of c1 ?_
  by_cases ha : atomOk p ts = true
  rotate_left
  · rw [show matchOf p ts q vs = none by simp [matchOf, ha]] at c2
    simp [ha]
    refine call_of c2 ?_
    simp [matchR]
  have ht24 : ts.length ≤ 24 := by simp [atomOk] at ha; omega
  have g1 := m22 (G := GK) p ts sp l sl hl (by omega)
  have hg := match_ground Val.ok (isV Val.ok l) ⟨1, 9, []⟩ ts rfl (isV_ok l) (ok_vals ha)
  have hmo : matchOf p ts p (ts.map (grV l)) = some ((tmVars ts).map fun v => ⟨v, isV Val.ok l v⟩) := by
    unfold matchOf
    rw [if_pos (by simp [ha])]
    exact hg
  have c3 := m21 (G := GK) p p ts (ts.map (grV l)) sp [] ht
  rw [hmo] at c3
  have c4 := m23 (G := GK) p ts sp l sl hl ht24
  rw [List.map_map] at g1 c3
  simp [ha]
  refine call_of g1 ?_
  simp
  refine call_of c3 ?_
  simp [matchR]
  refine call_of c4 ?_
  simp
  refine call_of c2 ?_
  cases hm : matchOf p ts q vs with
  | none =>
    simp [matchR]
    refine m3_l1 (l := l) (vs := vs) (sq := sq) (q := q) ha (by simp; try rfl) (fun L O => ?_)
    simp
  | some out =>
    have hmm := hm
    unfold matchOf at hmm
    split at hmm
    rotate_left
    · cases hmm
    rename_i hc
    simp only [Bool.and_eq_true, beq_iff_eq] at hc
    obtain ⟨⟨_, hpq⟩, hlen⟩ := hc
    subst hpq
    have hol : out.length ≤ 24 := by
      have h1 := hmm
      rw [match_same Val.ok hlen] at h1
      split at h1
      · injection h1 with h1
        rw [← h1]
        have h2 := varsOn_length (ts.map Tm.v) []
        simp only [refOut, List.length_map, List.length_nil] at h2 ⊢
        omega
      · cases h1
    have g2 := m22 (G := GK) p ts sp out [] (by unfold maxLen; omega) (by omega)
    rw [List.map_map] at g2
    have hle : ((vs.length : Int) == (ts.length : Int)) = true := by simp; omega
    simp [matchR, hlen]
    refine call_of g2 ?_
    simp
    refine w_loopA [] [] [3, 5, 9, 14, 15] (by simp)
      (fun i : Nat => st [(3, .k true (.x (.one (.ref 3 0 0)))), (5, .k true (.x (.one (.ref 5 0 0)))), (9, .k true (.x (.one (.ref 9 0 0)))), (14, .k true (.x (.one (.ref 14 0 0)))), (15, tI .i64 i)]
        [(14, ⟨28, 2, [[.c (cS (bs p)), .c (.sl (ts.map (Val.row ∘ grV out)) [])]], none⟩), (9, ⟨28, 2, [[.c (cS (bs p)), .c (.sl (ts.map (Val.row ∘ grV l)) [])]], none⟩), (5, ⟨28, 2, [[.c (cS (bs p)), .c (.sl (vs.map Val.row) sq)]], none⟩), (3, ⟨24, 2, [[.c (cS (bs p)), .c (.sl (ts.map Tm.row) sp)]], none⟩)] [] F0) (fun i => vs.length - i)
      (fun i => i ≤ vs.length) 0 (by simp) (by simp) ?_
    rintro i K hK hi
    obtain hlt | hge := Nat.lt_or_ge i vs.length
    · have hlt2 : i < ts.length := by omega
      have hr : ts[i].row = [cS (bs ts[i].v), cI .i8 ts[i].x.k, cI .i64 ts[i].x.n, cS (bs ts[i].x.s)] := rfl
      by_cases hb : ts[i].v = [95]
      · simp [ic3l0, hlt, hlt2, hr, hb, Val.row]
        simp (disch := omega) only [wrap64]
        exact hK (i + 1) _ (by simp) (by omega) (by omega)
      · have hx := match_only Val.ok ⟨1, 9, []⟩ hlen hmm (List.getElem?_eq_getElem hlt2) (List.getElem?_eq_getElem hlt) hb
        have hrv : vs[i].row = [cI .i8 (grV out ts[i]).k, cI .i64 (grV out ts[i]).n, cS (bs (grV out ts[i]).s)] := by rw [hx]; rfl
        have hrw : (grV out ts[i]).row = [cI .i8 (grV out ts[i]).k, cI .i64 (grV out ts[i]).n, cS (bs (grV out ts[i]).s)] := rfl
        simp [ic3l0, hlt, hlt2, hr, hb, hrv, hrw]
        simp (disch := omega) only [wrap64]
        exact hK (i + 1) _ (by simp) (by omega) (by omega)
    · simp [ic3l0, Nat.not_lt.mpr hge]
      refine m3_l1 (l := l) (vs := vs) (sq := sq) (q := p) ha (by simp; try rfl) (fun L O => ?_)
      simp
end Go.Proofs.YtiomojlcnemnhaaDoor

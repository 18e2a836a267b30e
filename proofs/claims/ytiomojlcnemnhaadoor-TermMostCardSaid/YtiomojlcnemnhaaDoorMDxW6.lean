/- Contracts, on: the law TermMost. -/
import Derived.Test.YtiomojlcnemnhaaDoorMDxW5
import Derived.Test.YtiomojlcnemnhaaDoorMDxU6
import Derived.Test.YtiomojlcnemnhaaDoorMPedM
namespace Go.Proofs.YtiomojlcnemnhaaDoor
open Go.Fx Go.RowKit Go.Ped

/-- What the pairs say of an assignment under which both atoms become one. -/
theorem most_pairs {p : Name} {ts ws : List Tm} {l : List Tm} (ha : atomOk p ts = true) (hb : atomOk p ws = true) (hlen : ts.length = ws.length)
    (h : ∀ i (h1 : i < ts.length) (h2 : i < ws.length), ts[i].v ≠ us → ws[i].v ≠ us → grV l ts[i] = grV l ws[i]) :
    ∃ s, unifyGo p ts p ws = some s ∧ s.length ≤ 24 ∧ ∀ x ∈ s, isV Val.ok l x.v = valT (isV Val.ok l) x.t := by
  have hgr : ∀ t : Tm, t.v ≠ us → grV l t = valT (isV Val.ok l) t := fun t ht => by
    unfold grV gr valT
    by_cases h0 : t.v = []
    · rw [if_pos h0, if_pos h0]
    · rw [if_neg h0, if_neg h0, if_neg ht]
  obtain ⟨c, hc, hk⟩ := unify_most (isV Val.ok l) (c := []) (by intro x hx; cases hx) (ok_bare ha) (ok_bare hb) .nil (fun i a b h1 h2 h3 h4 => by
    obtain ⟨q1, rfl⟩ := List.getElem?_eq_some_iff.1 h1
    obtain ⟨q2, rfl⟩ := List.getElem?_eq_some_iff.1 h2
    rw [← hgr _ h3, ← hgr _ h4]
    exact h i q1 q2 h3 h4)
  have hu : unifyGo p ts p ws = some (solve c) := by
    unfold unifyGo
    rw [if_pos (by simp [ha, hb, hlen]), hc]; rfl
  refine ⟨solve c, hu, unify_len (by rw [← unifyGo_eq]; exact hu), fun x hx => (solve_kind _ hk x hx).2.1⟩

theorem m5_loop {G : World → Prop} {p : Name} {l : List Tm} {sq : Sp} {s : List Pr} (hl : l.length ≤ maxLen) (hsl : s.length ≤ 24) (hs : ∀ x ∈ s, isV Val.ok l x.v = valT (isV Val.ok l) x.t) {Q : Exit → S → Prop} {σ : S} (O : List (Nat × Box)) (F1 F2 W1 W2 : List (List C)) (sp sr : Sp) (hOe : O = [(10, ⟨28, 2, [[.c (cS (bs p)), .c (.sl F2 [])]], none⟩), (9, ⟨28, 2, [[.c (cS (bs p)), .c (.sl F1 [])]], none⟩), (4, ⟨24, 2, [[.c (cS (bs p)), .c (.sl W2 sr)]], none⟩), (3, ⟨24, 2, [[.c (cS (bs p)), .c (.sl W1 sp)]], none⟩)])
    (h0 : ((σ.lprep []).strike [15, 16]).keep [2, 12, 14] = st [(2, .k true (.x (.one (.c (.sl (l.map Tm.row) sq))))), (12, .k true (.x (.one (.c (.sl (s.map Pr.row) []))))), (14, tI .i64 (0 : Nat))] O [] F0)
    (hQ : ∀ L O, Q (.exit 2) (st L O [] F0)) : wpI Tryd.prog G (.loop ic5l1) Q σ := by
  subst hOe
  refine w_loopA [] [15, 16] [2, 12, 14] (by simp [ownKey])
    (fun i : Nat => st [(2, .k true (.x (.one (.c (.sl (l.map Tm.row) sq))))), (12, .k true (.x (.one (.c (.sl (s.map Pr.row) []))))), (14, tI .i64 i)] [(10, ⟨28, 2, [[.c (cS (bs p)), .c (.sl F2 [])]], none⟩), (9, ⟨28, 2, [[.c (cS (bs p)), .c (.sl F1 [])]], none⟩), (4, ⟨24, 2, [[.c (cS (bs p)), .c (.sl W2 sr)]], none⟩), (3, ⟨24, 2, [[.c (cS (bs p)), .c (.sl W1 sp)]], none⟩)] [] F0) (fun i => s.length - i)
    (fun i => i ≤ s.length) 0 h0 (by simp) ?_
  rintro i K hK hi
  obtain hlt | hge := Nat.lt_or_ge i s.length
  · have hx := hs s[i] (List.getElem_mem hlt)
    have hr : s[i].row = [cS (bs s[i].v), cS (bs s[i].t.v), cI .i8 s[i].t.x.k, cI .i64 s[i].t.x.n, cS (bs s[i].t.x.s)] := rfl
    have h1 := m35 (G := G) l sq s[i].v hl
    have h2 := m35 (G := G) l sq s[i].t.v hl
    rw [hx] at h1
    by_cases h0 : s[i].t.v = []
    · have hv : valT (isV Val.ok l) s[i].t = s[i].t.x := by unfold valT; rw [if_pos h0]
      rw [hv] at h1
      simp only [Val.row] at h1
      simp [ic5l1, hlt, hr, h0]
      refine call_of h1 ?_
      simp [hlt, hr]
      simp (disch := omega) only [wrap64]
      exact hK (i + 1) _ (by simp) (by omega) (by omega)
    · have hv : valT (isV Val.ok l) s[i].t = isV Val.ok l s[i].t.v := by unfold valT; rw [if_neg h0]
      rw [hv] at h1
      generalize hw : isV Val.ok l s[i].t.v = w at *
      obtain ⟨wk, wn, ws⟩ := w
      simp only [Val.row] at h1 h2
      have hne : s[i].t.v.isEmpty = false := by simpa using h0
      simp [ic5l1, hlt, hr, h0, hne]
      refine call_of h2 ?_
      simp [hlt, hr]
      refine call_of h1 ?_
      simp [hlt, hr]
      simp (disch := omega) only [wrap64]
      exact hK (i + 1) _ (by simp) (by omega) (by omega)
  · simp [ic5l1, Nat.not_lt.mpr hge]
    exact hQ _ _

theorem m5 (p q : Name) (ts ws : List Tm) (sp sr : Sp) (l : List Tm) (sq : Sp) (ht : ts.length ≤ maxLen) (hw : ws.length ≤ maxLen) (hl : l.length ≤ maxLen) :
    Meets Tryd.prog GK 5 [.agg [cS (bs p), .sl (ts.map Tm.row) sp], .agg [cS (bs q), .sl (ws.map Tm.row) sr], .one (.sl (l.map Tm.row) sq)] (.x (.one (cB true))) := by
  have c1 := m20 (G := GK) p ts sp
  have c2 := m20 (G := GK) q ws sr
  have hu := m34 (G := GK) p q ts ws sp sr ht hw
  have hno : ∀ (h : (atomOk p ts && atomOk q ws && p == q && ts.length == ws.length) = false), unifyGo p ts q ws = none := fun h => by simp [unifyGo, h]
  refine meets Tryd.func5 ie5 ig5 (Nat.le_of_ble_eq_true rfl) ?_
  simp [ic5, ir5]
  refine call_of m19 ?_
  simp
  refine call_of c1 ?_
  by_cases ha : atomOk p ts = true
  rotate_left
  · rw [hno (by simp [ha])] at hu
    simp [ha]
    refine call_no (.x (.one (cI .i64 0))) ?_
    simp
    refine call_of hu ?_
    simp [unifyR]
  simp [ha]
  refine call_of c2 ?_
  by_cases hb : atomOk q ws = true
  rotate_left
  · rw [hno (by simp [hb])] at hu
    simp [hb]
    refine call_of hu ?_
    simp [unifyR]
  by_cases hpq : p = q
  rotate_left
  · rw [hno (by simp [hpq])] at hu
    simp [hb, hpq]
    refine call_of hu ?_
    simp [unifyR]
  subst hpq
  by_cases hlen : ts.length = ws.length
  rotate_left
  · rw [hno (by simp [hlen])] at hu
    have hle : ((ts.length : Int) == (ws.length : Int)) = false := by simp; omega
    simp [hb, hle]
    refine call_of hu ?_
    simp [unifyR]
  have ht24 : ts.length ≤ 24 := by simp [atomOk] at ha; omega
  have g1 := m22 (G := GK) p ts sp l sq hl (by omega)
  have g2 := m22 (G := GK) p ws sr l sq hl (by omega)
  simp [hb, hlen]
  refine call_of g1 ?_
  simp
  refine call_of g2 ?_
  simp
  refine w_loopA [] [] [2, 3, 4, 9, 10, 11] (by simp)
    (fun i : Nat => st [(2, .k true (.x (.one (.c (.sl (l.map Tm.row) sq))))), (3, .k true (.x (.one (.ref 3 0 0)))), (4, .k true (.x (.one (.ref 4 0 0)))), (9, .k true (.x (.one (.ref 9 0 0)))), (10, .k true (.x (.one (.ref 10 0 0)))), (11, tI .i64 i)]
      [(10, ⟨28, 2, [[.c (cS (bs p)), .c (.sl (ws.map (Val.row ∘ grV l)) [])]], none⟩), (9, ⟨28, 2, [[.c (cS (bs p)), .c (.sl (ts.map (Val.row ∘ grV l)) [])]], none⟩), (4, ⟨24, 2, [[.c (cS (bs p)), .c (.sl (ws.map Tm.row) sr)]], none⟩), (3, ⟨24, 2, [[.c (cS (bs p)), .c (.sl (ts.map Tm.row) sp)]], none⟩)] [] F0) (fun i => ts.length - i)
    (fun i => i ≤ ts.length ∧ ∀ j (h1 : j < ts.length) (h2 : j < ws.length), j < i → ts[j].v ≠ us → ws[j].v ≠ us → grV l ts[j] = grV l ws[j]) 0 (by simp) (by simp) ?_
  rintro i K hK ⟨hi, hinv⟩
  obtain hlt | hge := Nat.lt_or_ge i ts.length
  · have hlt2 : i < ws.length := by omega
    have hr1 : ts[i].row = [cS (bs ts[i].v), cI .i8 ts[i].x.k, cI .i64 ts[i].x.n, cS (bs ts[i].x.s)] := rfl
    have hr2 : ws[i].row = [cS (bs ws[i].v), cI .i8 ws[i].x.k, cI .i64 ws[i].x.n, cS (bs ws[i].x.s)] := rfl
    have hnx : (ts[i].v ≠ us → ws[i].v ≠ us → grV l ts[i] = grV l ws[i]) → K (st [(2, .k true (.x (.one (.c (.sl (l.map Tm.row) sq))))), (3, .k true (.x (.one (.ref 3 0 0)))), (4, .k true (.x (.one (.ref 4 0 0)))), (9, .k true (.x (.one (.ref 9 0 0)))), (10, .k true (.x (.one (.ref 10 0 0)))), (11, tI .i64 i)] [] [] F0) → True := fun _ _ => trivial
    have hstep : (ts[i].v ≠ us → ws[i].v ≠ us → grV l ts[i] = grV l ws[i]) → ∀ j (h1 : j < ts.length) (h2 : j < ws.length), j < i + 1 → ts[j].v ≠ us → ws[j].v ≠ us → grV l ts[j] = grV l ws[j] := fun h j h1 h2 hji => by
      rcases Nat.lt_succ_iff_lt_or_eq.1 hji with h' | rfl
      · exact hinv j h1 h2 h'
      · exact h
    clear hnx
    by_cases b1 : ts[i].v = [95]
    · simp [ic5l0, hlt, hlt2, hr1, hr2, b1, Val.row]
      simp (disch := omega) only [wrap64]
      exact hK (i + 1) _ (by simp) ⟨by omega, hstep fun h => absurd b1 h⟩ (by omega)
    by_cases b2 : ws[i].v = [95]
    · simp [ic5l0, hlt, hlt2, hr1, hr2, b1, b2, Val.row]
      simp (disch := omega) only [wrap64]
      exact hK (i + 1) _ (by simp) ⟨by omega, hstep fun _ h => absurd b2 h⟩ (by omega)
    simp [ic5l0, hlt, hlt2, hr1, hr2, b1, b2, Val.row]
    refine condI_of (fun _ => by simp) (fun h => ?_)
    simp at h
    have he : grV l ts[i] = grV l ws[i] := by
      cases hx : grV l ts[i] with | mk a b c => cases hy : grV l ws[i] with | mk a' b' c' =>
        rw [hx, hy] at h
        simp only at h
        rw [h.1, h.2.1, h.2.2]
    simp
    simp (disch := omega) only [wrap64]
    exact hK (i + 1) _ (by simp) ⟨by omega, hstep fun _ _ => he⟩ (by omega)
  · obtain ⟨s, hs1, hs2, hs3⟩ := most_pairs (l := l) ha hb hlen (fun j h1 h2 h3 h4 => hinv j h1 h2 (by omega) h3 h4)
    rw [hs1] at hu
    simp [ic5l0, Nat.not_lt.mpr hge]
    refine call_of hu ?_
    simp [unifyR]
    refine m5_loop (p := p) hl hs2 hs3 _ _ _ _ _ sp sr rfl (by simp; try rfl) (fun L O => ?_)
    simp
end Go.Proofs.YtiomojlcnemnhaaDoor

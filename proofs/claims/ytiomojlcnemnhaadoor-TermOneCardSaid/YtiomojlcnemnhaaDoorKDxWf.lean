/- Contracts, on: the law TermOne. -/
import Derived.Test.YtiomojlcnemnhaaDoorKDxY3
import Derived.Test.YtiomojlcnemnhaaDoorKDxW5
namespace Go.Proofs.YtiomojlcnemnhaaDoor
open Go.Fx Go.RowKit Go.Ped

theorem m10 (p q : Name) (ts ws : List Tm) (sp sr : Sp) (ht : ts.length ≤ maxLen) (hw : ws.length ≤ maxLen) :
    Meets Tryd.prog GK 10 [.agg [cS (bs p), .sl (ts.map Tm.row) sp], .agg [cS (bs q), .sl (ws.map Tm.row) sr]] (.x (.one (cB true))) := by
  have c1 := m20 (G := GK) p ts sp
  have c2 := m20 (G := GK) q ws sr
  have hu := m34 (G := GK) p q ts ws sp sr ht hw
  have hv := m34 (G := GK) q p ws ts sr sp hw ht
  have hbk := unifyGo_back p q ts ws
  have hno : ∀ (h : (atomOk p ts && atomOk q ws && p == q && ts.length == ws.length) = false), unifyGo p ts q ws = none := fun h => by simp [unifyGo, h]
  have hno1 : atomOk p ts = false → unifyGo p ts q ws = none := fun h => hno (by simp [h])
  have hno2 : atomOk q ws = false → unifyGo p ts q ws = none := fun h => hno (by simp [h])
  have hmu := one_mute (p := p) (q := q) (ts := ts) (ws := ws)
  have hsm := fun s => one_some (p := p) (q := q) (ts := ts) (ws := ws) (s := s)
  clear hno
  generalize hU : unifyGo p ts q ws = U at *
  generalize hB : unifyGo q ws p ts = B at *
  have hBl : (B.getD []).length ≤ maxLen := by
    cases hB' : B with
    | none => simp
    | some b => rw [hB'] at hB; have := unify_len (by rw [← unifyGo_eq]; exact hB); simp; unfold maxLen; omega
  generalize hbl : B.getD [] = bl at *
  refine meets Tryd.func10 ie10 ig10 (Nat.le_of_ble_eq_true rfl) ?_
  simp [ic10, ir10]
  refine call_of m19 ?_
  simp
  refine call_of hu ?_
  simp [unifyR]
  refine call_of hv ?_
  simp [unifyR, hbk]
  refine call_of c1 ?_
  by_cases ha : atomOk p ts = true
  rotate_left
  · have hn : B.isSome = false := by rw [← hbk, hno1 (by simpa using ha)]; rfl
    simp [ha, hn]
    refine call_no (.x (.one (cI .i64 0))) ?_
    simp
  simp [ha]
  refine call_of c2 ?_
  by_cases hb : atomOk q ws = true
  rotate_left
  · have hn : B.isSome = false := by rw [← hbk, hno2 (by simpa using hb)]; rfl
    simp [hb, hn]
  have ht24 : ts.length ≤ 24 := by simp [atomOk] at ha; omega
  have hw24 : ws.length ≤ 24 := by simp [atomOk] at hb; omega
  have hmu := hmu ha hb
  have g1 := m53 (G := GK) p p q ts ts ws sp sp sr 65 (by omega) (by omega) (by omega)
  have g2 := m53 (G := GK) q p q ws ts ws sr sp sr 66 (by omega) (by omega) (by omega)
  have hmt : (muteL (tmVars ts ++ tmVars ws) 65 0 ts).length = ts.length := muteL_len ..
  have hmw : (muteL (tmVars ts ++ tmVars ws) 66 0 ws).length = ws.length := muteL_len ..
  generalize muteL (tmVars ts ++ tmVars ws) 65 0 ts = mt at *
  generalize muteL (tmVars ts ++ tmVars ws) 66 0 ws = mw at *
  have hm := m34 (G := GK) p q mt mw [] [] (by unfold maxLen; omega) (by unfold maxLen; omega)
  generalize unifyGo p mt q mw = M at *
  simp [hb]
  refine call_of g1 ?_
  simp
  refine call_of g2 ?_
  simp
  refine call_of hm ?_
  simp [unifyR, hmu, hbk]
  cases U with
  | none =>
    have hn : B = none := by simpa using hbk.symm
    subst hn
    simp
  | some s =>
    obtain ⟨b, rfl⟩ : ∃ b, B = some b := Option.isSome_iff_exists.1 (by rw [← hbk]; rfl)
    obtain ⟨rfl, hlen, hs24, X, Y, hX, hY, hX2, hY2, hXl, hYl, hcol, hprs⟩ := hsm s rfl
    have a1 := m54 (G := GK) s [] p ts sp (by unfold maxLen; omega) (by omega)
    have a2 := m54 (G := GK) s [] p ws sr (by unfold maxLen; omega) (by omega)
    have a3 := m54 (G := GK) s [] p X [] (by unfold maxLen; omega) (by omega)
    have a4 := m54 (G := GK) s [] p Y [] (by unfold maxLen; omega) (by omega)
    rw [hX] at a1
    rw [hY] at a2
    rw [hX2] at a3
    rw [hY2] at a4
    have b1 := m55 (G := GK) p p X X [] [] (by unfold maxLen; omega)
    have b2 := m55 (G := GK) p p Y Y [] [] (by unfold maxLen; omega)
    clear hX hY hX2 hY2
    simp at b1 b2
    simp
    refine call_of a1 ?_
    simp
    refine call_of a2 ?_
    simp [hXl, hYl, hlen]
    refine w_loopA [] [] [2, 3, 5, 11, 12, 13] (by simp)
      (fun i : Nat => st [(2, .k true (.x (.one (.ref 2 0 0)))), (3, .k true (.x (.one (.ref 3 0 0)))), (5, .k true (.x (.one (.c (.sl (s.map Pr.row) []))))), (11, .k true (.x (.one (.ref 11 0 0)))), (12, .k true (.x (.one (.ref 12 0 0)))), (13, tI .i64 i)]
        [(12, ⟨24, 2, [[.c (cS (bs p)), .c (.sl (Y.map Tm.row) [])]], none⟩), (11, ⟨24, 2, [[.c (cS (bs p)), .c (.sl (X.map Tm.row) [])]], none⟩), (3, ⟨24, 2, [[.c (cS (bs p)), .c (.sl (ws.map Tm.row) sr)]], none⟩), (2, ⟨24, 2, [[.c (cS (bs p)), .c (.sl (ts.map Tm.row) sp)]], none⟩)] [] F0) (fun i => X.length - i)
      (fun i => i ≤ X.length) 0 (by simp) (by simp) ?_
    rintro i K hK hi
    obtain hlt | hge := Nat.lt_or_ge i X.length
    · have k1 : i < ts.length := by omega
      have k2 : i < ws.length := by omega
      have k3 : i < Y.length := by omega
      have r1 : ts[i].row = [cS (bs ts[i].v), cI .i8 ts[i].x.k, cI .i64 ts[i].x.n, cS (bs ts[i].x.s)] := rfl
      have r2 : ws[i].row = [cS (bs ws[i].v), cI .i8 ws[i].x.k, cI .i64 ws[i].x.n, cS (bs ws[i].x.s)] := rfl
      have r3 : X[i].row = [cS (bs X[i].v), cI .i8 X[i].x.k, cI .i64 X[i].x.n, cS (bs X[i].x.s)] := rfl
      have r4 : Y[i].row = [cS (bs Y[i].v), cI .i8 Y[i].x.k, cI .i64 Y[i].x.n, cS (bs Y[i].x.s)] := rfl
      have hc := hcol i k1 k2 hlt k3
      by_cases e1 : ts[i].v = [95]
      · simp [ic10l0, hlt, k1, k2, k3, r1, r2, r3, r4, e1]
        simp (disch := omega) only [wrap64]
        exact hK (i + 1) _ (by simp) (by omega) (by omega)
      by_cases e2 : ws[i].v = [95]
      · simp [ic10l0, hlt, k1, k2, k3, r1, r2, r3, r4, e1, e2]
        simp (disch := omega) only [wrap64]
        exact hK (i + 1) _ (by simp) (by omega) (by omega)
      have r5 : Y[i].row = [cS (bs X[i].v), cI .i8 X[i].x.k, cI .i64 X[i].x.n, cS (bs X[i].x.s)] := by rw [← hc e1 e2]; rfl
      simp [ic10l0, hlt, k1, k2, k3, r1, r2, r3, r5, e1, e2]
      simp (disch := omega) only [wrap64]
      exact hK (i + 1) _ (by simp) (by omega) (by omega)
    · simp [ic10l0, Nat.not_lt.mpr hge]
      refine w_loopA [] [] [2, 3, 5, 11, 12, 14] (by simp)
        (fun i : Nat => st [(2, .k true (.x (.one (.ref 2 0 0)))), (3, .k true (.x (.one (.ref 3 0 0)))), (5, .k true (.x (.one (.c (.sl (s.map Pr.row) []))))), (11, .k true (.x (.one (.ref 11 0 0)))), (12, .k true (.x (.one (.ref 12 0 0)))), (14, tI .i64 i)]
          [(12, ⟨24, 2, [[.c (cS (bs p)), .c (.sl (Y.map Tm.row) [])]], none⟩), (11, ⟨24, 2, [[.c (cS (bs p)), .c (.sl (X.map Tm.row) [])]], none⟩), (3, ⟨24, 2, [[.c (cS (bs p)), .c (.sl (ws.map Tm.row) sr)]], none⟩), (2, ⟨24, 2, [[.c (cS (bs p)), .c (.sl (ts.map Tm.row) sp)]], none⟩)] [] F0) (fun i => s.length - i)
        (fun i => i ≤ s.length) 0 (by simp) (by simp) ?_
      clear hK hi hge i
      rintro i K hK hi
      obtain hlt | hge := Nat.lt_or_ge i s.length
      · obtain ⟨s1, s2, s3, s4⟩ := hprs i hlt
        have hr : s[i].row = [cS (bs s[i].v), cS (bs s[i].t.v), cI .i8 s[i].t.x.k, cI .i64 s[i].t.x.n, cS (bs s[i].t.x.s)] := rfl
        have t1 : s[i].v.isEmpty = false := by simpa using s1
        have t2 : ¬ s[i].v = [95] := s2
        have t3 : ¬ s[i].t.v = [95] := s3
        simp [ic10l2, hlt, hr, s1, t1, t2, t3]
        refine w_loopA [] [] [2, 3, 5, 11, 12, 14, 15] (by simp)
          (fun k : Nat => st [(2, .k true (.x (.one (.ref 2 0 0)))), (3, .k true (.x (.one (.ref 3 0 0)))), (5, .k true (.x (.one (.c (.sl (s.map Pr.row) []))))), (11, .k true (.x (.one (.ref 11 0 0)))), (12, .k true (.x (.one (.ref 12 0 0)))), (14, tI .i64 i), (15, tI .i64 k)]
            [(12, ⟨24, 2, [[.c (cS (bs p)), .c (.sl (Y.map Tm.row) [])]], none⟩), (11, ⟨24, 2, [[.c (cS (bs p)), .c (.sl (X.map Tm.row) [])]], none⟩), (3, ⟨24, 2, [[.c (cS (bs p)), .c (.sl (ws.map Tm.row) sr)]], none⟩), (2, ⟨24, 2, [[.c (cS (bs p)), .c (.sl (ts.map Tm.row) sp)]], none⟩)] [] F0) (fun k => s.length - k)
          (fun k => k ≤ s.length) 0 (by simp) (by simp) ?_
        rintro k K2 hK2 hk
        obtain hlk | hgk := Nat.lt_or_ge k s.length
        · obtain ⟨u1, u2⟩ := s4 k hlk
          have hrk : s[k].row = [cS (bs s[k].v), cS (bs s[k].t.v), cI .i8 s[k].t.x.k, cI .i64 s[k].t.x.n, cS (bs s[k].t.x.s)] := rfl
          by_cases hki : k = i
          · subst hki
            simp [ic10l1, hlk, hrk, u1]
            simp (disch := omega) only [wrap64]
            exact hK2 (k + 1) _ (by simp) (by omega) (by omega)
          · have hki' : ((k : Int) == (i : Int)) = false := by simp; omega
            have u3 := u2 hki
            simp [ic10l1, hlk, hlt, hrk, hr, u1, u3, hki, hki']
            simp (disch := omega) only [wrap64]
            exact hK2 (k + 1) _ (by simp) (by omega) (by omega)
        · simp [ic10l1, Nat.not_lt.mpr hgk]
          simp (disch := omega) only [wrap64]
          exact hK (i + 1) _ (by simp) (by omega) (by omega)
      · simp [ic10l2, Nat.not_lt.mpr hge]
        refine call_of a3 ?_
        simp
        refine call_of b1 ?_
        simp
        refine call_of a4 ?_
        simp
        refine call_of b2 ?_
        simp
end Go.Proofs.YtiomojlcnemnhaaDoor

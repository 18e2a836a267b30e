import Derived.Test.YtiomojlcnemnhaaDoorKDxU4
/- Contracts, on: the program's unification, whole. -/
namespace Go.Proofs.YtiomojlcnemnhaaDoor
open Go.Fx Go.RowKit Go.Ped
variable {G : World → Prop}

set_option maxHeartbeats 8000000 in
theorem m34 (p q : Name) (ts ws : List Tm) (sp sq : List (List C)) (hl : ts.length ≤ maxLen) (hl2 : ws.length ≤ maxLen) :
    Meets Tryd.prog G 34 [.agg [cS (bs p), .sl (ts.map Tm.row) sp], .agg [cS (bs q), .sl (ws.map Tm.row) sq]] (unifyR (unifyGo p ts q ws)) := by
  refine meets Tryd.func34 ie34 ig34 (Nat.le_of_ble_eq_true rfl) ?_
  have hno : ∀ (h : (atomOk p ts && atomOk q ws && p == q && ts.length == ws.length) = false), unifyGo p ts q ws = none := fun h => by simp [unifyGo, h]
  simp [ic34, ir34]
  refine r_call 44 true _ _ (m44 p ts sp hl) rfl rfl rfl rfl ?_
  simp
  by_cases h1 : atomOk p ts = true
  · simp [h1]
    refine r_call 44 true _ _ (m44 q ws sq hl2) rfl rfl rfl rfl ?_
    simp
    refine ⟨fun h2 => by rw [hno (by simp [h2])]; simp [unifyR], fun h2 => ⟨fun h3 => by rw [hno (by simp [h3])]; simp [unifyR], fun h3 => ⟨fun h4 => ?_, fun h4 => ?_⟩⟩⟩
    · have h5 : (ts.length == ws.length) = false := by simp; omega
      rw [hno (by simp [h5])]; simp [unifyR]
    subst h3
    have hlen : ts.length = ws.length := by omega
    have h24 : ts.length ≤ 24 := by simp [atomOk] at h1; omega
    have hun : unifyGo p ts p ws = (goUnify [] ts ws).map solve := by simp [unifyGo, h1, h2, hlen]
    rw [hun]
    have hb1 := ok_bare h1
    have hb2 := ok_bare h2
    let k : Nat → List Pr → T → T → T → T → T → T → T → T → A → List (Nat × Tok) → S := fun i c t38 t45 t9 t10 t11 t73 t76 t81 a U => ks34 (.k true (.x (.agg [.c (cS (bs p)), .c (.sl (ts.map Tm.row) sp)]))) (.k true (.x (.agg [.c (cS (bs p)), .c (.sl (ws.map Tm.row) sq)]))) (.k true (.x (.one (.ref 2 0 0)))) (.k true (.x (.one (.ref 3 0 0))))
      t38 (.k true (.x (.one (.ref 6 0 0)))) (tI .i64 i) (tI .i64 ts.length) t45 (.k true (.x (.one fv6))) t9 t10 t11 t73 t76 t81 (.k true (.x (.one a))) .lost .lost .lost .lost .lost .lost (.k true (.x (.one .nil))) (tB false)
      ((6, ⟨155, 1, [[.mapr 39]], none⟩) :: (39, ⟨0, 5, c.map nxRow, some (.string, false)⟩) :: O42 p p ts ws sp sq) U F0
    refine w_loopS [10, 11, 89] (by simp [ownKey]) (fun n σ => ∃ (i : Nat) (c : List Pr) (t38 t45 t9 t10 t11 t73 t76 t81 : T) (a : A) (U : List (Nat × Tok)), i + n = ts.length ∧ c.length ≤ i ∧ Ped.Good c ∧ goUnify [] ts ws = goUnify c (ts.drop i) (ws.drop i) ∧ AccN 90 9 1 (c.map fun p => nmRow p.v) a U ∧ σ = k i c t38 t45 t9 t10 t11 t73 t76 t81 a U)
      ts.length ⟨0, [], _, _, _, _, _, _, _, _, _, _, by simp, by simp, .nil, by simp, .nil, by simp [k]; rfl⟩ ?_
    rintro n σ1 K hK ⟨i, c, t38, t45, t9, t10, t11, t73, t76, t81, a, U, hi, hcl, hg, hd, hacc, rfl⟩
    have hsA : ∀ l, 90 ∉ l → A.strike l a = a := fun l hl => by
      rcases hacc with ⟨_, rfl, rfl⟩ | ⟨rfl, rfl⟩
      · rfl
      · simp [A.strike, hl]
    have hsU : ∀ l, 90 ∉ l → strikeU l U = U := fun l hl => by
      rcases hacc with ⟨_, rfl, rfl⟩ | ⟨rfl, rfl⟩
      · rfl
      · simp [strikeU, hl]
    have hUl : ∀ p ∈ U, p.1 < 15000 := by
      rcases hacc with ⟨_, rfl, rfl⟩ | ⟨rfl, rfl⟩ <;> simp
    obtain hlt | hge := Nat.lt_or_ge i ts.length
    · have hltw : i < ws.length := by omega
      have hI : ∀ (σ' : S) (c' : List Pr), goUnify [] ts ws = goUnify c' (ts.drop (i + 1)) (ws.drop (i + 1)) → c'.length ≤ i + 1 → Ped.Good c' → (∃ t38 t45 t9 t10 t11 t73 t76 t81 a U, AccN 90 9 1 (c'.map fun p => nmRow p.v) a U ∧ σ'.strike [10, 11, 89] = k (i + 1) c' t38 t45 t9 t10 t11 t73 t76 t81 a U) → K σ' := by
        rintro σ' c' h1 h2 h3 ⟨t38, t45, t9, t10, t11, t73, t76, t81, a, U, h4, h5⟩
        exact hK σ' (n - 1) (by omega) ⟨i + 1, c', t38, t45, t9, t10, t11, t73, t76, t81, a, U, by omega, h2, h3, h1, h4, h5⟩
      clear hK
      rw [List.drop_eq_getElem_cons hlt, List.drop_eq_getElem_cons hltw, goUnify] at hd
      have b1 := hb1 ts[i] (List.getElem_mem hlt)
      have b2 := hb2 ws[i] (List.getElem_mem hltw)
      simp [k, ic34l0, hlt, hsA, hsU, nx_strike']
      refine r_callK [6, 39] fv6 _ (O6 c) _ (c106 c hg ts[i]) rfl rfl rfl (by simp [tk4]) (by simp) (by simp) hUl (by simp) ?_
      simp [hltw]
      refine r_callK [6, 39] fv6 _ (O6 c) _ (c106 c hg ws[i]) rfl rfl rfl (by simp [tk4]) (by simp) (by simp) hUl (by simp) ?_
      have hw := wrap_next hlt (show ts.length ≤ 9223372036854775807 by omega)
      have g1 := fun h1 h3 h0 => hg.more b1 b2 h1 h3 h0
      have g2 := fun h1 h3 h0 => hg.more b2 b1 h1 h3 h0
      have o1 := hg.end_out ts[i]
      have o2 := hg.end_out ws[i]
      generalize endOf c ts[i] = x at *
      generalize endOf c ws[i] = y at *
      by_cases c1 : x.v = [95]
      · simp [hsA, hsU, Tm.row, c1, hw]
        exact hI _ c (by rw [hd, if_pos (.inl c1)]) (by omega) hg ⟨_, _, _, _, _, _, _, _, _, _, hacc, by simp [k, hsA, hsU, nx_strike']; rfl⟩
      by_cases c2 : y.v = [95]
      · simp [hsA, hsU, Tm.row, c1, c2, hw]
        exact hI _ c (by rw [hd, if_pos (.inr (.inl c2))]) (by omega) hg ⟨_, _, _, _, _, _, _, _, _, _, hacc, by simp [k, hsA, hsU, nx_strike']; rfl⟩
      by_cases c3 : x = y
      · subst c3
        simp [hsA, hsU, Tm.row, c1, hw]
        exact hI _ c (by rw [hd, if_pos (.inr (.inr rfl))]) (by omega) hg ⟨_, _, _, _, _, _, _, _, _, _, hacc, by simp [k, hsA, hsU, nx_strike']; rfl⟩
      rw [if_neg (by simp only [us]; simp [c1, c2, c3])] at hd
      by_cases d1 : x.v = []
      · by_cases d2 : y.v = []
        · rw [if_neg (by simpa using d1), if_neg (by simpa using d2)] at hd
          simp [hsA, hsU, Tm.row, d1, d2, hw]
          refine ⟨fun e2 e3 e4 => absurd (by obtain ⟨xv, xk, xn, xs⟩ := x; obtain ⟨yv, yk, yn, ys⟩ := y; simp at d1 d2 e2 e3 e4; simp [d1, d2, e2, e3, e4]) c3, fun _ => ?_⟩
          rw [hd]; simp [unifyR]
        rw [if_neg (by simpa using d1), if_pos d2] at hd
        have hg' := g2 (by simpa [us] using c2) (fun e => c3 e.symm) d2
        have hp := nx_put y.v x c o2
        simp only [Tm.row, List.map_cons, List.map_nil] at hp
        rw [d1] at hp
        simp [hsA, hsU, Tm.row, d1, d2, c2, hw, nx_strike', hp]
        rcases hacc with ⟨h0, rfl, rfl⟩ | ⟨rfl, rfl⟩
        · obtain rfl : c = [] := by simpa using h0
          refine k_row rfl rfl (by simp) (by simp) ?_
          refine k_app0 (by simp) rfl rfl (by simp) (by simp) (by simp [maxLen]) (by simp [maxBytes]) ?_
          simp [hw, nx_strike]
          exact hI _ [⟨y.v, x⟩] hd (by simp) hg' ⟨_, _, _, _, _, _, _, _, _, _, .own rfl, by simp [k, nx_strike]; rfl⟩
        · refine k_row rfl rfl (by simp) (by simp) ?_
          refine k_app (k := 90) (es := c.map fun p => nmRow p.v) (q := ⟨9, 1, c.length⟩) (by simp) rfl rfl (by simp) (by simp) rfl rfl (by simp) (by simp [maxLen]; omega) (by simp [maxBytes]; omega) trivial ?_
          simp [hw, nx_strike]
          exact hI _ (c ++ [⟨y.v, x⟩]) hd (by simp; omega) hg' ⟨_, _, _, _, _, _, _, _, _, _, by rw [List.map_append]; exact .own (n := c.length + 1) (by simp), by simp [k, nx_strike', nx_strike]; rfl⟩
      · rw [if_pos d1] at hd
        have hg' := g1 (by simpa [us] using c1) c3 d1
        have hp := nx_put x.v y c o1
        simp only [Tm.row, List.map_cons, List.map_nil] at hp
        simp [hsA, hsU, Tm.row, c1, d1, c2, hw, nx_strike', hp]
        refine ⟨fun e1 e2 e3 e4 => absurd (by obtain ⟨xv, xk, xn, xs⟩ := x; obtain ⟨yv, yk, yn, ys⟩ := y; simp at e1 e2 e3 e4; simp [e1, e2, e3, e4]) c3, fun _ => ?_⟩
        rcases hacc with ⟨h0, rfl, rfl⟩ | ⟨rfl, rfl⟩
        · obtain rfl : c = [] := by simpa using h0
          refine k_row rfl rfl (by simp) (by simp) ?_
          refine k_app0 (by simp) rfl rfl (by simp) (by simp) (by simp [maxLen]) (by simp [maxBytes]) ?_
          simp [hw, nx_strike]
          exact hI _ [⟨x.v, y⟩] hd (by simp) hg' ⟨_, _, _, _, _, _, _, _, _, _, .own rfl, by simp [k, nx_strike]; rfl⟩
        · refine k_row rfl rfl (by simp) (by simp) ?_
          refine k_app (k := 90) (es := c.map fun p => nmRow p.v) (q := ⟨9, 1, c.length⟩) (by simp) rfl rfl (by simp) (by simp) rfl rfl (by simp) (by simp [maxLen]; omega) (by simp [maxBytes]; omega) trivial ?_
          simp [hw, nx_strike]
          exact hI _ (c ++ [⟨x.v, y⟩]) hd (by simp; omega) hg' ⟨_, _, _, _, _, _, _, _, _, _, by rw [List.map_append]; exact .own (n := c.length + 1) (by simp), by simp [k, nx_strike', nx_strike]; rfl⟩
    · rw [List.drop_eq_nil_of_le hge, List.drop_eq_nil_of_le (by omega)] at hd
      have hd : goUnify [] ts ws = some c := by rw [hd]; cases c <;> rfl
      rw [hd]
      have hc24 : c.length ≤ 24 := by omega
      have hge' := Nat.not_lt.mpr hge
      clear hb1 hb2 hd hK hun hno
      rcases hacc with ⟨h0, rfl, rfl⟩ | ⟨rfl, rfl⟩
      · obtain rfl : c = [] := by simpa using h0
        simp [k, ic34l0, hge']
        refine w_loopK (fun _ σ => σ = _) 0 rfl ?_
        rintro n σ1 K hK rfl
        simp [ic34l1]
        simp [unifyR, solve]
      · simp [k, ic34l0, hge']
        refine m34_l1 p ts ws sp sq c hg hc24 _ _ _ _ _ _ _ _ _ _ _ _ ?_
        intro t38 t44 t45 t9 t10 t11 t73 t76 t81 t8 t94 t93 t95 t92 t14 b U U2 hb
        simp [unifyR, -X.close, hb.args, X.close_c]
  · have h1 : atomOk p ts = false := by simpa using h1
    simp [h1]
    refine r_callF (.x (.one (cI .i64 0))) rfl ?_
    simp
    rw [hno (by simp [h1])]
    simp [unifyR]
end Go.Proofs.YtiomojlcnemnhaaDoor

/- The law TermUnifies. -/
namespace Go.Proofs.YtiomojlcnemnhaaDoor
open Go.Fx Go.RowKit Go.Ped

theorem takes_len (s : List Pr) (v : Name) (t : Tm) : (takes s v t).length = s.length + 1 := by simp [takes]
theorem refUnify_len : ∀ (ts ws : List Tm) (s s' : List Pr), refUnify s ts ws = some s' → s'.length ≤ s.length + ts.length
  | [], ws, s, s', h => by simp only [refUnify, Option.some.injEq] at h; subst h; simp
  | _ :: _, [], s, s', h => by simp only [refUnify, Option.some.injEq] at h; subst h; simp
  | a :: ts, b :: ws, s, s', h => by
    simp only [refUnify] at h
    split at h
    · have := refUnify_len ts ws _ _ h; simp; omega
    · split at h
      · have := refUnify_len ts ws _ _ h; rw [takes_len] at this; simp; omega
      · split at h
        · have := refUnify_len ts ws _ _ h; rw [takes_len] at this; simp; omega
        · cases h
theorem unify_len {p q : Name} {ts ws : List Tm} {s : List Pr} (h : unifyOf p ts q ws = some s) : s.length ≤ 24 := by
  unfold unifyOf at h
  split at h
  · rename_i hc
    simp only [Bool.and_eq_true, beq_iff_eq] at hc
    have := refUnify_len ts ws [] s h
    have h24 : ts.length ≤ 24 := by have := hc.1.1.1; simp [atomOk] at this; omega
    simp at this; omega
  · cases h

end Go.Proofs.YtiomojlcnemnhaaDoor

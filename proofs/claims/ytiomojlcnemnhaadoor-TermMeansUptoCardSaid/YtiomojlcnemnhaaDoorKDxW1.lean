/- Contracts, on: the program's matching, where the fact's values are memory that is handed over. -/
import Derived.Test.YtiomojlcnemnhaaDoorKDxM8
namespace Go.Proofs.YtiomojlcnemnhaaDoor
open Go.Fx Go.RowKit Go.Ped
variable {G : World → Prop}

/-- The fact's values are memory that is handed over. -/
abbrev bxV (vs : List Val) : Box := ⟨39, 3, vs.map fun v => v.row.map A.c, none⟩
abbrev arV (vs : List Val) : A := .arr 10005 0 vs.length vs.length
abbrev O21w (p : Name) (ts : List Tm) (vs : List Val) (sp : List (List C)) (out : List Tm) : List (Nat × Box) := [(32, ⟨0, 4, out.map mpRow, some (.string, false)⟩), (3, ⟨28, 2, [[.c (cS (bs p)), arV vs]], none⟩), (2, ⟨24, 2, [[.c (cS (bs p)), .c (.sl (ts.map Tm.row) sp)]], none⟩), (10005, bxV vs)]
abbrev k21w (p : Name) (ts : List Tm) (vs : List Val) (sp : List (List C)) : T → T → T → T → T → T → T → T → T → T → T → T → T → T → List (Nat × Box) → List (Nat × Tok) → S := fun t31 t36 t37 t8 t9 t10 t59 t67 t12 t11 t80 t82 t7 t4 O U => ks21 (.k true (.x (.agg [.c (cS (bs p)), .c (.sl (ts.map Tm.row) sp)]))) (.k true (.x (.agg [.c (cS (bs p)), arV vs]))) (.k true (.x (.one (.ref 2 0 0)))) (.k true (.x (.one (.ref 3 0 0))))
    t31 t36 (tI .i64 vs.length) t37 (.k true (.x (.one (arV vs)))) t8 t9 t10 t59 t67 (.k true (.x (.one (.mapr 32)))) t12 t11 t80 t82 t7 t4 (tB false) O U F0

@[simp] theorem strike_val (ks : List Nat) : (strikeL ks ∘ fun v : Val => v.row.map A.c) = fun v => v.row.map A.c := funext fun v => strikeL_c ks _
/-- The fact's memory stands in a state as it was. -/
def OkO (vs : List Val) (O : List (Nat × Box)) (U : List (Nat × Tok)) : Prop := lookO O 10005 = some (bxV vs) ∧ (∀ p ∈ O, p.1 < 15000) ∧ ∀ p ∈ U, p.1 < 15000

set_option maxHeartbeats 1000000 in
theorem w21_loop (p : Name) (ts : List Tm) (vs : List Val) (sp : List (List C)) (hlen : ts.length = vs.length) (h24 : ts.length ≤ 24)
    (t31 t37 t8 t9 t10 t59 t67 t12 t11 t80 t82 : T) (Q : Exit → S → Prop)
    (hfail : goMatch Val.ok [] ts vs = none → ∀ t31 t36 t37 t8 t9 t10 t59 t67 t12 t11 t80 t82 t7 O U, OkO vs O U → Q .ret (k21w p ts vs sp t31 t36 t37 t8 t9 t10 t59 t67 t12 t11 t80 t82 t7 (.k true (.x (.one .nil))) O U))
    (hok : ∀ out, goMatch Val.ok [] ts vs = some out → ∀ t31 t36 t37 t8 t9 t10 t59 t67 t12 t11 t80 t82 a O U, OkO vs O U → AccN 93 54 4 (out.map Tm.row) a U → Q (.exit 0) (k21w p ts vs sp t31 t36 t37 t8 t9 t10 t59 t67 t12 t11 t80 t82 (.k true (.x (.one a))) (.k true (.x (.one .nil))) O U)) :
    wpI Tryd.prog G (.loop ic21l0) Q (k21w p ts vs sp t31 (tI .i64 0) t37 t8 t9 t10 t59 t67 t12 t11 t80 t82 (.k true (.x (.one .nil))) (.k true (.x (.one .nil))) (O21w p ts vs sp []) []) := by
  refine w_loopS [9, 10, 11, 92] (by simp [ownKey]) (fun n σ => ∃ (i : Nat) (out : List Tm) (t31 t37 t8 t9 t10 t59 t67 t12 t11 t80 t82 : T) (a : A) (U : List (Nat × Tok)), i + n = vs.length ∧ goMatch Val.ok [] ts vs = goMatch Val.ok out (ts.drop i) (vs.drop i) ∧ out.length ≤ i ∧ AccN 93 54 4 (out.map Tm.row) a U ∧ σ = k21w p ts vs sp t31 (tI .i64 i) t37 t8 t9 t10 t59 t67 t12 t11 t80 t82 (.k true (.x (.one a))) (.k true (.x (.one .nil))) (O21w p ts vs sp out) U)
    vs.length ⟨0, [], _, _, _, _, _, _, _, _, _, _, _, _, _, by simp, by simp, by simp, .nil, by simp; rfl⟩ ?_
  rintro n σ1 K hK ⟨i, out, t31, t37, t8, t9, t10, t59, t67, t12, t11, t80, t82, a, U, hi, hd, hol, hacc, rfl⟩
  have hUl : ∀ p ∈ U, p.1 < 15000 := by rcases hacc with ⟨_, rfl, rfl⟩ | ⟨rfl, rfl⟩ <;> simp
  have hs9 : A.strike [9] a = a := hacc.strike (by decide)
  have hs10 : A.strike [10] a = a := hacc.strike (by decide)
  have hs11 : A.strike [11] a = a := hacc.strike (by decide)
  have hu9 : strikeU [9] U = U := hacc.strikeU (by decide)
  have hu10 : strikeU [10] U = U := hacc.strikeU (by decide)
  have hu11 : strikeU [11] U = U := hacc.strikeU (by decide)
  obtain hlt | hge := Nat.lt_or_ge i vs.length
  · have hltT : i < ts.length := by omega
    obtain ⟨_, hc, hdr⟩ := at_list hlt
    obtain ⟨_, rfl⟩ := List.getElem?_eq_some_iff.1 hc
    obtain ⟨_, hc, hdr'⟩ := at_list hltT
    obtain ⟨_, rfl⟩ := List.getElem?_eq_some_iff.1 hc
    rw [hdr, hdr'] at hd
    simp only [goMatch] at hd
    have hsA : A.strike [9, 10, 11, 92] a = a := by
      rcases hacc with ⟨_, rfl, rfl⟩ | ⟨rfl, rfl⟩
      · rfl
      · simp
    have huA : strikeU [9, 10, 11, 92] U = U := by
      rcases hacc with ⟨_, rfl, rfl⟩ | ⟨rfl, rfl⟩
      · rfl
      · simp
    have hI : ∀ (out' : List Tm) (σ' : S), goMatch Val.ok [] ts vs = goMatch Val.ok out' (ts.drop (i + 1)) (vs.drop (i + 1)) → out'.length ≤ i + 1 → (∃ t31 t37 t8 t9 t10 t59 t67 t12 t11 t80 t82 a U, AccN 93 54 4 (out'.map Tm.row) a U ∧ σ'.strike [9, 10, 11, 92] = k21w p ts vs sp t31 (tI .i64 (i + 1)) t37 t8 t9 t10 t59 t67 t12 t11 t80 t82 (.k true (.x (.one a))) (.k true (.x (.one .nil))) (O21w p ts vs sp out') U) → K σ' :=
      fun out' σ' h1 h2 ⟨t31, t37, t8, t9, t10, t59, t67, t12, t11, t80, t82, a, U, h3, h4⟩ => hK σ' (n - 1) (by omega) ⟨i + 1, out', t31, t37, t8, t9, t10, t59, t67, t12, t11, t80, t82, a, U, by omega, h1, h2, h3, h4⟩
    clear hK
    generalize hvv : vs[i] = w at *
    generalize htt : ts[i] = t at *
    obtain ⟨wk, wn, ws⟩ := w
    obtain ⟨tv, tx⟩ := t
    have hg := mapGet_binds tv out
    have hany := mapAny_binds tv out
    have hput := mapPut_binds tv ⟨wk, wn, ws⟩ out
    simp [ic21l0, hlt, hltT, htt, hvv, Tm.row, Val.row, hs9, hs10, hu9, hu10, strikeL_mpRow']
    refine r_call 92 true _ _ (m92 wk wn ws) rfl rfl rfl rfl ?_
    simp
    refine ⟨fun h => ?_, fun h => ⟨fun h0 => ⟨fun h1 => ?_, fun h1 => ?_⟩, fun h0 => ?_⟩⟩
    · exact hfail (by rw [hd]; simp [Val.ok, h]) _ _ _ _ _ _ _ _ _ _ _ _ _ _ _ ⟨by simp [Val.row], by simp, by first | exact hUl | (rw [hu11]; exact hUl)⟩
    · refine hfail ?_ _ _ _ _ _ _ _ _ _ _ _ _ _ _ _ ⟨by simp [Val.row], by simp, by first | exact hUl | (rw [hu11]; exact hUl)⟩
      have e : (tx != (⟨wk, wn, ws⟩ : Val)) = true := by obtain ⟨a, b, c⟩ := tx; simp at h1 ⊢; grind
      rw [hd, e]; simp [h0]
    · intro h2 h3
      obtain ⟨xk, xn, xs⟩ := tx
      simp at h1 h2 h3
      subst h0 h1 h2 h3
      simp [wrap_next hlt (by omega)]
      refine hI out _ ?_ (by omega) ⟨_, _, _, _, _, _, _, _, _, _, _, _, _, hacc, by simp [hsA, huA, strikeL_mpRow']; rfl⟩
      rw [hd]; simp [Ped.isVar, Val.ok, h]
    · simp [h0, wrap_next hlt (by omega)]
      refine ⟨fun h1 => ?_, fun h1 => ?_⟩
      · subst h1
        refine hI out _ ?_ (by omega) ⟨_, _, _, _, _, _, _, _, _, _, _, _, _, hacc, by simp [hsA, huA, strikeL_mpRow']; rfl⟩
        rw [hd]; simp [Ped.isVar, us, Val.ok, h]
      have hiv : Ped.isVar tv = true := by simp [Ped.isVar, us, h0, h1]
      cases hb : bindOf out tv with
      | some o =>
        obtain ⟨ok, on, os⟩ := o
        rw [hb] at hg hany
        have hex : ∃ x ∈ out, x.v = tv := by
          unfold bindOf at hb
          obtain ⟨x, hx, _⟩ := Option.map_eq_some_iff.1 hb
          exact ⟨x, List.mem_of_find?_eq_some hx, by simpa using List.find?_some hx⟩
        simp [strikeL_mpRow', strikeL_mpRow, keyEq_mpRow, hg, Val.row, zeroV]
        refine ⟨fun x hx e => ⟨fun h2 => hfail ?_ _ _ _ _ _ _ _ _ _ _ _ _ _ _ _ ⟨by simp [Val.row], by simp, by first | exact hUl | (rw [hu11]; exact hUl)⟩, fun e1 e2 e3 => ?_⟩, ?_⟩
        · have e' : ((⟨ok, on, os⟩ : Val) != ⟨wk, wn, ws⟩) = true := by simp; grind
          rw [hd]; simp [h0, hiv, Val.ok, h, hb, e']
        · subst e1 e2 e3
          refine ⟨fun hn => absurd e (hn x hx), fun y hy ey => hI out _ ?_ (by omega) ⟨_, _, _, _, _, _, _, _, _, _, _, _, _, hacc, by simp [hsA, huA, hs11, hu11, strikeL_mpRow']; rfl⟩⟩
          rw [hd]; simp [hiv, Val.ok, h, hb, h0]
        · exact fun hn => absurd hex.choose_spec.2 (hn _ hex.choose_spec.1)
      | none =>
        rw [hb] at hg hany
        have hno : ∀ x ∈ out, ¬ x.v = tv := fun x hx e => (bindOf_none.1 hb) (e ▸ List.mem_map_of_mem hx)
        simp [strikeL_mpRow', strikeL_mpRow, keyEq_mpRow, hg, Val.row, zeroV]
        refine ⟨fun x hx e => absurd e (hno x hx), fun _ => ⟨fun _ => ?_, fun x hx e => absurd e (hno x hx)⟩⟩
        have hput' := hput hb
        simp only [Val.row, List.map_cons, List.map_nil] at hput'
        rcases hacc with ⟨ho, rfl, rfl⟩ | ⟨rfl, rfl⟩
        · obtain rfl : out = [] := by simpa using ho
          refine k_row rfl rfl (by simp) (by simp) ?_
          refine k_app0 (by simp) rfl rfl (by simp) (by simp) (by simp [maxLen]) (by simp [maxBytes]) ?_
          simp [wrap_next hlt (by omega)]
          exact hI [⟨tv, ⟨wk, wn, ws⟩⟩] _ (by rw [hd]; simp [hiv, Val.ok, h, hb, h0]) (by simp) ⟨_, _, _, _, _, _, _, _, _, _, _, _, _, .own rfl, by simp; rfl⟩
        · refine k_row rfl rfl (by simp) (by simp) ?_
          refine k_app (k := 93) (es := out.map Tm.row) (q := ⟨54, 4, out.length⟩) (by simp) rfl rfl (by simp) (by simp) rfl rfl (by simp) (by simp [maxLen]; omega) (by simp [maxBytes]; omega) trivial ?_
          simp [wrap_next hlt (by omega)]
          have hacc' : AccN 93 54 4 ((out ++ [(⟨tv, ⟨wk, wn, ws⟩⟩ : Tm)]).map Tm.row) (.own 93 (out.map Tm.row ++ [Tm.row ⟨tv, ⟨wk, wn, ws⟩⟩])) [(93, ⟨54, 4, out.length + 1⟩)] := by rw [List.map_append]; exact .own (by simp)
          exact hI (out ++ [⟨tv, ⟨wk, wn, ws⟩⟩]) _ (by rw [hd]; simp [hiv, Val.ok, h, hb, h0]) (by simp; omega) ⟨_, _, _, _, _, _, _, _, _, _, _, _, _, hacc', by rw [show (O21w p ts vs sp (out ++ [(⟨tv, ⟨wk, wn, ws⟩⟩ : Tm)])) = (32, ⟨0, 4, out.map mpRow ++ [mpRow ⟨tv, ⟨wk, wn, ws⟩⟩], some (.string, false)⟩) :: [(3, ⟨28, 2, [[.c (cS (bs p)), arV vs]], none⟩), (2, ⟨24, 2, [[.c (cS (bs p)), .c (.sl (ts.map Tm.row) sp)]], none⟩), (10005, bxV vs)] by simp [O21w]]; simp [hput', strikeL_mpRow', strikeL_mpRow]; rfl⟩
  · rw [List.drop_eq_nil_of_le hge, List.drop_eq_nil_of_le (by omega)] at hd
    simp [ic21l0, Nat.not_lt.mpr hge]
    exact hok out (by rw [hd]; rfl) _ _ _ _ _ _ _ _ _ _ _ _ _ _ _ ⟨by simp [Val.row], by simp, by first | exact hUl | (rw [hu11]; exact hUl)⟩ hacc

theorem w21 (p q : Name) (ts : List Tm) (vs : List Val) (sp : List (List C)) (hl : ts.length ≤ maxLen) :
    MeetsH Tryd.prog G 21 [.agg [.c (cS (bs p)), .c (.sl (ts.map Tm.row) sp)], .agg [.c (cS (bs q)), arV vs]] (hp [(10005, bxV vs)] [] F0) (matchR (matchOf p ts q vs)).open (hp [(10005, bxV vs)] [] F0) := by
  refine meetsH [] Tryd.func21 ie21 ig21 (Nat.le_of_ble_eq_true rfl) ?_ (by simp) (by simp [ownKey]) (by simp) (by simp) (sameKeys_refl F0) ?_ ?_ ?_
  · simp [midKey]
  · simp
  · simp [matchR, CR.open, CX.open]
  simp [ic21, ir21]
  refine r_call 44 true _ _ (m44 p ts sp hl) rfl rfl rfl rfl ?_
  simp
  refine ⟨fun h => ?_, fun h1 => ⟨fun h => ?_, fun h2 => ⟨fun h => ?_, fun h3 => ?_⟩⟩⟩
  · exact ret_st (by simp) (by simp [matchOf, matchR, h, CR.open, CX.open, X.fits, A.fits]) (by simp) (by simp) (by simp) (by simp)
  · exact ret_st (by simp) (by simp [matchOf, matchR, h, CR.open, CX.open, X.fits, A.fits]) (by simp) (by simp) (by simp) (by simp)
  · have : (ts.length == vs.length) = false := by simp; omega
    exact ret_st (by simp) (by simp [matchOf, matchR, this, CR.open, CX.open, X.fits, A.fits]) (by simp) (by simp) (by simp) (by simp)
  subst h2
  have h24 : ts.length ≤ 24 := by simp [atomOk] at h1; omega
  have hlen : ts.length = vs.length := by omega
  have hmo : matchOf p ts p vs = goMatch Val.ok [] ts vs := by simp [matchOf, h1, hlen]
  rw [hmo]
  refine w21_loop p ts vs sp hlen h24 _ _ _ _ _ _ _ _ _ _ _ _ (fun h _ _ _ _ _ _ _ _ _ _ _ _ _ _ _ hO => ?_) (fun out h _ _ _ _ _ _ _ _ _ _ _ _ _ _ _ hO hacc => ?_)
  · exact ret_st (by simp) (by simp [matchR, h, CR.open, CX.open, X.fits, A.fits]) (by simpa using hO.1) (by simp) hO.2.1 hO.2.2
  · simp
    refine ret_st (by simp) ?_ (by simpa using hO.1) (by simp) hO.2.1 hO.2.2
    rcases hacc with ⟨ho, rfl, rfl⟩ | ⟨rfl, rfl⟩
    · simp [matchR, h, CR.open, CX.open, X.fits, A.fits]
      simpa using ho
    · simp [matchR, h, CR.open, CX.open, X.fits, A.fits]
end Go.Proofs.YtiomojlcnemnhaaDoor

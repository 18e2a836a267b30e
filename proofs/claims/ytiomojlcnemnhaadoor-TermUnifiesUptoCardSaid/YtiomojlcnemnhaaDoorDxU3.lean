/- Contracts, on: the document's unification. -/
import Derived.Test.YtiomojlcnemnhaaDoorDxU2
namespace Go.Proofs.YtiomojlcnemnhaaDoor
open Go.Fx Go.RowKit Go.Ped
variable {G : World → Prop}

def unifyOf (p : Name) (ts : List Tm) (q : Name) (ws : List Tm) : Option (List Pr) := if atomOk p ts && atomOk q ws && p == q && ts.length == ws.length then refUnify [] ts ws else none
def unifyR (r : Option (List Pr)) : CR := .tup [.one (.sl ((r.getD []).map Pr.row) []), .one (cB r.isSome)]
/-- Pairs in a variable. -/
def SlP (s : List Pr) (a : A) : Prop := (s = [] ∧ a = .nil) ∨ a = .c (.sl (s.map Pr.row) [])

theorem SlP.args {s : List Pr} {a : A} (h : SlP s a) : (X.one a).close = some (.one (.sl (s.map Pr.row) [])) := by
  rcases h with ⟨rfl, rfl⟩ | rfl <;> rfl
theorem SlP.strike {s : List Pr} {a : A} (h : SlP s a) (ks : List Nat) : A.strike ks a = a := by
  rcases h with ⟨rfl, rfl⟩ | rfl <;> rfl

theorem tk4 (t : Tm) : List.take 4 (t.row.map A.c) = t.row.map A.c := rfl

theorem xclose (l : List C) : (X.agg (l.map A.c)).close = some (.agg l) := by simp [X.close, closeL_c]

theorem close3 {s : List Pr} {a : A} (ha : SlP s a) (c : C) (l : List C) : closeArgs [.x (.one a), .x (.one (.c c)), .x (.agg (l.map A.c))] = some [.one (.sl (s.map Pr.row) []), .one c, .agg l] := by
  rcases ha with ⟨rfl, rfl⟩ | rfl <;> simp [closeArgs, X.close, A.close, closeL_c]

abbrev O42 (p q : Name) (ts ws : List Tm) (sp sq : List (List C)) : List (Nat × Box) := [(3, ⟨24, 2, [[.c (cS (bs q)), .c (.sl (ws.map Tm.row) sq)]], none⟩), (2, ⟨24, 2, [[.c (cS (bs p)), .c (.sl (ts.map Tm.row) sp)]], none⟩)]

set_option maxHeartbeats 4000000 in
theorem m42 (p q : Name) (ts ws : List Tm) (sp sq : List (List C)) :
    Meets Tryd.prog G 42 [.agg [cS (bs p), .sl (ts.map Tm.row) sp], .agg [cS (bs q), .sl (ws.map Tm.row) sq]] (unifyR (unifyOf p ts q ws)) := by
  refine meets Tryd.func42 ie42 ig42 (Nat.le_of_ble_eq_true rfl) ?_
  simp [ic42, ir42]
  refine r_call 91 true _ _ (m91 p ts sp) rfl rfl rfl rfl ?_
  simp
  have hno : ∀ (h : (atomOk p ts && atomOk q ws && p == q && ts.length == ws.length) = false), unifyOf p ts q ws = none := fun h => by simp [unifyOf, h]
  by_cases h1 : atomOk p ts = true
  · simp [h1]
    refine r_call 91 true _ _ (m91 q ws sq) rfl rfl rfl rfl ?_
    simp
    refine ⟨fun h2 => by rw [hno (by simp [h2])]; simp [unifyR], fun h2 => ⟨fun h3 => by rw [hno (by simp [h3])]; simp [unifyR], fun h3 => ⟨fun h4 => ?_, fun h4 => ?_⟩⟩⟩
    · have h5 : (ts.length == ws.length) = false := by simp; omega
      rw [hno (by simp [h5])]; simp [unifyR]
    subst h3
    have hlen : ts.length = ws.length := by omega
    have h24 : ts.length ≤ 24 := by simp [atomOk] at h1; omega
    have hun : unifyOf p ts p ws = refUnify [] ts ws := by simp [unifyOf, h1, h2, hlen]
    rw [hun]
    let k : Nat → T → T → T → T → T → T → T → A → S := fun i t33 t38 t8 t9 t55 t69 t78 a => ks42 (.k true (.x (.agg [.c (cS (bs p)), .c (.sl (ts.map Tm.row) sp)]))) (.k true (.x (.agg [.c (cS (bs p)), .c (.sl (ws.map Tm.row) sq)]))) (.k true (.x (.one (.ref 2 0 0)))) (.k true (.x (.one (.ref 3 0 0))))
      t33 (tI .i64 i) t38 (.k true (.x (.one a))) t8 t9 t55 t69 t78 (.k true (.x (.one .nil))) (tB false) (O42 p p ts ws sp sq) [] F0
    refine w_loopS [8, 9] (by simp [ownKey]) (fun n σ => ∃ (i : Nat) (s : List Pr) (t33 t38 t8 t9 t55 t69 t78 : T) (a : A), i + n = ts.length ∧ s.length ≤ i ∧ refUnify [] ts ws = refUnify s (ts.drop i) (ws.drop i) ∧ SlP s a ∧ σ = k i t33 t38 t8 t9 t55 t69 t78 a)
      ts.length ⟨0, [], _, _, _, _, _, _, _, _, by simp, by simp, by simp, .inl ⟨rfl, rfl⟩, by simp [k]; rfl⟩ ?_
    rintro n σ1 K hK ⟨i, s, t33, t38, t8, t9, t55, t69, t78, a, hi, hsl, hd, ha, rfl⟩
    have hs8 : ∀ ks, A.strike ks a = a := ha.strike
    obtain hlt | hge := Nat.lt_or_ge i ts.length
    · have hltw : i < ws.length := by omega
      have hI : ∀ (σ' : S) (s' : List Pr), refUnify [] ts ws = refUnify s' (ts.drop (i + 1)) (ws.drop (i + 1)) → s'.length ≤ i + 1 → (∃ t33 t38 t8 t9 t55 t69 t78 a, SlP s' a ∧ σ'.strike [8, 9] = k (i + 1) t33 t38 t8 t9 t55 t69 t78 a) → K σ' := by
        rintro σ' s' h1 h2 ⟨t33, t38, t8, t9, t55, t69, t78, a, h3, h4⟩
        exact hK σ' (n - 1) (by omega) ⟨i + 1, s', t33, t38, t8, t9, t55, t69, t78, a, by omega, h2, h1, h3, h4⟩
      clear hK
      rw [List.drop_eq_getElem_cons hlt, List.drop_eq_getElem_cons hltw, refUnify] at hd
      simp [k, ic42l0, hlt, hs8]
      refine r_call 100 true _ _ (m100 s ts[i] [] (by unfold maxLen; omega)) rfl rfl rfl (by simp [-X.close, -A.close, ha.args, tk4, xclose]) ?_
      simp [hs8, hltw]
      refine r_call 100 true _ _ (m100 s ws[i] [] (by unfold maxLen; omega)) rfl rfl rfl (by simp [-X.close, -A.close, ha.args, tk4, xclose]) ?_
      generalize putS s ts[i] = x at *
      generalize putS s ws[i] = y at *
      have hw := wrap_next hlt (show ts.length ≤ 9223372036854775807 by omega)
      by_cases c1 : x.v = [95]
      · simp [Tm.row, c1, hw]
        exact hI _ s (by rw [hd, if_pos (.inl c1)]) (by omega) ⟨_, _, _, _, _, _, _, _, ha, by simp [k, hs8]; rfl⟩
      by_cases c2 : y.v = [95]
      · simp [Tm.row, c1, c2, hw]
        exact hI _ s (by rw [hd, if_pos (.inr (.inl c2))]) (by omega) ⟨_, _, _, _, _, _, _, _, ha, by simp [k, hs8]; rfl⟩
      by_cases c3 : x = y
      · subst c3
        simp [Tm.row, c1, hw]
        exact hI _ s (by rw [hd, if_pos (.inr (.inr rfl))]) (by omega) ⟨_, _, _, _, _, _, _, _, ha, by simp [k, hs8]; rfl⟩
      rw [if_neg (by simp only [us]; simp [c1, c2, c3])] at hd
      simp [Tm.row, c1, c2, hw]
      refine ⟨fun e1 e2 e3 e4 => absurd (by obtain ⟨xv, xk, xn, xs⟩ := x; obtain ⟨yv, yk, yn, ys⟩ := y; simp at e1 e2 e3 e4; simp [e1, e2, e3, e4]) c3, fun _ => ⟨fun d1 => ?_, fun d1 => ?_⟩⟩
      · rw [if_pos d1] at hd
        refine r_call 112 true _ _ (m112 s x.v y [] (by omega)) rfl rfl rfl (close3 ha _ y.row) ?_
        simp [hw]
        exact hI _ _ hd (by simp [takes]; omega) ⟨_, _, _, _, _, _, _, _, .inr rfl, by simp [k]; rfl⟩
      · rw [if_neg (by simpa using d1)] at hd
        refine ⟨fun d2 => ?_, fun d2 => ?_⟩
        · rw [if_pos d2] at hd
          refine r_call 112 true _ _ (m112 s y.v x [] (by omega)) rfl rfl rfl (close3 ha _ x.row) ?_
          simp [hw]
          exact hI _ _ hd (by simp [takes]; omega) ⟨_, _, _, _, _, _, _, _, .inr rfl, by simp [k]; rfl⟩
        · rw [if_neg (by simpa using d2)] at hd
          rw [hd]; simp [unifyR]
    · rw [List.drop_eq_nil_of_le hge, List.drop_eq_nil_of_le (by omega)] at hd
      simp [k, ic42l0, Nat.not_lt.mpr hge]
      rw [hd]
      rcases ha with ⟨rfl, rfl⟩ | rfl
      · simp [unifyR, refUnify]
      · simp [unifyR, refUnify]
  · have h1 : atomOk p ts = false := by simpa using h1
    simp [h1]
    refine r_callF (.x (.one (cB false))) rfl ?_
    simp
    rw [hno (by simp [h1])]
    simp [unifyR]
end Go.Proofs.YtiomojlcnemnhaaDoor

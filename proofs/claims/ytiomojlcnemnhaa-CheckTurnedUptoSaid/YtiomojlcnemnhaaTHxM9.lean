/- Contracts, on: the program's variables. -/
import Derived.Test.YtiomojlcnemnhaaTHxM8
import Derived.Test.YtiomojlcnemnhaaTHxIcB
namespace Go.Proofs.Ytiomojlcnemnhaa
open Go.Fx Go.RowKit Go.Ped
variable {G : World → Prop}

/-- What stands where a pointer points: a term. -/
def PtTo (es : List (List C)) (i off : Nat) (t : Tm) : Prop := ∃ r, es[i]? = some r ∧ (r.drop off).take 4 = t.row
theorem PtTo.at {es : List (List C)} {i off : Nat} {t : Tm} (h : PtTo es i off t) (j : Nat) (hj : j < 4) : (es[i]?.getD [])[off + j]? = t.row[j]? := by
  obtain ⟨r, h1, h2⟩ := h
  rw [h1, ← h2]
  simp [hj]
theorem PtTo.len {es : List (List C)} {i off : Nat} {t : Tm} (h : PtTo es i off t) : off + 4 ≤ (es[i]?.getD []).length := by
  obtain ⟨r, h1, h2⟩ := h
  have := congrArg List.length h2
  simp [Tm.row] at this
  rw [h1]; simp; omega

/-- The numbers of the variables that were met. -/
def thr : Nat → List Name → List (List A)
  | _, [] => []
  | n, v :: l => [.c (cS (bs v)), .c (cI .i64 (n + 1))] :: thr (n + 1) l

theorem thr_only {p q : Nat → Prop} : ∀ (l : List Name) (n : Nat), ∀ r ∈ thr n l, onlyL p q r
  | v :: l, n, r, hr => by
    simp only [thr, List.mem_cons] at hr
    rcases hr with rfl | hr
    · simp
    · exact thr_only l _ r hr
/-- The number of a variable, from one on; zero: none. -/
def thrAt : Nat → List Name → Name → Int
  | _, [], _ => 0
  | n, u :: l, v => if u = v then n + 1 else thrAt (n + 1) l v
theorem thrAt_pos : ∀ (l : List Name) (n : Nat) (v : Name), (0 < thrAt n l v ↔ v ∈ l)
  | [], n, v => by simp [thrAt]
  | u :: l, n, v => by
    unfold thrAt
    by_cases h : u = v
    · subst h; simp
    · rw [if_neg h, thrAt_pos l]; simp [Ne.symm h]
theorem thr_get0 (v : Name) : ∀ (l : List Name) (n : Nat), mapGet (thr n l) (.string (bs v)) [.c (cI .i64 0)] = [.c (cI .i64 (thrAt n l v))]
  | [], n => by simp [thr, mapGet, thrAt]
  | u :: l, n => by
    have ih := thr_get0 v l (n + 1)
    unfold mapGet at ih ⊢
    unfold thr thrAt
    by_cases h : u = v
    · subst h; simp [keyEq]
    · simp [keyEq, h] at ih ⊢
      exact ih
theorem thr_get (v : Name) (l : List Name) : mapGet (thr 0 l) (.string (bs v)) [.c (cI .i64 0)] = [.c (cI .i64 (thrAt 0 l v))] := thr_get0 v l 0
theorem thr_put0 (v : Name) (m : Int) : ∀ (l : List Name) (n : Nat), v ∉ l → (thr n l).any (keyEq (.string (bs v))) = false
  | [], n, _ => rfl
  | u :: l, n, h => by
    simp only [List.mem_cons, not_or] at h
    simp [thr, keyEq, thr_put0 v m l (n + 1) h.2, Ne.symm h.1]
theorem thr_app (v : Name) : ∀ (l : List Name) (n : Nat), thr n (l ++ [v]) = thr n l ++ [[.c (cS (bs v)), .c (cI .i64 (n + l.length + 1))]]
  | [], n => by simp [thr]
  | u :: l, n => by simp [thr, thr_app v l (n + 1)]; omega
theorem thr_put (v : Name) (l : List Name) (h : v ∉ l) : mapPut (thr 0 l) (.string (bs v)) [.c (cI .i64 (l.length + 1))] = thr 0 (l ++ [v]) := by
  unfold mapPut
  rw [thr_put0 v 0 l 0 h, thr_app]
  simp

theorem thr_strike (ks : List Nat) : ∀ (l : List Name) (n : Nat), (thr n l).map (strikeL ks) = thr n l
  | [], _ => rfl
  | v :: l, n => by simp [thr, thr_strike ks l (n + 1)]

abbrev O170 (acc : List Name) : List (Nat × Box) := [(10003, ⟨117, 1, [[.own 10030 (acc.map nmRow)]], none⟩), (10004, ⟨191, 1, [[.mapr 10005]], none⟩), (10005, ⟨0, 2, thr 0 acc, some (.string, true)⟩)]
abbrev U170 (acc : List Name) : List (Nat × Tok) := [(10030, ⟨9, 1, acc.length⟩)]

set_option maxHeartbeats 2000000 in
theorem m170 (es sp : List (List C)) (i off : Nat) (t : Tm) (h : PtTo es i off t) (acc : List Name) (hl : acc.length ≤ 2000000) :
    MeetsH Try.prog G 140 [.one (.elem es sp i off), .one (.ref 10004 0 0), .one (.ref 10003 0 0)] (hp (O170 acc) (U170 acc) F0) (.tup []) (hp (O170 (varsOn acc [t.v])) (U170 (varsOn acc [t.v])) F0) := by
  refine meetsH [] Try.func140 ie170 ig170 (Nat.le_of_ble_eq_true rfl) ?_ ?_ ?_ ?_ ?_ (sameKeys_refl F0) ?_ ?_ ?_
  · intro p hp
    simp only [List.mem_cons, List.not_mem_nil, or_false] at hp
    rcases hp with rfl | rfl | rfl
    · exact ⟨by unfold midKey; omega, by simp [ownKey]⟩
    · exact ⟨by unfold midKey; omega, by simp [ownKey]⟩
    · exact ⟨by unfold midKey; omega, fun r hr => thr_only _ _ r hr⟩
  · intro p hp
    simp only [List.mem_cons, List.not_mem_nil, or_false] at hp
    subst hp; unfold midKey; omega
  · simp [ownKey]
  · simp
  · simp
  · intro p hp
    simp only [List.mem_cons, List.not_mem_nil, or_false] at hp
    rcases hp with rfl | rfl | rfl
    · simp
    · simp [ownKey]
    · exact fun r hr => thr_only _ _ r hr
  · simp
  have hat := h.at 0 (by omega)
  have hlen : off < (es[i]?.getD []).length := by have := h.len; omega
  simp only [Nat.add_zero, Tm.row, List.getElem?_cons_zero] at hat
  have hval : (es[i]?.getD [])[off]'hlen = cS (bs t.v) := (List.getElem?_eq_some_iff.1 hat).2
  clear hat
  have hv1 : varsOn acc [t.v] = if Ped.isVar t.v && !acc.contains t.v then acc ++ [t.v] else acc := rfl
  by_cases h0 : t.v = []
  · have e : varsOn acc [[]] = acc := by rw [← h0, hv1, h0]; simp [Ped.isVar]
    simp [ic170, ir170, hval, hlen, h0, thr_get, e]
    exact ret_st (by simp) (by simp) (by simp) (by simp) (by simp) (by simp)
  by_cases h1 : t.v = [95]
  · have e : varsOn acc [[95]] = acc := by rw [← h1, hv1, h1]; simp [Ped.isVar, us]
    simp [ic170, ir170, hval, hlen, h1, thr_get, e]
    exact ret_st (by simp) (by simp) (by simp) (by simp) (by simp) (by simp)
  by_cases h2 : t.v ∈ acc
  · have e : varsOn acc [t.v] = acc := by rw [hv1]; simp [h2]
    simp [ic170, ir170, hval, hlen, h0, h1, thr_get, (thrAt_pos acc 0 t.v).2 h2, e]
    exact ret_st (by simp) (by simp) (by simp) (by simp) (by simp) (by simp)
  · have e : varsOn acc [t.v] = acc ++ [t.v] := by rw [hv1]; simp [h2, Ped.isVar, us, h0, h1]
    simp [ic170, ir170, hval, hlen, h0, h1, thr_get, mt (thrAt_pos acc 0 t.v).1 h2, thr_strike, e]
    refine k_row rfl rfl (by simp) (by simp) ?_
    refine k_app (k := 10030) (es := acc.map nmRow) (q := ⟨9, 1, acc.length⟩) (by simp) rfl rfl (by simp) (by simp) rfl rfl (by simp) (by simp [maxLen]; omega) (by simp [maxBytes]; omega) trivial ?_
    simp [hval, hlen, thr_put t.v acc h2]
    exact ret_st (by simp) (by simp) (by simp) (by simp) (by simp) (by simp)
end Go.Proofs.Ytiomojlcnemnhaa

import Derived.Test.YtiomojlcnemnhaaFHxM8
import Derived.Test.YtiomojlcnemnhaaFHxIcB
/- Contracts, on: the program's variables. -/
namespace Go.Proofs.Ytiomojlcnemnhaa
open Go.Fx Go.RowKit Go.Ped
variable {G : World → Prop}

/-- What stands where a pointer points: a term. -/
def PtTo (es : List (List C)) (i off : Nat) (t : Tm) : Prop := ∃ r, es[i]? = some r ∧ (r.drop off).take 4 = t.row
theorem PtTo.at {es : List (List C)} {i off : Nat} {t : Tm} (h : PtTo es i off t) (j : Nat) (hj : j < 4) : (es[i]?.getD [])[off + j]? = t.row[j]? := by
  obtain ⟨r, h1, h2⟩ := h
  rw [h1, ← h2]
  simp [hj]
theorem PtTo.len {es : List (List C)} {i off : Nat} {t : Tm} (h : PtTo es i off t) : off + 4 ≤ (es[i]?.getD []).length := by
  obtain ⟨r, h1, h2⟩ := h
  have := congrArg List.length h2
  simp [Tm.row] at this
  rw [h1]; simp; omega

/-- The numbers of the variables that were met. -/
def thr : Nat → List Name → List (List A)
  | _, [] => []
  | n, v :: l => [.c (cS (bs v)), .c (cI .i64 (n + 1))] :: thr (n + 1) l

theorem thr_only {p q : Nat → Prop} : ∀ (l : List Name) (n : Nat), ∀ r ∈ thr n l, onlyL p q r
  | v :: l, n, r, hr => by
    simp only [thr, List.mem_cons] at hr
    rcases hr with rfl | hr
    · simp
    · exact thr_only l _ r hr
/-- The number of a variable, from one on; zero: none. -/
def thrAt : Nat → List Name → Name → Int
  | _, [], _ => 0
  | n, u :: l, v => if u = v then n + 1 else thrAt (n + 1) l v
theorem thrAt_pos : ∀ (l : List Name) (n : Nat) (v : Name), (0 < thrAt n l v ↔ v ∈ l)
  | [], n, v => by simp [thrAt]
  | u :: l, n, v => by
    unfold thrAt
    by_cases h : u = v
    · subst h; simp
    · rw [if_neg h, thrAt_pos l]; simp [Ne.symm h]
theorem thr_get0 (v : Name) : ∀ (l : List Name) (n : Nat), mapGet (thr n l) (.string (bs v)) [.c (cI .i64 0)] = [.c (cI .i64 (thrAt n l v))]
  | [], n => by simp [thr, mapGet, thrAt]
  | u :: l, n => by
    have ih := thr_get0 v l (n + 1)
    unfold mapGet at ih ⊢
    unfold thr thrAt
    by_cases h : u = v
    · subst h; simp [keyEq]
    · simp [keyEq, h] at ih ⊢
      exact ih
theorem thr_get (v : Name) (l : List Name) : mapGet (thr 0 l) (.string (bs v)) [.c (cI .i64 0)] = [.c (cI .i64 (thrAt 0 l v))] := thr_get0 v l 0
theorem thr_put0 (v : Name) (m : Int) : ∀ (l : List Name) (n : Nat), v ∉ l → (thr n l).any (keyEq (.string (bs v))) = false
  | [], n, _ => rfl
  | u :: l, n, h => by
    simp only [List.mem_cons, not_or] at h
    simp [thr, keyEq, thr_put0 v m l (n + 1) h.2, Ne.symm h.1]
theorem thr_app (v : Name) : ∀ (l : List Name) (n : Nat), thr n (l ++ [v]) = thr n l ++ [[.c (cS (bs v)), .c (cI .i64 (n + l.length + 1))]]
  | [], n => by simp [thr]
  | u :: l, n => by simp [thr, thr_app v l (n + 1)]; omega
theorem thr_put (v : Name) (l : List Name) (h : v ∉ l) : mapPut (thr 0 l) (.string (bs v)) [.c (cI .i64 (l.length + 1))] = thr 0 (l ++ [v]) := by
  unfold mapPut
  rw [thr_put0 v 0 l 0 h, thr_app]
  simp

theorem thr_strike (ks : List Nat) : ∀ (l : List Name) (n : Nat), (thr n l).map (strikeL ks) = thr n l
  | [], _ => rfl
  | v :: l, n => by simp [thr, thr_strike ks l (n + 1)]

abbrev O170 (acc : List Name) : List (Nat × Box) := [(10003, ⟨117, 1, [[.own 10030 (acc.map nmRow)]], none⟩), (10004, ⟨191, 1, [[.mapr 10005]], none⟩), (10005, ⟨0, 2, thr 0 acc, some (.string, true)⟩)]
abbrev U170 (acc : List Name) : List (Nat × Tok) := [(10030, ⟨9, 1, acc.length⟩)]

set_option maxHeartbeats 2000000 in
theorem m170 (es sp : List (List C)) (i off : Nat) (t : Tm) (h : PtTo es i off t) (acc : List Name) (hl : acc.length ≤ 2000000) :
    MeetsH Try.prog G 140 [.one (.elem es sp i off), .one (.ref 10004 0 0), .one (.ref 10003 0 0)] (hp (O170 acc) (U170 acc) F0) (.tup []) (hp (O170 (varsOn acc [t.v])) (U170 (varsOn acc [t.v])) F0) := by
  refine meetsH [] Try.func140 ie170 ig170 (Nat.le_of_ble_eq_true rfl) ?_ ?_ ?_ ?_ ?_ (sameKeys_refl F0) ?_ ?_ ?_
  · intro p hp
    simp only [List.mem_cons, List.not_mem_nil, or_false] at hp
    rcases hp with rfl | rfl | rfl
    · exact ⟨by unfold midKey; omega, by simp [ownKey]⟩
    · exact ⟨by unfold midKey; omega, by simp [ownKey]⟩
    · exact ⟨by unfold midKey; omega, fun r hr => thr_only _ _ r hr⟩
  · intro p hp
    simp only [List.mem_cons, List.not_mem_nil, or_false] at hp
    subst hp; unfold midKey; omega
  · simp [ownKey]
  · simp
  · simp
  · intro p hp
    simp only [List.mem_cons, List.not_mem_nil, or_false] at hp
    rcases hp with rfl | rfl | rfl
    · simp
    · simp [ownKey]
    · exact fun r hr => thr_only _ _ r hr
  · simp
  have hat := h.at 0 (by omega)
  have hlen : off < (es[i]?.getD []).length := by have := h.len; omega
  simp only [Nat.add_zero, Tm.row, List.getElem?_cons_zero] at hat
  have hval : (es[i]?.getD [])[off]'hlen = cS (bs t.v) := (List.getElem?_eq_some_iff.1 hat).2
  clear hat
  have hv1 : varsOn acc [t.v] = if Ped.isVar t.v && !acc.contains t.v then acc ++ [t.v] else acc := rfl
  by_cases h0 : t.v = []
  · have e : varsOn acc [[]] = acc := by rw [← h0, hv1, h0]; simp [Ped.isVar]
    simp [ic170, ir170, hval, hlen, h0, thr_get, e]
    exact ret_st (by simp) (by simp) (by simp) (by simp) (by simp) (by simp)
  by_cases h1 : t.v = [95]
  · have e : varsOn acc [[95]] = acc := by rw [← h1, hv1, h1]; simp [Ped.isVar, us]
    simp [ic170, ir170, hval, hlen, h1, thr_get, e]
    exact ret_st (by simp) (by simp) (by simp) (by simp) (by simp) (by simp)
  by_cases h2 : t.v ∈ acc
  · have e : varsOn acc [t.v] = acc := by rw [hv1]; simp [h2]
    simp [ic170, ir170, hval, hlen, h0, h1, thr_get, (thrAt_pos acc 0 t.v).2 h2, e]
    exact ret_st (by simp) (by simp) (by simp) (by simp) (by simp) (by simp)
  · have e : varsOn acc [t.v] = acc ++ [t.v] := by rw [hv1]; simp [h2, Ped.isVar, us, h0, h1]
    simp [ic170, ir170, hval, hlen, h0, h1, thr_get, mt (thrAt_pos acc 0 t.v).1 h2, thr_strike, e]
    refine k_row rfl rfl (by simp) (by simp) ?_
    refine k_app (k := 10030) (es := acc.map nmRow) (q := ⟨9, 1, acc.length⟩) (by simp) rfl rfl (by simp) (by simp) rfl rfl (by simp) (by simp [maxLen]; omega) (by simp [maxBytes]; omega) trivial ?_
    simp [hval, hlen, thr_put t.v acc h2]
    exact ret_st (by simp) (by simp) (by simp) (by simp) (by simp) (by simp)
end Go.Proofs.Ytiomojlcnemnhaa

/- Contracts, on: the program's walk over the terms of a thing. -/
namespace Go.Proofs.Ytiomojlcnemnhaa
open Go.Fx Go.RowKit Go.Ped
variable {G : World → Prop}

theorem sameKeys_trans {H1 H2 H3 : FHp} (h : sameKeys H1 H2) (h' : sameKeys H2 H3) : sameKeys H1 H3 :=
  ⟨fun k => ⟨(h.1 k).1.trans (h'.1 k).1, (h.1 k).2.trans (h'.1 k).2⟩, h'.2.trans h.2⟩

/-- What a function does, handed the terms of a list one behind the other, to what it holds. -/
inductive Ch (G : World → Prop) (fv : A) : List Tm → FHp → FHp → Prop
  | nil (H : FHp) : Ch G fv [] H H
  | cons {t : Tm} {l : List Tm} {H H1 H2 : FHp} (h : ∀ es sp i off, PtTo es i off t → MeetsV Try.prog G fv [.one (.elem es sp i off)] (hp [] [] H) (.tup []) (hp [] [] H1)) (hs : sameKeys H H1) (hl : Ch G fv l H1 H2) : Ch G fv (t :: l) H H2
theorem Ch.same {fv : A} {l : List Tm} {H H' : FHp} (h : Ch G fv l H H') : sameKeys H H' := by
  induction h with
  | nil H => exact sameKeys_refl H
  | cons _ hs _ ih => exact sameKeys_trans hs ih
theorem Ch.app {fv : A} {l m : List Tm} {H H1 H2 : FHp} (h : Ch G fv l H H1) (h2 : Ch G fv m H1 H2) : Ch G fv (l ++ m) H H2 := by
  induction h with
  | nil H => exact h2
  | cons h hs _ ih => exact .cons h hs (ih h2)
theorem Ch.split {fv : A} : ∀ {l m : List Tm} {H H2 : FHp}, Ch G fv (l ++ m) H H2 → ∃ H1, Ch G fv l H H1 ∧ Ch G fv m H1 H2
  | [], _, H, _, h => ⟨H, .nil H, h⟩
  | _ :: l, m, _, _, h => by
    cases h with
    | cons h hs hl =>
      obtain ⟨H1, h1, h2⟩ := Ch.split hl
      exact ⟨H1, .cons h hs h1, h2⟩
theorem Ch.step {fv : A} {l : List Tm} {H H2 : FHp} {i : Nat} {t : Tm} (ht : l[i]? = some t) (h : Ch G fv (l.drop i) H H2) :
    ∃ H1, (∀ es sp j off, PtTo es j off t → MeetsV Try.prog G fv [.one (.elem es sp j off)] (hp [] [] H) (.tup []) (hp [] [] H1)) ∧ sameKeys H H1 ∧ Ch G fv (l.drop (i + 1)) H1 H2 := by
  obtain ⟨hi, rfl⟩ := List.getElem?_eq_some_iff.1 ht
  rw [List.drop_eq_getElem_cons hi] at h
  cases h with
  | cons h hs hl => exact ⟨_, h, hs, hl⟩

/-- A call that leaves the far part another. -/
theorem r_callC {P : Program} {L : List (Nat × T)} {O : List (Nat × Box)} {U : List (Nat × Tok)} {H H2 : FHp} {l : List IOper} {K : S → Prop} {d : Nat} {f : D} {args : List D} {gd : Option (Nat × Bool)} {fv : A} {xs : List X} {res : R} (hm : MeetsV P G fv xs (hp [] [] H) res (hp [] [] H2))
    (hs : sameKeys H H2) (hg : guardO (st L O U H) gd = some true) (hf : f.val (st L O U H) = .k true (.x (.one fv))) (ha : (args.all fun d => (d.val (st L O U H)).g) = true) (hx : fitsR (args.map fun d => (d.val (st L O U H)).r) xs)
    (hO : ∀ p ∈ O, p.1 < 15000) (hU : ∀ p ∈ U, p.1 < 15000) (h : runK P G l (st ((d, .k true res) :: L) O U H2) K) : runK P G (⟨some d, .call f args, gd, none⟩ :: l) (st L O U H) K :=
  r_callV fv xs [] [] res [] [] H2 hm hg hf ha hx (fun _ h => by cases h) (fun _ h => by cases h) hO hU (fun _ h => by cases h) (fun _ h => by cases h) (fun _ h => by cases h) (fun _ h => by cases h) hs rfl h

/-- A pointer to some cells. -/
def PtAt (es : List (List C)) (i off : Nat) (cs : List C) : Prop := ∃ r, es[i]? = some r ∧ (r.drop off).take cs.length = cs
theorem PtAt.len {es : List (List C)} {i off : Nat} {cs : List C} (h : PtAt es i off cs) : off + cs.length ≤ (es[i]?.getD []).length ∨ cs = [] := by
  obtain ⟨r, h1, h2⟩ := h
  have := congrArg List.length h2
  simp at this
  rw [h1]; simp
  by_cases hc : cs = []
  · exact .inr hc
  · left; have : 0 < cs.length := List.length_pos_iff.2 hc; omega
theorem PtAt.at {es : List (List C)} {i off : Nat} {cs : List C} (h : PtAt es i off cs) (j : Nat) (hj : j < cs.length) : (es[i]?.getD [])[off + j]? = some cs[j] := by
  obtain ⟨r, h1, h2⟩ := h
  rw [h1, ← List.getElem?_eq_getElem hj, ← h2]
  simp [hj]

section
variable {fv : A} {H H' : FHp} {Q : Exit → S → Prop} {t0 t12 t14 t15 t4 t21 t20 t22 t1 t5 t39 t38 t40 t6 t53 t54 t7 t74 t75 t8 t86 t85 t87 t9 t100 t101 t10 t107 t106 t108 t11 : T}

theorem walk_l3 (es sq : List (List C)) (i off : Nat) (l : List Tm) (sp : List (List C)) (hl : l.length ≤ maxLen) (hlen : off + 1 < (es[i]?.getD []).length) (hval : (es[i]?.getD [])[off + 1]'hlen = .sl (l.map Tm.row) sp)
    (hc : Ch G fv l H H') (hQ : ∀ t107 t108 t11, Q (.exit 7) (ks126 t0 t12 t14 t15 t4 t21 t20 t22 (.k true (.x (.one fv))) t5 t39 t38 t40 t6 t53 t54 t7 t74 t75 t8 t86 t85 t87 t9 t100 t101 (.k true (.x (.one (.elem es sq i off)))) t107 (tI .i64 l.length) t108 t11 [] [] H')) :
    wpI Try.prog G (.loop ic126l3) Q (ks126 t0 t12 t14 t15 t4 t21 t20 t22 (.k true (.x (.one fv))) t5 t39 t38 t40 t6 t53 t54 t7 t74 t75 t8 t86 t85 t87 t9 t100 t101 (.k true (.x (.one (.elem es sq i off)))) (tI .i64 0) (tI .i64 l.length) t108 t11 [] [] H) := by
  refine w_loopK (fun n σ => ∃ (j : Nat) (H1 : FHp) (t108 t11 : T), j + n = l.length ∧ Ch G fv (l.drop j) H1 H' ∧ σ = ks126 t0 t12 t14 t15 t4 t21 t20 t22 (.k true (.x (.one fv))) t5 t39 t38 t40 t6 t53 t54 t7 t74 t75 t8 t86 t85 t87 t9 t100 t101 (.k true (.x (.one (.elem es sq i off)))) (tI .i64 j) (tI .i64 l.length) t108 t11 [] [] H1)
    l.length ⟨0, H, _, _, by simp, by simpa using hc, rfl⟩ ?_
  rintro n σ1 K hK ⟨j, H1, t108, t11, hj, hd, rfl⟩
  obtain hlt | hge := Nat.lt_or_ge j l.length
  · obtain ⟨H2, hm, hs, hd2⟩ := hd.step (List.getElem?_eq_getElem hlt)
    have hpt : PtTo (l.map Tm.row) j 0 l[j] := ⟨l[j].row, by simp [hlt], by simp [Tm.row]⟩
    simp [ic126l3, hlt, hlen, hval]
    refine r_callC (hm _ sp _ _ hpt) hs rfl rfl rfl (by simp) (by simp) (by simp) ?_
    simp [wrap_next hlt (by unfold maxLen at hl; omega)]
    exact hK _ (n - 1) (by omega) ⟨j + 1, H2, _, _, by omega, hd2, rfl⟩
  · rw [List.drop_eq_nil_of_le hge] at hd
    cases hd
    simp [ic126l3, Nat.not_lt.mpr hge]
    exact hQ _ _ _
end

theorem m126_atom {fv : A} {H H' : FHp} (hfv : fv.only farKey (fun _ => False)) (es sq : List (List C)) (i off : Nat) (p : Name) (l : List Tm) (sp : List (List C)) (hl : l.length ≤ maxLen)
    (hp1 : PtAt es i off [cS (bs p), .sl (l.map Tm.row) sp]) (hc : Ch G fv l H H') :
    MeetsH Try.prog G 139 [.one (.ifc 253 (.elem es sq i off)), .one fv] (hp [] [] H) (.tup []) (hp [] [] H') := by
  refine meetsH [] Try.func139 ie126 ig126 (Nat.le_of_ble_eq_true rfl) (by simp) (by simp) ?_ (by simp) (by simp) hc.same (by simp) (by simp) ?_
  · simp
    exact A.only_mono (fun _ => far_not_own) (fun _ h => h.elim) hfv
  have hlen : off + 1 < (es[i]?.getD []).length := by rcases hp1.len with h | h <;> simp at h; omega
  have hval : (es[i]?.getD [])[off + 1]'hlen = .sl (l.map Tm.row) sp := (List.getElem?_eq_some_iff.1 (hp1.at 1 (by simp))).2
  simp [ic126, ir126, hlen, hval]
  refine walk_l3 es sq i off l sp hl hlen hval hc ?_
  intro t107 t108 t11
  simp
  exact ret_st (by simp) (by simp) (by simp) (by simp) (by simp) (by simp)
end Go.Proofs.Ytiomojlcnemnhaa

/- Contracts, on: the program's variables of a thing. -/
namespace Go.Proofs.Ytiomojlcnemnhaa
open Go.Fx Go.RowKit Go.Ped
variable {G : World → Prop}

abbrev O15 (acc : List Name) : List (Nat × Box) := [(15003, ⟨117, 1, [[.own 15030 (acc.map nmRow)]], none⟩), (15004, ⟨191, 1, [[.mapr 15005]], none⟩), (15005, ⟨0, 2, thr 0 acc, some (.string, true)⟩)]
abbrev U15 (acc : List Name) : List (Nat × Tok) := [(15030, ⟨9, 1, acc.length⟩)]
theorem hO15 (acc : List Name) : ∀ p ∈ O15 acc, farKey p.1 ∧ ∀ r ∈ p.2.rows, onlyL farKey (fun k => lookT (U15 acc) k ≠ none) r := by
  intro p hp
  simp only [List.mem_cons, List.not_mem_nil, or_false] at hp
  rcases hp with rfl | rfl | rfl
  · exact ⟨by unfold farKey; omega, by simp⟩
  · exact ⟨by unfold farKey; omega, by simp [farKey]⟩
  · exact ⟨by unfold farKey; omega, fun r hr => thr_only _ _ r hr⟩
theorem hU15 (acc : List Name) : ∀ p ∈ U15 acc, farKey p.1 := by
  intro p hp
  simp only [List.mem_cons, List.not_mem_nil, or_false] at hp
  subst hp; unfold farKey; omega
/-- What the closure holds, far. -/
def Hv (acc : List Name) : FHp := FHp.of (O15 acc) (U15 acc) (hO15 acc) (hU15 acc)
abbrev fv15 : A := .clo 140 [] [.ref 15004 0 0, .ref 15003 0 0]

theorem thr_ren (f : Nat → Nat) : ∀ (l : List Name) (n : Nat), (thr n l).map (renL f) = thr n l
  | [], _ => rfl
  | v :: l, n => by simp [thr, thr_ren f l (n + 1)]

theorem Hv_same (a b : List Name) : sameKeys (Hv a) (Hv b) := by
  refine ⟨fun k => ⟨?_, ?_⟩, rfl⟩
  · show lookO (O15 a) k = none ↔ lookO (O15 b) k = none
    simp only [lookO_cons]
    split <;> (try split) <;> (try split) <;> simp
  · show lookT (U15 a) k = none ↔ lookT (U15 b) k = none
    simp only [lookT_cons]
    split <;> simp

theorem c170 (es sp : List (List C)) (i off : Nat) (t : Tm) (h : PtTo es i off t) (acc : List Name) (hl : acc.length ≤ 2000000) :
    MeetsV Try.prog G fv15 [.one (.elem es sp i off)] (hp [] [] (Hv acc)) (.tup []) (hp [] [] (Hv (varsOn acc [t.v]))) := by
  have h1 := (clo_of (f := 140) (fs := []) (args := [.one (.elem es sp i off)]) (cs := [.ref 10004 0 0, .ref 10003 0 0]) rfl (m170 (G := G) es sp i off t h acc hl)).ren (π := midFar)
  simp [mfF, thr_ren] at h1
  unfold Hv
  rw [hp_of, hp_of]
  exact h1

theorem ch170 : ∀ (l : List Tm) (acc : List Name), acc.length + l.length ≤ 2000000 → Ch G fv15 l (Hv acc) (Hv (varsOn acc (l.map Tm.v)))
  | [], acc, _ => .nil _
  | t :: l, acc, h => by
    have e : varsOn acc ((t :: l).map Tm.v) = varsOn (varsOn acc [t.v]) (l.map Tm.v) := by
      rw [← varsOn_append]; rfl
    have hlen : (varsOn acc [t.v]).length ≤ acc.length + 1 := by simpa using varsOn_length [t.v] acc
    rw [e]
    simp only [List.length_cons] at h
    exact .cons (fun es sp i off hp => c170 es sp i off t hp acc (by omega)) (Hv_same _ _) (ch170 l _ (by omega))

/-- The walk over a thing, as what its terms are. -/
def Walks (G : World → Prop) (x : A) (l : List Tm) : Prop :=
  ∀ (fv : A) (H H' : FHp), fv.only farKey (fun _ => False) → Ch G fv l H H' → MeetsH Try.prog G 139 [.one x, .one fv] (hp [] [] H) (.tup []) (hp [] [] H')

set_option maxRecDepth 20000 in
theorem m118 (x : A) (l : List Tm) (hx : x.only (fun _ => False) (fun _ => False)) (hxr : ∀ f, x.ren f = x) (hxs : ∀ ks, x.strike ks = x) (_hxf : ∀ B, x.freeze B = x) (hl : l.length ≤ 2000000) (hw : Walks G x l) :
    MeetsH Try.prog G 120 [.one x] (hp [] [] F0) (.x (.one (.c (.sl ((tmVars l).map nmRow) [])))) (hp [] [] F0) := by
  have h1 := (MeetsV.of_fun (hw fv15 _ _ ⟨trivial, by simp [farKey]⟩ (ch170 (G := G) l [] (by simpa using hl)))).ren (π := nearFar)
  unfold Hv at h1
  rw [hp_of, hp_of] at h1
  simp [nfF, thr_ren, hxr] at h1
  refine meetsH [] Try.func120 ie118 ig118 (Nat.le_of_ble_eq_true rfl) (by simp) (by simp) ?_ (by simp) (by simp) (sameKeys_refl F0) (by simp) (by simp) ?_
  · simp
    exact A.only_mono (fun _ h => h.elim) (fun _ h => h.elim) hx
  have e0 : thr 0 [] = [] := rfl
  rw [e0] at h1
  simp [ic118, ir118, hxs]
  refine r_callV _ _ _ _ _ _ _ _ h1 rfl rfl rfl (by simp) (by simp) (by simp) (by simp) (by simp) (by simp) (by simp) (by simp) (by simp) (sameKeys_refl F0) rfl ?_
  simp
  refine ret_st (by simp) ?_ (by simp) (by simp) (by simp) (by simp)
  exact ⟨rfl, rfl⟩
end Go.Proofs.Ytiomojlcnemnhaa

/- Contracts, on: an atom's variables; the law on atoms. -/
namespace Go.Proofs.Ytiomojlcnemnhaa
open Go.Fx Go.RowKit Go.Ped
variable {G : World → Prop}

theorem walks_atom (es sq : List (List C)) (i off : Nat) (p : Name) (l : List Tm) (sp : List (List C)) (hl : l.length ≤ maxLen)
    (h : PtAt es i off [cS (bs p), .sl (l.map Tm.row) sp]) : Walks G (.ifc 253 (.elem es sq i off)) l :=
  fun _ _ _ hfv hc => m126_atom hfv es sq i off p l sp hl h hc

theorem m46 (p : Name) (l : List Tm) (sp : List (List C)) (hl : l.length ≤ 1048576) :
    Meets Try.prog G 83 [.agg [cS (bs p), .sl (l.map Tm.row) sp]] (.x (.one (.sl ((tmVars l).map nmRow) []))) := by
  refine meets Try.func83 ie46 ig46 (Nat.le_of_ble_eq_true rfl) ?_
  have hw := walks_atom (G := G) [[cS (bs p), .sl (l.map Tm.row) sp]] [] 0 0 p l sp (by unfold maxLen; omega) ⟨_, rfl, rfl⟩
  simp [ic46, ir46, freeze_st, fzL, freezeO, maxLen, closeL, A.close]
  refine r_call0 (MeetsV.of_fun (m118 _ l (by simp) (fun _ => rfl) (fun _ => rfl) (fun _ => rfl) (by omega) hw)) rfl rfl rfl (by simp) (by simp) (by simp) ?_
  simp

end Go.Proofs.Ytiomojlcnemnhaa

import Derived.Test.YtiomojlcnemnhaaFFxWb
import Derived.Test.YtiomojlcnemnhaaProg
import Derived.KernelRfl
import Derived.Test.YtiomojlcnemnhaaFHxQ8
/- Functions of the seat, as the small language has them. -/
namespace Go.Proofs.Ytiomojlcnemnhaa
open Go.Fx

end Go.Proofs.Ytiomojlcnemnhaa

/- Contracts, on: a rule of a user, the document's way; both are one. (Labels of 2000 and more: seat ZD.) -/
namespace Go.Proofs.Ytiomojlcnemnhaa
open Go.Fx Go.RowKit Go.Ped
variable {G : World → Prop}

def wideP (p : Pd) : Bool := decide (p.n > 8)
def resP (p : Pd) : Bool := qq.isPrefixOf p.name
def refBad (r : Rule) : Bool := decide (r.body.length > 12) || (standOf r).any wideP || ((tmVars r.terms).any longN || (standOf r).any fun p => longN p.name)
def refRes (r : Rule) : Bool := (standOf r).any resP
def refErr (r : Rule) : Int := if ruleOk r then (if refBad r = true then 70 else if refRes r = true then 71 else ruleErr r) else 40

/- Both are one. -/
theorem sizeErr_eq (v : Name) (n : Int) : sizeErr v n = if longN v || decide (n > 8) then 70 else if qq.isPrefixOf v then 71 else 0 := by
  unfold sizeErr longN
  by_cases h1 : v.length > 24 <;> by_cases h2 : n > 8 <;> simp [h1, h2]
def badP (p : Pd) : Bool := longN p.name || wideP p
theorem litsErr_eq : ∀ (l : List Lit) (w : Int), (∀ x ∈ l, x.kind = 1 ∨ x.kind = 2 ∨ x.kind = 3) → (w = 0 ∨ w = 70 ∨ w = 71) →
    litsErr w l = if w = 70 ∨ ((l.filter isAtom).map litPd).any badP = true then 70 else if w = 71 ∨ ((l.filter isAtom).map litPd).any resP = true then 71 else 0
  | [], w, _, hw => by rcases hw with rfl | rfl | rfl <;> simp [litsErr]
  | x :: l, w, hk, hw => by
    have hk' : ∀ y ∈ l, y.kind = 1 ∨ y.kind = 2 ∨ y.kind = 3 := fun y hy => hk y (List.mem_cons_of_mem _ hy)
    rw [litsErr]
    by_cases h3 : x.kind = 3
    · have hn : isAtom x = false := by simp [isAtom, h3]
      rw [if_pos h3, litsErr_eq l w hk' hw, List.filter_cons_of_neg (by simp [hn])]
    · have hy : isAtom x = true := by
        rcases hk x (List.mem_cons_self ..) with h | h | h
        · simp [isAtom, h]
        · simp [isAtom, h]
        · exact absurd h h3
      rw [if_neg h3, List.filter_cons_of_pos hy, List.map_cons, List.any_cons, List.any_cons]
      have hs := sizeErr_eq x.p x.l.length
      have hb : badP (litPd x) = (longN x.p || decide ((x.l.length : Int) > 8)) := rfl
      have hr : resP (litPd x) = qq.isPrefixOf x.p := rfl
      rw [hb, hr]
      cases e1 : (longN x.p || decide ((x.l.length : Int) > 8)) with
      | true =>
        rw [e1] at hs
        simp only [if_true] at hs
        rw [hs, litsErr_eq l _ hk' (by rcases hw with rfl | rfl | rfl <;> simp [stepErr])]
        simp [stepErr]
      | false =>
        rw [e1] at hs
        simp only [Bool.false_eq_true, if_false] at hs
        cases e2 : qq.isPrefixOf x.p with
        | true =>
          rw [e2] at hs
          simp only [if_true] at hs
          rw [hs, litsErr_eq l _ hk' (by rcases hw with rfl | rfl | rfl <;> simp [stepErr])]
          rcases hw with rfl | rfl | rfl <;> simp [stepErr]
        | false =>
          rw [e2] at hs
          simp only [Bool.false_eq_true, if_false] at hs
          rw [hs, litsErr_eq l _ hk' (by rcases hw with rfl | rfl | rfl <;> simp [stepErr])]
          rcases hw with rfl | rfl | rfl <;> simp [stepErr]

theorem ok_kinds {r : Rule} (h : ruleOk r = true) : ∀ x ∈ r.body, x.kind = 1 ∨ x.kind = 2 ∨ x.kind = 3 := fun x hx => by
  simp only [ruleOk, Bool.and_eq_true] at h
  have := List.all_eq_true.1 h.1.2 x hx
  unfold litOk at this
  split at this
  · rename_i hk; rcases hk with hk | hk
    · exact .inl hk
    · exact .inr (.inl hk)
  · split at this
    · rename_i hk; exact .inr (.inr hk)
    · cases this

theorem user_same (r : Rule) : userErr r = refErr r := by
  unfold userErr refErr
  cases hk : ruleOk r with
  | false => rfl
  | true =>
    simp only [if_true]
    have hkin := ok_kinds hk
    have h0 : firstW r = 0 ∨ firstW r = 70 ∨ firstW r = 71 := by
      unfold firstW sizeErr
      split
      · simp
      · split
        · simp
        · split <;> simp
    rw [litsErr_eq r.body _ hkin h0]
    have hst : standOf r = ⟨r.p, r.head.length⟩ :: (r.body.filter isAtom).map litPd := rfl
    have hB : refBad r = (decide (r.body.length > 12) || (decide ((r.head.length : Int) > 8) || ((r.body.filter isAtom).map litPd).any wideP) || ((tmVars r.terms).any longN || (longN r.p || ((r.body.filter isAtom).map litPd).any fun p => longN p.name))) := by
      unfold refBad; rw [hst]; rfl
    have hRs : refRes r = (qq.isPrefixOf r.p || ((r.body.filter isAtom).map litPd).any resP) := by
      unfold refRes; rw [hst]; rfl
    rw [hB, hRs]
    generalize (r.body.filter isAtom).map litPd = L at *
    have hbad : L.any badP = (L.any wideP || L.any fun p => longN p.name) := by
      clear hst h0 hB hRs
      induction L with
      | nil => rfl
      | cons p L ih =>
        simp only [List.any_cons, ih, badP]
        cases longN p.name <;> cases wideP p <;> cases L.any wideP <;> simp
    rw [hbad]
    have hf : firstW r = if decide (r.body.length > 12) || (tmVars r.terms).any longN then 70 else if longN r.p || decide ((r.head.length : Int) > 8) then 70 else if qq.isPrefixOf r.p then 71 else 0 := by
      unfold firstW
      rw [sizeErr_eq]
      by_cases h1 : r.body.length > 12
      · simp [h1]
      · cases h2 : (tmVars r.terms).any longN <;> simp [h1, h2]
    rw [hf]
    cases decide (r.body.length > 12) <;> cases (tmVars r.terms).any longN <;> cases longN r.p <;> cases decide ((r.head.length : Int) > 8) <;> cases qq.isPrefixOf r.p <;> cases L.any wideP <;> cases (L.any fun p => longN p.name) <;> cases L.any resP <;> simp
end Go.Proofs.Ytiomojlcnemnhaa

/- Contracts, on: the document's errors of a user's rule, fact, query. (Labels of 2000 and more: seat ZD.) -/
namespace Go.Proofs.Ytiomojlcnemnhaa
open Go.Fx Go.RowKit Go.Ped
variable {G : World → Prop}

end Go.Proofs.Ytiomojlcnemnhaa

/- Contracts, on: the document's first thing that is wrong with what a user hands in. (Labels of 2000 and more: seat ZD.) -/
namespace Go.Proofs.Ytiomojlcnemnhaa
open Go.Fx Go.RowKit Go.Ped
variable {G : World → Prop}

structure Fc where
  p : Name
  l : List Val
  sp : Sp
def Fc.row (f : Fc) : List C := [cS (bs f.p), .sl (f.l.map Val.row) f.sp]
@[simp] theorem Fc.row_len (f : Fc) : f.row.length = 2 := rfl
@[simp] theorem fc_row0 (f : Fc) : f.row[0]? = some (cS (bs f.p)) := rfl
@[simp] theorem fc_row0' (f : Fc) (h : 0 < f.row.length) : f.row[0]'h = cS (bs f.p) := rfl
@[simp] theorem fc_row1 (f : Fc) : f.row[1]? = some (.sl (f.l.map Val.row) f.sp) := rfl
@[simp] theorem fc_row1' (f : Fc) (h : 1 < f.row.length) : f.row[1]'h = .sl (f.l.map Val.row) f.sp := rfl
@[simp] theorem fc_take (f : Fc) : (f.row.map A.c).take 2 = f.row.map A.c := rfl
def Fc.pd (f : Fc) : Pd := ⟨f.p, f.l.length⟩
def factErr (f : Fc) : Int := if factOk f.p f.l then sizeErr f.p f.l.length else 10
def queryErr (p : Name) (l : List Tm) : Int := if atomOk p l then (if (tmVars l).any longN = true then 70 else sizeErr p l.length) else 40

end Go.Proofs.Ytiomojlcnemnhaa

/- Contracts, on: the document's first thing that is wrong, whole. (Labels of 2000 and more: seat ZD.) -/
namespace Go.Proofs.Ytiomojlcnemnhaa
open Go.Fx Go.RowKit Go.Ped
variable {G : World → Prop}

/-- The first rule with an error: the error and its place; no error: 0. -/
def userRules (e : Rule → Int) : List Rule → Int → Int × Int
  | [], _ => (0, 0)
  | r :: l, i => if e r = 0 then userRules e l (i + 1) else (e r, i)
/-- The rules' predicates, met; or the place of the first that does not. -/
def inRules (mt : List Pd → List Pd → Option (List Pd)) : List Pd → List Rule → Int → Option (List Pd) × Int
  | m, [], _ => (some m, 0)
  | m, r :: l, i => match mt m (standOf r) with
    | some m' => inRules mt m' l (i + 1)
    | none => (none, i)
def inFacts (mt : List Pd → List Pd → Option (List Pd)) : List Pd → List Fc → Int → Option (List Pd) × Int × Int
  | m, [], _ => (some m, 0, 0)
  | m, f :: l, i => if factErr f = 0 then (match mt m [f.pd] with
    | some m' => inFacts mt m' l (i + 1)
    | none => (none, 72, i)) else (none, factErr f, i)
def refuse (part code at_ : Int) : List C := [cI .i8 part, cI .i64 code, cI .i64 at_]
/-- The program's part: the predicates, or what is refused. -/
def inProgram (e : Rule → Int) (mt : List Pd → List Pd → Option (List Pd)) (rules : List Rule) : Option (List Pd) × List C :=
  if rules.length > 500 then (none, refuse 1 70 0) else
  if (userRules e rules 0).1 ≠ 0 then (none, refuse 1 (userRules e rules 0).1 (userRules e rules 0).2) else
  match inRules mt [] rules 0 with
  | (some m, _) => (some m, refuse 0 0 0)
  | (none, i) => (none, refuse 1 72 i)
def inputOf (e : Rule → Int) (mt : List Pd → List Pd → Option (List Pd)) (rules : List Rule) (facts : List Fc) (p : Name) (l : List Tm) : List C :=
  match inProgram e mt rules with
  | (none, x) => x
  | (some m, _) =>
    if facts.length > 65536 then refuse 2 70 0 else
    match inFacts mt m facts 0 with
    | (none, e, i) => refuse 2 e i
    | (some m', _) => if queryErr p l ≠ 0 then refuse 3 (queryErr p l) 0 else if (mt m' [⟨p, l.length⟩]).isSome then refuse 0 0 0 else refuse 3 72 0

theorem refMeet_len {m m' : List Pd} {p : Pd} (h : refMeet ltN m p = some m') : m'.length ≤ m.length + 1 := by
  unfold refMeet at h
  split at h
  · split at h
    · injection h with h; subst h; omega
    · cases h
  · injection h with h; subst h; rw [insP_len]; omega
theorem refMeets_len : ∀ {l m m' : List Pd}, refMeets ltN m l = some m' → m'.length ≤ m.length + l.length
  | [], m, m', h => by injection h with h; subst h; simp
  | p :: l, m, m', h => by
    rw [refMeets] at h
    split at h
    · rename_i m1 h1
      have := refMeet_len h1
      have := refMeets_len h
      simp; omega
    · cases h
end Go.Proofs.Ytiomojlcnemnhaa

/- Contracts, on: the first of a list with an error. (Labels of 2000 and more: seat ZD.) -/
namespace Go.Proofs.Ytiomojlcnemnhaa
open Go.Fx Go.RowKit Go.Ped
variable {G : World → Prop} {σ : Type}

def firstE {α : Type} (f : σ → α → Int × σ) : σ → List α → Int → Int × Int × σ
  | s, [], _ => (0, 0, s)
  | s, a :: l, i => if (f s a).1 = 0 then firstE f (f s a).2 l (i + 1) else ((f s a).1, i, (f s a).2)
def partC (part : Int) (x : Int × Int × σ) : List C := if x.1 = 0 then refuse 0 0 0 else refuse part x.1 x.2.1
structure Qy where
  p : Name
  l : List Tm
  sp : Sp
def Qy.row (q : Qy) : List C := [cS (bs q.p), .sl (q.l.map Tm.row) q.sp]
@[simp] theorem Qy.row_len (q : Qy) : q.row.length = 2 := rfl
@[simp] theorem Qy.row_take (q : Qy) : (q.row.map A.c).take 2 = q.row.map A.c := rfl

theorem m2109 (f : σ → Rule → Int × σ) (Hs : σ → FHp) (hsame : ∀ s t, sameKeys (Hs s) (Hs t)) (fv : A) (hfv : fv.only farKey (fun _ => False)) (hst : ∀ k, k < 10000 → fv.strike [k] = fv) (part : Int) (l : List Rule) (sp : Sp) (hl : l.length ≤ 1048576)
    (hf : ∀ s, ∀ r ∈ l, MeetsV Try.prog G fv [.agg (r.row.map A.c)] (hp [] [] (Hs s)) (.x (.one (.c (cI .i64 (f s r).1)))) (hp [] [] (Hs (f s r).2))) (s : σ) :
    MeetsH Try.prog G 71 [.one (.c (cI .i8 part)), .one (.c (.sl (l.map Rule.row) sp)), .one fv] (hp [] [] (Hs s)) (.x (.agg ((partC part (firstE f s l 0)).map A.c))) (hp [] [] (Hs (firstE f s l 0).2.2)) := by
  refine meetsH [] Try.func71 ie2109 ig2109 (Nat.le_of_ble_eq_true rfl) (by simp) (by simp) ?_ (by simp) (by simp) (hsame _ _) (by simp) (by simp) ?_
  · simp
    exact A.only_mono (fun _ => far_not_own) (fun _ h => h.elim) hfv
  generalize hR : firstE f s l 0 = R
  simp [ic2109, ir2109, hst]
  refine w_loopA [] [8] [0, 2, 6, 10, 11, 12] (by simp [ownKey])
    (fun a : Nat × σ => st [(0, .k true (.x (.one (.c (cI .i8 part))))), (2, .k true (.x (.one fv))), (6, .k true (.x (.one (.ref 6 0 0)))), (10, .k true (.x (.one (.c (.sl (l.map Rule.row) sp))))), (11, tI .i64 l.length), (12, tI .i64 a.1)] [(6, ⟨142, 3, [[.c (cI .i8 0), .c (cI .i64 0), .c (cI .i64 0)]], none⟩)] [] (Hs a.2)) (fun a => l.length - a.1)
    (fun a => a.1 ≤ l.length ∧ R = firstE f a.2 (l.drop a.1) a.1) (0, s) (by simp [hst]) (by simp [hR]) ?_
  rintro ⟨i, t⟩ K hK ⟨hi, hd⟩
  simp only at hi hd
  obtain hlt | hge := Nat.lt_or_ge i l.length
  · rw [List.drop_eq_getElem_cons hlt, firstE] at hd
    have hm := hf t l[i] (List.getElem_mem hlt)
    simp [ic2109l0, hlt, hst]
    refine r_callC hm (hsame _ _) rfl rfl rfl (by simp [X.fits]) (by simp) (by simp) ?_
    simp
    by_cases h0 : (f t l[i]).1 = 0
    · rw [if_pos h0] at hd
      simp [h0]
      simp (disch := omega) only [wrap64]
      exact hK (i + 1, (f t l[i]).2) _ (by simp [hst]) ⟨by simp; omega, hd⟩ (by simp; omega)
    · rw [if_neg h0] at hd
      subst hd
      simp [h0]
      exact ret_st (by simp) (by simp [partC, h0, refuse]) (by simp) (by simp) (by simp) (by simp)
  · rw [List.drop_eq_nil_of_le hge, firstE] at hd
    subst hd
    simp [ic2109l0, Nat.not_lt.mpr hge]
    exact ret_st (by simp) (by simp [partC, refuse]) (by simp) (by simp) (by simp) (by simp)

theorem m2114 (f : σ → Fc → Int × σ) (Hs : σ → FHp) (hsame : ∀ s t, sameKeys (Hs s) (Hs t)) (fv : A) (hfv : fv.only farKey (fun _ => False)) (hst : ∀ k, k < 10000 → fv.strike [k] = fv) (part : Int) (l : List Fc) (sp : Sp) (hl : l.length ≤ 1048576)
    (hf : ∀ s, ∀ r ∈ l, MeetsV Try.prog G fv [.agg (r.row.map A.c)] (hp [] [] (Hs s)) (.x (.one (.c (cI .i64 (f s r).1)))) (hp [] [] (Hs (f s r).2))) (s : σ) :
    MeetsH Try.prog G 76 [.one (.c (cI .i8 part)), .one (.c (.sl (l.map Fc.row) sp)), .one fv] (hp [] [] (Hs s)) (.x (.agg ((partC part (firstE f s l 0)).map A.c))) (hp [] [] (Hs (firstE f s l 0).2.2)) := by
  refine meetsH [] Try.func76 ie2114 ig2114 (Nat.le_of_ble_eq_true rfl) (by simp) (by simp) ?_ (by simp) (by simp) (hsame _ _) (by simp) (by simp) ?_
  · simp
    exact A.only_mono (fun _ => far_not_own) (fun _ h => h.elim) hfv
  generalize hR : firstE f s l 0 = R
  simp [ic2114, ir2114, hst]
  refine w_loopA [] [8] [0, 2, 6, 10, 11, 12] (by simp [ownKey])
    (fun a : Nat × σ => st [(0, .k true (.x (.one (.c (cI .i8 part))))), (2, .k true (.x (.one fv))), (6, .k true (.x (.one (.ref 6 0 0)))), (10, .k true (.x (.one (.c (.sl (l.map Fc.row) sp))))), (11, tI .i64 l.length), (12, tI .i64 a.1)] [(6, ⟨142, 3, [[.c (cI .i8 0), .c (cI .i64 0), .c (cI .i64 0)]], none⟩)] [] (Hs a.2)) (fun a => l.length - a.1)
    (fun a => a.1 ≤ l.length ∧ R = firstE f a.2 (l.drop a.1) a.1) (0, s) (by simp [hst]) (by simp [hR]) ?_
  rintro ⟨i, t⟩ K hK ⟨hi, hd⟩
  simp only at hi hd
  obtain hlt | hge := Nat.lt_or_ge i l.length
  · rw [List.drop_eq_getElem_cons hlt, firstE] at hd
    have hm := hf t l[i] (List.getElem_mem hlt)
    simp [ic2114l0, hlt, hst]
    refine r_callC hm (hsame _ _) rfl rfl rfl (by simp [X.fits]) (by simp) (by simp) ?_
    simp
    by_cases h0 : (f t l[i]).1 = 0
    · rw [if_pos h0] at hd
      simp [h0]
      simp (disch := omega) only [wrap64]
      exact hK (i + 1, (f t l[i]).2) _ (by simp [hst]) ⟨by simp; omega, hd⟩ (by simp; omega)
    · rw [if_neg h0] at hd
      subst hd
      simp [h0]
      exact ret_st (by simp) (by simp [partC, h0, refuse]) (by simp) (by simp) (by simp) (by simp)
  · rw [List.drop_eq_nil_of_le hge, firstE] at hd
    subst hd
    simp [ic2114l0, Nat.not_lt.mpr hge]
    exact ret_st (by simp) (by simp [partC, refuse]) (by simp) (by simp) (by simp) (by simp)

theorem m2119 (f : σ → Qy → Int × σ) (Hs : σ → FHp) (hsame : ∀ s t, sameKeys (Hs s) (Hs t)) (fv : A) (hfv : fv.only farKey (fun _ => False)) (hst : ∀ k, k < 10000 → fv.strike [k] = fv) (part : Int) (l : List Qy) (sp : Sp) (hl : l.length ≤ 1048576)
    (hf : ∀ s, ∀ r ∈ l, MeetsV Try.prog G fv [.agg (r.row.map A.c)] (hp [] [] (Hs s)) (.x (.one (.c (cI .i64 (f s r).1)))) (hp [] [] (Hs (f s r).2))) (s : σ) :
    MeetsH Try.prog G 80 [.one (.c (cI .i8 part)), .one (.c (.sl (l.map Qy.row) sp)), .one fv] (hp [] [] (Hs s)) (.x (.agg ((partC part (firstE f s l 0)).map A.c))) (hp [] [] (Hs (firstE f s l 0).2.2)) := by
  refine meetsH [] Try.func80 ie2119 ig2119 (Nat.le_of_ble_eq_true rfl) (by simp) (by simp) ?_ (by simp) (by simp) (hsame _ _) (by simp) (by simp) ?_
  · simp
    exact A.only_mono (fun _ => far_not_own) (fun _ h => h.elim) hfv
  generalize hR : firstE f s l 0 = R
  simp [ic2119, ir2119, hst]
  refine w_loopA [] [8] [0, 2, 6, 10, 11, 12] (by simp [ownKey])
    (fun a : Nat × σ => st [(0, .k true (.x (.one (.c (cI .i8 part))))), (2, .k true (.x (.one fv))), (6, .k true (.x (.one (.ref 6 0 0)))), (10, .k true (.x (.one (.c (.sl (l.map Qy.row) sp))))), (11, tI .i64 l.length), (12, tI .i64 a.1)] [(6, ⟨142, 3, [[.c (cI .i8 0), .c (cI .i64 0), .c (cI .i64 0)]], none⟩)] [] (Hs a.2)) (fun a => l.length - a.1)
    (fun a => a.1 ≤ l.length ∧ R = firstE f a.2 (l.drop a.1) a.1) (0, s) (by simp [hst]) (by simp [hR]) ?_
  rintro ⟨i, t⟩ K hK ⟨hi, hd⟩
  simp only at hi hd
  obtain hlt | hge := Nat.lt_or_ge i l.length
  · rw [List.drop_eq_getElem_cons hlt, firstE] at hd
    have hm := hf t l[i] (List.getElem_mem hlt)
    simp [ic2119l0, hlt, hst]
    refine r_callC hm (hsame _ _) rfl rfl rfl (by simp [X.fits]) (by simp) (by simp) ?_
    simp
    by_cases h0 : (f t l[i]).1 = 0
    · rw [if_pos h0] at hd
      simp [h0]
      simp (disch := omega) only [wrap64]
      exact hK (i + 1, (f t l[i]).2) _ (by simp [hst]) ⟨by simp; omega, hd⟩ (by simp; omega)
    · rw [if_neg h0] at hd
      subst hd
      simp [h0]
      exact ret_st (by simp) (by simp [partC, h0, refuse]) (by simp) (by simp) (by simp) (by simp)
  · rw [List.drop_eq_nil_of_le hge, firstE] at hd
    subst hd
    simp [ic2119l0, Nat.not_lt.mpr hge]
    exact ret_st (by simp) (by simp [partC, refuse]) (by simp) (by simp) (by simp) (by simp)

end Go.Proofs.Ytiomojlcnemnhaa

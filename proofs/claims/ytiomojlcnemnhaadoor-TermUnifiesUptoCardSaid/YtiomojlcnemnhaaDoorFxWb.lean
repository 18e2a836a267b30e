/- Fx, part Wb: ranges over functions, written out. -/
import Derived.Test.YtiomojlcnemnhaaDoorFxWa
namespace Go.Fx
open Go.RowKit

/-- Nothing is told of what is far, but that E is held beside. -/
def FX (E : XP) : FHp := ⟨⟨fun _ => none, fun _ => none, E⟩, fun _ h => h.elim (fun h => absurd rfl h) fun h => absurd rfl h, fun _ _ h => by cases h⟩
@[simp] theorem FX_ext (E : XP) : (FX E).ext = E := rfl
@[simp] theorem FX_objs (E : XP) (k : Nat) : (FX E).objs k = none := rfl
@[simp] theorem FX_toks (E : XP) (k : Nat) : (FX E).toks k = none := rfl
theorem FX_emp : FX XP.emp = F0 := rfl

section
variable {P : Program} {G : World → Prop} {L : List (Nat × T)} {O : List (Nat × Box)} {U : List (Nat × Tok)} {Q : Exit → S → Prop}

theorem ext_st {H : FHp} (E : XP) (h : H.objs = fun _ => none) (h' : H.toks = fun _ => none) : { st L O U H with ext := E } = st L O U (FX E) := by
  unfold st
  simp only [S.mk.injEq, true_and, and_true]
  exact ⟨funext fun k => by rw [h]; rfl, funext fun k => by rw [h']; rfl, rfl⟩

/-- A round's temporaries. -/
def roundL (ks : List Nat) (zs : List A) (ps : List Nat) (args : List X) : List (Nat × T) := (ps.zip args).foldl (fun L p => (p.1, .k true (.x p.2)) :: L) ((ks.zip zs).map fun p => (p.1, .k true (.x (.one p.2))))

theorem look_zip (t : Nat) : ∀ (l : List (Nat × A)), look (l.map fun p => (p.1, T.k true (.x (.one p.2)))) t = match l.find? (·.1 == t) with | some p => .k true (.x (.one p.2)) | none => .lost
  | [] => rfl
  | p :: l => by
    simp only [List.map_cons, look_cons, List.find?_cons]
    by_cases h : t = p.1
    · rw [if_pos h, show (p.1 == t) = true by simp [h]]
    · rw [if_neg h, show (p.1 == t) = false by simp [Ne.symm h]]; exact look_zip t l

theorem fold_st {H : FHp} : ∀ (l : List (Nat × X)) (L : List (Nat × T)), l.foldl (fun σ p => σ.put (some p.1) (.k true (.x p.2))) (st L O U H) = st (l.foldl (fun L p => (p.1, .k true (.x p.2)) :: L) L) O U H
  | [], _ => rfl
  | p :: l, L => by simp only [List.foldl_cons, put_st]; exact fold_st l _

theorem round_st (ks : List Nat) (zs : List A) (ps : List Nat) (args : List X) (E B : XP) : S.round ks zs ps args (hp O U (FX E)) B = st (roundL ks zs ps args) O U (FX B) := by
  unfold S.round roundL
  rw [← fold_st]
  congr 1
  unfold st hp
  simp only [S.mk.injEq, and_true]
  exact ⟨funext fun t => (look_zip t _).symm, rfl, rfl, rfl⟩

/-- What a round leaves. -/
def roundQ (O2 : List (Nat × Box)) (U2 : List (Nat × Tok)) (B : XP) (e : Exit) (e' : Exit) (σ : S) : Prop := e' = e ∧ ∃ ks L O U, σ.freeze ks = st L O U (FX B) ∧ (∀ p ∈ O2, lookO O p.1 = some p.2) ∧ ∀ p ∈ U2, lookT U p.1 = some p.2
theorem roundQ_mk {O2 : List (Nat × Box)} {U2 : List (Nat × Tok)} {B : XP} {e : Exit} (h1 : ∀ p ∈ O2, lookO O p.1 = some p.2) (h2 : ∀ p ∈ U2, lookT U p.1 = some p.2) : roundQ O2 U2 B e e (st L O U (FX B)) :=
  ⟨rfl, [], L, O, U, freeze_nil, h1, h2⟩

/-- A round's first part ends, and the body begins. -/
def roundA (P : Program) (G : World → Prop) (b : IC) (O2 : List (Nat × Box)) (U2 : List (Nat × Tok)) (E B : XP) (e : Exit) (e1 : Exit) (σ1 : S) : Prop := e1 = .normal ∧ ∃ L O U, σ1 = st L O U (FX E) ∧ wpI P G b (roundQ O2 U2 B e) (st L O U (FX B))
theorem roundA_mk {b : IC} {O2 : List (Nat × Box)} {U2 : List (Nat × Tok)} {E B : XP} {e : Exit} (h : wpI P G b (roundQ O2 U2 B e) (st L O U (FX B))) : roundA P G b O2 U2 E B e .normal (st L O U (FX E)) := ⟨rfl, L, O, U, rfl, h⟩

/-- What is asked of a round's heaps, written out. -/
structure RndL (zs : List A) (args : List X) (O1 : List (Nat × Box)) (U1 : List (Nat × Tok)) (O2 : List (Nat × Box)) (U2 : List (Nat × Tok)) : Prop where
  O : ∀ p ∈ O1, midKey p.1 ∧ ∀ r ∈ p.2.rows, onlyL (fun k => ¬ ownKey k) (fun k => lookT U1 k ≠ none) r
  U : ∀ p ∈ U1, midKey p.1
  args : ∀ x ∈ args, x.only (fun k => ¬ ownKey k) (fun k => lookT U1 k ≠ none)
  zs : onlyL (fun k => ¬ ownKey k) (fun k => lookT U1 k ≠ none) zs
  keyO : ∀ p ∈ O1, lookO O2 p.1 ≠ none
  keyT : ∀ p ∈ U1, lookT U2 p.1 ≠ none
  O' : ∀ p ∈ O2, ∀ r ∈ p.2.rows, onlyL (fun k => ¬ ownKey k ∨ lookO O2 k ≠ none) (fun k => lookT U2 k ≠ none) r

theorem hp_objs_FX (E : XP) (k : Nat) : (hp O U (FX E)).objs k = lookO O k := by simp [hp]
theorem hp_toks_FX (E : XP) (k : Nat) : (hp O U (FX E)).toks k = lookT U k := by simp [hp]

theorem RndL.rnd {zs : List A} {args : List X} {O1 : List (Nat × Box)} {U1 : List (Nat × Tok)} {O2 : List (Nat × Box)} {U2 : List (Nat × Tok)} (h : RndL zs args O1 U1 O2 U2) (E E' : XP) : Rnd zs args (hp O1 U1 (FX E)) (hp O2 U2 (FX E')) := by
  have e1 : ∀ k, (hp O1 U1 (FX E)).objs k = lookO O1 k := hp_objs_FX E
  have e2 : ∀ k, (hp O1 U1 (FX E)).toks k = lookT U1 k := hp_toks_FX E
  have e3 : ∀ k, (hp O2 U2 (FX E')).objs k = lookO O2 k := hp_objs_FX E'
  have e4 : ∀ k, (hp O2 U2 (FX E')).toks k = lookT U2 k := hp_toks_FX E'
  exact {
    own := fun k hk => ⟨by
        rw [e1]
        cases hb : lookO O1 k with
        | none => rfl
        | some b => exact absurd hk (mid_not (h.O _ (lookO_mem hb)).1), by
        rw [e2]
        cases hb : lookT U1 k with
        | none => rfl
        | some b => exact absurd hk (mid_not (h.U _ (lookT_mem hb)))⟩
    only := fun k b hk r hr => by
      rw [e1] at hk
      simp only [e2]
      exact (h.O _ (lookO_mem hk)).2 r hr
    args := fun x hx => by simp only [e2]; exact h.args x hx
    zs := by simp only [e2]; exact h.zs
    keyO := fun k hk => by
      rw [e1] at hk; rw [e3]
      cases hb : lookO O1 k with
      | none => exact absurd hb hk
      | some b => exact h.keyO _ (lookO_mem hb)
    keyT := fun k hk => by
      rw [e2] at hk; rw [e4]
      cases hb : lookT U1 k with
      | none => exact absurd hb hk
      | some b => exact h.keyT _ (lookT_mem hb)
    only' := fun k b hk r hr => by
      rw [e3] at hk
      simp only [e3, e4]
      exact h.O' _ (lookO_mem hk) r hr }

/-- A RANGE OVER A FUNCTION, written out. -/
theorem w_rangeF {g : D} {ps : List Nat} {a b : IC} {gv : A} (ks : List Nat) (xs : List A) (hg : g.val (st L O U F0) = .k true (.x (.one gv))) (hfn : gv.isFn) (htm : ks.map (look L) = xs.map (fun x => T.k true (.x (.one x))))
    (h : ∀ (l : Nat) (ta : Array Value) (E : Exit → XP) (B : XP) (m : Nat), (∀ e, (E e).mark = some m) → B.mark = some m →
      (∀ (zs : List A) (args : List X) (O1 : List (Nat × Box)) (U1 : List (Nat × Tok)) (O2 : List (Nat × Box)) (U2 : List (Nat × Tok)) (e : Exit), zs.length = ks.length → args.length = ps.length → RoundExit e → RndL zs args O1 U1 O2 U2 →
        wpI P G a (roundA P G b O2 U2 (E .normal) B e) (st (roundL ks zs ps args) O1 U1 (FX (E .normal))) → MeetsV P G (.yld l ta ks zs) args (hp O1 U1 (FX (E .normal))) (rB (goesOn e)) (hp O2 U2 (FX (E e)))) →
      ∃ (O1 : List (Nat × Box)) (U1 : List (Nat × Tok)) (O2 : List (Nat × Box)) (U2 : List (Nat × Tok)) (res : R) (e : Exit), MeetsV P G gv [.one (.yld l ta ks xs)] (hp O1 U1 (FX (E .normal))) res (hp O2 U2 (FX (E e))) ∧
        ((∀ p ∈ O1, lookO O p.1 = some p.2 ∧ p.1 < 15000) ∧ (∀ p ∈ U1, lookT U p.1 = some p.2 ∧ p.1 < 15000) ∧ (∀ p ∈ O1, lookO O2 p.1 ≠ none) ∧ (∀ p ∈ U1, lookT U2 p.1 ≠ none) ∧
          (∀ p ∈ O2, lookO O1 p.1 = none → lookO O p.1 = none ∧ p.1 < 10000) ∧ (∀ p ∈ U2, lookT U1 p.1 = none → lookT U p.1 = none ∧ p.1 < 10000)) ∧ RoundExit e ∧ ∀ X : XP, X.mark = some m → Q e (st L (updsO O2 O) (updsT U2 U) (FX X)))
    (hO : ∀ p ∈ O, p.1 < 15000) (hU : ∀ p ∈ U, p.1 < 15000) : wpI P G (.rangeF g ps a b) Q (st L O U F0) := by
  refine ⟨rfl, gv, ks, xs, hg, hfn, htm, fun l ta E B m hE hB hb => ?_⟩
  obtain ⟨O1, U1, O2, U2, res, e, hm, ⟨h1, h2, h3, h4, h5, h6⟩, he, hq⟩ := h l ta E B m hE hB fun zs args O1 U1 O2 U2 e q1 q2 q3 q4 q5 => by
    refine hb zs args _ _ e q1 q2 q3 rfl rfl (q4.rnd _ _) ?_
    rw [round_st]
    refine wpI_mono (fun e1 σ1 hq1 => ?_) q5
    obtain ⟨rfl, L1, O1', U1', rfl, hq1⟩ := hq1
    refine ⟨rfl, rfl, ?_⟩
    rw [ext_st B rfl rfl]
    refine wpI_mono (fun e' σ' hq => ?_) hq1
    obtain ⟨rfl, kk, L', O', U', g1, g2, g3⟩ := hq
    refine ⟨rfl, st L' O' U' (FX B), g1 ▸ .freeze kk σ', fun k b hk => ?_, fun k t hk => ?_, rfl⟩
    · rw [hp_objs_FX] at hk
      simp only [st_objs, FX_objs, Option.or_none]
      exact g2 _ (lookO_mem hk)
    · rw [hp_toks_FX] at hk
      simp only [st_toks, FX_toks, Option.or_none]
      exact g3 _ (lookT_mem hk)
  have e0 : { st L O U F0 with ext := E .normal } = st L O U (FX (E .normal)) := ext_st _ rfl rfl
  refine ⟨_, _, res, e, hm, ?_, rfl, he, fun X hX => ?_⟩
  · rw [e0]
    exact lends_st h1 h2 hO hU h3 h4 h5 h6 (fun k hk => absurd rfl hk) (fun k hk => absurd rfl hk) (fun k hk => absurd rfl hk) (fun k hk => absurd rfl hk) ((hE e).trans (hE .normal).symm)
  · rw [e0, over_st hO hU (fun k hk => absurd rfl hk) (fun k hk => absurd rfl hk)]
    have := hq X hX
    rwa [ext_st X rfl rfl]

end
end Go.Fx

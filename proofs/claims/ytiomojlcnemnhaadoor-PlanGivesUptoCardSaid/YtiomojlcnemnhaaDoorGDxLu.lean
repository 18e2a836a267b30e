import Derived.Test.YtiomojlcnemnhaaDoorGDxLo
import Derived.Test.YtiomojlcnemnhaaDoorGDxJ3
namespace Go.Proofs.YtiomojlcnemnhaaDoor
open Go.Fx Go.RowKit Go.Ped
variable {G : World → Prop}
abbrev ON2 (body : C) (ns : List Name) (r pos : Int) : List (Nat × Box) := (2, ⟨200, 1, [[.ref 10009 0 0]], none⟩) :: (4, ⟨3, 1, [[.c (cI .i64 r)]], none⟩) :: (5, ⟨3, 1, [[.c (cI .i64 pos)]], none⟩) :: OS 10009 10007 body ns
attribute [simp] ON2
set_option maxRecDepth 100000 in
theorem v220n (Zn Zr : XP) (l : Nat) (ta : Array Value) (body : List Lit) (sb : Sp) (ns : List Name) (m : Nat) (hm : m < 2 ^ 24) (hin : ∀ i ∈ bitsOf m, i < body.length) (hY : ∀ i ∈ bitsOf m, Rounds GB l ta Zn Zr body sb ns i) (r pos pos' : Int) (hrun : runOn body ns (bitsOf m) pos = (none, pos')) :
    MeetsV Tryd.prog GB (.clo 220 [] [.ref 1 0 0]) [.one (.yld l ta [2, 4, 5] [.ref 2 0 0, .ref 4 0 0, .ref 5 0 0])] (hp ((1, ⟨202, 1, [[.c (cI .u32 m)]], none⟩) :: ON2 (.sl (body.map Lit.row) sb) ns r pos) [] (FX Zn)) (.tup []) (hp ((1, ⟨202, 1, [[.c (cI .u32 0)]], none⟩) :: ON2 (.sl (body.map Lit.row) sb) ns r pos') [] (FX Zn)) := by
  have h := ((((clo_of (f := 220) (fs := []) (args := [.one (yldN l ta)]) (cs := [.ref 10001 0 0]) rfl (m220n Zn Zr l ta body sb ns m hm hin hY r pos pos' hrun)).ren (π := swR 10001 1)).ren (π := swR 10002 2)).ren (π := swR 10004 4)).ren (π := swR 10005 5)
  simp [swF, hp_renX, kn_ren] at h
  simpa using h
set_option maxRecDepth 100000 in
theorem v220s (Zn Zr : XP) (hmk : Zr.mark = Zn.mark) (l : Nat) (ta : Array Value) (body : List Lit) (sb : Sp) (ns : List Name) (m : Nat) (hm : m < 2 ^ 24) (hin : ∀ i ∈ bitsOf m, i < body.length) (hY : ∀ i ∈ bitsOf m, Rounds GB l ta Zn Zr body sb ns i) (r pos pos' : Int) (s : Nat) (hrun : runOn body ns (bitsOf m) pos = (some s, pos')) :
    MeetsV Tryd.prog GB (.clo 220 [] [.ref 1 0 0]) [.one (.yld l ta [2, 4, 5] [.ref 2 0 0, .ref 4 0 0, .ref 5 0 0])] (hp ((1, ⟨202, 1, [[.c (cI .u32 m)]], none⟩) :: ON2 (.sl (body.map Lit.row) sb) ns r pos) [] (FX Zn)) (.tup []) (hp ((1, ⟨202, 1, [[.c (cI .u32 (maskOn body ns (bitsOf m) m pos))]], none⟩) :: ON2 (.sl (body.map Lit.row) sb) ns s pos') [] (FX Zr)) := by
  have h := ((((clo_of (f := 220) (fs := []) (args := [.one (yldN l ta)]) (cs := [.ref 10001 0 0]) rfl (m220s Zn Zr hmk l ta body sb ns m hm hin hY r pos pos' s hrun)).ren (π := swR 10001 1)).ren (π := swR 10002 2)).ren (π := swR 10004 4)).ren (π := swR 10005 5)
  generalize maskOn body ns (bitsOf m) m pos = M at *
  simp [swF, hp_renX, kn_ren] at h
  simpa using h
def nextL (body : List Lit) (ns : List Name) (m : Nat) : Int := match runOn body ns (bitsOf m) (-1) with | (some i, _) => i | (none, pos) => pos
def BodyFit (body : List Lit) : Prop := ∀ x ∈ body, x.small 1048576 ∧ x.terms.length ≤ 1048576 ∧ x.l.length ≤ 24
theorem lit16 (x : Lit) : x.row = [cI .i8 x.kind, cS (bs x.p), .sl (x.l.map Tm.row) x.sp, cI .i8 x.rel, cI .i8 x.left.op, cS (bs x.left.t.v), cI .i8 x.left.t.x.k, cI .i64 x.left.t.x.n, cS (bs x.left.t.x.s), .sl (x.left.kids.map Ex.row) x.left.sp, cI .i8 x.right.op, cS (bs x.right.t.v), cI .i8 x.right.t.x.k, cI .i64 x.right.t.x.n, cS (bs x.right.t.x.s), .sl (x.right.kids.map Ex.row) x.right.sp] := by
  unfold Lit.row
  rw [Ex.row_eq x.left, Ex.row_eq x.right]
  rfl
end Go.Proofs.YtiomojlcnemnhaaDoor

namespace Go.Fx
open Go.RowKit
section
variable {P : Program} {G : World → Prop}
def retRX (ks : List Nat) (ress : List IRes) (res : R) (O2 : List (Nat × Box)) (U2 : List (Nat × Tok)) (σ : S) : Prop := ∃ Z : XP, (Z = XP.emp ∨ Z.mark ≠ none) ∧ retR ks ress res O2 U2 (FX Z) σ
def retQX (ks : List Nat) (ress : List IRes) (res : R) (O2 : List (Nat × Box)) (U2 : List (Nat × Tok)) : Exit → S → Prop
  | .ret, σ => retRX ks ress res O2 U2 σ
  | .normal, σ => retRX ks ress res O2 U2 σ
  | _, _ => False
@[simp] theorem retQX_ret (ks : List Nat) (ress : List IRes) (res : R) (O2 : List (Nat × Box)) (U2 : List (Nat × Tok)) {σ : S} : retQX ks ress res O2 U2 .ret σ = retRX ks ress res O2 U2 σ := rfl
@[simp] theorem retQX_normal (ks : List Nat) (ress : List IRes) (res : R) (O2 : List (Nat × Box)) (U2 : List (Nat × Tok)) {σ : S} : retQX ks ress res O2 U2 .normal σ = retRX ks ress res O2 U2 σ := rfl
theorem meetsHX {f : FuncId} {fn : Func} {fl : Notes} {N : List Nat} {ic : IC} {ress : List IRes} {args : List X} {O : List (Nat × Box)} {U : List (Nat × Tok)} {res : R} {O2 : List (Nat × Box)} {U2 : List (Nat × Tok)} (ks : List Nat) (hf : P.funcs[f]? = some fn) (hc : cmpFunc P fl fn N = some ic) (hr : cmpRes P fn.results.toList = some ress)
    (hn : args.length ≤ fn.ntmps) (hO : ∀ p ∈ O, midKey p.1 ∧ ∀ r ∈ p.2.rows, onlyL (fun k => ¬ ownKey k) (fun k => (lookT U k).or (F0.toks k) ≠ none) r) (hU : ∀ p ∈ U, midKey p.1)
    (ha : ∀ x ∈ args, x.only (fun k => ¬ ownKey k) (fun k => (lookT U k).or (F0.toks k) ≠ none)) (h3 : ∀ p ∈ O, lookO O2 p.1 ≠ none) (h4 : ∀ p ∈ U, lookT U2 p.1 ≠ none) 
    (hO2 : ∀ p ∈ O2, ∀ r ∈ p.2.rows, onlyL (fun k => ¬ ownKey k ∨ lookO O2 k ≠ none) (fun k => (lookT U2 k).or (F0.toks k) ≠ none) r) (hres : res.only (fun k => ¬ ownKey k ∨ lookO O2 k ≠ none) (fun k => (lookT U2 k).or (F0.toks k) ≠ none))
    (h : wpI P G ic (retQX ks ress res O2 U2) (st (args.zipIdx.map fun p => (p.2, .k true (.x p.1))) O U F0)) : MeetsH P G f args (hp O U F0) res (hp O2 U2 F0) := by
  have hs := sameKeys_refl F0
  have orn : ∀ {α : Type} {a b : Option α}, a.or b ≠ none ↔ a ≠ none ∨ b ≠ none := by intro α a b; cases a <;> cases b <;> simp
  have hk2 : ∀ k, lookO O2 k ≠ none → (hp O2 U2 F0).objs k ≠ none := fun k hk => by
    show (lookO O2 k).or (F0.objs k) ≠ none
    exact orn.2 (.inl hk)
  refine meetsH_of hf hc hr hn hs.2 ⟨fun k hk => ⟨?_, ?_⟩, fun k b hk r hr' => ?_⟩ ha (fun k hk => ?_) (fun k hk => ?_) (fun k b hk r hr' => ?_) ?_ fun Q q1 q2 => ?_
  · cases hh : (hp O U F0).objs k with
    | none => rfl
    | some b =>
      simp only [hp] at hh
      cases h1 : lookO O k with
      | some c => exact absurd hk (mid_not (hO _ (lookO_mem h1)).1)
      | none => rw [h1] at hh; simp at hh; exact absurd hk (far_not_own (F0.key k (.inl (by rw [hh]; simp))))
  · cases hh : (hp O U F0).toks k with
    | none => rfl
    | some b =>
      simp only [hp] at hh
      cases h1 : lookT U k with
      | some c => exact absurd hk (mid_not (hU _ (lookT_mem h1)))
      | none => rw [h1] at hh; simp at hh; exact absurd hk (far_not_own (F0.key k (.inr (by rw [hh]; simp))))
  · simp only [hp] at hk
    cases h1 : lookO O k with
    | some c => rw [h1] at hk; simp at hk; subst hk; exact (hO _ (lookO_mem h1)).2 r hr'
    | none =>
      rw [h1] at hk; simp at hk
      exact onlyL_mono (fun k hk => far_not_own hk) (fun k hk => orn.2 (.inr hk)) (F0.names k b hk r hr')
  · rcases orn.1 hk with h1 | h1
    · cases h2 : lookO O k with
      | none => exact absurd h2 h1
      | some c => exact orn.2 (.inl (h3 _ (lookO_mem h2)))
    · exact orn.2 (.inr fun e => h1 ((hs.1 k).1.2 e))
  · rcases orn.1 hk with h1 | h1
    · cases h2 : lookT U k with
      | none => exact absurd h2 h1
      | some c => exact orn.2 (.inl (h4 _ (lookT_mem h2)))
    · exact orn.2 (.inr fun e => h1 ((hs.1 k).2.2 e))
  · simp only [hp] at hk
    cases h1 : lookO O2 k with
    | some c =>
      rw [h1] at hk; simp at hk; subst hk
      exact onlyL_mono (fun k hk => hk.imp id (hk2 k)) (fun k hk => hk) (hO2 _ (lookO_mem h1) r hr')
    | none =>
      rw [h1] at hk; simp at hk
      exact onlyL_mono (fun k hk => .inl (far_not_own hk)) (fun k hk => orn.2 (.inr hk)) (F0.names k b hk r hr')
  · cases res with
    | x y => exact X.only_mono (fun k hk => hk.imp id (hk2 k)) (fun k hk => hk) hres
    | tup ys => exact fun y hy => X.only_mono (fun k hk => hk.imp id (hk2 k)) (fun k hk => hk) (hres y hy)
  · have key : ∀ σ, retRX ks ress res O2 U2 σ → retH ress res (hp O2 U2 F0) σ := by
      rintro σ ⟨Z, hZ, L, O', U', he, g1, g2, g3, g4, g5, g6⟩
      refine ⟨st L O' U' (FX Z), he ▸ .freeze ks σ, g1, g2, fun k b hk => ?_, fun k b hk => ?_, hZ.elim (fun e => .inl (by rw [e]; rfl)) fun e => .inr ⟨e, rfl⟩⟩
      · simp only [hp, st_objs] at hk ⊢
        cases h1 : lookO O2 k with
        | some c => rw [h1] at hk; simp at hk; subst hk; rw [g3 _ (lookO_mem h1)]; rfl
        | none =>
          rw [h1] at hk; simp at hk
          have : lookO O' k = none := by
            cases h2 : lookO O' k with
            | none => rfl
            | some c => exact absurd (F0.key k (.inl (by rw [hk]; simp))) (g5 _ (lookO_mem h2))
          rw [this]; exact hk
      · simp only [hp, st_toks] at hk ⊢
        cases h1 : lookT U2 k with
        | some c => rw [h1] at hk; simp at hk; subst hk; rw [g4 _ (lookT_mem h1)]; rfl
        | none =>
          rw [h1] at hk; simp at hk
          have : lookT U' k = none := by
            cases h2 : lookT U' k with
            | none => rfl
            | some c => exact absurd (F0.key k (.inr (by rw [hk]; simp))) (g6 _ (lookT_mem h2))
          rw [this]; exact hk
    rw [init_eq]
    exact wpI_mono (fun e σ hq => by
      cases e with
      | ret => exact q1 _ (key σ hq)
      | normal => exact q2 _ (key σ hq)
      | _ => exact False.elim hq) h
end
end Go.Fx

namespace Go.Proofs.YtiomojlcnemnhaaDoor
open Go.Fx Go.RowKit Go.Ped
variable {G : World → Prop}
set_option maxRecDepth 100000 in
set_option maxHeartbeats 8000000 in
theorem m154 (body : List Lit) (sb : Sp) (ns : List Name) (m : Nat) (hm : m < 2 ^ 24) (hin : ∀ i ∈ bitsOf m, i < body.length) (hfit : BodyFit body) :
    MeetsH Tryd.prog GB 154 [.one (.ref 10009 0 0), .one (.c (cI .u32 m))] (hp (OS 10009 10007 (.sl (body.map Lit.row) sb) ns) [] F0) (.x (.one (.c (cI .i64 (nextL body ns m))))) (hp (OS 10009 10007 (.sl (body.map Lit.row) sb) ns) [] F0) := by
  refine meetsHX [] Tryd.func154 ie154 ig154 (Nat.le_of_ble_eq_true rfl) (by simp [midKey, ownKey]) (by simp) (by simp [ownKey]) (by simp) (by simp) (by simp) (by simp) ?_
  generalize hN : nextL body ns m = N
  unfold nextL at hN
  simp [ic154, ir154, kn_strike']
  refine r_callW _ _ [] [] _ [(1, ⟨202, 1, [[.c (cI .u32 m)]], none⟩)] [] (MeetsV.of_fun (m199 m)) rfl rfl rfl (by simp) (by simp) ?_
  simp [kn_strike']
  refine w_rangeF [2, 4, 5] [.ref 2 0 0, .ref 4 0 0, .ref 5 0 0] rfl trivial rfl ?_ (by simp) (by simp)
  intro l ta E B mk hE hB hR
  have hY : ∀ i ∈ bitsOf m, Rounds GB l ta (E .normal) (E .ret) body sb ns i := fun i hi => by
    refine ⟨fun h r pos hk => ?_, fun h r pos hk hs => ?_, fun h r pos hk hs => ?_⟩
    · refine hR [.ref 10002 0 0, .ref 10004 0 0, .ref 10005 0 0] [.one (.c (cI .i64 i))] (ON (.sl (body.map Lit.row) sb) ns r pos) [] (ON (.sl (body.map Lit.row) sb) ns r (if pos < 0 then i else pos)) [] .normal rfl rfl trivial ?_ ?_
      · refine ⟨?_, by simp, by simp, by simp [ownKey], by simp, by simp, ?_⟩
        · simp [midKey, ownKey]
        · simp [ownKey]
      · simp [ic154a0, roundL]
        refine roundA_mk ?_
        have hr := lit16 body[i]
        simp (config := { maxSteps := 4000000 }) [ic154l0, h, hr, hk, kn_strike']
        by_cases hp : pos < 0
        · simp [hp]
          exact roundQ_mk (by simp [hp]) (by simp)
        · simp [hp]
          exact roundQ_mk (by simp [hp]) (by simp)
    · obtain ⟨q1, q2, q3⟩ := hfit body[i] (List.getElem_mem h)
      have h149 := MeetsV.of_fun (m149z (G := GB) B body sb ns i h q1 q2 (fun _ => q3))
      have hkb : (body[i].kind == 1) = false := beq_eq_false_iff_ne.2 hk
      refine hR [.ref 10002 0 0, .ref 10004 0 0, .ref 10005 0 0] [.one (.c (cI .i64 i))] (ON (.sl (body.map Lit.row) sb) ns r pos) [] (ON (.sl (body.map Lit.row) sb) ns i pos) [] .ret rfl rfl trivial ?_ ?_
      · refine ⟨?_, by simp, by simp, by simp [ownKey], by simp, by simp, ?_⟩
        · simp [midKey, ownKey]
        · simp [ownKey]
      · simp [ic154a0, roundL]
        refine roundA_mk ?_
        have hr := lit16 body[i]
        generalize stepOf ns body[i] i = S at *
        obtain ⟨y, ok⟩ := S
        simp only at hs
        subst hs
        unfold stepX Stp.row at h149
        simp only at h149
        simp (config := { maxSteps := 4000000 }) [ic154l0, h, hr, hkb, kn_strike']
        refine r_callW _ _ (OS 10009 10007 (.sl (body.map Lit.row) sb) ns) [] _ (OS 10009 10007 (.sl (body.map Lit.row) sb) ns) [] h149 rfl rfl rfl (by simp [X.fits, A.fits, fitsL]) (by simp) ?_
        simp (config := { maxSteps := 4000000 }) [kn_strike']
        exact roundQ_mk (by simp [kn_strike']) (by simp)
    · obtain ⟨q1, q2, q3⟩ := hfit body[i] (List.getElem_mem h)
      have h149 := MeetsV.of_fun (m149z (G := GB) B body sb ns i h q1 q2 (fun _ => q3))
      have hkb : (body[i].kind == 1) = false := beq_eq_false_iff_ne.2 hk
      refine hR [.ref 10002 0 0, .ref 10004 0 0, .ref 10005 0 0] [.one (.c (cI .i64 i))] (ON (.sl (body.map Lit.row) sb) ns r pos) [] (ON (.sl (body.map Lit.row) sb) ns r pos) [] .normal rfl rfl trivial ?_ ?_
      · refine ⟨?_, by simp, by simp, by simp [ownKey], by simp, by simp, ?_⟩
        · simp [midKey, ownKey]
        · simp [ownKey]
      · simp [ic154a0, roundL]
        refine roundA_mk ?_
        have hr := lit16 body[i]
        generalize stepOf ns body[i] i = S at *
        obtain ⟨y, ok⟩ := S
        simp only at hs
        subst hs
        unfold stepX Stp.row at h149
        simp only at h149
        simp (config := { maxSteps := 4000000 }) [ic154l0, h, hr, hkb, kn_strike']
        refine r_callW _ _ (OS 10009 10007 (.sl (body.map Lit.row) sb) ns) [] _ (OS 10009 10007 (.sl (body.map Lit.row) sb) ns) [] h149 rfl rfl rfl (by simp [X.fits, A.fits, fitsL]) (by simp) ?_
        simp (config := { maxSteps := 4000000 }) [kn_strike']
        exact roundQ_mk (by simp [kn_strike']) (by simp)
  generalize hrun : runOn body ns (bitsOf m) (-1) = out at hN
  obtain ⟨s, pos'⟩ := out
  cases s with
  | none =>
    simp only at hN
    subst hN
    refine ⟨_, [], _, [], _, .normal, v220n (E .normal) (E .ret) l ta body sb ns m hm hin hY 0 (-1) pos' hrun, ?_, trivial, fun Z hZ => ?_⟩
    · simp
    · simp [kn_strike']
      exact ⟨Z, .inr (by rw [hZ]; simp), ret_st (by simp) (by simp) (by simp [kn_strike']) (by simp) (by simp) (by simp)⟩
  | some s =>
    simp only at hN
    subst hN
    refine ⟨_, [], _, [], _, .ret, v220s (E .normal) (E .ret) (by rw [hE, hE]) l ta body sb ns m hm hin hY 0 (-1) pos' s hrun, ?_, trivial, fun Z hZ => ?_⟩
    · simp
    · simp [kn_strike']
      exact ⟨Z, .inr (by rw [hZ]; simp), ret_st (by simp) (by simp) (by simp [kn_strike']) (by simp) (by simp) (by simp)⟩
end Go.Proofs.YtiomojlcnemnhaaDoor

namespace Go.Proofs.YtiomojlcnemnhaaDoor
open Go.Fx Go.RowKit Go.Ped
variable {G : World → Prop}
def markLoop (hv : List Name) : List Tm → Nat → Bool → Bool → Option (Nat × Bool × Bool)
  | [], left, no, ev => some (left, no, ev)
  | t :: l, left, no, ev =>
    if (left % 2 == 1) = (t.v.isEmpty || hv.contains t.v) then markLoop hv l (left / 2) (no && !(t.v.isEmpty || hv.contains t.v)) (ev && (t.v.isEmpty || hv.contains t.v)) else none
def markedB (x : Lit) (kind : Int) (known : Nat) (gives : List Name) (hv : List Name) : Bool :=
  if x.kind = 3 then (known : Int) == 0 && ((kind == 5 && gives.isEmpty) || (kind == 6 && (gives.length : Int) == 1 && x.rel == 1))
  else match markLoop hv x.l known true true with
    | none => false
    | some (left, no, ev) => if left ≠ 0 then false else if x.kind = 2 then kind == 4 else ((kind == 3) == ev) && ((kind == 1) == (no && !ev)) && ((kind == 2) == (!no && !ev))
set_option maxHeartbeats 8000000 in
theorem m81 (x : Lit) (kind lit : Int) (known : Nat) (gives : List Name) (sp : Sp) (hv : List Name) (sq : Sp) (hl : x.l.length ≤ 1048576) (hk : known < 4294967296) :
    Meets Tryd.prog G 81 [.agg x.row, .agg [cI .i8 kind, cI .i64 lit, cI .u32 known, .sl (gives.map nmRow) sp], .one (.sl (hv.map nmRow) sq)] (.x (.one (cB (markedB x kind known gives hv)))) := by
  have hhas : ∀ v, Meets Tryd.prog G 80 [.one (.sl (hv.map nmRow) sq), .one (cS (bs v))] (.x (.one (cB (hv.contains v)))) := fun v => Meets.len (by kernel_rfl) fun hl => m80 (G := G) hv v sq (by rwa [List.length_map] at hl)
  refine meets Tryd.func81 ie81 ig81 (Nat.le_of_ble_eq_true rfl) ?_
  generalize hB : markedB x kind known gives hv = B
  unfold markedB at hB
  rw [lit16 x]
  by_cases h3 : x.kind = 3
  · rw [if_pos h3] at hB
    simp (config := { maxSteps := 4000000 }) [ic81, ir81, h3]
    generalize ((known : Int) == 0) = a at *
    generalize (kind == 5) = b at *
    generalize (kind == 6) = c at *
    generalize gives.isEmpty = d at *
    generalize ((gives.length : Int) == 1) = e at *
    generalize (x.rel == 1) = f at *
    subst hB
    cases a <;> cases b <;> cases c <;> cases d <;> cases e <;> cases f <;> simp [impG, gd1]
  · rw [if_neg h3] at hB
    have h3b : (x.kind == 3) = false := beq_eq_false_iff_ne.2 h3
    simp (config := { maxSteps := 4000000 }) [ic81, ir81, h3b]
    refine w_loopA [] [11] [2, 3, 4, 7, 8, 9, 10] (by simp [ownKey])
      (fun a : Nat × Nat × Bool × Bool => st [(2, .k true (.x (.one (.c (.sl (hv.map nmRow) sq))))), (3, .k true (.x (.one (.ref 3 0 0)))), (4, .k true (.x (.one (.ref 4 0 0)))), (7, tB a.2.2.1), (8, tB a.2.2.2), (9, .k true (rI .u32 a.2.1)), (10, tI .i64 a.1)]
        [(4, ⟨121, 4, [[.c (cI .i8 kind), .c (cI .i64 lit), .c (cI .u32 known), .c (.sl (gives.map nmRow) sp)]], none⟩), (3, ⟨88, 16, [x.row.map A.c], none⟩)] [] F0) (fun a => x.l.length - a.1)
      (fun a => a.1 ≤ x.l.length ∧ a.2.1 < 4294967296 ∧ markLoop hv x.l known true true = markLoop hv (x.l.drop a.1) a.2.1 a.2.2.1 a.2.2.2) (0, known, true, true) (by rw [lit16 x]; simp) ⟨Nat.zero_le _, hk, rfl⟩ ?_
    rintro ⟨i, left, no, ev⟩ K hK ⟨hi, hle, hd⟩
    simp only at hi hle hd
    obtain hlt | hge := Nat.lt_or_ge i x.l.length
    · have hr : x.l[i].row = [cS (bs x.l[i].v), cI .i8 x.l[i].x.k, cI .i64 x.l[i].x.n, cS (bs x.l[i].x.s)] := rfl
      rw [List.drop_eq_getElem_cons hlt, markLoop] at hd
      have e1 : (left : Int).tmod 2 = ((left % 2 : Nat) : Int) := by rw [Int.tmod_eq_emod_of_nonneg (by omega)]; rfl
      have e2 : (left : Int).tdiv 2 = ((left / 2 : Nat) : Int) := by rw [Int.tdiv_eq_ediv_of_nonneg (by omega)]; rfl
      have e3 : ((left : Int) % 2 == 1) = (left % 2 == 1) := by rw [Bool.eq_iff_iff, beq_iff_eq, beq_iff_eq]; omega
      have e4 : IntKind.u32.wrap ((left / 2 : Nat) : Int) = ((left / 2 : Nat) : Int) := wrap_u32 _ (by omega)
      have e5 : IntKind.u32.wrap ((left % 2 : Nat) : Int) = ((left % 2 : Nat) : Int) := wrap_u32 _ (by omega)
      have e6 : IntKind.u32.wrap ((left : Int) / 2) = (left : Int) / 2 := by
        rw [show (left : Int) / 2 = ((left / 2 : Nat) : Int) from rfl, e4]
      have hh := hhas x.l[i].v
      have hle2 : left / 2 < 4294967296 := by omega
      simp (config := { maxSteps := 4000000 }) [ic81l0, hlt, hr, lit16 x]
      generalize x.l[i].v.isEmpty = em at *
      generalize hv.contains x.l[i].v = hc at *
      cases em with
      | true =>
        refine call_no (.x (.one (cB true))) ?_
        simp (config := { maxSteps := 4000000 }) [e1, e3]
        cases hb : (left % 2 == 1) with
        | false =>
          rw [hb, if_neg (by simp)] at hd
          rw [hd] at hB
          simp only at hB
          subst hB
          simp (config := { maxSteps := 4000000 }) [hb]
        | true =>
          rw [hb, if_pos (by simp)] at hd
          simp (config := { maxSteps := 4000000 }) [hb, e2]
          simp (disch := omega) only [wrap64]
          refine hK (i + 1, left / 2, false, ev) _ (by simp [lit16 x, e6]; try rfl) ⟨by simp only; omega, hle2, by simpa using hd⟩ (by simp only; omega)
      | false =>
        refine call_of hh ?_
        simp (config := { maxSteps := 4000000 }) [e1, e3]
        cases hb : (left % 2 == 1) <;> cases hc
        · rw [hb, if_pos (by simp)] at hd
          simp (config := { maxSteps := 4000000 }) [hb, e2]
          simp (disch := omega) only [wrap64]
          refine hK (i + 1, left / 2, no, false) _ (by simp [lit16 x, e6]; try rfl) ⟨by simp only; omega, hle2, by simpa using hd⟩ (by simp only; omega)
        · rw [hb, if_neg (by simp)] at hd
          rw [hd] at hB
          simp only at hB
          subst hB
          simp (config := { maxSteps := 4000000 }) [hb]
        · rw [hb, if_neg (by simp)] at hd
          rw [hd] at hB
          simp only at hB
          subst hB
          simp (config := { maxSteps := 4000000 }) [hb]
        · rw [hb, if_pos (by simp)] at hd
          simp (config := { maxSteps := 4000000 }) [hb, e2]
          simp (disch := omega) only [wrap64]
          refine hK (i + 1, left / 2, false, ev) _ (by simp [lit16 x, e6]; try rfl) ⟨by simp only; omega, hle2, by simpa using hd⟩ (by simp only; omega)
    · rw [List.drop_eq_nil_of_le hge, markLoop] at hd
      rw [hd] at hB
      simp only at hB
      simp (config := { maxSteps := 4000000 }) [ic81l0, Nat.not_lt.mpr hge, lit16 x]
      by_cases hl0 : left = 0
      · subst hl0
        rw [if_neg (by simp)] at hB
        by_cases h2 : x.kind = 2
        · rw [if_pos h2] at hB
          simp (config := { maxSteps := 4000000 }) [h2, hB]
        · rw [if_neg h2] at hB
          have h2b : (x.kind == 2) = false := beq_eq_false_iff_ne.2 h2
          simp (config := { maxSteps := 4000000 }) [h2b]
          generalize (kind == 3) = a at *
          generalize (kind == 1) = b at *
          generalize (kind == 2) = c at *
          subst hB
          cases a <;> cases b <;> cases c <;> cases no <;> cases ev <;> simp [impG, gd1]
      · rw [if_pos hl0] at hB
        subst hB
        have hl0b : ((left : Int) == 0) = false := beq_eq_false_iff_ne.2 (by omega)
        simp (config := { maxSteps := 4000000 }) [hl0b]
end Go.Proofs.YtiomojlcnemnhaaDoor

namespace Go.Proofs.YtiomojlcnemnhaaDoor
open Go.Fx Go.RowKit Go.Ped
def colIs (ns : List Name) (t : Tm) : Bool := t.v.isEmpty || ns.contains t.v
theorem markOf_cons (ns : List Name) (t : Tm) (l : List Tm) : markOf ns (t :: l) = (if colIs ns t = true then 1 else 0) + 2 * markOf ns l := by
  rw [markOf]
  congr 1
  unfold colIs
  simp only [Bool.or_eq_true, List.isEmpty_iff]
theorem mark_loop {hv ns : List Name} (h : ∀ v, hv.contains v = ns.contains v) : ∀ (l : List Tm) (no ev : Bool), markLoop hv l (markOf ns l) no ev = some (0, no && l.all (fun t => !colIs ns t), ev && l.all (colIs ns))
  | [], no, ev => by simp [markLoop, markOf]
  | t :: l, no, ev => by
    rw [markLoop, h, markOf_cons]
    have e : (t.v.isEmpty || ns.contains t.v) = colIs ns t := rfl
    rw [e]
    cases hc : colIs ns t with
    | true =>
      have e1 : ((if true = true then 1 else 0) + 2 * markOf ns l) % 2 = 1 := by rw [if_pos rfl]; omega
      have e2 : ((if true = true then 1 else 0) + 2 * markOf ns l) / 2 = markOf ns l := by rw [if_pos rfl]; omega
      rw [e1, e2, if_pos (by rfl), mark_loop h l]
      simp [hc]
    | false =>
      have e1 : ((if false = true then 1 else 0) + 2 * markOf ns l) % 2 = 0 := by simp
      have e2 : ((if false = true then 1 else 0) + 2 * markOf ns l) / 2 = markOf ns l := by simp
      rw [e1, e2, if_pos (by rfl), mark_loop h l]
      simp [hc]
theorem mark_all (ns : List Name) : ∀ l : List Tm, (markOf ns l = 2 ^ l.length - 1) ↔ l.all (colIs ns) = true
  | [] => by simp [markOf]
  | t :: l => by
    have ih := mark_all ns l
    have hl := mark_lt ns l
    rw [markOf_cons, List.length_cons, Nat.pow_succ, List.all_cons, Bool.and_eq_true, ← ih]
    cases colIs ns t <;> simp <;> omega
theorem mark_none (ns : List Name) : ∀ l : List Tm, (markOf ns l = 0) ↔ l.all (fun t => !colIs ns t) = true
  | [] => by simp [markOf]
  | t :: l => by
    have ih := mark_none ns l
    rw [markOf_cons, List.all_cons, Bool.and_eq_true, ← ih]
    cases colIs ns t
    · simp
      omega
    · simp
theorem bits_mark (ns : List Name) (l : List Tm) : ((markOf ns l : Int) = bitsTo l.length) ↔ markOf ns l = 2 ^ l.length - 1 := by
  have := Nat.one_le_two_pow (n := l.length)
  have e : bitsTo l.length = ((2 ^ l.length - 1 : Nat) : Int) := by
    unfold bitsTo
    rw [Int.natCast_sub this]
    simp
  rw [e]
  omega
theorem step_marked {hv ns : List Name} (h : ∀ v, hv.contains v = ns.contains v) {x : Lit} (hx : x.kind = 1 ∨ x.kind = 2 ∨ x.kind = 3) (i : Nat) (hs : (stepOf ns x i).2 = true) :
    markedB x (stepOf ns x i).1.kind (stepOf ns x i).1.known.toNat (stepOf ns x i).1.gives hv = true ∧ (x.kind = 2 → (stepOf ns x i).1.gives = []) ∧ 0 ≤ (stepOf ns x i).1.known := by
  have hloop := mark_loop h x.l true true
  simp only [Bool.true_and] at hloop
  have ha := (bits_mark ns x.l).trans (mark_all ns x.l)
  have hn := mark_none ns x.l
  unfold markedB
  rcases hx with h1 | h1 | h1
  · have h3 : ¬ x.kind = 3 := by omega
    have h2 : ¬ x.kind = 2 := by omega
    have hst : stepOf ns x i = (⟨if (markOf ns x.l : Int) = bitsTo x.l.length then 3 else if (markOf ns x.l : Int) = 0 then 1 else 2, i, markOf ns x.l, openOf ns x⟩, true) := by unfold stepOf; rw [if_pos h1]
    rw [hst, if_neg h3]
    simp only [Int.toNat_natCast]
    rw [hloop]
    simp only [ne_eq, not_true, if_false, if_neg h2]
    refine ⟨?_, fun e => absurd e h2, by omega⟩
    by_cases q1 : (markOf ns x.l : Int) = bitsTo x.l.length
    · rw [if_pos q1, ha.1 q1]
      simp
    · have q2 : x.l.all (colIs ns) = false := by
        cases hq : x.l.all (colIs ns) with
        | false => rfl
        | true => exact absurd (ha.2 hq) q1
      rw [if_neg q1, q2]
      by_cases q3 : (markOf ns x.l : Int) = 0
      · rw [if_pos q3, hn.1 (by omega)]
        simp
      · have q4 : x.l.all (fun t => !colIs ns t) = false := by
          cases hq : x.l.all (fun t => !colIs ns t) with
          | false => rfl
          | true => exact absurd (by have := hn.2 hq; omega) q3
        rw [if_neg q3, q4]
        simp
  · have h3 : ¬ x.kind = 3 := by omega
    have h2 : ¬ x.kind = 1 := by omega
    have hst : stepOf ns x i = (⟨4, i, markOf ns x.l, []⟩, (openOf ns x).isEmpty) := by unfold stepOf; rw [if_neg h2, if_pos h1]
    rw [hst, if_neg h3]
    simp only [Int.toNat_natCast]
    rw [hloop]
    simp only [ne_eq, not_true, if_false, if_pos h1]
    exact ⟨by simp, fun _ => trivial, by omega⟩
  · have h2 : ¬ x.kind = 1 := by omega
    have h3 : ¬ x.kind = 2 := by omega
    rw [if_pos h1]
    unfold stepOf at hs ⊢
    rw [if_neg h2, if_neg h3] at hs ⊢
    cases hO : openOf ns x with
    | nil => exact ⟨rfl, fun e => absurd e h3, by simp⟩
    | cons v l =>
      rw [hO] at hs
      simp only at hs ⊢
      split at hs
      · rename_i hc
        rw [if_pos hc]
        refine ⟨?_, fun e => absurd e h3, by simp⟩
        simp [hc.2.1]
      · cases hs
end Go.Proofs.YtiomojlcnemnhaaDoor

namespace Go.Proofs.YtiomojlcnemnhaaDoor
open Go.Fx Go.RowKit Go.Ped
theorem varsOn_nodupL : ∀ (l acc : List Name), acc.Nodup → (varsOn acc l).Nodup
  | [], _, h => h
  | v :: l, acc, h => by
    simp only [varsOn]
    split
    · rename_i hc
      simp only [Bool.and_eq_true, Bool.not_eq_true', List.contains_eq_mem, decide_eq_false_iff_not] at hc
      refine varsOn_nodupL l _ ?_
      rw [List.nodup_append]
      exact ⟨h, by simp, fun a ha b hb e => hc.2 (by rw [List.mem_singleton.1 hb] at e; exact e ▸ ha)⟩
    · exact varsOn_nodupL l _ h
theorem tmVars_nodupL (l : List Tm) : (tmVars l).Nodup := varsOn_nodupL _ _ List.nodup_nil
theorem unk_mem {ns l : List Name} {v : Name} : v ∈ unk ns l ↔ v ∈ l ∧ ns.contains v = false := by
  rw [List.mem_filter]
  simp
theorem step_gives_ok (ns : List Name) {x : Lit} (hx : x.kind = 1 ∨ x.kind = 2 ∨ x.kind = 3) (i : Nat) (hs : (stepOf ns x i).2 = true) :
    (∀ v ∈ (stepOf ns x i).1.gives, v ∈ tmVars x.terms ∧ ns.contains v = false) ∧ (stepOf ns x i).1.gives.Nodup ∧ ∀ v ∈ tmVars x.terms, ns.contains v = true ∨ v ∈ (stepOf ns x i).1.gives := by
  have hnd : (unk ns (tmVars x.terms)).Nodup := (tmVars_nodupL x.terms).sublist List.filter_sublist
  have hcov : ∀ v ∈ tmVars x.terms, ns.contains v = true ∨ v ∈ unk ns (tmVars x.terms) := fun v hv => by
    cases h : ns.contains v with
    | true => exact .inl rfl
    | false => exact .inr (unk_mem.2 ⟨hv, h⟩)
  rcases hx with h1 | h1 | h1
  · have hst : (stepOf ns x i).1.gives = unk ns (tmVars x.terms) := by unfold stepOf; rw [if_pos h1]
    rw [hst]
    exact ⟨fun v hv => unk_mem.1 hv, hnd, hcov⟩
  · have h2 : ¬ x.kind = 1 := by omega
    have hst : stepOf ns x i = (⟨4, i, markOf ns x.l, []⟩, (openOf ns x).isEmpty) := by unfold stepOf; rw [if_neg h2, if_pos h1]
    rw [hst] at hs ⊢
    have ho : unk ns (tmVars x.terms) = [] := by simpa using hs
    refine ⟨fun v hv => (by cases hv), List.nodup_nil, fun v hv => ?_⟩
    have := hcov v hv
    rw [ho] at this
    exact this.imp id fun h => by cases h
  · have h2 : ¬ x.kind = 1 := by omega
    have h3 : ¬ x.kind = 2 := by omega
    unfold stepOf at hs ⊢
    rw [if_neg h2, if_neg h3] at hs ⊢
    cases hO : openOf ns x with
    | nil =>
      refine ⟨fun v hv => (by cases hv), List.nodup_nil, fun v hv => ?_⟩
      have := hcov v hv
      rw [show unk ns (tmVars x.terms) = [] from hO] at this
      exact this.imp id fun h => by cases h
    | cons v l =>
      rw [hO] at hs
      simp only at hs ⊢
      split at hs
      · rename_i hc
        rw [if_pos hc]
        have ho : unk ns (tmVars x.terms) = [v] := by rw [show unk ns (tmVars x.terms) = v :: l from hO, hc.1]
        refine ⟨fun u hu => ?_, by simp, fun u hu => ?_⟩
        · exact unk_mem.1 (by rw [ho]; exact hu)
        · have := hcov u hu
          rwa [ho] at this
      · cases hs
theorem learnOn_mem : ∀ (l ns : List Name) (v : Name), v ∈ learnOn ns l ↔ v ∈ ns ∨ v ∈ l
  | [], ns, v => by simp [learnOn]
  | u :: l, ns, v => by
    rw [learnOn, learnOn_mem l]
    unfold addN
    by_cases h : ns.contains u = true
    · rw [if_pos h]
      have hu : u ∈ ns := by simpa using h
      constructor
      · rintro (h1 | h1)
        · exact .inl h1
        · exact .inr (List.mem_cons_of_mem _ h1)
      · rintro (h1 | h1)
        · exact .inl h1
        · rcases List.mem_cons.1 h1 with rfl | h1
          · exact .inl hu
          · exact .inr h1
    · rw [if_neg h]
      simp only [List.mem_append, List.mem_cons, List.not_mem_nil, or_false]
      exact or_assoc
end Go.Proofs.YtiomojlcnemnhaaDoor

namespace Go.Proofs.YtiomojlcnemnhaaDoor
open Go.Fx Go.RowKit Go.Ped
def lawOn (body : List Lit) : List Name → List Stp → Option (List Name)
  | hv, [] => some hv
  | hv, s :: l =>
    if s.lit < 0 ∨ (body.length : Int) ≤ s.lit then none
    else match body[s.lit.toNat]? with
      | none => none
      | some x =>
        if (∀ v ∈ s.gives, hv.contains v = false ∧ v ∈ tmVars x.terms) ∧ s.gives.Nodup ∧ markedB x s.kind s.known.toNat s.gives hv = true ∧ (x.kind = 2 → s.gives = []) ∧ (∀ v ∈ tmVars x.terms, v ∈ hv ++ s.gives) then lawOn body (hv ++ s.gives) l else none
theorem law_of_right {body : List Lit} (hb : ∀ x ∈ body, x.kind = 1 ∨ x.kind = 2 ∨ x.kind = 3) (hb24 : body.length ≤ 24) : ∀ (steps : List Stp) (m : Nat) (ns hv : List Name), (∀ v, v ∈ ns ↔ v ∈ hv) → rightOn body m ns steps = true →
    ∃ hv', lawOn body hv steps = some hv' ∧ (∀ v ∈ hv, v ∈ hv') ∧ ∀ (j : Nat) (hj : j < body.length), m.testBit j = true → ∀ v ∈ tmVars body[j].terms, v ∈ hv'
  | [], m, ns, hv, _, hr => by
    have hm : m = 0 := by simpa [rightOn] using hr
    subst hm
    exact ⟨hv, rfl, fun _ h => h, fun j _ h => by simp at h⟩
  | s :: l, m, ns, hv, he, hr => by
    rw [rightOn] at hr
    split at hr
    · cases hr
    rename_i hlit
    split at hr
    · cases hr
    rename_i hbit
    split at hr
    · cases hr
    rename_i x hx
    split at hr
    · rename_i hc
      obtain ⟨c1, c2, c3, c4⟩ := hc
      obtain ⟨hlt, hxe⟩ := List.getElem?_eq_some_iff.1 hx
      have hxk := hb x (hxe ▸ List.getElem_mem hlt)
      have hcc : ∀ v, hv.contains v = ns.contains v := fun v => by
        rw [Bool.eq_iff_iff]
        simp only [List.contains_eq_mem, decide_eq_true_eq]
        exact (he v).symm
      obtain ⟨g1, g2, g3⟩ := step_gives_ok ns hxk s.lit.toNat c1
      obtain ⟨k1, k2, k3⟩ := step_marked hcc hxk s.lit.toNat c1
      rw [← c2, ← c3, ← c4] at k1
      rw [← c4] at g1 g2 g3 k2
      have hcov : ∀ v ∈ tmVars x.terms, v ∈ hv ++ s.gives := fun v hv2 => by
        rcases g3 v hv2 with h | h
        · exact List.mem_append_left _ ((he v).1 (by simpa using h))
        · exact List.mem_append_right _ h
      have he2 : ∀ v, v ∈ learnOn ns (stepOf ns x s.lit.toNat).1.gives ↔ v ∈ hv ++ s.gives := fun v => by
        rw [learnOn_mem, ← c4, List.mem_append, he v]
      obtain ⟨hv', q1, q2, q3⟩ := law_of_right hb hb24 l _ _ _ he2 hr
      refine ⟨hv', ?_, fun v h => q2 v (List.mem_append_left _ h), fun j hj hbj v hvj => ?_⟩
      · rw [lawOn, if_neg hlit, hx]
        simp only
        rw [if_pos ⟨fun v h => ⟨(hcc v).trans (g1 v h).2, (g1 v h).1⟩, g2, k1, k2, hcov⟩]
        exact q1
      · by_cases hjs : s.lit.toNat = j
        · subst hjs
          have hxj : body[s.lit.toNat] = x := hxe
          rw [hxj] at hvj
          exact q2 v (hcov v hvj)
        · exact q3 j hj (by rw [clr_bit (by omega) (by omega), hbj]; simpa using hjs) v hvj
    · cases hr
end Go.Proofs.YtiomojlcnemnhaaDoor

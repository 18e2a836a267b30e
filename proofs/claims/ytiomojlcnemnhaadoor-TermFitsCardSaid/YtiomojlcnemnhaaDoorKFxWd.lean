/- Fx, part Wd: calls that share memory and leave it as it is, made where something holds. -/
import Derived.Test.YtiomojlcnemnhaaDoorKFxWc
namespace Go.Fx
open Go.RowKit
section
variable {P : Program} {G : World → Prop} {L : List (Nat × T)} {O : List (Nat × Box)} {U : List (Nat × Tok)} {H : FHp} {l : List IOper} {K : S → Prop} {d : Nat}

/-- A call that shares memory and turns it. -/
theorem r_callW {f : D} {args : List D} {gd : Option (Nat × Bool)} (fv : A) (xs : List X) (O1 : List (Nat × Box)) (U1 : List (Nat × Tok)) (res : R) (O2 : List (Nat × Box)) (U2 : List (Nat × Tok)) (hm : MeetsV P G fv xs (hp O1 U1 H) res (hp O2 U2 H))
    (hg : guardO (st L O U H) gd = some true) (hf : f.val (st L O U H) = .k true (.x (.one fv))) (ha : (args.all fun d => (d.val (st L O U H)).g) = true) (hx : fitsR (args.map fun d => (d.val (st L O U H)).r) xs)
    (hc : ((∀ p ∈ O1, lookO O p.1 = some p.2 ∧ p.1 < 15000) ∧ (∀ p ∈ U1, lookT U p.1 = some p.2 ∧ p.1 < 15000) ∧ (∀ p ∈ O, p.1 < 15000) ∧ (∀ p ∈ U, p.1 < 15000)) ∧
      (∀ p ∈ O1, lookO O2 p.1 ≠ none) ∧ (∀ p ∈ U1, lookT U2 p.1 ≠ none) ∧ (∀ p ∈ O2, lookO O1 p.1 = none → lookO O p.1 = none ∧ p.1 < 10000) ∧ ∀ p ∈ U2, lookT U1 p.1 = none → lookT U p.1 = none ∧ p.1 < 10000)
    (h : atK P G l ((d, .k true res) :: L) (updsO O2 O) (updsT U2 U) H K) : runK P G (⟨some d, .call f args, gd, none⟩ :: l) (st L O U H) K :=
  r_callV fv xs O1 U1 res O2 U2 H hm hg hf ha hx hc.1.1 hc.1.2.1 hc.1.2.2.1 hc.1.2.2.2 hc.2.1 hc.2.2.1 hc.2.2.2.1 hc.2.2.2.2 (sameKeys_refl H) rfl h

theorem hp_objs0 (O : List (Nat × Box)) (U : List (Nat × Tok)) (k : Nat) : (hp O U F0).objs k = lookO O k := by
  show (lookO O k).or none = _
  simp
theorem hp_toks0 (O : List (Nat × Box)) (U : List (Nat × Tok)) (k : Nat) : (hp O U F0).toks k = lookT U k := by
  show (lookT U k).or none = _
  simp

/-- A call whose keys are noted, that shares memory and turns it. -/
theorem r_callN {f : D} {args : List D} {gd : Option (Nat × Bool)} (ks : List Nat) (fv : A) (xs : List X) (O1 : List (Nat × Box)) (U1 : List (Nat × Tok)) (res : R) (O2 : List (Nat × Box)) (U2 : List (Nat × Tok)) (hm : MeetsV P G fv xs (hp O1 U1 F0) res (hp O2 U2 F0))
    (hg : guardO (st L O U F0) gd = some true) (hf : f.val (st L O U F0) = .k true (.x (.one fv))) (ha : (args.all fun d => (d.val (st L O U F0)).g) = true) (hx : fitsR (args.map fun d => (d.val (st L O U F0)).r) xs)
    (hc : ((∀ p ∈ O1, lookO O p.1 = some p.2 ∧ p.1 < 15000) ∧ (∀ p ∈ U1, lookT U p.1 = some p.2 ∧ p.1 < 15000) ∧ (∀ p ∈ O, p.1 < 15000) ∧ (∀ p ∈ U, p.1 < 15000)) ∧
      (∀ p ∈ O1, lookO O2 p.1 ≠ none) ∧ (∀ p ∈ U1, lookT U2 p.1 ≠ none) ∧ (∀ p ∈ O2, lookO O1 p.1 = none → lookO O p.1 = none ∧ p.1 < 10000) ∧ ∀ p ∈ U2, lookT U1 p.1 = none → lookT U p.1 = none ∧ p.1 < 10000)
    (hk : (∀ p ∈ O1, p.1 ∈ ks) ∧ (∀ p ∈ U1, p.1 ∈ ks) ∧ (∀ p ∈ O2, p.1 ∈ ks) ∧ ∀ p ∈ U2, p.1 ∈ ks)
    (h : atK P G l ((d, .k true res) :: L) (updsO O2 O) (updsT U2 U) F0 K) : runK P G (⟨some d, .call f args, gd, some ks⟩ :: l) (st L O U F0) K := by
  have hs := sameKeys_refl F0
  have e := over_st (L := L) (O2 := O2) (U2 := U2) hc.1.2.2.1 hc.1.2.2.2 (fun k hk => fun e => hk ((hs.1 k).1.2 e)) (fun k hk => fun e => hk ((hs.1 k).2.2 e))
  refine ⟨_, ⟨trivial, true, hg, fv, xs, true, _, res, _, fun _ => ⟨ha, hx, hf, hm, lends_st hc.1.1 hc.1.2.1 hc.1.2.2.1 hc.1.2.2.2 hc.2.1 hc.2.2.1 hc.2.2.2.1 hc.2.2.2.2 (fun k hk => fun e => hk ((hs.1 k).1.2 e)) (fun k hk => fun e => hk ((hs.1 k).2.2 e)) (fun k hk => fun e => hk ((hs.1 k).1.1 e)) (fun k hk => fun e => hk ((hs.1 k).2.1 e)) hs.2, fun k hn => ?_⟩, rfl⟩, by simpa only [if_true, e, put_st, atK_eq] using h⟩
  show k ∈ ks
  rw [hp_objs0, hp_toks0, hp_objs0, hp_toks0] at hn
  have go : ∀ (A : List (Nat × Box)), (∀ p ∈ A, p.1 ∈ ks) → lookO A k ≠ none → k ∈ ks := fun A hA hn => by
    cases hb : lookO A k with
    | none => exact absurd hb hn
    | some b => exact hA _ (lookO_mem hb)
  have gt : ∀ (A : List (Nat × Tok)), (∀ p ∈ A, p.1 ∈ ks) → lookT A k ≠ none → k ∈ ks := fun A hA hn => by
    cases hb : lookT A k with
    | none => exact absurd hb hn
    | some b => exact hA _ (lookT_mem hb)
  rcases hn with hn | hn | hn | hn
  · exact go _ hk.1 hn
  · exact gt _ hk.2.1 hn
  · exact go _ hk.2.2.1 hn
  · exact gt _ hk.2.2.2 hn
end
end Go.Fx

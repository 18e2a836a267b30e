import Derived.Test.YtiomojlcnemnhaaDoorWDxX6
import Derived.Test.YtiomojlcnemnhaaDoorWPedF
import Derived.Test.YtiomojlcnemnhaaDoorWDxX11
import Derived.Test.YtiomojlcnemnhaaDoorWDxM8
import Derived.Lib.LaidTab
import Derived.Lib.AppendIntMem
namespace Go.Proofs.YtiomojlcnemnhaaDoor
open Go.Fx Go.RowKit Go.Ped
variable {G : World → Prop}
def kidsOn (left n : Int) : List Ex → List Ex → Option (List Ex)
  | [], acc => some acc
  | e :: l, acc => if n + acc.length + e.kids.length > left then none else kidsOn left n l (acc ++ e.kids)
def partsOn (left : Int) : Nat → Int → Int → List Ex → Int
  | 0, _, _, _ => left + 1
  | f + 1, n, d, lv =>
    if lv.isEmpty then n else if n + lv.length > left ∨ d > 65536 then left + 1 else
    match kidsOn left (n + lv.length) lv [] with
    | none => left + 1
    | some nx => partsOn left f (n + lv.length) (d + 1) nx
def exParts (e : Ex) (left : Int) : Int := partsOn left 65540 0 0 [e]
theorem kidsOn_small {left n : Int} {N : Nat} : ∀ {l acc nx : List Ex}, kidsOn left n l acc = some nx → (∀ e ∈ l, e.small N) → (∀ e ∈ acc, e.small N) → ∀ e ∈ nx, e.small N
  | [], acc, nx, h, _, h0 => by simp [kidsOn] at h; subst h; exact h0
  | e :: l, acc, nx, h, hl, h0 => by
    simp only [kidsOn] at h
    split at h
    · cases h
    · refine kidsOn_small h (fun x hx => hl x (List.mem_cons_of_mem _ hx)) fun x hx => ?_
      rcases List.mem_append.1 hx with hx | hx
      · exact h0 x hx
      · have := hl e (List.mem_cons_self ..)
        obtain ⟨op, t, kids, sp⟩ := e
        exact (Ex.small_mk.1 this).2 x hx
theorem partsOn_bound {left : Int} : ∀ (f : Nat) (n d : Int) (lv : List Ex), 0 ≤ n → n ≤ left → 0 ≤ partsOn left f n d lv ∧ partsOn left f n d lv ≤ left + 1
  | 0, n, d, lv, h0, h1 => by simp only [partsOn]; omega
  | f + 1, n, d, lv, h0, h1 => by
    simp only [partsOn]
    split
    · omega
    · split
      · omega
      · split
        · omega
        · exact partsOn_bound f _ _ _ (by omega) (by omega)
theorem exParts_bound (e : Ex) {left : Int} (h : 0 ≤ left) : 0 ≤ exParts e left ∧ exParts e left ≤ left + 1 := partsOn_bound _ _ _ _ (by omega) h
theorem wrap64 {n : Int} (h1 : -9223372036854775808 ≤ n) (h2 : n ≤ 9223372036854775807) : IntKind.i64.wrap n = n := Go.IntWalk.i64_in _ (by omega)
theorem m93 (e : Ex) (left : Int) (hl : 0 ≤ left) (hl2 : left ≤ 1048576) (hs : e.small 1048576) : Meets Tryd.prog G 93 [.agg e.row, .one (cI .i64 left)] (.x (.one (cI .i64 (exParts e left)))) := by
  refine meets Tryd.func93 ie93 ig93 (Nat.le_of_ble_eq_true rfl) ?_
  simp [ic93, ir93]
  refine w_loopA [] [2, 12, 71, 72] [6, 5, 1, 7] (by simp [ownKey])
    (fun a : Int × Nat × List Ex => st [(6, tL (a.2.2.map Ex.row)), (5, tI .i64 a.1), (1, tI .i64 left), (7, tI .i64 a.2.1)] [] [] F0) (fun a => 65540 - a.2.1)
    (fun a => exParts e left = partsOn left (65540 - a.2.1) a.1 a.2.1 a.2.2 ∧ a.2.1 ≤ 65537 ∧ 0 ≤ a.1 ∧ a.1 ≤ left ∧ a.1 + a.2.2.length ≤ left + 1 ∧ ∀ x ∈ a.2.2, x.small 1048576)
    (0, 0, [e]) (by simp) ⟨rfl, by simp, by simp, by simpa using hl, by simp; omega, by simpa using hs⟩ ?_
  rintro ⟨n, d, lv⟩ K hK ⟨hd, hd1, hn0, hn1, hlen, hsm⟩
  simp only at hd hd1 hn0 hn1 hlen hsm
  obtain ⟨f, hf⟩ : ∃ f, 65540 - d = f + 1 := ⟨65539 - d, by omega⟩
  rw [hf, partsOn] at hd
  by_cases hlv : lv = []
  · subst hlv
    simp [ic93l2]
    simp at hd
    exact hd.symm
  have hpos : 0 < lv.length := List.length_pos_iff.2 hlv
  rw [if_neg (by simpa using hlv)] at hd
  simp [ic93l2, hpos]
  rw [wrap64 (by omega) (by omega)]
  by_cases hc1 : n + lv.length > left ∨ (d : Int) > 65536
  · rw [if_pos hc1] at hd
    have : (decide (left < n + ↑lv.length) || decide (65536 < (d : Int))) = true := by simpa using hc1
    simp [this]
    rw [wrap64 (by omega) (by omega), hd]
  have hc1' : (decide (left < n + ↑lv.length) || decide (65536 < (d : Int))) = false := by simpa using hc1
  rw [if_neg hc1] at hd
  simp [hc1']
  -- the kids
  generalize hm : n + (lv.length : Int) = m at *
  refine w_loopA [.t 72 8 47 6] [71] [6, 5, 1, 7, 8, 9] (by simp [ownKey])
    (fun a : Nat × List Ex => st [(6, tL (lv.map Ex.row)), (5, tI .i64 m), (1, tI .i64 left), (7, tI .i64 d), (8, .k true (.x (.one (.own 72 (a.2.map Ex.row))))), (9, tI .i64 a.1)] [] [(72, ⟨47, 6, a.2.length⟩)] F0) (fun a => lv.length - a.1)
    (fun a => a.1 ≤ lv.length ∧ kidsOn left m lv [] = kidsOn left m (lv.drop a.1) a.2 ∧ m + a.2.length ≤ left)
    (0, []) (by simp [promoteT_st]) ⟨by simp, by simp, by simp; omega⟩ ?_
  rintro ⟨i, acc⟩ K2 hK2 ⟨hi, hk, hma⟩
  simp only at hi hk hma
  obtain hlt | hge := Nat.lt_or_ge i lv.length
  · rw [List.drop_eq_getElem_cons hlt, kidsOn] at hk
    have hsk := hsm lv[i] (List.getElem_mem hlt)
    have hkl : lv[i].kids.length ≤ 1048576 := by
      generalize lv[i] = x at hsk
      obtain ⟨op, t, kids, sp⟩ := x
      exact (Ex.small_mk.1 hsk).1
    simp [ic93l1, hlt]
    simp (disch := omega) only [wrap64]
    generalize hks : lv[i].kids = ks at *
    by_cases hc2 : m + acc.length + ks.length > left
    · rw [if_pos hc2] at hk
      rw [hk] at hd
      simp [hc2]
      rw [wrap64 (by omega) (by omega), hd]
    rw [if_neg hc2] at hk
    simp [Int.not_lt.mp hc2, hc2]
    refine w_loopA [] [71] [6, 5, 1, 7, 8, 9, 10] (by simp [ownKey])
      (fun a : Nat × List (List C) => st [(6, tL (lv.map Ex.row)), (5, tI .i64 m), (1, tI .i64 left), (7, tI .i64 d), (8, .k true (.x (.one (.own 72 a.2)))), (9, tI .i64 i), (10, tI .i64 a.1)] [] [(72, ⟨47, 6, a.2.length⟩)] F0) (fun a => ks.length - a.1)
      (fun a => a.1 ≤ ks.length ∧ a.2 = (acc ++ ks.take a.1).map Ex.row) (0, acc.map Ex.row) (by simp) (by simp) ?_
    rintro ⟨j, E⟩ K3 hK3 ⟨hj, hE⟩
    simp only at hj hE
    have hEl : E.length = acc.length + j := by rw [hE]; simp; omega
    obtain hlt2 | hge2 := Nat.lt_or_ge j ks.length
    · simp [ic93l0, hlt, hlt2, hks]
      refine ⟨by simp [maxLen]; omega, by simp [maxBytes]; omega, ?_⟩
      simp (disch := omega) only [wrap64]
      exact hK3 (j + 1, E ++ [ks[j].row]) _ (by simp) ⟨by simp; omega, by simp only; rw [hE, List.take_succ_eq_append_getElem hlt2]; simp only [List.map_append, List.map_cons, List.map_nil, List.append_assoc]⟩ (by simp; omega)
    · have htk : ks.take j = ks := List.take_of_length_le hge2
      rw [htk] at hE
      subst hE
      simp [ic93l0, hlt, Nat.not_lt.mpr hge2, hks]
      simp (disch := omega) only [wrap64]
      exact hK2 (i + 1, acc ++ ks) _ (by simp) ⟨by simp; omega, by simpa using hk, by simp; omega⟩ (by simp; omega)
  · rw [List.drop_eq_nil_of_le hge] at hk
    simp only [kidsOn] at hk
    rw [hk] at hd
    simp [ic93l1, Nat.not_lt.mpr hge]
    simp (disch := omega) only [wrap64]
    exact hK (m, d + 1, acc) _ (by simp) ⟨by simp only; rw [hd, show 65540 - (d + 1) = f by omega]; simp, by simp; omega, by simp; omega, by simp; omega, by simp; omega, by simpa using kidsOn_small hk hsm (by simp)⟩ (by simp; omega)
def litParts (x : Lit) (left : Int) : Int :=
  if 1 + x.l.length + exParts x.left left > left then left + 1 else 1 + x.l.length + exParts x.left left + exParts x.right (left - (1 + x.l.length + exParts x.left left))
theorem litParts_bound (x : Lit) {left : Int} (h : 0 ≤ left) : 0 ≤ litParts x left ∧ litParts x left ≤ left + 1 := by
  have h1 := exParts_bound x.left h
  unfold litParts
  split
  · omega
  · have h2 := exParts_bound x.right (left := left - (1 + x.l.length + exParts x.left left)) (by omega)
    omega
theorem m171 (x : Lit) (left : Int) (hl : 0 ≤ left) (hl2 : left ≤ 1048576) (hs : x.small 1048576) : Meets Tryd.prog G 171 [.agg x.row, .one (cI .i64 left)] (.x (.one (cI .i64 (litParts x left)))) := by
  refine meets Tryd.func171 ie171 ig171 (Nat.le_of_ble_eq_true rfl) ?_
  have h1 := exParts_bound x.left hl
  have hl3 := hs.1
  simp [ic171, ir171]
  refine call_of (m93 x.left left hl hl2 hs.2.1) ?_
  have w1 : IntKind.i64.wrap (1 + (x.l.length : Int)) = 1 + x.l.length := wrap64 (by omega) (by omega)
  have w2 : IntKind.i64.wrap (1 + (x.l.length : Int) + exParts x.left left) = 1 + x.l.length + exParts x.left left := wrap64 (by omega) (by omega)
  have w3 : IntKind.i64.wrap (left + 1) = left + 1 := wrap64 (by omega) (by omega)
  simp [w1, w2]
  by_cases hc : 1 + (x.l.length : Int) + exParts x.left left > left
  · simp [hc, litParts, w3]
  · have h2 := exParts_bound x.right (left := left - (1 + x.l.length + exParts x.left left)) (by omega)
    have w4 : IntKind.i64.wrap (left - (1 + (x.l.length : Int) + exParts x.left left)) = left - (1 + x.l.length + exParts x.left left) := wrap64 (by omega) (by omega)
    have w5 := wrap64 (n := 1 + (x.l.length : Int) + exParts x.left left + exParts x.right (left - (1 + x.l.length + exParts x.left left))) (by omega) (by omega)
    simp [hc, Int.not_lt.mp hc, litParts, w4]
    refine call_of (m93 x.right _ (by omega) (by omega) hs.2.2) ?_
    simp [w5]
def bodyParts (left : Int) : List Lit → Int → Int
  | [], n => n
  | x :: l, n => if n ≤ left then bodyParts left l (n + litParts x (left - n)) else n
def ruleParts (r : Rule) (left : Int) : Int := bodyParts left r.body (1 + r.head.length)
theorem m119 (r : Rule) (left : Int) (hl : 0 ≤ left) (hl2 : left ≤ 1048576) (hs : r.small 1048576) : Meets Tryd.prog G 119 [.agg r.row, .one (cI .i64 left)] (.x (.one (cI .i64 (ruleParts r left)))) := by
  refine meets Tryd.func119 ie119 ig119 (Nat.le_of_ble_eq_true rfl) ?_
  obtain ⟨hs1, hs2, hs3⟩ := hs
  simp [ic119, ir119]
  rw [wrap64 (by omega) (by omega)]
  refine w_loopA [] [] [2, 6, 5, 1] (by simp)
    (fun a : Nat × Int => st [(2, .k true (.x (.one (.ref 2 0 0)))), (6, tI .i64 a.1), (5, tI .i64 a.2), (1, tI .i64 left)] [(2, ⟨96, 3, [r.row.map A.c], none⟩)] [] F0) (fun a => r.body.length - a.1)
    (fun a => a.1 ≤ r.body.length ∧ ruleParts r left = bodyParts left (r.body.drop a.1) a.2 ∧ 0 ≤ a.2 ∧ a.2 ≤ 1 + 1048576 + 1048577)
    (0, 1 + r.head.length) (by simp) ⟨by simp, by simp [ruleParts], by simp; omega, by simp; omega⟩ ?_
  rintro ⟨i, n⟩ K hK ⟨hi, hd, hn0, hn1⟩
  simp only at hi hd hn0 hn1
  obtain hlt | hge := Nat.lt_or_ge i r.body.length
  · rw [List.drop_eq_getElem_cons hlt, bodyParts] at hd
    by_cases hc : n ≤ left
    · rw [if_pos hc] at hd
      have hx := hs3 r.body[i] (List.getElem_mem hlt)
      have hb := litParts_bound r.body[i] (left := left - n) (by omega)
      simp [ic119l0, hlt, hc]
      rw [wrap64 (by omega) (by omega)]
      refine call_of (m171 r.body[i] (left - n) (by omega) (by omega) hx) ?_
      simp
      simp (disch := omega) only [wrap64]
      exact hK (i + 1, n + litParts r.body[i] (left - n)) _ (by simp) ⟨by simp; omega, by simpa using hd, by simp; omega, by simp; omega⟩ (by simp; omega)
    · rw [if_neg hc] at hd
      simp [ic119l0, hlt, hc]
      exact hd.symm
  · rw [List.drop_eq_nil_of_le hge, bodyParts] at hd
    simp [ic119l0, Nat.not_lt.mpr hge]
    exact hd.symm
end Go.Proofs.YtiomojlcnemnhaaDoor

namespace Go.Proofs.YtiomojlcnemnhaaDoor
open Go.Fx Go.RowKit Go.Ped
variable {G : World → Prop}
theorem m57 (x : Lit) (hs : x.small 1048576) : Meets Tryd.prog G 57 [.agg x.row] (.x (.one (cI .i64 (if litOk x then 0 else 40)))) := by
  refine meets Tryd.func57 ie57f ig57f (Nat.le_of_ble_eq_true rfl) ?_
  have ha := m44 (G := G) x.p x.l x.sp (by have := hs.1; unfold maxLen; omega)
  have e1 := m94 (G := G) x.left hs.2.1
  have e2 := m94 (G := G) x.right hs.2.2
  by_cases k1 : x.kind = 1 ∨ x.kind = 2
  · have h0 : litOk x = (atomOk x.p x.l && x.rel == 0 && exNone x.left && exNone x.right) := by simp [litOk, k1]
    rw [h0]
    rcases k1 with k1 | k1 <;> simp [ic57f, ir57f, ic57c0f, k1]
    all_goals
      refine call_i (fun _ => m130 x.left) ?_
      simp
      refine call_i (fun _ => m130 x.right) ?_
      simp
      refine condI_of (fun h => ?_) (fun h => ?_)
      · simp at h ⊢; grind
      · simp at h ⊢
        refine call_of ha ?_
        simp
        grind
  · by_cases k3 : x.kind = 3
    · have h0 : litOk x = (x.p == [] && x.l.isEmpty && decide (1 ≤ x.rel) && decide (x.rel ≤ 6) && exOk 8 x.left && exOk 8 x.right) := by simp [litOk, k3]
      rw [h0]
      simp [ic57f, ir57f, ic57c2f, ic57c1f, k3]
      refine call_i (fun _ => e1) ?_
      simp
      refine condI_of (fun h => ?_) (fun h => ?_)
      · simp at h ⊢; grind
      · simp at h ⊢
        refine call_of e2 ?_
        simp
        grind
    · have h0 : litOk x = false := by simp [litOk, k1, k3]
      rw [h0]
      have k1' : ¬ x.kind = 1 := fun h => k1 (.inl h)
      have k2' : ¬ x.kind = 2 := fun h => k1 (.inr h)
      simp [ic57f, ir57f, ic57c2f, k1', k2', k3]
end Go.Proofs.YtiomojlcnemnhaaDoor

namespace Go.Fx
open Go.RowKit
section
variable {P : Program} {G : World → Prop} {L : List (Nat × T)} {O : List (Nat × Box)} {U : List (Nat × Tok)} {H : FHp} {l : List IOper} {K : S → Prop} {d : Nat}
theorem upds_same {O1 : List (Nat × Box)} {U1 : List (Nat × Tok)} (h1 : ∀ p ∈ O1, lookO O p.1 = some p.2) (h2 : ∀ p ∈ U1, lookT U p.1 = some p.2) : st L (updsO O1 O) (updsT U1 U) H = st L O U H := by
  unfold st
  simp only [S.mk.injEq, true_and, and_true]
  refine ⟨funext fun k => ?_, funext fun k => ?_⟩
  · rw [lookO_upds]
    cases h : lookO O1 k with
    | none => rfl
    | some b => rw [h1 _ (lookO_mem h)]; rfl
  · rw [lookT_upds]
    cases h : lookT U1 k with
    | none => rfl
    | some b => rw [h2 _ (lookT_mem h)]; rfl
theorem r_callQ {f : D} {args : List D} {gd : Option (Nat × Bool)} (g : Bool) (fv : A) (xs : List X) (O1 : List (Nat × Box)) (U1 : List (Nat × Tok)) (res : R) (hm : g = true → MeetsV P G fv xs (hp O1 U1 H) res (hp O1 U1 H))
    (hg : guardO (st L O U H) gd = some g) (hf : f.val (st L O U H) = .k true (.x (.one fv))) (ha : g = true → (args.all fun d => (d.val (st L O U H)).g) = true) (hx : fitsR (args.map fun d => (d.val (st L O U H)).r) xs)
    (h1 : ∀ p ∈ O1, lookO O p.1 = some p.2 ∧ p.1 < 15000) (h2 : ∀ p ∈ U1, lookT U p.1 = some p.2 ∧ p.1 < 15000) (hO : ∀ p ∈ O, p.1 < 15000) (hU : ∀ p ∈ U, p.1 < 15000)
    (h : atK P G l ((d, .k g res) :: L) O U H K) : runK P G (⟨some d, .call f args, gd, none⟩ :: l) (st L O U H) K := by
  cases g with
  | false => exact r_callVF res hg h
  | true =>
    refine r_callV fv xs O1 U1 res O1 U1 H (hm rfl) hg hf (ha rfl) hx h1 h2 hO hU (fun p hp => mem_lookO hp) (fun p hp => mem_lookT hp) (fun p hp hn => absurd hn (mem_lookO hp)) (fun p hp hn => absurd hn (mem_lookT hp)) (sameKeys_refl H) rfl ?_
    rw [upds_same (fun p hp => (h1 p hp).1) (fun p hp => (h2 p hp).1)]
    exact h
theorem r_callW {f : D} {args : List D} {gd : Option (Nat × Bool)} (fv : A) (xs : List X) (O1 : List (Nat × Box)) (U1 : List (Nat × Tok)) (res : R) (O2 : List (Nat × Box)) (U2 : List (Nat × Tok)) (hm : MeetsV P G fv xs (hp O1 U1 H) res (hp O2 U2 H))
    (hg : guardO (st L O U H) gd = some true) (hf : f.val (st L O U H) = .k true (.x (.one fv))) (ha : (args.all fun d => (d.val (st L O U H)).g) = true) (hx : fitsR (args.map fun d => (d.val (st L O U H)).r) xs)
    (hc : ((∀ p ∈ O1, lookO O p.1 = some p.2 ∧ p.1 < 15000) ∧ (∀ p ∈ U1, lookT U p.1 = some p.2 ∧ p.1 < 15000) ∧ (∀ p ∈ O, p.1 < 15000) ∧ (∀ p ∈ U, p.1 < 15000)) ∧
      (∀ p ∈ O1, lookO O2 p.1 ≠ none) ∧ (∀ p ∈ U1, lookT U2 p.1 ≠ none) ∧ (∀ p ∈ O2, lookO O1 p.1 = none → lookO O p.1 = none ∧ p.1 < 10000) ∧ ∀ p ∈ U2, lookT U1 p.1 = none → lookT U p.1 = none ∧ p.1 < 10000)
    (h : atK P G l ((d, .k true res) :: L) (updsO O2 O) (updsT U2 U) H K) : runK P G (⟨some d, .call f args, gd, none⟩ :: l) (st L O U H) K :=
  r_callV fv xs O1 U1 res O2 U2 H hm hg hf ha hx hc.1.1 hc.1.2.1 hc.1.2.2.1 hc.1.2.2.2 hc.2.1 hc.2.2.1 hc.2.2.2.1 hc.2.2.2.2 (sameKeys_refl H) rfl h
theorem hp_objs0 (O : List (Nat × Box)) (U : List (Nat × Tok)) (k : Nat) : (hp O U F0).objs k = lookO O k := by
  show (lookO O k).or none = _
  simp
theorem hp_toks0 (O : List (Nat × Box)) (U : List (Nat × Tok)) (k : Nat) : (hp O U F0).toks k = lookT U k := by
  show (lookT U k).or none = _
  simp
end
end Go.Fx

namespace Go.Ped
structure Eqn where
  left : Name
  right : Name
  lefts : List Name
  rights : List Name
  deriving DecidableEq, Inhabited
def allIn (l f : List Name) : Bool := l.all fun v => f.contains v
theorem allIn_iff {l f : List Name} : allIn l f = true ↔ ∀ v ∈ l, v ∈ f := by simp [allIn]
def take (f : List Name) (q : Eqn) : Option Name :=
  if q.left != [] && !f.contains q.left && allIn q.rights f then some q.left
  else if q.right != [] && !f.contains q.right && allIn q.lefts f then some q.right
  else none
def Eqn.wf (q : Eqn) : Prop := (q.left ≠ [] → q.lefts = [q.left]) ∧ (q.right ≠ [] → q.rights = [q.right])
def goRound : List Name → List Eqn → List Name × List Eqn
  | f, [] => (f, [])
  | f, q :: l => match take f q with
    | some v => goRound (f ++ [v]) l
    | none => ((goRound f l).1, q :: (goRound f l).2)
theorem goRound_le : ∀ (l : List Eqn) (f : List Name), (goRound f l).2.length ≤ l.length
  | [], _ => Nat.le_refl _
  | q :: l, f => by
    simp only [goRound]
    split
    · exact Nat.le_succ_of_le (goRound_le l _)
    · simpa using goRound_le l f
def goRounds (f : List Name) (wait : List Eqn) : List Name :=
  if h : (goRound f wait).2.length < wait.length then goRounds (goRound f wait).1 (goRound f wait).2 else (goRound f wait).1
termination_by wait.length
def refRound : List Name → List Eqn → List Name
  | f, [] => f
  | f, q :: l => match take f q with
    | some v => refRound (f ++ [v]) l
    | none => refRound f l
def Dead (f : List Name) (q : Eqn) : Prop := ∀ f', (∀ v ∈ f, v ∈ f') → take f' q = none
theorem Dead.mono {f f' : List Name} {q : Eqn} (h : ∀ v ∈ f, v ∈ f') (hd : Dead f q) : Dead f' q := fun g hg => hd g fun v hv => hg v (h v hv)
theorem dead_of_take {f : List Name} {q : Eqn} {v : Name} (hw : q.wf) (h : take f q = some v) : Dead (f ++ [v]) q := by
  intro f' hf
  have hv : v ∈ f' := hf v (by simp)
  have hold : ∀ w ∈ f, w ∈ f' := fun w hw => hf w (by simp [hw])
  unfold take at h
  split at h
  · rename_i hc
    simp only [Bool.and_eq_true, bne_iff_ne, ne_eq] at hc
    injection h with h; subst h
    have hr : q.right ≠ [] → q.right ∈ f' := fun hr => hold _ (allIn_iff.1 hc.2 _ (by rw [hw.2 hr]; simp))
    unfold take
    rw [if_neg (by simp [hv])]
    by_cases hr0 : q.right = []
    · simp [hr0]
    · simp [hr hr0]
  · split at h
    · rename_i hc
      simp only [Bool.and_eq_true, bne_iff_ne, ne_eq] at hc
      injection h with h; subst h
      have hl : q.left ≠ [] → q.left ∈ f' := fun hl => hold _ (allIn_iff.1 hc.2 _ (by rw [hw.1 hl]; simp))
      unfold take
      rw [if_neg (by
        by_cases hl0 : q.left = []
        · simp [hl0]
        · simp [hl hl0]), if_neg (by simp [hv])]
    · cases h
inductive Waits (f : List Name) : List Eqn → List Eqn → Prop
  | nil : Waits f [] []
  | keep {q : Eqn} {l w : List Eqn} (h : Waits f l w) : Waits f (q :: l) (q :: w)
  | gone {q : Eqn} {l w : List Eqn} (hd : Dead f q) (h : Waits f l w) : Waits f (q :: l) w
theorem Waits.refl (f : List Name) : ∀ l, Waits f l l
  | [] => .nil
  | _ :: l => .keep (Waits.refl f l)
theorem goRound_ext : ∀ (l : List Eqn) (f : List Name), ∃ e, (goRound f l).1 = f ++ e
  | [], f => ⟨[], by simp [goRound]⟩
  | q :: l, f => by
    simp only [goRound]
    cases take f q with
    | some v =>
      obtain ⟨e, h⟩ := goRound_ext l (f ++ [v])
      exact ⟨v :: e, by simp only [h]; simp⟩
    | none => exact goRound_ext l f
theorem round_same {f0 : List Name} {l w : List Eqn} (h : Waits f0 l w) : ∀ {f : List Name}, (∀ v ∈ f0, v ∈ f) → (∀ q ∈ l, q.wf) → refRound f l = (goRound f w).1 ∧ Waits (goRound f w).1 l (goRound f w).2 := by
  induction h with
  | nil => intro f _ _; exact ⟨rfl, .nil⟩
  | @keep q l w h ih =>
    intro f hf hw
    have hw' : ∀ q ∈ l, q.wf := fun p hp => hw p (List.mem_cons_of_mem _ hp)
    simp only [refRound, goRound]
    cases ht : take f q with
    | some v =>
      obtain ⟨h1, h2⟩ := ih (f := f ++ [v]) (fun u hu => by simp [hf u hu]) hw'
      refine ⟨h1, .gone ((dead_of_take (hw q (List.mem_cons_self ..)) ht).mono fun u hu => ?_) h2⟩
      obtain ⟨e, he⟩ := goRound_ext w (f ++ [v])
      rw [he]; simp only [List.mem_append] at hu ⊢; exact .inl hu
    | none =>
      obtain ⟨h1, h2⟩ := ih hf hw'
      exact ⟨h1, .keep h2⟩
  | @gone q l w hd h ih =>
    intro f hf hw
    obtain ⟨h1, h2⟩ := ih hf fun p hp => hw p (List.mem_cons_of_mem _ hp)
    simp only [refRound]
    rw [hd f hf]
    obtain ⟨e, he⟩ := goRound_ext w f
    exact ⟨h1, .gone (hd.mono fun u hu => by rw [he]; simp [hf u hu]) h2⟩
theorem goRound_count : ∀ (l : List Eqn) (f : List Name), (goRound f l).1.length + (goRound f l).2.length = f.length + l.length
  | [], f => by simp [goRound]
  | q :: l, f => by
    simp only [goRound]
    cases take f q with
    | some v => have := goRound_count l (f ++ [v]); simp at this ⊢; omega
    | none => have := goRound_count l f; simp; omega
end Go.Ped

namespace Go.Fx
open Go.RowKit
section
variable {P : Program} {G : World → Prop}
section
variable {P : Program} {G : World → Prop} {L : List (Nat × T)} {O : List (Nat × Box)} {U : List (Nat × Tok)} {H : FHp} {l : List IOper} {K : S → Prop} {d : Nat}
end
end
end Go.Fx

namespace Go.Proofs.YtiomojlcnemnhaaDoor
open Go.Fx Go.RowKit Go.Ped
variable {G : World → Prop}
end Go.Proofs.YtiomojlcnemnhaaDoor

namespace Go.Proofs.YtiomojlcnemnhaaDoor
open Go.Fx Go.RowKit Go.Ped
variable {G : World → Prop}
abbrev takesTab : List Int := [0, 1, 2, 2, 2, 2, 2, 4, 3, 3, 3]
theorem w1 : IntKind.i64.wrap 1 = 1 := by decide
theorem w2 : IntKind.i64.wrap 2 = 2 := by decide
abbrev OB (m : List Tm) : List (Nat × Box) := [(10040, ⟨0, 4, m.map mpRow, some (.string, false)⟩)]
attribute [simp] OB
end Go.Proofs.YtiomojlcnemnhaaDoor

namespace Go.Proofs.YtiomojlcnemnhaaDoor
open Go.Fx Go.RowKit Go.Ped
variable {G : World → Prop}
theorem hp_renX (π : Ren) (O : List (Nat × Box)) (U : List (Nat × Fx.Tok)) (E : XP) : (hp O U (FX E)).ren π = hp (O.map fun p => (π.f p.1, p.2.ren π.f)) (U.map fun p => (π.f p.1, p.2)) (FX E) := by
  unfold Hp.ren hp
  simp only [Hp.mk.injEq]
  refine ⟨funext fun k => ?_, funext fun k => ?_, trivial⟩
  · rw [lookO_ren]
    show ((lookO O (π.g k)).or none).map _ = ((lookO O (π.g k)).map _).or none
    simp
  · rw [lookT_ren]; rfl
abbrev OY (a b : Nat) (m : List Tm) : List (Nat × Box) := [(a, ⟨138, 1, [[.mapr b]], none⟩), (b, ⟨0, 4, m.map mpRow, some (.string, false)⟩)]
attribute [simp] OY
abbrev bX : Tm := ⟨[88], ⟨1, 1, []⟩⟩
end Go.Proofs.YtiomojlcnemnhaaDoor

namespace Go.Proofs.YtiomojlcnemnhaaDoor
open Go.Fx Go.RowKit Go.Ped
variable {G : World → Prop}
end Go.Proofs.YtiomojlcnemnhaaDoor

import Derived.Test.YtiomojlcnemnhaaDoorTDxX6
import Derived.Test.YtiomojlcnemnhaaDoorTDxIcD
import Derived.Test.YtiomojlcnemnhaaDoorTDxX11
import Derived.Test.YtiomojlcnemnhaaDoorTFxWc
import Derived.Test.YtiomojlcnemnhaaDoorTDxM3
import Derived.Test.YtiomojlcnemnhaaDoorTDxW1
import Derived.Test.YtiomojlcnemnhaaDoorTPedF
import Derived.Test.YtiomojlcnemnhaaDoorTDxX2
import Derived.Lib.LaidTab
import Derived.Lib.AppendIntMem
/- Contracts, on: how many parts things have, counted up to a number. -/
namespace Go.Proofs.YtiomojlcnemnhaaDoor
open Go.Fx Go.RowKit Go.Ped
variable {G : World → Prop}

/-- The kids of a level, put behind others; none: there would be more than left. -/
def kidsOn (left n : Int) : List Ex → List Ex → Option (List Ex)
  | [], acc => some acc
  | e :: l, acc => if n + acc.length + e.kids.length > left then none else kidsOn left n l (acc ++ e.kids)
/-- The parts of the levels, n ahead of them, d levels down. -/
def partsOn (left : Int) : Nat → Int → Int → List Ex → Int
  | 0, _, _, _ => left + 1
  | f + 1, n, d, lv =>
    if lv.isEmpty then n else if n + lv.length > left ∨ d > 65536 then left + 1 else
    match kidsOn left (n + lv.length) lv [] with
    | none => left + 1
    | some nx => partsOn left f (n + lv.length) (d + 1) nx
def exParts (e : Ex) (left : Int) : Int := partsOn left 65540 0 0 [e]

theorem kidsOn_small {left n : Int} {N : Nat} : ∀ {l acc nx : List Ex}, kidsOn left n l acc = some nx → (∀ e ∈ l, e.small N) → (∀ e ∈ acc, e.small N) → ∀ e ∈ nx, e.small N
  | [], acc, nx, h, _, h0 => by simp [kidsOn] at h; subst h; exact h0
  | e :: l, acc, nx, h, hl, h0 => by
    simp only [kidsOn] at h
    split at h
    · cases h
    · refine kidsOn_small h (fun x hx => hl x (List.mem_cons_of_mem _ hx)) fun x hx => ?_
      rcases List.mem_append.1 hx with hx | hx
      · exact h0 x hx
      · have := hl e (List.mem_cons_self ..)
        obtain ⟨op, t, kids, sp⟩ := e
        exact (Ex.small_mk.1 this).2 x hx
theorem partsOn_bound {left : Int} : ∀ (f : Nat) (n d : Int) (lv : List Ex), 0 ≤ n → n ≤ left → 0 ≤ partsOn left f n d lv ∧ partsOn left f n d lv ≤ left + 1
  | 0, n, d, lv, h0, h1 => by simp only [partsOn]; omega
  | f + 1, n, d, lv, h0, h1 => by
    simp only [partsOn]
    split
    · omega
    · split
      · omega
      · split
        · omega
        · exact partsOn_bound f _ _ _ (by omega) (by omega)
theorem exParts_bound (e : Ex) {left : Int} (h : 0 ≤ left) : 0 ≤ exParts e left ∧ exParts e left ≤ left + 1 := partsOn_bound _ _ _ _ (by omega) h

theorem wrap64 {n : Int} (h1 : -9223372036854775808 ≤ n) (h2 : n ≤ 9223372036854775807) : IntKind.i64.wrap n = n := Go.IntWalk.i64_in _ (by omega)

theorem m93 (e : Ex) (left : Int) (hl : 0 ≤ left) (hl2 : left ≤ 1048576) (hs : e.small 1048576) : Meets Tryd.prog G 93 [.agg e.row, .one (cI .i64 left)] (.x (.one (cI .i64 (exParts e left)))) := by
  refine meets Tryd.func93 ie93 ig93 (Nat.le_of_ble_eq_true rfl) ?_
  simp [ic93, ir93]
  refine w_loopA [] [2, 12, 71, 72] [6, 5, 1, 7] (by simp [ownKey])
    (fun a : Int × Nat × List Ex => st [(6, tL (a.2.2.map Ex.row)), (5, tI .i64 a.1), (1, tI .i64 left), (7, tI .i64 a.2.1)] [] [] F0) (fun a => 65540 - a.2.1)
    (fun a => exParts e left = partsOn left (65540 - a.2.1) a.1 a.2.1 a.2.2 ∧ a.2.1 ≤ 65537 ∧ 0 ≤ a.1 ∧ a.1 ≤ left ∧ a.1 + a.2.2.length ≤ left + 1 ∧ ∀ x ∈ a.2.2, x.small 1048576)
    (0, 0, [e]) (by simp) ⟨rfl, by simp, by simp, by simpa using hl, by simp; omega, by simpa using hs⟩ ?_
  rintro ⟨n, d, lv⟩ K hK ⟨hd, hd1, hn0, hn1, hlen, hsm⟩
  simp only at hd hd1 hn0 hn1 hlen hsm
  obtain ⟨f, hf⟩ : ∃ f, 65540 - d = f + 1 := ⟨65539 - d, by omega⟩
  rw [hf, partsOn] at hd
  by_cases hlv : lv = []
  · subst hlv
    simp [ic93l2]
    simp at hd
    exact hd.symm
  have hpos : 0 < lv.length := List.length_pos_iff.2 hlv
  rw [if_neg (by simpa using hlv)] at hd
  simp [ic93l2, hpos]
  rw [wrap64 (by omega) (by omega)]
  by_cases hc1 : n + lv.length > left ∨ (d : Int) > 65536
  · rw [if_pos hc1] at hd
    have : (decide (left < n + ↑lv.length) || decide (65536 < (d : Int))) = true := by simpa using hc1
    simp [this]
    rw [wrap64 (by omega) (by omega), hd]
  have hc1' : (decide (left < n + ↑lv.length) || decide (65536 < (d : Int))) = false := by simpa using hc1
  rw [if_neg hc1] at hd
  simp [hc1']
  -- the kids
  generalize hm : n + (lv.length : Int) = m at *
  refine w_loopA [.t 72 8 47 6] [71] [6, 5, 1, 7, 8, 9] (by simp [ownKey])
    (fun a : Nat × List Ex => st [(6, tL (lv.map Ex.row)), (5, tI .i64 m), (1, tI .i64 left), (7, tI .i64 d), (8, .k true (.x (.one (.own 72 (a.2.map Ex.row))))), (9, tI .i64 a.1)] [] [(72, ⟨47, 6, a.2.length⟩)] F0) (fun a => lv.length - a.1)
    (fun a => a.1 ≤ lv.length ∧ kidsOn left m lv [] = kidsOn left m (lv.drop a.1) a.2 ∧ m + a.2.length ≤ left)
    (0, []) (by simp [promoteT_st]) ⟨by simp, by simp, by simp; omega⟩ ?_
  rintro ⟨i, acc⟩ K2 hK2 ⟨hi, hk, hma⟩
  simp only at hi hk hma
  obtain hlt | hge := Nat.lt_or_ge i lv.length
  · rw [List.drop_eq_getElem_cons hlt, kidsOn] at hk
    have hsk := hsm lv[i] (List.getElem_mem hlt)
    have hkl : lv[i].kids.length ≤ 1048576 := by
      generalize lv[i] = x at hsk
      obtain ⟨op, t, kids, sp⟩ := x
      exact (Ex.small_mk.1 hsk).1
    simp [ic93l1, hlt]
    simp (disch := omega) only [wrap64]
    generalize hks : lv[i].kids = ks at *
    by_cases hc2 : m + acc.length + ks.length > left
    · rw [if_pos hc2] at hk
      rw [hk] at hd
      simp [hc2]
      rw [wrap64 (by omega) (by omega), hd]
    rw [if_neg hc2] at hk
    simp [Int.not_lt.mp hc2, hc2]
    refine w_loopA [] [71] [6, 5, 1, 7, 8, 9, 10] (by simp [ownKey])
      (fun a : Nat × List (List C) => st [(6, tL (lv.map Ex.row)), (5, tI .i64 m), (1, tI .i64 left), (7, tI .i64 d), (8, .k true (.x (.one (.own 72 a.2)))), (9, tI .i64 i), (10, tI .i64 a.1)] [] [(72, ⟨47, 6, a.2.length⟩)] F0) (fun a => ks.length - a.1)
      (fun a => a.1 ≤ ks.length ∧ a.2 = (acc ++ ks.take a.1).map Ex.row) (0, acc.map Ex.row) (by simp) (by simp) ?_
    rintro ⟨j, E⟩ K3 hK3 ⟨hj, hE⟩
    simp only at hj hE
    have hEl : E.length = acc.length + j := by rw [hE]; simp; omega
    obtain hlt2 | hge2 := Nat.lt_or_ge j ks.length
    · simp [ic93l0, hlt, hlt2, hks]
      refine ⟨by simp [maxLen]; omega, by simp [maxBytes]; omega, ?_⟩
      simp (disch := omega) only [wrap64]
      exact hK3 (j + 1, E ++ [ks[j].row]) _ (by simp) ⟨by simp; omega, by simp only; rw [hE, List.take_succ_eq_append_getElem hlt2]; simp only [List.map_append, List.map_cons, List.map_nil, List.append_assoc]⟩ (by simp; omega)
    · have htk : ks.take j = ks := List.take_of_length_le hge2
      rw [htk] at hE
      subst hE
      simp [ic93l0, hlt, Nat.not_lt.mpr hge2, hks]
      simp (disch := omega) only [wrap64]
      exact hK2 (i + 1, acc ++ ks) _ (by simp) ⟨by simp; omega, by simpa using hk, by simp; omega⟩ (by simp; omega)
  · rw [List.drop_eq_nil_of_le hge] at hk
    simp only [kidsOn] at hk
    rw [hk] at hd
    simp [ic93l1, Nat.not_lt.mpr hge]
    simp (disch := omega) only [wrap64]
    exact hK (m, d + 1, acc) _ (by simp) ⟨by simp only; rw [hd, show 65540 - (d + 1) = f by omega]; simp, by simp; omega, by simp; omega, by simp; omega, by simp; omega, by simpa using kidsOn_small hk hsm (by simp)⟩ (by simp; omega)

def litParts (x : Lit) (left : Int) : Int :=
  if 1 + x.l.length + exParts x.left left > left then left + 1 else 1 + x.l.length + exParts x.left left + exParts x.right (left - (1 + x.l.length + exParts x.left left))
theorem litParts_bound (x : Lit) {left : Int} (h : 0 ≤ left) : 0 ≤ litParts x left ∧ litParts x left ≤ left + 1 := by
  have h1 := exParts_bound x.left h
  unfold litParts
  split
  · omega
  · have h2 := exParts_bound x.right (left := left - (1 + x.l.length + exParts x.left left)) (by omega)
    omega

theorem m171 (x : Lit) (left : Int) (hl : 0 ≤ left) (hl2 : left ≤ 1048576) (hs : x.small 1048576) : Meets Tryd.prog G 171 [.agg x.row, .one (cI .i64 left)] (.x (.one (cI .i64 (litParts x left)))) := by
  refine meets Tryd.func171 ie171 ig171 (Nat.le_of_ble_eq_true rfl) ?_
  have h1 := exParts_bound x.left hl
  have hl3 := hs.1
  simp [ic171, ir171]
  refine call_of (m93 x.left left hl hl2 hs.2.1) ?_
  have w1 : IntKind.i64.wrap (1 + (x.l.length : Int)) = 1 + x.l.length := wrap64 (by omega) (by omega)
  have w2 : IntKind.i64.wrap (1 + (x.l.length : Int) + exParts x.left left) = 1 + x.l.length + exParts x.left left := wrap64 (by omega) (by omega)
  have w3 : IntKind.i64.wrap (left + 1) = left + 1 := wrap64 (by omega) (by omega)
  simp [w1, w2]
  by_cases hc : 1 + (x.l.length : Int) + exParts x.left left > left
  · simp [hc, litParts, w3]
  · have h2 := exParts_bound x.right (left := left - (1 + x.l.length + exParts x.left left)) (by omega)
    have w4 : IntKind.i64.wrap (left - (1 + (x.l.length : Int) + exParts x.left left)) = left - (1 + x.l.length + exParts x.left left) := wrap64 (by omega) (by omega)
    have w5 := wrap64 (n := 1 + (x.l.length : Int) + exParts x.left left + exParts x.right (left - (1 + x.l.length + exParts x.left left))) (by omega) (by omega)
    simp [hc, Int.not_lt.mp hc, litParts, w4]
    refine call_of (m93 x.right _ (by omega) (by omega) hs.2.2) ?_
    simp [w5]

def bodyParts (left : Int) : List Lit → Int → Int
  | [], n => n
  | x :: l, n => if n ≤ left then bodyParts left l (n + litParts x (left - n)) else n
def ruleParts (r : Rule) (left : Int) : Int := bodyParts left r.body (1 + r.head.length)
theorem m119 (r : Rule) (left : Int) (hl : 0 ≤ left) (hl2 : left ≤ 1048576) (hs : r.small 1048576) : Meets Tryd.prog G 119 [.agg r.row, .one (cI .i64 left)] (.x (.one (cI .i64 (ruleParts r left)))) := by
  refine meets Tryd.func119 ie119 ig119 (Nat.le_of_ble_eq_true rfl) ?_
  obtain ⟨hs1, hs2, hs3⟩ := hs
  simp [ic119, ir119]
  rw [wrap64 (by omega) (by omega)]
  refine w_loopA [] [] [2, 6, 5, 1] (by simp)
    (fun a : Nat × Int => st [(2, .k true (.x (.one (.ref 2 0 0)))), (6, tI .i64 a.1), (5, tI .i64 a.2), (1, tI .i64 left)] [(2, ⟨96, 3, [r.row.map A.c], none⟩)] [] F0) (fun a => r.body.length - a.1)
    (fun a => a.1 ≤ r.body.length ∧ ruleParts r left = bodyParts left (r.body.drop a.1) a.2 ∧ 0 ≤ a.2 ∧ a.2 ≤ 1 + 1048576 + 1048577)
    (0, 1 + r.head.length) (by simp) ⟨by simp, by simp [ruleParts], by simp; omega, by simp; omega⟩ ?_
  rintro ⟨i, n⟩ K hK ⟨hi, hd, hn0, hn1⟩
  simp only at hi hd hn0 hn1
  obtain hlt | hge := Nat.lt_or_ge i r.body.length
  · rw [List.drop_eq_getElem_cons hlt, bodyParts] at hd
    by_cases hc : n ≤ left
    · rw [if_pos hc] at hd
      have hx := hs3 r.body[i] (List.getElem_mem hlt)
      have hb := litParts_bound r.body[i] (left := left - n) (by omega)
      simp [ic119l0, hlt, hc]
      rw [wrap64 (by omega) (by omega)]
      refine call_of (m171 r.body[i] (left - n) (by omega) (by omega) hx) ?_
      simp
      simp (disch := omega) only [wrap64]
      exact hK (i + 1, n + litParts r.body[i] (left - n)) _ (by simp) ⟨by simp; omega, by simpa using hd, by simp; omega, by simp; omega⟩ (by simp; omega)
    · rw [if_neg hc] at hd
      simp [ic119l0, hlt, hc]
      exact hd.symm
  · rw [List.drop_eq_nil_of_le hge, bodyParts] at hd
    simp [ic119l0, Nat.not_lt.mpr hge]
    exact hd.symm

end Go.Proofs.YtiomojlcnemnhaaDoor

/- Contracts, on: a literal, as the program looks at it; the law on literals. -/
namespace Go.Proofs.YtiomojlcnemnhaaDoor
open Go.Fx Go.RowKit Go.Ped
variable {G : World → Prop}

theorem m57 (x : Lit) (hs : x.small 1048576) : Meets Tryd.prog G 57 [.agg x.row] (.x (.one (cI .i64 (if litOk x then 0 else 40)))) := by
  refine meets Tryd.func57 ie57f ig57f (Nat.le_of_ble_eq_true rfl) ?_
  have ha := m44 (G := G) x.p x.l x.sp (by have := hs.1; unfold maxLen; omega)
  have e1 := m94 (G := G) x.left hs.2.1
  have e2 := m94 (G := G) x.right hs.2.2
  by_cases k1 : x.kind = 1 ∨ x.kind = 2
  · have h0 : litOk x = (atomOk x.p x.l && x.rel == 0 && exNone x.left && exNone x.right) := by simp [litOk, k1]
    rw [h0]
    rcases k1 with k1 | k1 <;> simp [ic57f, ir57f, ic57c0f, k1]
    all_goals
      refine call_i (fun _ => m130 x.left) ?_
      simp
      refine call_i (fun _ => m130 x.right) ?_
      simp
      refine condI_of (fun h => ?_) (fun h => ?_)
      · simp at h ⊢; grind
      · simp at h ⊢
        refine call_of ha ?_
        simp
        grind
  · by_cases k3 : x.kind = 3
    · have h0 : litOk x = (x.p == [] && x.l.isEmpty && decide (1 ≤ x.rel) && decide (x.rel ≤ 6) && exOk 8 x.left && exOk 8 x.right) := by simp [litOk, k3]
      rw [h0]
      simp [ic57f, ir57f, ic57c2f, ic57c1f, k3]
      refine call_i (fun _ => e1) ?_
      simp
      refine condI_of (fun h => ?_) (fun h => ?_)
      · simp at h ⊢; grind
      · simp at h ⊢
        refine call_of e2 ?_
        simp
        grind
    · have h0 : litOk x = false := by simp [litOk, k1, k3]
      rw [h0]
      have k1' : ¬ x.kind = 1 := fun h => k1 (.inl h)
      have k2' : ¬ x.kind = 2 := fun h => k1 (.inr h)
      simp [ic57f, ir57f, ic57c2f, k1', k2', k3]

end Go.Proofs.YtiomojlcnemnhaaDoor

/- Fx, part Wd: calls that share memory and leave it as it is, made where something holds. -/
namespace Go.Fx
open Go.RowKit
section
variable {P : Program} {G : World → Prop} {L : List (Nat × T)} {O : List (Nat × Box)} {U : List (Nat × Fx.Tok)} {H : FHp} {l : List IOper} {K : S → Prop} {d : Nat}

/-- A call that shares memory and turns it. -/
theorem r_callW {f : D} {args : List D} {gd : Option (Nat × Bool)} (fv : A) (xs : List X) (O1 : List (Nat × Box)) (U1 : List (Nat × Fx.Tok)) (res : R) (O2 : List (Nat × Box)) (U2 : List (Nat × Fx.Tok)) (hm : MeetsV P G fv xs (hp O1 U1 H) res (hp O2 U2 H))
    (hg : guardO (st L O U H) gd = some true) (hf : f.val (st L O U H) = .k true (.x (.one fv))) (ha : (args.all fun d => (d.val (st L O U H)).g) = true) (hx : fitsR (args.map fun d => (d.val (st L O U H)).r) xs)
    (hc : ((∀ p ∈ O1, lookO O p.1 = some p.2 ∧ p.1 < 15000) ∧ (∀ p ∈ U1, lookT U p.1 = some p.2 ∧ p.1 < 15000) ∧ (∀ p ∈ O, p.1 < 15000) ∧ (∀ p ∈ U, p.1 < 15000)) ∧
      (∀ p ∈ O1, lookO O2 p.1 ≠ none) ∧ (∀ p ∈ U1, lookT U2 p.1 ≠ none) ∧ (∀ p ∈ O2, lookO O1 p.1 = none → lookO O p.1 = none ∧ p.1 < 10000) ∧ ∀ p ∈ U2, lookT U1 p.1 = none → lookT U p.1 = none ∧ p.1 < 10000)
    (h : atK P G l ((d, .k true res) :: L) (updsO O2 O) (updsT U2 U) H K) : runK P G (⟨some d, .call f args, gd, none⟩ :: l) (st L O U H) K :=
  r_callV fv xs O1 U1 res O2 U2 H hm hg hf ha hx hc.1.1 hc.1.2.1 hc.1.2.2.1 hc.1.2.2.2 hc.2.1 hc.2.2.1 hc.2.2.2.1 hc.2.2.2.2 (sameKeys_refl H) rfl h

theorem hp_objs0 (O : List (Nat × Box)) (U : List (Nat × Fx.Tok)) (k : Nat) : (hp O U F0).objs k = lookO O k := by
  show (lookO O k).or none = _
  simp
theorem hp_toks0 (O : List (Nat × Box)) (U : List (Nat × Fx.Tok)) (k : Nat) : (hp O U F0).toks k = lookT U k := by
  show (lookT U k).or none = _
  simp

/-- A call whose keys are noted, that shares memory and turns it. -/
theorem r_callN {f : D} {args : List D} {gd : Option (Nat × Bool)} (ks : List Nat) (fv : A) (xs : List X) (O1 : List (Nat × Box)) (U1 : List (Nat × Fx.Tok)) (res : R) (O2 : List (Nat × Box)) (U2 : List (Nat × Fx.Tok)) (hm : MeetsV P G fv xs (hp O1 U1 F0) res (hp O2 U2 F0))
    (hg : guardO (st L O U F0) gd = some true) (hf : f.val (st L O U F0) = .k true (.x (.one fv))) (ha : (args.all fun d => (d.val (st L O U F0)).g) = true) (hx : fitsR (args.map fun d => (d.val (st L O U F0)).r) xs)
    (hc : ((∀ p ∈ O1, lookO O p.1 = some p.2 ∧ p.1 < 15000) ∧ (∀ p ∈ U1, lookT U p.1 = some p.2 ∧ p.1 < 15000) ∧ (∀ p ∈ O, p.1 < 15000) ∧ (∀ p ∈ U, p.1 < 15000)) ∧
      (∀ p ∈ O1, lookO O2 p.1 ≠ none) ∧ (∀ p ∈ U1, lookT U2 p.1 ≠ none) ∧ (∀ p ∈ O2, lookO O1 p.1 = none → lookO O p.1 = none ∧ p.1 < 10000) ∧ ∀ p ∈ U2, lookT U1 p.1 = none → lookT U p.1 = none ∧ p.1 < 10000)
    (hk : (∀ p ∈ O1, p.1 ∈ ks) ∧ (∀ p ∈ U1, p.1 ∈ ks) ∧ (∀ p ∈ O2, p.1 ∈ ks) ∧ ∀ p ∈ U2, p.1 ∈ ks)
    (h : atK P G l ((d, .k true res) :: L) (updsO O2 O) (updsT U2 U) F0 K) : runK P G (⟨some d, .call f args, gd, some ks⟩ :: l) (st L O U F0) K := by
  have hs := sameKeys_refl F0
  have e := over_st (L := L) (O2 := O2) (U2 := U2) hc.1.2.2.1 hc.1.2.2.2 (fun k hk => fun e => hk ((hs.1 k).1.2 e)) (fun k hk => fun e => hk ((hs.1 k).2.2 e))
  refine ⟨_, ⟨trivial, true, hg, fv, xs, true, _, res, _, fun _ => ⟨ha, hx, hf, hm, lends_st hc.1.1 hc.1.2.1 hc.1.2.2.1 hc.1.2.2.2 hc.2.1 hc.2.2.1 hc.2.2.2.1 hc.2.2.2.2 (fun k hk => fun e => hk ((hs.1 k).1.2 e)) (fun k hk => fun e => hk ((hs.1 k).2.2 e)) (fun k hk => fun e => hk ((hs.1 k).1.1 e)) (fun k hk => fun e => hk ((hs.1 k).2.1 e)) hs.2, fun k hn => ?_⟩, rfl⟩, by simpa only [if_true, e, put_st, atK_eq] using h⟩
  show k ∈ ks
  rw [hp_objs0, hp_toks0, hp_objs0, hp_toks0] at hn
  have go : ∀ (A : List (Nat × Box)), (∀ p ∈ A, p.1 ∈ ks) → lookO A k ≠ none → k ∈ ks := fun A hA hn => by
    cases hb : lookO A k with
    | none => exact absurd hb hn
    | some b => exact hA _ (lookO_mem hb)
  have gt : ∀ (A : List (Nat × Fx.Tok)), (∀ p ∈ A, p.1 ∈ ks) → lookT A k ≠ none → k ∈ ks := fun A hA hn => by
    cases hb : lookT A k with
    | none => exact absurd hb hn
    | some b => exact hA _ (lookT_mem hb)
  rcases hn with hn | hn | hn | hn
  · exact go _ hk.1 hn
  · exact gt _ hk.2.1 hn
  · exact go _ hk.2.2.1 hn
  · exact gt _ hk.2.2.2 hn
end
end Go.Fx

/- Plain words for the variables that a body limits: the program's rounds over what waits, and the document's rounds over all. -/
namespace Go.Ped

/-- An equation: the variables that its sides are by themselves (empty: none), and the variables of its sides. -/
structure Eqn where
  left : Name
  right : Name
  lefts : List Name
  rights : List Name
  deriving DecidableEq, Inhabited

def allIn (l f : List Name) : Bool := l.all fun v => f.contains v
/-- The variable that an equation gives, if these are found. -/
def take (f : List Name) (q : Eqn) : Option Name :=
  if q.left != [] && !f.contains q.left && allIn q.rights f then some q.left
  else if q.right != [] && !f.contains q.right && allIn q.lefts f then some q.right
  else none

/-- A lone side's variables are that variable. -/
def Eqn.wf (q : Eqn) : Prop := (q.left ≠ [] → q.lefts = [q.left]) ∧ (q.right ≠ [] → q.rights = [q.right])

/-- An equation that gives nothing any more. -/
def Dead (f : List Name) (q : Eqn) : Prop := ∀ f', (∀ v ∈ f, v ∈ f') → take f' q = none
theorem Dead.mono {f f' : List Name} {q : Eqn} (h : ∀ v ∈ f, v ∈ f') (hd : Dead f q) : Dead f' q := fun g hg => hd g fun v hv => hg v (h v hv)

/-- What waits, among all: the others give nothing any more. -/
inductive Waits (f : List Name) : List Eqn → List Eqn → Prop
  | nil : Waits f [] []
  | keep {q : Eqn} {l w : List Eqn} (h : Waits f l w) : Waits f (q :: l) (q :: w)
  | gone {q : Eqn} {l w : List Eqn} (hd : Dead f q) (h : Waits f l w) : Waits f (q :: l) w
theorem Waits.mono {f f' : List Name} (hf : ∀ v ∈ f, v ∈ f') {l w : List Eqn} (h : Waits f l w) : Waits f' l w := by
  induction h with
  | nil => exact .nil
  | keep _ ih => exact .keep ih
  | gone hd _ ih => exact .gone (hd.mono hf) ih
theorem Waits.refl (f : List Name) : ∀ l, Waits f l l
  | [] => .nil
  | _ :: l => .keep (Waits.refl f l)

end Go.Ped

/- Fx, part We: a call that looks at a heap and leaves it as it is, out of what it does to worlds. -/
namespace Go.Fx
open Go.RowKit

section
variable {P : Program} {G : World → Prop}

/-- It looks at the heap, hands back what lies in what nobody writes or in new memory, and leaves all as it was. -/
theorem MeetsH.of_below {f : FuncId} {args : List X} {h : Hp} {res : CR} (hcl : callable P f = true) (hx : ∀ x ∈ args, x.only (fun _ => True) (fun k => h.toks k ≠ none)) (ho : h.only (fun _ => True) (fun k => h.toks k ≠ none))
    (hm : ∀ (w : World) (env : Env) (F : Nat → Prop) (vs : List Value), HMem env h F w → All2 (RepX env h.toks w) args vs → Calls P f vs.toArray w fun e w' => ∃ v, e = .returned v ∧ RepCR (fun b o => env.V b o ∨ w.heap.size ≤ b) w' res v ∧ Below w.heap.size w w') :
    MeetsH P G f args h res.open h := by
  refine ⟨hcl, hx, ho, fun w env F vs _ hmem _ ha => ?_⟩
  refine (hm w env F vs hmem ha).mono ?_
  rintro e w' ⟨v, rfl, hr, hb⟩
  have hcell : ∀ b o, env.V b o → w'.cell? ⟨b, o, none⟩ = w.cell? ⟨b, o, none⟩ := fun b o hv => hb.cell (p := ⟨b, o, none⟩) (hmem.vlt b o hv)
  let env' : Env := { env with V := fun b o => env.V b o ∨ (w.heap.size ≤ b ∧ b < w'.heap.size) }
  have hle : env.Le env' h.toks h.toks w w' := ⟨fun _ _ x => .inl x, hcell, fun _ _ x => x, fun _ t x => ⟨t, x, rfl, Nat.le_refl _, fun _ => rfl⟩⟩
  have hV : ∀ b o, b < w.heap.size → env'.V b o → env.V b o := fun b o hlt hv => hv.elim id fun h => absurd hlt (Nat.not_lt.mpr h.1)
  refine ⟨v, env', F, rfl, openR_rep (fun b o h => h.1.elim .inl fun hh => .inr ⟨hh, h.2⟩) hr.bound, {
    mem := {
      vlt := fun b o hv => hv.elim (fun h => Nat.lt_of_lt_of_le (hmem.vlt b o h) hb.size) fun h => h.2
      ρlt := fun k b s hk => Nat.lt_of_lt_of_le (hmem.ρlt k b s hk) hb.size
      τlt := fun k v b hk hv => Nat.lt_of_lt_of_le (hmem.τlt k v b hk hv) hb.size
      objs := fun k x hk => by
        obtain ⟨b, us, g1, g2, g3, g4, g5⟩ := hmem.objs k x hk
        exact ⟨b, us, g1, g2.of (hb.block b g2.lt), g3.imp fun _ _ _ => RepA.mono hle, g4, fun o hv => g5 o (hV b o g2.lt hv)⟩
      inj := hmem.inj
      toks := fun k t hk => by
        obtain ⟨v, xs, g1, g2, g3⟩ := hmem.toks k t hk
        exact ⟨v, xs, g1, ownsRow_of_block g2 fun b hv => hb.block b (g2.lt b hv).2, fun b hv => ⟨fun o ho hh => (g3 b hv).1 o ho (hV b o (g2.lt b hv).2 hh), (g3 b hv).2⟩⟩
      tinj := hmem.tinj
      sep := hmem.sep
      ext := h.ext.mono (w := w) (fun _ _ x => .inl x) hcell (fun b hF => hb.block b (hmem.flt b hF).1) hmem.ext
      flt := fun b hF => by
        obtain ⟨g1, g2, g3, g4⟩ := hmem.flt b hF
        exact ⟨Nat.lt_of_lt_of_le g1 hb.size, fun o hv => g2 o (hV b o g1 hv), g3, g4⟩ }
    kept := KeptBut.of_below hb
    owned := fun b hb => .inr hb
    vold := fun b o hv => .inl hv
    vcell := hcell
    vnew := fun b o hv => hv.imp id fun h => .inl h.1
    ρold := fun _ _ x => x
    ρnew := fun _ _ x => .inl x
    τold := fun _ _ _ => rfl
    τnew := fun k v hk => .inl (by rw [show env.τ k = some v from hk]; simp)
    tok := fun k t t' h1 h2 => by rw [h1] at h2; injection h2 with h2; subst h2; exact ⟨rfl, Nat.le_refl _, fun _ => rfl⟩ }⟩

section
variable {P : Program} {G : World → Prop} {L : List (Nat × T)} {O : List (Nat × Box)} {U : List (Nat × Fx.Tok)} {H : FHp} {l : List IOper} {K : S → Prop} {d : Nat}
end
end
end Go.Fx

/- Contracts, on: what a variable is by a list; the fact that an atom becomes. -/
namespace Go.Proofs.YtiomojlcnemnhaaDoor
open Go.Fx Go.RowKit Go.Ped
variable {G : World → Prop}

theorem m89 (n : Int) : Meets Tryd.prog G 89 [.one (cI .i64 n)] (.x (.agg [cI .i8 1, cI .i64 n, cS (bs [])])) := by
  refine meets Tryd.func89 ie89 ig89 (Nat.le_of_ble_eq_true rfl) ?_
  simp [ic89, ir89]
theorem m87 (s : Name) : Meets Tryd.prog G 87 [.one (cS (bs s))] (.x (.agg [cS (bs s), cI .i8 0, cI .i64 0, cS (bs [])])) := by
  refine meets Tryd.func87 ie87 ig87 (Nat.le_of_ble_eq_true rfl) ?_
  simp [ic87, ir87]
theorem m88 (n : Int) : Meets Tryd.prog G 88 [.one (cI .i64 n)] (.x (.agg [cS (bs []), cI .i8 1, cI .i64 n, cS (bs [])])) := by
  refine meets Tryd.func88 ie88 ig88 (Nat.le_of_ble_eq_true rfl) ?_
  simp [ic88, ir88]
  refine call_of (m89 n) ?_
  simp

end Go.Proofs.YtiomojlcnemnhaaDoor

/- Contracts, on: some expressions' values. -/
namespace Go.Proofs.YtiomojlcnemnhaaDoor
open Go.Fx Go.RowKit Go.Ped
variable {G : World → Prop}

/-- What the operations take, as the program has it. -/
abbrev takesTab : List Int := [0, 1, 2, 2, 2, 2, 2, 4, 3, 3, 3]
abbrev GK : World → Prop := fun w => Lib.TabIs Tryd.prog w "pedigree/value.takes" .i8 takesTab
theorem gTakes : Tryd.prog.globalNamed "pedigree/value.takes" = some 0 := by kernel_rfl
theorem takes_at (i : Nat) (hi : i < 11) : ∀ w, GK w → w.cell? ⟨0, i, none⟩ = some (.int .i8 (takesTab.getD i 0)) := fun _ h => h.cell gTakes i hi

theorem w1 : IntKind.i64.wrap 1 = 1 := by decide
theorem w2 : IntKind.i64.wrap 2 = 2 := by decide
abbrev nmR (n : Int) : List C := [cI .i8 1, cI .i64 n, cS (bs [])]
theorem m102 (n : Int) : Meets Tryd.prog G 102 [.one (cI .i64 n)] (.tup [.agg (nmR n), .one (cB true)]) := by
  refine meets Tryd.func102 ie102 ig102 (Nat.le_of_ble_eq_true rfl) ?_
  simp [ic102, ir102]
theorem m101 (a b : Int) (sp : Sp) : Meets Tryd.prog G 101 [.one (cI .i8 2), .one (.sl [nmR a, nmR b] sp)] (.x (.one (cB true))) := by
  refine meets Tryd.func101 ie101 ig101 (Nat.le_of_ble_eq_true rfl) ?_
  have ha := m92 (G := G) 1 a []
  have hb := m92 (G := G) 1 b []
  simp only [valOk] at ha hb
  simp [ic101, ir101]
  refine w_loopA [] [8] [4, 6, 22, 23, 24] (by simp [ownKey])
    (fun i : Nat => st [(4, .k true (rB false)), (6, tI .i8 1), (22, .k true (.x (.one (.c (.sl [nmR a, nmR b] sp))))), (23, tI .i64 2), (24, tI .i64 i)] [] [] F0) (fun i => 2 - i)
    (fun i => i ≤ 2) 0 (by simp) (by simp) ?_
  rintro i K hK hi
  have h3 : i = 0 ∨ i = 1 ∨ i = 2 := by omega
  rcases h3 with rfl | rfl | rfl
  · simp [ic101l0]
    refine call_of ha ?_
    simp
    exact hK 1 _ (by simp [w1]) (by omega) (by omega)
  · simp [ic101l0]
    refine call_of hb ?_
    simp
    exact hK 2 _ (by simp [w2]) (by omega) (by omega)
  · simp [ic101l0]
theorem m33a (a b : Int) (sp : Sp) (h1 : -9223372036854775808 ≤ a + b) (h2 : a + b ≤ 9223372036854775807) : Meets Tryd.prog GK 33 [.one (cI .i8 2), .one (.sl [nmR a, nmR b] sp)] (.tup [.agg (nmR (a + b)), .one (cB true)]) := by
  refine meets Tryd.func33 ie33 ig33 (Nat.le_of_ble_eq_true rfl) ?_
  simp [ic33, ir33]
  rw [w2]
  simp
  refine k_gload (.int .i8 2) rfl rfl rfl (takes_at 2 (by decide)) ?_
  simp
  refine call_of (m101 a b sp) ?_
  simp
  rw [wrap64 h1 h2]
  refine call_of (m102 (a + b)) ?_
  simp

/-- The map of what is bound, handed over. -/
abbrev OB (m : List Tm) : List (Nat × Box) := [(10040, ⟨0, 4, m.map mpRow, some (.string, false)⟩)]
attribute [simp] OB
theorem midB {U : List (Nat × Fx.Tok)} {H : FHp} (m : List Tm) : ∀ p ∈ OB m, midKey p.1 ∧ ∀ r ∈ p.2.rows, onlyL (fun k => ¬ ownKey k) (fun k => (lookT U k).or (H.toks k) ≠ none) r := by
  intro p hp
  simp only [List.mem_singleton] at hp
  subst hp
  refine ⟨by unfold midKey; omega, fun r hr => ?_⟩
  obtain ⟨q, _, rfl⟩ := List.mem_map.1 hr
  simp [mpRow, Val.row]
theorem midB2 {O2 : List (Nat × Box)} {U2 : List (Nat × Fx.Tok)} {H2 : FHp} (m : List Tm) : ∀ p ∈ OB m, ∀ r ∈ p.2.rows, onlyL (fun k => ¬ ownKey k ∨ lookO O2 k ≠ none) (fun k => (lookT U2 k).or (H2.toks k) ≠ none) r := by
  intro p hp r hr
  simp only [List.mem_singleton] at hp
  subst hp
  obtain ⟨q, _, rfl⟩ := List.mem_map.1 hr
  simp [mpRow, Val.row]
abbrev lfR (v : Name) (x : Val) (ks : Sp) : List C := [cI .i8 0, cS (bs v), cI .i8 x.k, cI .i64 x.n, cS (bs x.s), .sl [] ks]
abbrev vR (x : Val) : List C := [cI .i8 x.k, cI .i64 x.n, cS (bs x.s)]

/-- A value by itself. -/
theorem e96c (X : XP) (m : List Tm) (x : Val) (ks : Sp) : MeetsH Tryd.prog G 96 [.agg ((lfR [] x ks).map A.c), .one (.mapr 10040)] (hp (OB m) [] (FX X)) (.tup [.agg ((vR x).map A.c), .one (.c (cB true))]) (hp (OB m) [] (FX X)) := by
  refine meetsH [] Tryd.func96 ie96 ig96 (Nat.le_of_ble_eq_true rfl) (midB m) (by simp) (by simp [ownKey]) (by simp) (by simp) (sameKeys_refl _) (midB2 _) (by simp) ?_
  simp [ic96, ir96, strikeL_mpRow]
  exact ret_st (by simp) (by simp) (by simp [strikeL_mpRow, strikeL_mpRow']) (by simp) (by simp) (by simp)
/-- A variable that is bound. -/
theorem e96v (X : XP) (m : List Tm) (v : Name) (x w : Val) (ks : Sp) (hv : v ≠ []) (hb : bindOf m v = some w) (hw : Val.ok w = true) : MeetsH Tryd.prog G 96 [.agg ((lfR v x ks).map A.c), .one (.mapr 10040)] (hp (OB m) [] (FX X)) (.tup [.agg ((vR w).map A.c), .one (.c (cB true))]) (hp (OB m) [] (FX X)) := by
  refine meetsH [] Tryd.func96 ie96 ig96 (Nat.le_of_ble_eq_true rfl) (midB m) (by simp) (by simp [ownKey]) (by simp) (by simp) (sameKeys_refl _) (midB2 _) (by simp) ?_
  have hg := mapGet_binds v m
  rw [hb] at hg
  have h92 := m92 (G := G) w.k w.n w.s
  rw [show valOk w.k w.n w.s = true from hw] at h92
  simp only [Option.getD_some, Val.row, List.map_cons, List.map_nil] at hg
  have hne : v.isEmpty = false := by simpa using hv
  simp [ic96, ir96, hv, hne, hg, strikeL_mpRow, strikeL_mpRow']
  refine call_of h92 ?_
  simp
  exact ret_st (by simp) (by simp) (by simp [strikeL_mpRow, strikeL_mpRow']) (by simp) (by simp) (by simp)
/-- The sum of two. -/
theorem e96a (X : XP) (m : List Tm) (r1 r2 : List C) (a b : Int) (sp : Sp) (hr1 : r1.length = 6) (hr2 : r2.length = 6) (h1 : -9223372036854775808 ≤ a + b) (h2 : a + b ≤ 9223372036854775807)
    (k1 : MeetsH Tryd.prog GK 96 [.agg (r1.map A.c), .one (.mapr 10040)] (hp (OB m) [] (FX X)) (.tup [.agg ((nmR a).map A.c), .one (.c (cB true))]) (hp (OB m) [] (FX X)))
    (k2 : MeetsH Tryd.prog GK 96 [.agg (r2.map A.c), .one (.mapr 10040)] (hp (OB m) [] (FX X)) (.tup [.agg ((nmR b).map A.c), .one (.c (cB true))]) (hp (OB m) [] (FX X))) :
    MeetsH Tryd.prog GK 96 [.agg [.c (cI .i8 2), .c (cS (bs [])), .c (cI .i8 0), .c (cI .i64 0), .c (cS (bs [])), .c (.sl [r1, r2] sp)], .one (.mapr 10040)] (hp (OB m) [] (FX X)) (.tup [.agg ((nmR (a + b)).map A.c), .one (.c (cB true))]) (hp (OB m) [] (FX X)) := by
  refine meetsH [] Tryd.func96 ie96 ig96 (Nat.le_of_ble_eq_true rfl) (midB m) (by simp) (by simp [ownKey]) (by simp) (by simp) (sameKeys_refl _) (midB2 _) (by simp) ?_
  obtain ⟨x1, x2, x3, x4, x5, x6, rfl⟩ : ∃ x1 x2 x3 x4 x5 x6, r1 = [x1, x2, x3, x4, x5, x6] := by
    match r1, hr1 with
    | [x1, x2, x3, x4, x5, x6], _ => exact ⟨x1, x2, x3, x4, x5, x6, rfl⟩
  obtain ⟨y1, y2, y3, y4, y5, y6, rfl⟩ : ∃ x1 x2 x3 x4 x5 x6, r2 = [x1, x2, x3, x4, x5, x6] := by
    match r2, hr2 with
    | [x1, x2, x3, x4, x5, x6], _ => exact ⟨x1, x2, x3, x4, x5, x6, rfl⟩
  have h33 := m33a a b [] h1 h2
  simp [ic96, ir96, strikeL_mpRow']
  refine w_loopA [.t 300 7 39 3] [9, 10, 50] [1, 2, 4, 5, 7, 33, 34, 35] (by simp [ownKey])
    (fun z : Nat × List (List C) => st [(1, .k true (.x (.one (.mapr 10040)))), (2, .k true (.x (.one (.ref 2 0 0)))), (4, .k true (.x (.one (.ref 4 0 0)))), (5, tB false), (7, .k true (.x (.one (.own 300 z.2)))), (33, .k true (.x (.one (.c (.sl [[x1, x2, x3, x4, x5, x6], [y1, y2, y3, y4, y5, y6]] sp))))), (34, tI .i64 2), (35, tI .i64 z.1)]
      [(4, ⟨39, 3, [[.c (cI .i8 0), .c (cI .i64 0), .c (cS (bs []))]], none⟩), (2, ⟨47, 6, [[.c (cI .i8 2), .c (cS (bs [])), .c (cI .i8 0), .c (cI .i64 0), .c (cS (bs [])), .c (.sl [[x1, x2, x3, x4, x5, x6], [y1, y2, y3, y4, y5, y6]] sp)]], none⟩), (10040, ⟨0, 4, m.map mpRow, some (.string, false)⟩)] [(300, ⟨39, 3, z.2.length⟩)] (FX X)) (fun z => 2 - z.1)
    (fun z => z.1 ≤ 2 ∧ z.2 = [nmR a, nmR b].take z.1) (0, []) (by simp; try rfl) (by simp) ?_
  rintro ⟨i, E⟩ K hK ⟨hi, hE⟩
  simp only at hi hE
  have h3 : i = 0 ∨ i = 1 ∨ i = 2 := by omega
  rcases h3 with rfl | rfl | rfl
  · simp only [List.take_zero] at hE
    subst hE
    simp [ic96l0, strikeL_mpRow']
    refine r_callW _ _ (OB m) [] _ (OB m) [] (MeetsV.of_fun k1) rfl rfl rfl (by simp [Fx.X.fits, A.fits]) (by simp) ?_
    simp [strikeL_mpRow']
    refine ⟨by unfold maxLen; omega, by unfold maxBytes; omega, ?_⟩
    exact hK (1, [nmR a]) _ (by simp [w1, strikeL_mpRow']; try rfl) ⟨by simp only; omega, rfl⟩ (by simp)
  · simp only [List.take_succ_cons, List.take_zero] at hE
    subst hE
    simp [ic96l0, strikeL_mpRow']
    refine r_callW _ _ (OB m) [] _ (OB m) [] (MeetsV.of_fun k2) rfl rfl rfl (by simp [Fx.X.fits, A.fits]) (by simp) ?_
    simp [strikeL_mpRow']
    refine ⟨by unfold maxLen; omega, by unfold maxBytes; omega, ?_⟩
    exact hK (2, [nmR a, nmR b]) _ (by simp [w2, strikeL_mpRow']; try rfl) ⟨by simp only; omega, rfl⟩ (by simp)
  · simp only [List.take_succ_cons, List.take_zero] at hE
    subst hE
    simp [ic96l0, strikeL_mpRow']
    refine call_of h33 ?_
    simp
    exact ret_st (by simp) (by simp) (by simp [strikeL_mpRow, strikeL_mpRow']) (by simp) (by simp) (by simp)
end Go.Proofs.YtiomojlcnemnhaaDoor

/- What the rows of the laws with 'lives' share: what the operations take, listed by the row; openers that tell lengths. -/
namespace Go.Proofs.YtiomojlcnemnhaaDoor
open Go.Fx Go.RowKit Go.Ped

abbrev laidTakes : List (String × DataW Unit) := [("pedigree/value.takes", Rows.laid_pedigree_value_takes)]
theorem gTakesType : (Tryd.prog.globals[0]?).map (·.type) = some 149 := by kernel_rfl
theorem cells149 : Tryd.prog.cellsOf 149 = 11 := by kernel_rfl
theorem cells36 : Tryd.prog.cellsOf 36 = 1 := by kernel_rfl
theorem takesData : (Rows.laid_pedigree_value_takes : DataW Unit) = Lib.tabData .i8 takesTab := by rfl
theorem held_takes {W : World} (h : laidMetH Tryd.prog laidTakes W) : Held GK W := by
  have h1 := plain_laid (by kernel_rfl) h
  unfold laidTakes at h1
  rw [takesData] at h1
  exact Lib.tabBelow_of_tabIs (Lib.tabIs_of_head gTakes gTakesType Tryd.underlying149 Tryd.underlying36 cells36 cells149 h1)

end Go.Proofs.YtiomojlcnemnhaaDoor

/- Contracts, on: a text's characters, as the document has them. -/
import Derived.Test.YtiomojlcnemnhaaDoorKDxH3
import Derived.Test.YtiomojlcnemnhaaDoorKDxIcN
import Derived.Test.YtiomojlcnemnhaaDoorKDxM3
import Derived.Test.YtiomojlcnemnhaaDoorKFxWe
import Derived.Lib.DecodeN
namespace Go.Proofs.YtiomojlcnemnhaaDoor
open Go.Fx Go.RowKit Go.Ped
variable {G : World → Prop}

theorem w64 {n : Int} (h1 : -9223372036854775808 ≤ n) (h2 : n ≤ 9223372036854775807) : IntKind.i64.wrap n = n := Go.IntWalk.i64_in _ (by omega)
def byteAt (s : List UInt8) (i : Nat) : Nat := (s.getD i 0).toNat
theorem byteAt_lt (s : List UInt8) (i : Nat) : byteAt s i < 256 := (s.getD i 0).toNat_lt
/-- How many bytes follow, the least code point, the first byte's bits. -/
def follN (c : Nat) : Option (Nat × Nat × Nat) :=
  if c < 128 then some (0, 0, c) else if 192 ≤ c ∧ c < 224 then some (1, 128, c - 192) else if 224 ≤ c ∧ c < 240 then some (2, 2048, c - 224) else if 240 ≤ c ∧ c < 248 then some (3, 65536, c - 240) else none
def goOn (s : List UInt8) (a : Nat) : Nat → Nat → Nat → Option Nat
  | 0, _, p => some p
  | r + 1, k, p => if byteAt s (a + k) < 128 ∨ 192 ≤ byteAt s (a + k) then none else goOn s a r (k + 1) (p * 64 + (byteAt s (a + k) - 128))
def refChar (s : List UInt8) (a : Nat) : Nat × Bool :=
  match follN (byteAt s a) with
  | none => (1, false)
  | some (n, least, p0) => if s.length ≤ a + n then (1, false) else match goOn s a n 1 p0 with
    | none => (1, false)
    | some p => if p < least ∨ 1114111 < p ∨ (55296 ≤ p ∧ p ≤ 57343) then (1, false) else (1 + n, true)

theorem get_byteAt (s : List UInt8) (i : Nat) : ((bs s).get! i).toNat = byteAt s i := by
  unfold byteAt
  by_cases h : i < s.length
  · have h2 : i < (bs s).data.size := by simpa [bs] using h
    have : (bs s).get! i = s[i] := by
      simp [ByteArray.get!, h, bs]
      try rfl
    rw [this, List.getD_eq_getElem?_getD, List.getElem?_eq_getElem h]; rfl
  · have : (bs s).get! i = 0 := by
      simp [ByteArray.get!, h, bs]
      rfl
    rw [this, List.getD_eq_getElem?_getD, List.getElem?_eq_none (by omega)]; rfl
set_option maxHeartbeats 2000000 in
theorem refChar_width (s : List UInt8) (a : Nat) (h : a < s.length) : (refChar s a).1 = (Utf8.decode (bs s) a).2 := by
  rw [Go.Lib.decode_at, bs_size]
  simp only [get_byteAt]
  have h0 := byteAt_lt s a
  have h1 := byteAt_lt s (a + 1)
  have h2 := byteAt_lt s (a + 2)
  have h3 := byteAt_lt s (a + 3)
  unfold refChar follN Go.Lib.decodeN
  by_cases c0 : byteAt s a < 128
  · rw [if_pos c0, if_pos c0]
    have : ¬ s.length ≤ a + 0 := by omega
    simp only [this, if_false, goOn]
    rw [if_neg (by omega)]
  rw [if_neg c0, if_neg c0]
  by_cases c1 : 192 ≤ byteAt s a ∧ byteAt s a < 224
  · rw [if_pos c1]
    simp only [goOn]
    repeat' split
    all_goals first | rfl | (simp only; omega) | (exfalso; simp_all; omega) | (simp_all; omega)
  rw [if_neg c1]
  by_cases c2 : 224 ≤ byteAt s a ∧ byteAt s a < 240
  · rw [if_pos c2]
    simp only [goOn]
    repeat' split
    all_goals first | rfl | (simp only; omega) | (exfalso; simp_all; omega) | (simp_all; omega)
  rw [if_neg c2]
  by_cases c3 : 240 ≤ byteAt s a ∧ byteAt s a < 248
  · rw [if_pos c3]
    simp only [goOn]
    repeat' split
    all_goals first | rfl | (simp only; omega) | (exfalso; simp_all; omega) | (simp_all; omega)
  rw [if_neg c3]
  simp only
  rw [if_neg (by omega), if_neg (by omega), if_neg (by omega)]

theorem ret_three {L : List (Nat × T)} {O : List (Nat × Box)} {U : List (Nat × Tok)} {H : FHp} {a b c : IRes} {cs : List CX} : retO (st L O U H) [a, b, c] (.tup cs) = ((resO (st L O U H) a).need ∧ (resO (st L O U H) b).need ∧ (resO (st L O U H) c).need ∧ closeRs (st L O U H) [a, b, c] = some cs) := by
  refine propext ⟨fun ⟨h1, c1, h2, h3⟩ => ?_, fun ⟨h1, h2, h3, h4⟩ => ⟨fun x hx => ?_, cs, h4, rfl⟩⟩
  · injection h3 with h3; subst h3
    exact ⟨h1 a (by simp), h1 b (by simp), h1 c (by simp), h2⟩
  · simp only [List.mem_cons, List.not_mem_nil, or_false] at hx
    rcases hx with rfl | rfl | rfl
    · exact h1
    · exact h2
    · exact h3
attribute [local simp] ret_three
theorem follN_le {c n l p : Nat} (hc : c < 256) (h : follN c = some (n, l, p)) : n ≤ 3 ∧ p < 128 ∧ l ≤ 65536 := by
  unfold follN at h
  split at h
  · simp only [Option.some.injEq, Prod.mk.injEq] at h; omega
  · split at h
    · simp only [Option.some.injEq, Prod.mk.injEq] at h; omega
    · split at h
      · simp only [Option.some.injEq, Prod.mk.injEq] at h; omega
      · split at h
        · simp only [Option.some.injEq, Prod.mk.injEq] at h; omega
        · cases h

def follR (c : Nat) : Int × Int × Int := match follN c with | none => (-1, 0, 0) | some (a, b, c) => (a, b, c)
theorem m236 (c : Nat) (hc : c < 256) : Meets Tryd.prog G 236 [.one (cI .u8 c)] (.tup [.one (cI .i64 (follR c).1), .one (cI .i64 (follR c).2.1), .one (cI .i64 (follR c).2.2)]) := by
  refine meets Tryd.func236 ie236 ig236 (Nat.le_of_ble_eq_true rfl) ?_
  unfold follR follN
  by_cases c0 : c < 128
  · have : (c : Int) < 128 := by omega
    simp [ic236, ir236, c0, this]
    exact w64 (by omega) (by omega)
  have n0 : ¬ (c : Int) < 128 := by omega
  rw [if_neg c0]
  by_cases c1 : 192 ≤ c ∧ c < 224
  · have p1 : (192 : Int) ≤ c := by omega
    have p2 : (c : Int) < 224 := by omega
    rw [if_pos c1]
    simp [ic236, ir236, n0, p1, p2]
    rw [w64 (n := (c : Int)) (by omega) (by omega), w64 (by omega) (by omega)]
    omega
  rw [if_neg c1]
  by_cases c2 : 224 ≤ c ∧ c < 240
  · have q1 : (192 : Int) ≤ c := by omega
    have q2 : ¬ (c : Int) < 224 := by omega
    have p1 : (224 : Int) ≤ c := by omega
    have p2 : (c : Int) < 240 := by omega
    rw [if_pos c2]
    simp [ic236, ir236, n0, q1, q2, p1, p2]
    rw [w64 (n := (c : Int)) (by omega) (by omega), w64 (by omega) (by omega)]
    omega
  rw [if_neg c2]
  by_cases c3 : 240 ≤ c ∧ c < 248
  · have q1 : (192 : Int) ≤ c := by omega
    have q2 : ¬ (c : Int) < 224 := by omega
    have r1 : (224 : Int) ≤ c := by omega
    have r2 : ¬ (c : Int) < 240 := by omega
    have p1 : (240 : Int) ≤ c := by omega
    have p2 : (c : Int) < 248 := by omega
    rw [if_pos c3]
    simp [ic236, ir236, n0, q1, q2, r1, r2, p1, p2]
    rw [w64 (n := (c : Int)) (by omega) (by omega), w64 (by omega) (by omega)]
    omega
  rw [if_neg c3]
  have k1 : ¬ ((192 : Int) ≤ c ∧ (c : Int) < 224) := by omega
  have k2 : ¬ ((224 : Int) ≤ c ∧ (c : Int) < 240) := by omega
  have k3 : ¬ ((240 : Int) ≤ c ∧ (c : Int) < 248) := by omega
  by_cases d1 : (192 : Int) ≤ c
  · have d2 : ¬ (c : Int) < 224 := by omega
    have e1 : (224 : Int) ≤ c := by omega
    have e2 : ¬ (c : Int) < 240 := by omega
    have f1 : (240 : Int) ≤ c := by omega
    have f2 : ¬ (c : Int) < 248 := by omega
    simp [ic236, ir236, n0, d1, d2, e1, e2, f1, f2]
  · have e1 : ¬ (224 : Int) ≤ c := by omega
    have f1 : ¬ (240 : Int) ≤ c := by omega
    simp [ic236, ir236, n0, d1, e1, f1]

theorem m231 (s : List UInt8) (a : Nat) (ha : a < s.length) (hs : s.length ≤ 1048576) : Meets Tryd.prog G 231 [.one (cS (bs s)), .one (cI .i64 a)] (.tup [.one (cI .i64 (refChar s a).1), .one (cB (refChar s a).2)]) := by
  refine meets Tryd.func231 ie231 ig231 (Nat.le_of_ble_eq_true rfl) ?_
  have hb : (s[a]?.getD 0).toNat = byteAt s a := by rw [byteAt, List.getD_eq_getElem?_getD]
  have h236 := m236 (G := G) (byteAt s a) (byteAt_lt s a)
  have hlt : (a : Int) < s.length := by omega
  generalize hR : refChar s a = R
  unfold refChar at hR
  simp [ic231, ir231, hlt, hb]
  refine call_of h236 ?_
  unfold follR
  cases hf : follN (byteAt s a) with
  | none =>
    rw [hf] at hR
    subst hR
    simp
  | some x =>
    obtain ⟨n, least, p0⟩ := x
    obtain ⟨hn, hp0, hle⟩ := follN_le (byteAt_lt s a) hf
    rw [hf] at hR
    simp only at hR
    have hn0 : ¬ (n : Int) < 0 := by omega
    simp [hn0]
    simp (disch := omega) only [w64]
    by_cases hin : s.length ≤ a + n
    · have hin' : (s.length : Int) ≤ (a : Int) + n := by omega
      rw [if_pos hin] at hR
      subst hR
      simp [hin']
    have hin' : ¬ (s.length : Int) ≤ (a : Int) + n := by omega
    rw [if_neg hin] at hR
    simp [hin']
    refine w_loopA [] [] [0, 1, 4, 5, 6, 7, 8, 9] (by simp)
      (fun z : Nat × Nat => st [(0, .k true (.x (.one (.c (cS (bs s)))))), (1, tI .i64 a), (4, .k true (rI .i64 0)), (5, tB false), (6, tI .i64 n), (7, tI .i64 least), (8, tI .i64 z.2), (9, tI .i64 z.1)] [] [] F0) (fun z => n + 1 - z.1)
      (fun z => z.1 ≤ n + 1 ∧ 1 ≤ z.1 ∧ goOn s a n 1 p0 = goOn s a (n + 1 - z.1) z.1 z.2 ∧ z.2 + 1 ≤ 128 * 64 ^ (z.1 - 1)) (1, p0) (by simp; try rfl) ⟨by simp, by simp, by simp, by simp; omega⟩ ?_
    rintro ⟨k, p⟩ K hK ⟨hk, hk1, hg, hp⟩
    simp only at hk hk1 hg hp
    have hpow : 64 ^ (k - 1) ≤ 64 ^ 3 := Nat.pow_le_pow_right (by decide) (by omega)
    have hpb : p ≤ 33554432 := by
      have : 128 * 64 ^ (k - 1) ≤ 128 * 64 ^ 3 := Nat.mul_le_mul_left _ hpow
      have e3 : 128 * 64 ^ 3 = 33554432 := by decide
      omega
    obtain hlt2 | hge := Nat.lt_or_ge n k
    · have hle2 : ¬ (k : Int) ≤ n := by omega
      have hk0 : n + 1 - k = 0 := by omega
      rw [hk0] at hg
      simp only [goOn] at hg
      rw [hg] at hR
      simp only at hR
      simp [ic231l0, hle2]
      by_cases b1 : p < least
      · have b1' : (p : Int) < least := by omega
        rw [if_pos (.inl b1)] at hR
        subst hR
        simp [b1, b1']
      have b1' : ¬ (p : Int) < least := by omega
      by_cases b2 : 1114111 < p
      · have b2' : (1114111 : Int) < p := by omega
        rw [if_pos (.inr (.inl b2))] at hR
        subst hR
        simp [b1, b1', b2']
      have b2' : ¬ (1114111 : Int) < p := by omega
      by_cases b3 : 55296 ≤ p ∧ p ≤ 57343
      · have b3' : (55296 : Int) ≤ p := by omega
        have b4' : (p : Int) ≤ 57343 := by omega
        rw [if_pos (.inr (.inr b3))] at hR
        subst hR
        simp [b1, b1', b2', b3', b4']
      rw [if_neg (by omega)] at hR
      subst hR
      by_cases b4 : (55296 : Int) ≤ p
      · have b5 : ¬ (p : Int) ≤ 57343 := by omega
        simp [b1, b1', b2', b4, b5]
        rw [w64 (by omega) (by omega)]
      · simp [b1, b1', b2', b4]
        rw [w64 (by omega) (by omega)]
    · have hle2 : (k : Int) ≤ n := by omega
      obtain ⟨r, hr⟩ : ∃ r, n + 1 - k = r + 1 := ⟨n - k, by omega⟩
      rw [hr] at hg
      simp only [goOn] at hg
      have hbk : (s[a + k]?.getD 0).toNat = byteAt s (a + k) := by rw [byteAt, List.getD_eq_getElem?_getD]
      have hb8 := byteAt_lt s (a + k)
      have hak : ((a : Int) + k).toNat = a + k := by omega
      have hak2 : (a : Int) + k < s.length := by omega
      have hak3 : (0 : Int) ≤ (a : Int) + k := by omega
      simp [ic231l0, hle2]
      simp (disch := omega) only [w64]
      simp [hak, hak2, hak3, hbk]
      by_cases hc1 : byteAt s (a + k) < 128
      · have hc1' : (byteAt s (a + k) : Int) < 128 := by omega
        rw [if_pos (.inl hc1)] at hg
        rw [hg] at hR
        simp only at hR
        subst hR
        simp [hc1']
      have hc1' : ¬ (byteAt s (a + k) : Int) < 128 := by omega
      by_cases hc2 : 192 ≤ byteAt s (a + k)
      · have hc2' : (192 : Int) ≤ (byteAt s (a + k) : Int) := by omega
        rw [if_pos (.inr hc2)] at hg
        rw [hg] at hR
        simp only at hR
        subst hR
        simp [hc1', hc2']
      have hc2' : ¬ (192 : Int) ≤ (byteAt s (a + k) : Int) := by omega
      rw [if_neg (by omega)] at hg
      simp [hc1', hc2']
      simp (disch := omega) only [w64]
      have hr2 : n + 1 - (k + 1) = r := by omega
      have hpw : 64 ^ (k + 1 - 1) = 64 ^ (k - 1) * 64 := by
        rw [← Nat.pow_succ]
        congr 1
        omega
      refine hK (k + 1, p * 64 + (byteAt s (a + k) - 128)) _ ?_ ⟨by simp only; omega, by simp only; omega, by simp only; rw [hr2]; exact hg, by simp only; rw [hpw]; omega⟩ (by simp only; omega)
      have e1 : (p : Int) * 64 + (byteAt s (a + k) : Int) - 128 = ((p * 64 + (byteAt s (a + k) - 128) : Nat) : Int) := by omega
      simp [e1]
end Go.Proofs.YtiomojlcnemnhaaDoor

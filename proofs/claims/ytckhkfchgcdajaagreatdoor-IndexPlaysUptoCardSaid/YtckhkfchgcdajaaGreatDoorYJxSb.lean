import Derived.Test.YtckhkfchgcdajaaGreatDoorYJxS8
import Derived.Laws.Bits64
import Derived.Laws.Bits64b
import Derived.Sort.Walk7a
import Derived.Sort.AssemblyPlain
namespace Go.Proofs.YtckhkfchgcdajaaGreatDoor
open Go.Fx Go.RowKit Go.Maps Go.Sort
variable {w0 w : World} {g off sz : Nat} {d : Array Nat}
theorem Cnt.new (w : World) : Cnt (w.alloc (.cells #[.int .i64 0] 3)) w.heap.size 0 := by
  have hN := heap_alloc_new w (.cells #[.int .i64 0] 3)
  unfold Cnt
  generalize w.alloc (.cells #[.int .i64 0] 3) = w1 at *
  exact ⟨by simp [World.cell?, hN], by simp [World.frozen?, hN]⟩
set_option maxHeartbeats 3200000 in
set_option maxRecDepth 100000 in
theorem pivot_u {cap a b : Nat} (h : Srt w0 g off sz d w) (hab : a < b) (hb : b ≤ d.size) (hsz : d.size < 4611686018427387904) :
    Calls Tryz.prog 229 #[.slice (some ⟨g, off, none⟩) d.size cap, .int .i64 (a : Int), .int .i64 (b : Int)] w fun e w' =>
      ∃ p t : Nat, e = .returned (.tuple #[.int .i64 (p : Int), .int .i64 (t : Int)]) ∧ a ≤ p ∧ p < b ∧ Srt w0 g off sz d w' := by
  obtain ⟨L, rfl⟩ : ∃ L, b = a + L := ⟨b - a, by omega⟩
  have en : (a : Int) + (L : Int) - (a : Int) = (L : Int) := by omega
  obtain ⟨I, hI⟩ : ∃ I : Nat, I = a + L / 4 := ⟨_, rfl⟩
  obtain ⟨J, hJ⟩ : ∃ J : Nat, J = a + L / 4 * 2 := ⟨_, rfl⟩
  obtain ⟨K, hK⟩ : ∃ K : Nat, K = a + L / 4 * 3 := ⟨_, rfl⟩
  have eI : (a : Int) + (L : Int) / 4 = (I : Int) := by omega
  have eJ : (a : Int) + (L : Int) / 4 * 2 = (J : Int) := by omega
  have eK : (a : Int) + (L : Int) / 4 * 3 = (K : Int) := by omega
  have HI := Lib.hid (And.intro hI (And.intro hJ hK))
  clear hI hJ hK
  have H := Lib.hid (h.alloc (.cells #[.int .i64 0] 3))
  have C := Lib.hid (Cnt.new w)
  have hsb := Lib.hid h.size
  clear h
  go_enter Tryz.func229, Tryz.ntmps229
  go_upto_if 32 with fail
  generalize w.alloc (.cells #[.int .i64 0] 3) = w1 at *
  generalize w.heap.size = sb at *
  go_cut [10, 11, 12] from 13 to 56 (fun _ s11 _ wx => ∃ p s : Nat, s11 = .int .i64 (p : Int) ∧ a ≤ p ∧ p < a + L ∧ s < 900 ∧ Hid (Srt w0 g off sz d wx) ∧ Hid (Cnt wx sb s))
  case first =>
    clear eI eJ eK
    by_cases h8 : 8 ≤ L
    · have h8z : (8 : Int) ≤ (L : Int) := by omega
      by_cases h50 : 50 ≤ L
      · have h50z : (50 : Int) ≤ (L : Int) := by omega
        have hi := HI.out
        have hr : 1 ≤ I ∧ a ≤ I - 1 ∧ I + 1 < J ∧ J + 1 < K ∧ K + 1 < a + L := by omega
        clear hi
        go_wp2_with fail
        refine (medAdj_u (a := I) H.out C.out hsb.out (by omega) (by omega) hsz (by omega)).mono ?_
        rintro e w2 ⟨i1, s1, rfl, ha1, hb1, hs1, H1, C1⟩
        replace H1 := Lib.hid H1
        replace C1 := Lib.hid C1
        go_wp2_with fail
        refine (medAdj_u (a := J) H1.out C1.out hsb.out (by omega) (by omega) hsz (by omega)).mono ?_
        rintro e w3 ⟨j1, s2, rfl, ha2, hb2, hs2, H2, C2⟩
        replace H2 := Lib.hid H2
        replace C2 := Lib.hid C2
        go_wp2_with fail
        refine (medAdj_u (a := K) H2.out C2.out hsb.out (by omega) (by omega) hsz (by omega)).mono ?_
        rintro e w4 ⟨k1, s3, rfl, ha3, hb3, hs3, H3, C3⟩
        replace H3 := Lib.hid H3
        replace C3 := Lib.hid C3
        go_wp2_with fail
        refine (median_u (a := i1) (b := j1) (c := k1) H3.out C3.out hsb.out (by omega) (by omega) (by omega) hsz (by omega)).mono ?_
        rintro e w5 ⟨p, s4, rfl, hp, hs4, H4, C4⟩
        replace H4 := Lib.hid H4
        replace C4 := Lib.hid C4
        go_wp2_with fail
        go_meet
        exact ⟨p, s4, rfl, by omega, by omega, by omega, H4, C4⟩
      · have h50z : ¬ (50 : Int) ≤ (L : Int) := by omega
        have hi := HI.out
        have hr : a ≤ I ∧ I < J ∧ J < K ∧ K < a + L := by omega
        clear hi
        go_wp2_with fail
        refine (median_u (a := I) (b := J) (c := K) H.out C.out hsb.out (by omega) (by omega) (by omega) hsz (by omega)).mono ?_
        rintro e w5 ⟨p, s4, rfl, hp, hs4, H4, C4⟩
        replace H4 := Lib.hid H4
        replace C4 := Lib.hid C4
        go_wp2_with fail
        go_meet
        exact ⟨p, s4, rfl, by omega, by omega, by omega, H4, C4⟩
    · have h8z : ¬ (8 : Int) ≤ (L : Int) := by omega
      have hi := HI.out
      have hr : a ≤ J ∧ J < a + L := by omega
      clear hi
      go_wp2_with fail
      go_meet
      exact ⟨J, 0, rfl, by omega, by omega, by omega, H, C⟩
  clear H C eI eJ eK HI
  obtain ⟨p, s, rfl, hp1, hp2, hs, H, C⟩ := hcut
  obtain ⟨cs, fs⟩ := C.out
  by_cases h0 : s = 0
  · subst h0
    go_wp2
    try simp only [Exit.inBlock, Exit.then]
    refine bodyPost_ret (v := .tuple #[.int .i64 (p : Int), .int .i64 1]) (by simp [results, Tryz.results229, go_sem]) rfl ⟨p, 1, rfl, hp1, hp2, H.out⟩
  · have h0z : ¬ (s : Int) = 0 := by omega
    by_cases h12 : s = 12
    · subst h12
      go_wp2
      try simp only [Exit.inBlock, Exit.then]
      refine bodyPost_ret (v := .tuple #[.int .i64 (p : Int), .int .i64 2]) (by simp [results, Tryz.results229, go_sem]) rfl ⟨p, 2, rfl, hp1, hp2, H.out⟩
    · have h12z : ¬ (s : Int) = 12 := by omega
      go_wp2
      try simp only [Exit.inBlock, Exit.then]
      refine bodyPost_ret (v := .tuple #[.int .i64 (p : Int), .int .i64 0]) (by simp [results, Tryz.results229, go_sem]) rfl ⟨p, 0, rfl, hp1, hp2, H.out⟩
end Go.Proofs.YtckhkfchgcdajaaGreatDoor

namespace Go.Proofs.YtckhkfchgcdajaaGreatDoor
open Go.Fx Go.RowKit Go.Maps Go.Sort
variable {w0 w : World} {g off sz : Nat} {d : Array Nat}
def Rnd (w : World) (rb X : Nat) : Prop := w.cell? ⟨rb, 0, none⟩ = some (.int .u64 (X : Int)) ∧ w.frozen? ⟨rb, 0, none⟩ = false ∧ X < 18446744073709551616
theorem Rnd.drewN {rb X : Nat} (h : Rnd w rb X) (q : Nat) : Rnd (w.drewN q) rb X := h
theorem Rnd.drew {rb X : Nat} (h : Rnd w rb X) : Rnd w.drew rb X := h
theorem Rnd.set {rb X : Nat} (h : Rnd w rb X) {Y : Nat} (hY : Y < 18446744073709551616) : Rnd (w.setCell ⟨rb, 0, none⟩ (.int .u64 (Y : Int))) rb Y :=
  ⟨World.cell?_setCell_same _ _ _ h.1, by rw [World.frozen?_setCell]; exact h.2.1, hY⟩
theorem Rnd.beside {rb X : Nat} (h : Rnd w rb X) {a : Addr} (ha : a.block ≠ rb) (v : Value) : Rnd (w.setCell a v) rb X :=
  ⟨by rw [World.cell?_setCell_other _ _ _ _ (fun e => ha (by rw [e]))]; exact h.1, by rw [World.frozen?_setCell]; exact h.2.1, h.2.2⟩
theorem Rnd.new (w : World) {X : Nat} (hX : X < 18446744073709551616) : Rnd (w.alloc (.cells #[.int .u64 (X : Int)] 381)) w.heap.size X := by
  have hN := heap_alloc_new w (.cells #[.int .u64 (X : Int)] 381)
  unfold Rnd
  generalize w.alloc (.cells #[.int .u64 (X : Int)] 381) = w1 at *
  exact ⟨by simp [World.cell?, hN], by simp [World.frozen?, hN], hX⟩
set_option maxRecDepth 100000 in
theorem next_u {rb X : Nat} (h : Srt w0 g off sz d w) (hR : Rnd w rb X) (hrb : w0.heap.size ≤ rb) :
    Calls Tryz.prog 240 #[.pointer (some ⟨rb, 0, none⟩)] w fun e w' => ∃ Y : Nat, e = .returned (.int .u64 (Y : Int)) ∧ Srt w0 g off sz d w' ∧ Rnd w' rb Y := by
  obtain ⟨A, hA⟩ : ∃ A : Nat, A = X ^^^ (X * 8192 % 18446744073709551616) := ⟨_, rfl⟩
  obtain ⟨B, hB⟩ : ∃ B : Nat, B = A ^^^ (A / 128) := ⟨_, rfl⟩
  obtain ⟨C, hC⟩ : ∃ C : Nat, C = B ^^^ (B * 131072 % 18446744073709551616) := ⟨_, rfl⟩
  have hX := hR.2.2
  have lA : A < 18446744073709551616 := by rw [hA]; exact Nat.xor_lt_two_pow (n := 64) (by omega) (by omega)
  have lB : B < 18446744073709551616 := by rw [hB]; exact Nat.xor_lt_two_pow (n := 64) (by omega) (by omega)
  have lC : C < 18446744073709551616 := by rw [hC]; exact Nat.xor_lt_two_pow (n := 64) (by omega) (by omega)
  have e1 : bits .xor .u64 (X : Int) (IntKind.u64.wrap ((X : Int) * 8192)) = (A : Int) := by
    rw [IntKind.wrap_u64, show ((X : Int) * 8192 % 18446744073709551616) = ((X * 8192 % 18446744073709551616 : Nat) : Int) by omega, bits_xor_u64_nat _ _ hX (by omega), hA]
  have e2 : bits .xor .u64 (A : Int) ((A : Int) / 128) = (B : Int) := by
    rw [show ((A : Int) / 128) = ((A / 128 : Nat) : Int) by omega, bits_xor_u64_nat _ _ lA (by omega), hB]
  have e3 : bits .xor .u64 (B : Int) (IntKind.u64.wrap ((B : Int) * 131072)) = (C : Int) := by
    rw [IntKind.wrap_u64, show ((B : Int) * 131072 % 18446744073709551616) = ((B * 131072 % 18446744073709551616 : Nat) : Int) by omega, bits_xor_u64_nat _ _ lB (by omega), hC]
  clear hA hB hC hX
  obtain ⟨c1, c2, c3⟩ := hR
  have HR := Lib.hid (show Rnd w rb X from ⟨c1, c2, c3⟩)
  have HK := Lib.hid h
  clear h
  have hss : ∀ v v', (w.setCell ⟨rb, 0, none⟩ v).setCell ⟨rb, 0, none⟩ v' = w.setCell ⟨rb, 0, none⟩ v' := setCell_setCell w rb 0
  go_enter Tryz.func240, Tryz.ntmps240
  go_wp2
  go_region
  all_goals go_wp2
  all_goals go_region
  all_goals go_wp2
  all_goals go_region
  all_goals go_wp2
  go_ret
  exact ⟨C, rfl, (HK.out.beside (a := ⟨rb, 0, none⟩) hrb _).drewN 3, (HR.out.set lC).drewN 3⟩
set_option maxRecDepth 100000 in
theorem pow_u {n : Nat} (h0 : 0 < n) (hn : n < 4611686018427387904) (w : World) :
    Calls Tryz.prog 239 #[.int .i64 (n : Int)] w fun e w' => ∃ M : Nat, e = .returned (.int .u64 (M : Int)) ∧ 1 ≤ M ∧ M ≤ 2 * n ∧ w' = w := by
  have hk : bitsLen n ≤ 62 := (bitsLen_le_iff n 62).2 (by omega)
  have hp := wrap_two_pow (bitsLen n) hk
  have hLen : ∀ w, Calls Tryz.prog 224 #[.int .u64 (n : Int)] w fun e w' => e = .returned (.int .i64 (bitsLen n : Nat)) ∧ w' = w := fun w => by
    have h := Tryz.bits_Len (n : Int) w (by omega) (by omega)
    rwa [Int.toNat_natCast, bitLen_eq _ (by omega)] at h
  go_enter Tryz.func239, Tryz.ntmps239
  go_wp2_with (first | (go_at_call 224; refine (hLen _).mono ?_; rintro e w' ⟨rfl, rfl⟩))
  go_ret
  exact ⟨1 <<< bitsLen n, rfl, by rw [Nat.one_shiftLeft]; exact Nat.two_pow_pos _, by rw [Nat.one_shiftLeft]; exact two_pow_bitsLen_le h0, rfl⟩
set_option maxHeartbeats 3200000 in
set_option maxRecDepth 100000 in
theorem brk_u {cap a b : Nat} (h : Srt w0 g off sz d w) (hab : a ≤ b) (hb : b ≤ d.size) (hsz : d.size < 4611686018427387904) :
    Calls Tryz.prog 228 #[.slice (some ⟨g, off, none⟩) d.size cap, .int .i64 (a : Int), .int .i64 (b : Int)] w fun e w' =>
      ∃ d', e = .returned (.tuple #[]) ∧ PermIn a b d d' ∧ Srt w0 g off sz d' w' := by
  obtain ⟨L, rfl⟩ : ∃ L, b = a + L := ⟨b - a, by omega⟩
  have en : (a : Int) + (L : Int) - (a : Int) = (L : Int) := by omega
  by_cases h8 : 8 ≤ L
  case neg =>
    have HK := Lib.hid h
    clear h
    have h8z : ¬ (8 : Int) ≤ (L : Int) := by omega
    go_enter Tryz.func228, Tryz.ntmps228
    go_wp2
    go_end0
    exact ⟨rfl, d, permIn_refl _ _ _, HK.out⟩
  have h8z : (8 : Int) ≤ (L : Int) := by omega
  obtain ⟨Q, hQ⟩ : ∃ Q : Nat, Q = L / 4 * 2 := ⟨_, rfl⟩
  have hQ1 : 4 ≤ Q := by omega
  have hQ2 : Q + 2 ≤ L := by omega
  have eQ : (L : Int) / 4 * 2 = (Q : Int) := by omega
  clear hQ
  have HK := Lib.hid (h.alloc (.cells #[.int .u64 (L : Int)] 381))
  have HR := Lib.hid (Rnd.new w (X := L) (by omega))
  have hrb := Lib.hid h.size
  have hgb := Lib.hid h.lt'
  clear h
  go_enter Tryz.func228, Tryz.ntmps228
  go_wp2_with fail
  generalize w.alloc (.cells #[.int .u64 (L : Int)] 381) = w1 at *
  generalize w.heap.size = rb at *
  refine (pow_u (n := L) (by omega) (by omega) _).mono ?_
  rintro e w' ⟨M, rfl, hM1, hM2, rfl⟩
  go_wp2_with fail
  go_loopg [9] 3 (fun k s9 wr => ∃ (p X : Nat) (dk : Array Nat), s9 = .int .i64 (p : Int) ∧ a + Q ≤ p + 1 ∧ p ≤ a + Q + 2 ∧ a + Q + 2 - p ≤ k ∧ dk.size = d.size ∧ Hid (Srt w0 g off sz dk wr) ∧ Hid (Rnd wr rb X) ∧ Hid (PermIn a (a + L) d dk))
  case atStart => exact ⟨a + Q - 1, L, d, by congr 1; omega, by omega, by omega, by omega, rfl, HK, HR, permIn_refl _ _ _⟩
  clear HK HR
  obtain ⟨p, X, dk, rfl, hp1, hp2, hk, hds, HK, HR, HP⟩ := hrel
  by_cases hp : p ≤ a + Q + 1
  case neg =>
    have hz : ¬ (p : Int) ≤ (a : Int) + (Q : Int) + 1 := by omega
    go_wp2
    go_end0
    exact ⟨rfl, dk, HP.out, HK.out⟩
  have hz : (p : Int) ≤ (a : Int) + (Q : Int) + 1 := by omega
  go_wp2_with fail
  refine (next_u HK.out HR.out hrb.out).mono ?_
  rintro e w2 ⟨Y, rfl, H2, R2⟩
  clear HK HR
  have HK := Lib.hid H2
  have HR := Lib.hid R2
  have lY := R2.2.2
  clear H2 R2
  obtain ⟨O, hO⟩ : ∃ O : Nat, O = Y &&& (M - 1) := ⟨_, rfl⟩
  have lO : O ≤ M - 1 := by rw [hO]; exact Nat.and_le_right
  have eAnd : bits .and .u64 (Y : Int) ((M : Int) - 1) = (O : Int) := by
    rw [show ((M : Int) - 1) = ((M - 1 : Nat) : Int) by omega, bits_and_u64_nat _ _ lY (by omega), hO]
  clear hO
  go_upto_if 43 with fail
  go_cut [10] from 26 to 64 (fun s10 wx => ∃ q : Nat, s10 = .int .i64 ((q : Int) - (a : Int)) ∧ a ≤ q ∧ q < a + L ∧ wx = w2)
  case first =>
    by_cases hO : L ≤ O
    · have hOz : (L : Int) ≤ (O : Int) := by omega
      go_wp2
      go_meet
      exact ⟨a + (O - L), by congr 1; omega, by omega, by omega, rfl⟩
    · have hOz : ¬ (L : Int) ≤ (O : Int) := by omega
      go_wp2
      go_meet
      exact ⟨a + O, by congr 1; omega, by omega, by omega, rfl⟩
  obtain ⟨q, rfl, hq1, hq2, rfl⟩ := hcut
  clear eAnd lO lY
  have eq1 : (a : Int) + ((q : Int) - (a : Int)) = (q : Int) := by omega
  obtain ⟨G, hG⟩ : ∃ G : Nat → Nat, ∀ t, G t = dk[t]! := ⟨fun t => dk[t]!, fun _ => rfl⟩
  have HG : Hid (∀ t, G t = dk[t]!) := hG
  clear hG
  have hcw : ∀ t, t < d.size → wc.cell? ⟨g, off + t, none⟩ = some (.int .u32 (G t : Int)) := fun t ht => by rw [HG.out]; exact HK.out.cell (by omega)
  have hfw : ∀ t, t < d.size → wc.frozen? ⟨g, off + t, none⟩ = false := fun t _ => HK.out.frozen _
  have h2 : Hid (Srt w0 g off sz (swp dk p q) ((wc.setCell ⟨g, off + p, none⟩ (encU (G q))).setCell ⟨g, off + q, none⟩ (encU (G p))).drew) := by
    rw [HG.out, HG.out]
    exact (HK.out.swap (i := p) (j := q) (by omega) (by omega)).drew
  have hgr : g ≠ rb := by have h1 := HK.out.lt; have h2 := hrb.out; omega
  have h3 : Hid (Rnd ((wc.setCell ⟨g, off + p, none⟩ (encU (G q))).setCell ⟨g, off + q, none⟩ (encU (G p))).drew rb Y) := ((HR.out.beside hgr _).beside hgr _).drew
  go_upto_region 10 with fail
  by_cases hEq : p = q
  · subst hEq
    go_region
    all_goals go_wp2
    go_roundg (a + Q + 2 - (p + 1))
    case measure => omega
    case rel =>
      exact ⟨p + 1, Y, swp dk p p, by go_num, by omega, by omega, by omega, by rw [size_swp]; exact hds, h2, h3,
        permIn_trans _ _ _ _ _ HP.out (swp_permIn dk a (a + L) p p (by omega) (by omega) hq1 hq2 (by omega))⟩
  · go_region
    all_goals go_wp2
    go_roundg (a + Q + 2 - (p + 1))
    case measure => omega
    case rel =>
      exact ⟨p + 1, Y, swp dk p q, by go_num, by omega, by omega, by omega, by rw [size_swp]; exact hds, h2, h3,
        permIn_trans _ _ _ _ _ HP.out (swp_permIn dk a (a + L) p q (by omega) (by omega) hq1 hq2 (by omega))⟩
end Go.Proofs.YtckhkfchgcdajaaGreatDoor

namespace Go.Proofs.YtckhkfchgcdajaaGreatDoor
open Go.Fx Go.RowKit Go.Maps Go.Sort
variable {w0 : World} {g off sz : Nat}
set_option maxHeartbeats 6400000 in
set_option maxRecDepth 100000 in
theorem pdq_u {cap n : Nat} (hsz : n < 4611686018427387904) : ∀ (N a b limit : Nat) (d : Array Nat) (w : World), b - a < N → a ≤ b → b ≤ n → d.size = n → limit < 1000 → Go.Sort.Below ltU a b d → Srt w0 g off sz d w →
    Calls Tryz.prog 223 #[.slice (some ⟨g, off, none⟩) n cap, .int .i64 (a : Int), .int .i64 (b : Int), .int .i64 (limit : Int)] w fun e w' =>
      e = .returned (.tuple #[]) ∧ ∃ R, PermIn a b d R ∧ SortedIn ltU a b R ∧ Srt w0 g off sz R w' := by
  intro N
  induction N with
  | zero => intro a b _ _ _ h; omega
  | succ N ih =>
  intro a b limit d w hN hab hbn hds hlim hB hS
  have HK := Lib.hid hS
  have HB := Lib.hid hB
  have IH := Lib.hid ih
  clear hS hB ih
  go_enter Tryz.func223, Tryz.ntmps223
  go_wp2
  go_loopg [1, 2, 3, 8, 9] (b - a) (fun k s1 s2 s3 s8 s9 wr => ∃ (x y l : Nat) (p q : Bool) (dk : Array Nat), s1 = .int .i64 (x : Int) ∧ s2 = .int .i64 (y : Int) ∧ s3 = .int .i64 (l : Int) ∧ s8 = .bool p ∧ s9 = .bool q ∧
      a ≤ x ∧ x ≤ y ∧ y ≤ b ∧ y - x ≤ k ∧ l < 1000 ∧ dk.size = n ∧ Hid (Srt w0 g off sz dk wr) ∧ Hid (Go.Sort.Below ltU x y dk) ∧
      Hid (∀ R, PermIn x y dk R → SortedIn ltU x y R → PermIn a b d R ∧ SortedIn ltU a b R))
  case atStart => exact ⟨a, b, limit, true, true, d, rfl, rfl, rfl, rfl, rfl, Nat.le_refl _, hab, Nat.le_refl _, Nat.le_refl _, hlim, hds, HK, HB, fun R h1 h2 => ⟨h1, h2⟩⟩
  clear HK HB hlim hds
  obtain ⟨x, y, l, p, q, dk, rfl, rfl, rfl, rfl, rfl, hax, hxy, hyb, hk, hl, hds, HK, HB, HF⟩ := hrel
  by_cases h12 : y - x ≤ 12
  · have hz : (y : Int) - (x : Int) ≤ 12 := by omega
    have hc := ins_u (cap := cap) (a := x) (b := y) HK.out hxy (by omega) (by omega)
    rw [hds] at hc
    go_wp2_with fail
    refine hc.mono ?_
    rintro e w2 ⟨rfl, H2⟩
    replace H2 := Lib.hid H2
    go_wp2_with fail
    try simp only [Exit.inBlock, Exit.then]
    have hi := insertionSort_holds swo_ltU dk x y hxy (by omega)
    have hf := HF.out _ hi.1 hi.2
    exact bodyPost_ret (results_none rfl _ _ _) rfl ⟨rfl, insertionSort ltU dk x y, hf.1, hf.2, H2.out⟩
  have h12z : ¬ (y : Int) - (x : Int) ≤ 12 := by omega
  by_cases hl0 : l = 0
  · subst hl0
    have hc := heap_u (cap := cap) (a := x) (b := y) HK.out hxy (by omega) (by omega)
    rw [hds] at hc
    go_wp2_with fail
    refine hc.mono ?_
    rintro e w2 ⟨rfl, H2⟩
    replace H2 := Lib.hid H2
    go_wp2_with fail
    try simp only [Exit.inBlock, Exit.then]
    have hi := heapSort_holds swo_ltU dk x y hxy (by omega)
    have hf := HF.out _ hi.1 hi.2
    exact bodyPost_ret (results_none rfl _ _ _) rfl ⟨rfl, heapSort ltU dk x y, hf.1, hf.2, H2.out⟩
  have hl0z : ¬ (l : Int) = 0 := by omega
  -- the patterns are broken
  go_upto_if 35 with fail
  go_cut [3] from 19 to 133 (fun s3 wx => ∃ (l2 : Nat) (d1 : Array Nat), s3 = .int .i64 (l2 : Int) ∧ l2 < 1000 ∧ d1.size = n ∧ Hid (PermIn x y dk d1) ∧ Hid (Srt w0 g off sz d1 wx))
  case first =>
    cases p
    · have hc := brk_u (cap := cap) (a := x) (b := y) HK.out hxy (by omega) (by omega)
      rw [hds] at hc
      go_wp2_with fail
      refine hc.mono ?_
      rintro e w2 ⟨d1, rfl, hp, H2⟩
      replace H2 := Lib.hid H2
      replace hp := Lib.hid hp
      go_wp2_with fail
      go_meet
      exact ⟨l - 1, d1, by congr 1; omega, by omega, hp.out.1.trans hds, hp, H2⟩
    · go_wp2
      go_meet
      exact ⟨l, dk, rfl, hl, hds, permIn_refl _ _ _, HK⟩
  obtain ⟨l2, d1, rfl, hl2, hds1, HP1, HK1⟩ := hcut
  clear HK
  -- the pivot
  have hc := pivot_u (cap := cap) (a := x) (b := y) HK1.out (by omega) (by omega) (by omega)
  rw [hds1] at hc
  go_wp2_with fail
  refine hc.mono ?_
  rintro e w2 ⟨pv, t, rfl, hp1, hp2, H2⟩
  clear hc
  replace H2 := Lib.hid H2
  go_upto_if 50 with fail
  go_cut [11, 12] from 19 to 133 (fun s11 s12 wx => ∃ (pv t : Nat) (d2 : Array Nat), s11 = .int .i64 (pv : Int) ∧ s12 = .int .i64 (t : Int) ∧ x ≤ pv ∧ pv < y ∧ d2.size = n ∧ Hid (PermIn x y d1 d2) ∧ Hid (Srt w0 g off sz d2 wx))
  case first =>
    by_cases ht : t = 2
    · subst ht
      have hc := rev_u (cap := cap) (a := x) (b := y) H2.out hxy (by omega) (by omega)
      rw [hds1] at hc
      go_wp2_with fail
      refine hc.mono ?_
      rintro e w3 ⟨rfl, H3⟩
      replace H3 := Lib.hid H3
      have hr := reverseRange_holds d1 x y hxy (by omega)
      go_wp2_with fail
      go_meet
      exact ⟨(y - 1) - (pv - x), 1, reverseRange d1 x y, by congr 1; omega, rfl, by omega, by omega, hr.1.trans hds1, hr, H3⟩
    · have htz : ¬ (t : Int) = 2 := by omega
      go_wp2
      go_meet
      exact ⟨pv, t, d1, rfl, rfl, hp1, hp2, hds1, permIn_refl _ _ _, H2⟩
  clear hp1 hp2 H2
  obtain ⟨pv, t, d2, rfl, rfl, hp1, hp2, hds2, HP2, HK2⟩ := hcut
  have HB2 : Hid (Go.Sort.Below ltU x y d2) := Go.Sort.Below.perm (Go.Sort.Below.perm HB.out (by omega) HP1.out) (by omega) HP2.out
  have HP : Hid (PermIn x y dk d2) := permIn_trans _ _ _ _ _ HP1.out HP2.out
  clear HB HP1 HP2 HK1 hds1
  -- the partial insertion
  go_upto_region 15 with fail
  go_cut [68] from 19 to 133 (fun s wx => ∃ B : Bool, s = .bool B ∧ wx = wc)
  case first =>
    cases p <;> cases q
    all_goals
      by_cases ht : t = 1
      · subst ht
        go_wp2
        go_meet
        exact ⟨_, rfl, rfl⟩
      · have htz : ¬ (t : Int) = 1 := by omega
        go_wp2
        go_meet
        exact ⟨_, rfl, rfl⟩
  obtain ⟨B, rfl, rfl⟩ := hcut
  go_upto_if 68 with fail
  go_cut [] from 19 to 133 (fun wx => ∃ d3 : Array Nat, d3.size = n ∧ Hid (PermIn x y d2 d3) ∧ Hid (Srt w0 g off sz d3 wx))
  case first =>
    cases B
    · go_wp2
      go_meet
      exact ⟨d2, hds2, permIn_refl _ _ _, HK2⟩
    · have hc := partIns_u (cap := cap) (a := x) (b := y) HK2.out (by omega) (by omega) (by omega)
      rw [hds2] at hc
      have hi := partialInsertionSort_holds swo_ltU d2 x y (by omega) (by omega) HB2.out
      rcases hpi : partialInsertionSort ltU d2 x y with ⟨d3, r⟩
      rw [hpi] at hc hi
      have hi := Lib.hid hi
      clear hpi
      go_wp2_with fail
      refine hc.mono ?_
      rintro e w3 ⟨rfl, H3⟩
      clear hc
      replace H3 := Lib.hid H3
      cases r
      · go_wp2
        go_meet
        exact ⟨d3, hi.out.1.1.trans hds2, hi.out.1, H3⟩
      · go_wp2
        try simp only [Exit.inBlock, Exit.then]
        have hf := HF.out _ (permIn_trans _ _ _ _ _ HP.out hi.out.1) (hi.out.2 (by first | rfl | trivial))
        exact bodyPost_ret (results_none rfl _ _ _) rfl ⟨rfl, d3, hf.1, hf.2, H3.out⟩
  obtain ⟨d3, hds3, HP3, HK3⟩ := hcut
  have HB3 : Hid (Go.Sort.Below ltU x y d3) := Go.Sort.Below.perm HB2.out (by omega) HP3.out
  have HQ : Hid (PermIn x y dk d3) := permIn_trans _ _ _ _ _ HP.out HP3.out
  clear HB2 HP HP3 HK2 hds2
  -- all alike?
  obtain ⟨G, hG⟩ : ∃ G : Nat → Nat, ∀ t, G t = d3[t]! := ⟨fun t => d3[t]!, fun _ => rfl⟩
  have HG : Hid (∀ t, G t = d3[t]!) := hG
  clear hG
  have hcw : ∀ t, t < n → wc.cell? ⟨g, off + t, none⟩ = some (.int .u32 (G t : Int)) := fun t ht => by rw [HG.out]; exact HK3.out.cell (by omega)
  have hfw : ∀ t, t < n → wc.frozen? ⟨g, off + t, none⟩ = false := fun t _ => HK3.out.frozen _
  go_upto_region 17 with fail
  go_cut [87] from 19 to 133 (fun s wx => s = .bool (decide (0 < x) && !ltU (G (x - 1)) (G pv)) ∧ ∃ q, wx = wc.drewN q)
  case first =>
    by_cases hx0 : 0 < x
    · have hx0z : (0 : Int) < (x : Int) := by omega
      go_quiet (first | (go_at_call 232; refine Calls.quiet_of_same (less_u _ _ _)))
      go_wp2
      go_meet
      exact ⟨by simp [hx0], _, rfl⟩
    · have hx0z : ¬ (0 : Int) < (x : Int) := by omega
      go_quiet (first | (go_at_call 232; refine Calls.quiet_of_same (less_u _ _ _)))
      go_wp2
      go_meet
      exact ⟨by simp [hx0], _, rfl⟩
  clear hcw hfw
  obtain ⟨rfl, r, hw⟩ := hcut
  have HK4 : Hid (Srt w0 g off sz d3 wc) := by rw [hw]; exact HK3.out.drewN r
  clear hw HK3
  cases hB : (decide (0 < x) && !ltU (G (x - 1)) (G pv))
  case true =>
    simp only [Bool.and_eq_true, decide_eq_true_eq, Bool.not_eq_true'] at hB
    have hx0 := hB.1
    have hnl : ltU d3[x - 1]! d3[pv]! = false := by rw [← HG.out, ← HG.out]; exact hB.2
    have hc := partEq_u (cap := cap) (a := x) (b := y) (pivot := pv) HK4.out hp1 hp2 (by omega) (by omega)
    rw [hds3] at hc
    rcases hpe : partitionEqual ltU d3 x y pv with ⟨mid, d4⟩
    rw [hpe] at hc
    have hr := round_eq swo_ltU (partitionEqual_holds ltU) hx0 hp1 hp2 (by omega) HB3.out hnl hpe
    have g1 := hr.1
    have g2 := hr.2.1
    replace hr := Lib.hid hr
    clear hpe hB hnl HG HK4
    go_wp2_with fail
    refine hc.mono ?_
    rintro e w5 ⟨rfl, H5⟩
    replace H5 := Lib.hid H5
    clear hc
    go_wp2_with fail
    go_roundg (y - mid)
    case measure => omega
    case rel =>
      exact ⟨mid, y, l2, p, q, d4, rfl, rfl, rfl, rfl, rfl, by omega, g2, hyb, Nat.le_refl _, hl2, hr.out.2.2.1.trans hds3, H5, hr.out.2.2.2.1,
        fun R h1 h2 => HF.out R (permIn_trans _ _ _ _ _ HQ.out (hr.out.2.2.2.2 R h1 h2).1) (hr.out.2.2.2.2 R h1 h2).2⟩
  clear hB HG G
  have hc := part_u (cap := cap) (a := x) (b := y) (pivot := pv) HK4.out hp1 hp2 (by omega) (by omega)
  rw [hds3] at hc
  rcases hpt : partition ltU d3 x y pv with ⟨mid, ap, d4⟩
  rw [hpt] at hc
  have hr := round_part swo_ltU (partition_holds ltU) hp1 hp2 (by omega) HB3.out hpt
  have g1 := hr.1
  have g2 := hr.2.1
  have hds4 := hr.2.2.1.trans hds3
  replace hr := Lib.hid hr
  clear hpt HK4
  go_wp2_with fail
  refine hc.mono ?_
  rintro e w5 ⟨rfl, H5⟩
  replace H5 := Lib.hid H5
  clear hc
  by_cases hlt : mid - x < y - mid
  · have hz : (mid : Int) - (x : Int) < (y : Int) - (mid : Int) := by omega
    go_wp2_with fail
    refine (IH.out x mid l2 d4 _ (by omega) g1 (by omega) hds4 hl2 hr.out.2.2.2.1 H5.out).mono ?_
    rintro e w6 ⟨rfl, L, hL1, hL2, H6⟩
    have hq := Lib.hid (hr.out.2.2.2.2.2.1 L hL1 hL2)
    have hLs := hL1.1.trans hds4
    replace H6 := Lib.hid H6
    clear hL1 hL2
    go_wp2_with fail
    go_roundg (y - (mid + 1))
    case measure => omega
    case rel =>
      exact ⟨mid + 1, y, l2, _, ap, L, by go_num, rfl, rfl, rfl, rfl, by omega, by omega, hyb, Nat.le_refl _, hl2, hLs, H6, hq.out.1,
        fun R h1 h2 => HF.out R (permIn_trans _ _ _ _ _ HQ.out (hq.out.2 R h1 h2).1) (hq.out.2 R h1 h2).2⟩
  · have hz : ¬ (mid : Int) - (x : Int) < (y : Int) - (mid : Int) := by omega
    go_wp2_with fail
    refine (IH.out (mid + 1) y l2 d4 _ (by omega) (by omega) (by omega) hds4 hl2 hr.out.2.2.2.2.1 H5.out).mono ?_
    rintro e w6 ⟨rfl, L, hL1, hL2, H6⟩
    have hq := Lib.hid (hr.out.2.2.2.2.2.2 L hL1 hL2)
    have hLs := hL1.1.trans hds4
    replace H6 := Lib.hid H6
    clear hL1 hL2
    go_wp2_with fail
    go_roundg (mid - x)
    case measure => omega
    case rel =>
      exact ⟨x, mid, l2, _, ap, L, rfl, rfl, rfl, rfl, rfl, hax, g1, by omega, Nat.le_refl _, hl2, hLs, H6, hq.out.1,
        fun R h1 h2 => HF.out R (permIn_trans _ _ _ _ _ HQ.out (hq.out.2 R h1 h2).1) (hq.out.2 R h1 h2).2⟩
end Go.Proofs.YtckhkfchgcdajaaGreatDoor

import Derived.Test.YtckhkfchgcdajaaGreatDoorYJxS3
import Derived.Sort.WalkB3
import Derived.Sort.WalkC4
namespace Go.Proofs.YtckhkfchgcdajaaGreatDoor
open Go.Fx Go.RowKit Go.Maps Go.Sort
variable {w0 w : World} {g off sz : Nat} {d : Array Nat}
set_option maxRecDepth 100000 in
theorem sift_u {cap lo hi first : Nat} (h : Srt w0 g off sz d w) (hlo : lo ≤ hi) (hb : first + hi ≤ d.size) (hsz : d.size < 4611686018427387904) :
    Calls Tryz.prog 238 #[.slice (some ⟨g, off, none⟩) d.size cap, .int .i64 (lo : Int), .int .i64 (hi : Int), .int .i64 (first : Int)] w fun e w' =>
      e = .returned (.tuple #[]) ∧ Srt w0 g off sz (siftDown ltU hi first lo d) w' := by
  have H : Hid (Srt w0 g off sz d w) := h
  clear h
  go_enter Tryz.func238, Tryz.ntmps238
  go_wp2
  go_loopg [8] (hi - lo) (fun k s8 wr => ∃ (root : Nat) (dk : Array Nat), s8 = .int .i64 (root : Int) ∧ root ≤ hi ∧ dk.size = d.size ∧ hi - root ≤ k ∧ Hid (Srt w0 g off sz dk wr) ∧
      Hid (siftDown ltU hi first root dk = siftDown ltU hi first lo d))
  case atStart => exact ⟨lo, d, rfl, hlo, rfl, Nat.le_refl _, H, rfl⟩
  case round =>
    obtain ⟨root, dk, rfl, hroot, hds, hk, HK, HE⟩ := hrel
    by_cases hend : hi ≤ 2 * root + 1
    · have he : (hi : Int) ≤ 2 * (root : Int) + 1 := by omega
      go_wp2
      go_end0
      refine ⟨rfl, ?_⟩
      have := HE.out
      rw [sd_end ltU dk hend] at this
      rw [← this]
      exact HK.out
    · have he : ¬ (hi : Int) ≤ 2 * (root : Int) + 1 := by omega
      obtain ⟨G, hG⟩ : ∃ G : Nat → Nat, ∀ t, G t = dk[t]! := ⟨fun t => dk[t]!, fun _ => rfl⟩
      have hcw : ∀ t, t < d.size → wr.cell? ⟨g, off + t, none⟩ = some (.int .u32 (G t : Int)) := fun t ht => by rw [hG]; exact HK.out.cell (by omega)
      have hfw : ∀ t, t < d.size → wr.frozen? ⟨g, off + t, none⟩ = false := fun t _ => HK.out.frozen _
      have HG : Hid (∀ t, G t = dk[t]!) := hG
      clear hG
      go_upto_region 3 with fail
      go_cut [36] from 11 to 75 (fun s36 wx => s36 = .bool (decide (2 * root + 2 < hi) && ltU (G (first + 2 * root + 1)) (G (first + 2 * root + 2))) ∧ ∃ q, wx = wr.drewN q)
      case first =>
        by_cases h2 : 2 * root + 2 < hi
        · have h3 : 2 * (root : Int) + 1 + 1 < (hi : Int) := by omega
          go_quiet (first | (go_at_call 232; refine Calls.quiet_of_same (less_u _ _ _)))
          go_wp2
          go_meet
          exact ⟨by simp [h2], _, rfl⟩
        · have h3 : ¬ 2 * (root : Int) + 1 + 1 < (hi : Int) := by omega
          go_quiet (first | (go_at_call 232; refine Calls.quiet_of_same (less_u _ _ _)))
          go_wp2
          go_meet
          exact ⟨by simp [h2], _, rfl⟩
      case rest =>
        obtain ⟨rfl, q, rfl⟩ := hcut
        go_upto_if 36 with fail
        go_cut [9] from 11 to 75 (fun s9 wx => ∃ c : Nat, s9 = .int .i64 (c : Int) ∧ (c = 2 * root + 2 ∧ 2 * root + 2 < hi ∧ ltU (G (first + 2 * root + 1)) (G (first + 2 * root + 2)) = true ∨
          c = 2 * root + 1 ∧ (2 * root + 2 < hi → ltU (G (first + 2 * root + 1)) (G (first + 2 * root + 2)) = false)) ∧ wx = wr.drewN q)
        case first =>
          cases hB : (decide (2 * root + 2 < hi) && ltU (G (first + 2 * root + 1)) (G (first + 2 * root + 2)))
          · go_wp2
            go_meet
            refine ⟨2 * root + 1, rfl, .inr ⟨rfl, fun h => ?_⟩, rfl⟩
            simpa [h] using hB
          · go_wp2
            go_meet
            simp only [Bool.and_eq_true, decide_eq_true_eq] at hB
            exact ⟨2 * root + 2, by go_num, .inl ⟨rfl, hB.1, hB.2⟩, rfl⟩
        case rest =>
          obtain ⟨c, rfl, hc, rfl⟩ := hcut
          have hchi : c < hi := by omega
          have hrc : root < c := by omega
          have HC := Lib.hid hc
          have HK2 : Hid (Srt w0 g off sz dk (wr.drewN q)) := HK.out.drewN q
          have hcw2 : ∀ t, t < d.size → (wr.drewN q).cell? ⟨g, off + t, none⟩ = some (.int .u32 (G t : Int)) := hcw
          have hfw2 : ∀ t, t < d.size → (wr.drewN q).frozen? ⟨g, off + t, none⟩ = false := hfw
          clear hcw hfw hc
          generalize wr.drewN q = w2 at *
          clear hend he
          have e1 : ∀ dd, (c = 2 * root + 2 ∧ 2 * root + 2 < hi ∧ ltU (G (first + 2 * root + 1)) (G (first + 2 * root + 2)) = true ∨ c = 2 * root + 1 ∧ (2 * root + 2 < hi → ltU (G (first + 2 * root + 1)) (G (first + 2 * root + 2)) = false)) →
              (∀ t, G t = dd[t]!) → siftDown ltU hi first root dd = if ltU (G (first + root)) (G (first + c)) then siftDown ltU hi first c (swp dd (first + root) (first + c)) else dd := by
            intro dd hc hG
            rcases hc with ⟨rfl, h2, h3⟩ | ⟨rfl, h3⟩
            · rw [hG, hG, Nat.add_assoc, Nat.add_assoc] at h3
              rw [hG, hG]
              cases h4 : ltU dd[first + root]! dd[first + (2 * root + 2)]!
              · rw [sd_right_stop ltU dd h2 h3 h4]; simp
              · rw [sd_right_go ltU dd h2 h3 h4]; simp
            · rw [hG, hG, Nat.add_assoc, Nat.add_assoc] at h3
              rw [hG, hG]
              cases h4 : ltU dd[first + root]! dd[first + (2 * root + 1)]!
              · rw [sd_left_stop ltU dd (by omega) h3 h4]; simp
              · rw [sd_left_go ltU dd (by omega) h3 h4]; simp
          have E := Lib.hid (e1 dk HC.out HG.out)
          clear e1
          go_upto_region 5 with fail
          go_quiet (first | (go_at_call 232; refine Calls.quiet_of_same (less_u _ _ _)))
          go_wp2
          · have hl : ltU (G (first + root)) (G (first + c)) = false := by
              have : (!ltU (G (first + root)) (G (first + c))) = true := by assumption
              simpa using this
            have := HE.out
            rw [E.out, if_neg (by simp [hl])] at this
            try simp only [Exit.inBlock, Exit.then]
            refine bodyPost_ret (results_none rfl _ _ _) rfl ⟨rfl, ?_⟩
            rw [← this]
            exact HK2.out.drewN nq
          · have hl : ltU (G (first + root)) (G (first + c)) = true := by
              have : (!ltU (G (first + root)) (G (first + c))) = false := by assumption
              simpa using this
            have HK3 : Hid (Srt w0 g off sz dk (w2.drewN nq)) := HK2.out.drewN nq
            have hcw3 : ∀ t, t < d.size → (w2.drewN nq).cell? ⟨g, off + t, none⟩ = some (.int .u32 (G t : Int)) := hcw2
            have hfw3 : ∀ t, t < d.size → (w2.drewN nq).frozen? ⟨g, off + t, none⟩ = false := hfw2
            clear hcw2 hfw2
            generalize w2.drewN nq = w3 at *
            go_region
            go_wp2
            go_roundg (hi - c)
            case measure => omega
            case rel =>
              have h1 := HE.out
              rw [E.out, if_pos hl] at h1
              have h2 := (HK3.out.swap (i := first + root) (j := first + c) (by omega) (by omega)).drew
              rw [← HG.out, ← HG.out] at h2
              exact ⟨c, swp dk (first + root) (first + c), rfl, by omega, by rw [size_swp]; exact hds, Nat.le_refl _, h2, h1⟩
end Go.Proofs.YtckhkfchgcdajaaGreatDoor

namespace Go.Proofs.YtckhkfchgcdajaaGreatDoor
open Go.Fx Go.RowKit Go.Maps Go.Sort
variable {w0 w : World} {g off sz : Nat} {d : Array Nat}
theorem half_of (n : Nat) : ((n : Int) - 1).tdiv 2 = (((n - 1) / 2 + 1 : Nat) : Int) - 1 := by
  rcases Nat.eq_zero_or_pos n with rfl | h
  · rfl
  · rw [Int.tdiv_eq_ediv_of_nonneg (by omega)]
    omega
theorem size_sift (hi F root : Nat) (d : Array Nat) : (siftDown ltU hi F root d).size = d.size := size_siftDown ltU hi F _ root d (Nat.le_refl _)
set_option maxRecDepth 100000 in
theorem heap_u {cap a b : Nat} (h : Srt w0 g off sz d w) (hab : a ≤ b) (hb : b ≤ d.size) (hsz : d.size < 4611686018427387904) :
    Calls Tryz.prog 227 #[.slice (some ⟨g, off, none⟩) d.size cap, .int .i64 (a : Int), .int .i64 (b : Int)] w fun e w' =>
      e = .returned (.tuple #[]) ∧ Srt w0 g off sz (heapSort ltU d a b) w' := by
  obtain ⟨n, rfl⟩ : ∃ n, b = a + n := ⟨b - a, by omega⟩
  have hS : heapSort ltU d a (a + n) = heapPop ltU a n (heapBuild ltU n a ((n - 1) / 2 + 1) d) := by
    unfold heapSort
    rw [Nat.add_sub_cancel_left]
  rw [hS]
  clear hS
  obtain ⟨d1, hd1⟩ : ∃ d1, heapBuild ltU n a ((n - 1) / 2 + 1) d = d1 := ⟨_, rfl⟩
  rw [hd1]
  have HD := Lib.hid hd1
  clear hd1
  have en : (a : Int) + (n : Int) - (a : Int) = (n : Int) := by omega
  have H : Hid (Srt w0 g off sz d w) := h
  clear h
  have hh := half_of n
  go_enter Tryz.func227, Tryz.ntmps227
  go_wp2
  go_loopg [9] ((n - 1) / 2 + 1) (fun k s9 wr => ∃ (i : Nat) (dk : Array Nat), s9 = .int .i64 ((i : Int) - 1) ∧ i ≤ k ∧ i ≤ (n - 1) / 2 + 1 ∧ dk.size = d.size ∧ Hid (Srt w0 g off sz dk wr) ∧
      Hid (heapBuild ltU n a i dk = d1))
  case atStart => exact ⟨(n - 1) / 2 + 1, d, by congr 1; omega, Nat.le_refl _, Nat.le_refl _, rfl, H, HD⟩
  case round =>
    clear hh HD
    obtain ⟨i, dk, rfl, hk, hi, hds, HK, HE⟩ := hrel
    by_cases hi0 : i = 0
    · subst hi0
      have hz : ¬ (0 : Int) ≤ ((0 : Nat) : Int) - 1 := by omega
      have HD : Hid (dk = d1) := HE.out
      clear HE
      go_wp2
      go_loopg [10] n (fun k s10 wr => ∃ (i : Nat) (dk : Array Nat), s10 = .int .i64 ((i : Int) - 1) ∧ i ≤ k ∧ i ≤ n ∧ dk.size = d.size ∧ Hid (Srt w0 g off sz dk wr) ∧
          Hid (heapPop ltU a i dk = heapPop ltU a n d1))
      case atStart => exact ⟨n, dk, rfl, Nat.le_refl _, Nat.le_refl _, hds, HK, by rw [HD.out]; rfl⟩
      case round =>
        clear HK HD hds hk hi dk
        obtain ⟨i, dk, rfl, hk, hi, hds, HK, HE⟩ := hrel
        by_cases hi0 : i = 0
        · subst hi0
          go_wp2
          go_end0
          exact ⟨rfl, by rw [← HE.out]; exact HK.out⟩
        · obtain ⟨j, rfl⟩ : ∃ j, i = j + 1 := ⟨i - 1, by omega⟩
          have ej : ((j + 1 : Nat) : Int) - 1 = (j : Int) := by omega
          obtain ⟨G, hG⟩ : ∃ G : Nat → Nat, ∀ t, G t = dk[t]! := ⟨fun t => dk[t]!, fun _ => rfl⟩
          have hcw : ∀ t, t < d.size → wr.cell? ⟨g, off + t, none⟩ = some (.int .u32 (G t : Int)) := fun t ht => by rw [hG]; exact HK.out.cell (by omega)
          have hfw : ∀ t, t < d.size → wr.frozen? ⟨g, off + t, none⟩ = false := fun t _ => HK.out.frozen _
          have HG : Hid (∀ t, G t = dk[t]!) := hG
          clear hG
          rw [ej]
          have hj0 : (0 : Int) ≤ (j : Int) := by omega
          have h2 : Hid (Srt w0 g off sz (swp dk a (a + j)) ((wr.setCell ⟨g, off + a, none⟩ (encU (G (a + j)))).setCell ⟨g, off + (a + j), none⟩ (encU (G a))).drew) := by
            rw [HG.out, HG.out]
            exact (HK.out.swap (i := a) (j := a + j) (by omega) (by omega)).drew
          go_upto_region 10 with fail
          go_cut [] from 29 to 55 (fun wx => Hid (Srt w0 g off sz (swp dk a (a + j)) wx))
          case first =>
            by_cases hEq : j = 0
            · subst hEq
              go_region
              all_goals go_wp2
              go_meet
              exact h2.out
            · go_region
              all_goals go_wp2
              go_meet
              exact h2.out
          clear h2 hcw hfw HK HG G
          have HK := hcut
          clear hcut
          replace hds : (swp dk a (a + j)).size = d.size := (size_swp _ _ _).trans hds
          have hc := sift_u (cap := cap) (lo := 0) (hi := j) (first := a) HK.out (by omega) (by omega) (by omega)
          rw [hds] at hc
          go_wp2_with fail
          refine hc.mono ?_
          rintro e w2 ⟨rfl, HK2⟩
          replace HK2 := Lib.hid HK2
          go_wp2_with fail
          go_roundg j
          case measure => omega
          case rel => exact ⟨j, siftDown ltU j a 0 (swp dk a (a + j)), rfl, Nat.le_refl _, by omega, by rw [size_sift]; exact hds, HK2, HE.out⟩
    · obtain ⟨j, rfl⟩ : ∃ j, i = j + 1 := ⟨i - 1, by omega⟩
      have ej : ((j + 1 : Nat) : Int) - 1 = (j : Int) := by omega
      have hj0 : (0 : Int) ≤ (j : Int) := by omega
      rw [ej]
      have hc := sift_u (cap := cap) (lo := j) (hi := n) (first := a) HK.out (by omega) (by omega) (by omega)
      rw [hds] at hc
      go_wp2_with fail
      refine hc.mono ?_
      rintro e w2 ⟨rfl, HK2⟩
      replace HK2 := Lib.hid HK2
      go_wp2_with fail
      go_roundg j
      case measure => omega
      case rel => exact ⟨j, siftDown ltU n a j dk, rfl, Nat.le_refl _, by omega, by rw [size_sift]; exact hds, HK2, HE.out⟩
end Go.Proofs.YtckhkfchgcdajaaGreatDoor

namespace Go.Proofs.YtckhkfchgcdajaaGreatDoor
open Go.Fx Go.RowKit Go.Maps Go.Sort
variable {w0 w : World} {g off sz : Nat} {d : Array Nat}
set_option maxHeartbeats 3200000 in
set_option maxRecDepth 100000 in
theorem partEq_u {cap a b pivot : Nat} (h : Srt w0 g off sz d w) (hap : a ≤ pivot) (hpb : pivot < b) (hb : b ≤ d.size) (hsz : d.size < 4611686018427387904) :
    Calls Tryz.prog 233 #[.slice (some ⟨g, off, none⟩) d.size cap, .int .i64 (a : Int), .int .i64 (b : Int), .int .i64 (pivot : Int)] w fun e w' =>
      e = .returned (.int .i64 ((partitionEqual ltU d a b pivot).1 : Int)) ∧ Srt w0 g off sz (partitionEqual ltU d a b pivot).2 w' := by
  obtain ⟨j0, rfl⟩ : ∃ j0, b = j0 + 1 := ⟨b - 1, by omega⟩
  have HK : Hid (Srt w0 g off sz d w) := h
  clear h
  obtain ⟨G, hG⟩ : ∃ G : Nat → Nat, ∀ t, G t = d[t]! := ⟨fun t => d[t]!, fun _ => rfl⟩
  have HG : Hid (∀ t, G t = d[t]!) := hG
  clear hG
  have hcw : ∀ t, t < d.size → w.cell? ⟨g, off + t, none⟩ = some (.int .u32 (G t : Int)) := fun t ht => by rw [HG.out]; exact HK.out.cell (by omega)
  have hfw : ∀ t, t < d.size → w.frozen? ⟨g, off + t, none⟩ = false := fun t _ => HK.out.frozen _
  obtain ⟨d1, hd1⟩ : ∃ d1, swp d a pivot = d1 := ⟨_, rfl⟩
  have hds : d1.size = d.size := by rw [← hd1]; exact size_swp _ _ _
  obtain ⟨r, hr⟩ : ∃ r, partEqLoop ltU a (a + 1) j0 d1 = r := ⟨_, rfl⟩
  have hT : partitionEqual ltU d a (j0 + 1) pivot = r := by rw [← hr, ← hd1]; rfl
  rw [hT]
  clear hT
  replace hd1 := Lib.hid hd1
  replace hr := Lib.hid hr
  go_enter Tryz.func233, Tryz.ntmps233
  clear hcw hfw
  have hcw : ∀ t, t < d.size → w.cell? ⟨g, off + t, none⟩ = some (.int .u32 (G t : Int)) := fun t ht => by rw [HG.out]; exact HK.out.cell (by omega)
  have hfw : ∀ t, t < d.size → w.frozen? ⟨g, off + t, none⟩ = false := fun t _ => HK.out.frozen _
  have h2 : Hid (Srt w0 g off sz (swp d a pivot) ((w.setCell ⟨g, off + a, none⟩ (encU (G pivot))).setCell ⟨g, off + pivot, none⟩ (encU (G a))).drew) := by
    rw [HG.out, HG.out]
    exact (HK.out.swap (i := a) (j := pivot) (by omega) (by omega)).drew
  go_upto_region 1 with fail
  go_cut [] from 11 to 24 (fun wx => Hid (Srt w0 g off sz (swp d a pivot) wx))
  case first =>
    by_cases hEq : a = pivot
    · subst hEq
      go_region
      all_goals go_wp2
      go_meet
      exact h2.out
    · go_region
      all_goals go_wp2
      go_meet
      exact h2.out
  clear h2 hcw hfw HK
  have HK := hcut
  clear hcut
  clear HG G
  rw [hd1.out] at HK
  go_wp2
  go_loopg [9, 10] (j0 + 1 - (a + 1)) (fun k s9 s10 wr => ∃ (i j : Nat) (dk : Array Nat), s9 = .int .i64 (i : Int) ∧ s10 = .int .i64 (j : Int) ∧ a < i ∧ i ≤ j + 1 ∧ j ≤ j0 ∧ dk.size = d.size ∧ j + 1 - i ≤ k ∧ Hid (Srt w0 g off sz dk wr) ∧ Hid (partEqLoop ltU a i j dk = r))
  case atStart => exact ⟨a + 1, j0, d1, by go_num, by first | rfl | go_num | (congr 1; omega), by omega, by omega, Nat.le_refl _, hds, Nat.le_refl _, HK, hr⟩
  clear HK hds
  obtain ⟨i, j, dk, rfl, rfl, hai, hij, hjb, hds, hk, HK, HE⟩ := hrel
  obtain ⟨G, hG⟩ : ∃ G : Nat → Nat, ∀ t, G t = dk[t]! := ⟨fun t => dk[t]!, fun _ => rfl⟩
  have HG : Hid (∀ t, G t = dk[t]!) := hG
  clear hG
  try go_wp2
  go_loopg [9] (j + 1 - i) (fun k s wr => ∃ x : Nat, s = .int .i64 (x : Int) ∧ i ≤ x ∧ x ≤ j + 1 ∧ j + 1 - x ≤ k ∧ Hid (Srt w0 g off sz dk wr) ∧ Hid (scanUp (fun x => !ltU dk[a]! x) dk j x = scanUp (fun x => !ltU dk[a]! x) dk j i))
  case atStart => exact ⟨i, by first | rfl | go_num | (congr 1; omega), Nat.le_refl _, by omega, Nat.le_refl _, HK, rfl⟩
  clear HK
  obtain ⟨x, rfl, hx1, hx2, hxk, HK, HU⟩ := hrel
  have hcw : ∀ t, t < d.size → wr.cell? ⟨g, off + t, none⟩ = some (.int .u32 (G t : Int)) := fun t ht => by rw [HG.out]; exact HK.out.cell (by omega)
  have hfw : ∀ t, t < d.size → wr.frozen? ⟨g, off + t, none⟩ = false := fun t _ => HK.out.frozen _
  go_upto_region 3 with fail
  go_cut [43] from 29 to 45 (fun s wx => s = .bool (decide (x ≤ j) && !ltU (G a) (G x)) ∧ ∃ q, wx = wr.drewN q)
  case first =>
    by_cases hxy : x ≤ j
    · have hxz : (x : Int) ≤ (j : Int) := by omega
      go_quiet (first | (go_at_call 232; refine Calls.quiet_of_same (less_u _ _ _)))
      go_wp2
      go_meet
      exact ⟨by simp [hxy], _, rfl⟩
    · have hxz : ¬ (x : Int) ≤ (j : Int) := by omega
      go_quiet (first | (go_at_call 232; refine Calls.quiet_of_same (less_u _ _ _)))
      go_wp2
      go_meet
      exact ⟨by simp [hxy], _, rfl⟩
  obtain ⟨rfl, q, rfl⟩ := hcut
  replace HK : Hid (Srt w0 g off sz dk (wr.drewN q)) := HK.out.drewN q
  clear hcw hfw
  generalize wr.drewN q = w2 at *
  cases hB : (decide (x ≤ j) && !ltU (G a) (G x))
  case true =>
    simp only [Bool.and_eq_true, decide_eq_true_eq] at hB
    have hn := Lib.hid ((scanUp_go (fun x => !ltU dk[a]! x) dk j x hB.1 ((by show (!ltU dk[a]! dk[x]!) = _; rw [← HG.out, ← HG.out]; exact hB.2))).symm.trans HU.out)
    have hle := hB.1
    clear hB
    go_wp2
    go_roundg (j + 1 - (x + 1))
    case measure => omega
    case rel => exact ⟨x + 1, by go_num, by omega, by omega, Nat.le_refl _, HK, hn⟩
  have HX : Hid (x = scanUp (fun x => !ltU dk[a]! x) dk j i) := by
    refine (scanUp_end (fun x => !ltU dk[a]! x) dk j x ?_).symm.trans HU.out
    by_cases h : x ≤ j
    · refine .inr ?_
      have h2 : (!ltU (G a) (G x)) = false := by have h3 := hB; rw [decide_eq_true h, Bool.true_and] at h3; exact h3
      exact (by show (!ltU dk[a]! dk[x]!) = _; rw [← HG.out, ← HG.out]; exact h2)
    · exact .inl h
  clear hB HU
  try go_wp2
  go_loopg [10] j (fun k s wr => ∃ y : Nat, s = .int .i64 (y : Int) ∧ y ≤ j ∧ x ≤ y + 1 ∧ y ≤ k ∧ Hid (Srt w0 g off sz dk wr) ∧ Hid (scanDown (fun x => ltU dk[a]! x) dk x y = scanDown (fun x => ltU dk[a]! x) dk x j))
  case atStart => exact ⟨j, by first | rfl | go_num | (congr 1; omega), Nat.le_refl _, by omega, Nat.le_refl _, HK, rfl⟩
  clear HK
  obtain ⟨y, rfl, hy1, hy2, hyk, HK, HV⟩ := hrel
  have hcw : ∀ t, t < d.size → wr.cell? ⟨g, off + t, none⟩ = some (.int .u32 (G t : Int)) := fun t ht => by rw [HG.out]; exact HK.out.cell (by omega)
  have hfw : ∀ t, t < d.size → wr.frozen? ⟨g, off + t, none⟩ = false := fun t _ => HK.out.frozen _
  go_upto_region 5 with fail
  go_cut [59] from 46 to 61 (fun s wx => s = .bool (decide (x ≤ y) && ltU (G a) (G y)) ∧ ∃ q, wx = wr.drewN q)
  case first =>
    by_cases hxy : x ≤ y
    · have hxz : (x : Int) ≤ (y : Int) := by omega
      go_quiet (first | (go_at_call 232; refine Calls.quiet_of_same (less_u _ _ _)))
      go_wp2
      go_meet
      exact ⟨by simp [hxy], _, rfl⟩
    · have hxz : ¬ (x : Int) ≤ (y : Int) := by omega
      go_quiet (first | (go_at_call 232; refine Calls.quiet_of_same (less_u _ _ _)))
      go_wp2
      go_meet
      exact ⟨by simp [hxy], _, rfl⟩
  obtain ⟨rfl, q, rfl⟩ := hcut
  replace HK : Hid (Srt w0 g off sz dk (wr.drewN q)) := HK.out.drewN q
  clear hcw hfw
  generalize wr.drewN q = w3 at *
  cases hB : (decide (x ≤ y) && ltU (G a) (G y))
  case true =>
    simp only [Bool.and_eq_true, decide_eq_true_eq] at hB
    have hn := Lib.hid ((scanDown_go (fun x => ltU dk[a]! x) dk x y hB.1 (by omega) ((by show ltU dk[a]! dk[y]! = _; rw [← HG.out, ← HG.out]; exact hB.2))).symm.trans HV.out)
    have hle := hB.1
    clear hB
    go_wp2
    go_roundg (y - 1)
    case measure => omega
    case rel => exact ⟨y - 1, by congr 1; omega, by omega, by omega, Nat.le_refl _, HK, hn⟩
  have HY : Hid (y = scanDown (fun x => ltU dk[a]! x) dk x j) := by
    refine (scanDown_end (fun x => ltU dk[a]! x) dk x y ?_).symm.trans HV.out
    by_cases h : x ≤ y
    · refine .inr ?_
      have h2 : (ltU (G a) (G y)) = false := by have h3 := hB; rw [decide_eq_true h, Bool.true_and] at h3; exact h3
      exact (by show ltU dk[a]! dk[y]! = _; rw [← HG.out, ← HG.out]; exact h2)
    · exact .inl h
  clear hB HV
  by_cases hgt : y < x
  · have hz : (y : Int) < (x : Int) := by omega
    have he := HE.out
    rw [partEq_break ltU a i j dk HX.out HY.out hgt] at he
    have he := Lib.hid he
    clear HE
    go_wp2
    go_ret
    rw [← he.out]
    exact ⟨rfl, HK.out⟩
  · have hz : ¬ (y : Int) < (x : Int) := by omega
    have hlt := scans_lt ltU a i j dk (by omega) HX.out HY.out (by omega)
    have he := HE.out
    rw [partEq_go ltU a i j dk HX.out HY.out hgt] at he
    have he := Lib.hid he
    clear HE
    have hcw : ∀ t, t < d.size → w3.cell? ⟨g, off + t, none⟩ = some (.int .u32 (G t : Int)) := fun t ht => by rw [HG.out]; exact HK.out.cell (by omega)
    have hfw : ∀ t, t < d.size → w3.frozen? ⟨g, off + t, none⟩ = false := fun t _ => HK.out.frozen _
    have h2 : Hid (Srt w0 g off sz (swp dk x y) ((w3.setCell ⟨g, off + x, none⟩ (encU (G y))).setCell ⟨g, off + y, none⟩ (encU (G x))).drew) := by
      rw [HG.out, HG.out]
      exact (HK.out.swap (i := x) (j := y) (by omega) (by omega)).drew
    go_upto_region 8 with fail
    go_cut [] from 29 to 82 (fun wx => Hid (Srt w0 g off sz (swp dk x y) wx))
    case first =>
      go_region
      all_goals go_wp2
      go_meet
      exact h2.out
    clear h2 hcw hfw HK
    have HK := hcut
    clear hcut
    go_wp2
    go_roundg (y - 1 + 1 - (x + 1))
    case measure => omega
    case rel => exact ⟨x + 1, y - 1, swp dk x y, by go_num, by congr 1; omega, by omega, by omega, by omega, by rw [size_swp]; exact hds, Nat.le_refl _, HK, he⟩
end Go.Proofs.YtckhkfchgcdajaaGreatDoor

import Derived.Test.YtckhkfchgcdajaaGreatDoorYJxS7
namespace Go.Proofs.YtckhkfchgcdajaaGreatDoor
open Go.Fx Go.RowKit Go.Maps Go.Sort
variable {w0 w : World} {g off sz : Nat} {d : Array Nat}
set_option maxHeartbeats 3200000 in
set_option maxRecDepth 100000 in
theorem partIns_u {cap a b : Nat} (h : Srt w0 g off sz d w) (hab : a < b) (hb : b ≤ d.size) (hsz : d.size < 4611686018427387904) :
    Calls Tryz.prog 231 #[.slice (some ⟨g, off, none⟩) d.size cap, .int .i64 (a : Int), .int .i64 (b : Int)] w fun e w' =>
      e = .returned (.bool (partialInsertionSort ltU d a b).2) ∧ Srt w0 g off sz (partialInsertionSort ltU d a b).1 w' := by
  have HK : Hid (Srt w0 g off sz d w) := h
  clear h
  have hT : Hid (partialInsertionSort ltU d a b = partialIns ltU a b 5 (a + 1) d) := rfl
  rw [hT.out]
  clear hT
  go_enter Tryz.func231, Tryz.ntmps231
  go_wp2
  go_loopg [7, 8] 5 (fun k s7 s8 wr => ∃ (i s : Nat) (dk : Array Nat), s7 = .int .i64 (i : Int) ∧ s8 = .int .i64 (s : Int) ∧ s ≤ 5 ∧ a < i ∧ i ≤ b ∧ dk.size = d.size ∧ 5 - s ≤ k ∧ Hid (Srt w0 g off sz dk wr) ∧
      Hid (partialIns ltU a b (5 - s) i dk = partialIns ltU a b 5 (a + 1) d))
  case atStart => exact ⟨a + 1, 0, d, by go_num, rfl, by omega, by omega, by omega, rfl, by omega, HK, rfl⟩
  clear HK
  obtain ⟨i, s, dk, rfl, rfl, hs5, hai, hib, hds, hk, HK, HE⟩ := hrel
  by_cases hs : s < 5
  case neg =>
    obtain rfl : s = 5 := by omega
    have hz : ¬ ((5 : Nat) : Int) < 5 := by omega
    have he := HE.out
    rw [pi_end] at he
    replace he := Lib.hid he
    clear HE
    go_wp2
    go_ret
    rw [← he.out]
    exact ⟨rfl, HK.out⟩
  have hsz' : (s : Int) < 5 := by omega
  obtain ⟨G, hG⟩ : ∃ G : Nat → Nat, ∀ t, G t = dk[t]! := ⟨fun t => dk[t]!, fun _ => rfl⟩
  have HG : Hid (∀ t, G t = dk[t]!) := hG
  clear hG
  go_wp2
  go_loopg [7] (b - i) (fun k s7 wr => ∃ x : Nat, s7 = .int .i64 (x : Int) ∧ i ≤ x ∧ x ≤ b ∧ b - x ≤ k ∧ Hid (Srt w0 g off sz dk wr) ∧ Hid (scanSorted ltU dk b x = scanSorted ltU dk b i))
  case atStart => exact ⟨i, rfl, Nat.le_refl _, hib, Nat.le_refl _, HK, rfl⟩
  clear HK
  obtain ⟨x, rfl, hx1, hx2, hxk, HK, HU⟩ := hrel
  have hcw : ∀ t, t < d.size → wr.cell? ⟨g, off + t, none⟩ = some (.int .u32 (G t : Int)) := fun t ht => by rw [HG.out]; exact HK.out.cell (by omega)
  have hfw : ∀ t, t < d.size → wr.frozen? ⟨g, off + t, none⟩ = false := fun t _ => HK.out.frozen _
  go_upto_region 5 with fail
  go_cut [32] from 17 to 34 (fun s wx => s = .bool (decide (x < b) && !ltU (G x) (G (x - 1))) ∧ ∃ q, wx = wr.drewN q)
  case first =>
    by_cases hxy : x < b
    · have hxz : (x : Int) < (b : Int) := by omega
      go_quiet (first | (go_at_call 232; refine Calls.quiet_of_same (less_u _ _ _)))
      go_wp2
      go_meet
      exact ⟨by simp [hxy], _, rfl⟩
    · have hxz : ¬ (x : Int) < (b : Int) := by omega
      go_quiet (first | (go_at_call 232; refine Calls.quiet_of_same (less_u _ _ _)))
      go_wp2
      go_meet
      exact ⟨by simp [hxy], _, rfl⟩
  obtain ⟨rfl, q, rfl⟩ := hcut
  replace HK : Hid (Srt w0 g off sz dk (wr.drewN q)) := HK.out.drewN q
  clear hcw hfw
  generalize wr.drewN q = w2 at *
  cases hB : (decide (x < b) && !ltU (G x) (G (x - 1)))
  case true =>
    simp only [Bool.and_eq_true, decide_eq_true_eq] at hB
    have hn := Lib.hid ((scanSorted_go ltU dk b x hB.1 (by rw [← HG.out, ← HG.out]; simpa using hB.2)).symm.trans HU.out)
    have hle := hB.1
    clear hB
    go_wp2
    go_roundg (b - (x + 1))
    case measure => omega
    case rel => exact ⟨x + 1, by go_num, by omega, by omega, Nat.le_refl _, HK, hn⟩
  have HX : Hid (scanSorted ltU dk b i = x) := by
    refine HU.out.symm.trans (scanSorted_stop ltU dk b x ?_)
    by_cases h : x < b
    · refine .inr ?_
      have h2 : (!ltU (G x) (G (x - 1))) = false := by have h3 := hB; rw [decide_eq_true h, Bool.true_and] at h3; exact h3
      rw [← HG.out, ← HG.out]
      simpa using h2
    · exact .inl h
  clear hB HU
  by_cases hxb : x = b
  · subst hxb
    have he := HE.out
    rw [pi_true ltU a x s i dk hs HX.out] at he
    replace he := Lib.hid he
    clear HE HX
    go_wp2
    try simp only [Exit.inBlock, Exit.then]
    refine bodyPost_ret (v := .bool true) (by simp [results, Tryz.results231, go_sem]) rfl ?_
    rw [← he.out]
    exact ⟨rfl, HK.out⟩
  have hxb1 : ¬ (x : Int) = (b : Int) := by omega
  by_cases h50 : b - a < 50
  · have h50z : (b : Int) - (a : Int) < 50 := by omega
    have he := HE.out
    rw [pi_short ltU a b s i dk hs (by rw [HX.out]; exact hxb) h50] at he
    replace he := Lib.hid he
    clear HE HX
    go_wp2
    try simp only [Exit.inBlock, Exit.then]
    refine bodyPost_ret (v := .bool false) (by simp [results, Tryz.results231, go_sem]) rfl ?_
    rw [← he.out]
    exact ⟨rfl, HK.out⟩
  have h50z : ¬ (b : Int) - (a : Int) < 50 := by omega
  have he := HE.out
  rw [pi_go ltU a b s i x dk hs HX.out hxb h50] at he
  replace he := Lib.hid he
  clear HE HX
  have hcw : ∀ t, t < d.size → w2.cell? ⟨g, off + t, none⟩ = some (.int .u32 (G t : Int)) := fun t ht => by rw [HG.out]; exact HK.out.cell (by omega)
  have hfw : ∀ t, t < d.size → w2.frozen? ⟨g, off + t, none⟩ = false := fun t _ => HK.out.frozen _
  have h2 : Hid (Srt w0 g off sz (swp dk x (x - 1)) ((w2.setCell ⟨g, off + x, none⟩ (encU (G (x - 1)))).setCell ⟨g, off + (x - 1), none⟩ (encU (G x))).drew) := by
    rw [HG.out, HG.out]
    exact (HK.out.swap (i := x) (j := x - 1) (by omega) (by omega)).drew
  go_upto_region 11 with fail
  go_cut [] from 13 to 132 (fun wx => Hid (Srt w0 g off sz (swp dk x (x - 1)) wx))
  case first =>
    go_region
    all_goals go_wp2
    go_meet
    exact h2.out
  clear h2 hcw hfw HK HG G
  have HK := hcut
  clear hcut
  replace hds : (swp dk x (x - 1)).size = d.size := (size_swp _ _ _).trans hds
  generalize swp dk x (x - 1) = d1 at *
  go_upto_if 61 with fail
  go_cut [9] from 13 to 132 (fun _ wx => ∃ d2, Hid (d2 = fixDown ltU a x d1) ∧ d2.size = d.size ∧ Hid (Srt w0 g off sz d2 wx))
  case first =>
    by_cases hx2 : 2 ≤ x - a
    · have hx2z : (2 : Int) ≤ (x : Int) - (a : Int) := by omega
      go_wp2
      go_loopg [9] (x - 1) (fun k s9 wr => ∃ (t : Nat) (dj : Array Nat), s9 = .int .i64 (t : Int) ∧ t ≤ k ∧ t ≤ x - 1 ∧ dj.size = d.size ∧ Hid (Srt w0 g off sz dj wr) ∧ Hid (shiftDown ltU t dj = shiftDown ltU (x - 1) d1))
      case atStart => exact ⟨x - 1, d1, by congr 1; omega, Nat.le_refl _, Nat.le_refl _, hds, HK, rfl⟩
      clear HK hds
      obtain ⟨t, dj, rfl, htk, htx, hds, HK, HU⟩ := hrel
      by_cases ht : 1 ≤ t
      · have htz : (1 : Int) ≤ (t : Int) := by omega
        obtain ⟨G, hG⟩ : ∃ G : Nat → Nat, ∀ t, G t = dj[t]! := ⟨fun t => dj[t]!, fun _ => rfl⟩
        have HG : Hid (∀ t, G t = dj[t]!) := hG
        clear hG
        have hcw : ∀ t, t < d.size → wr.cell? ⟨g, off + t, none⟩ = some (.int .u32 (G t : Int)) := fun t ht => by rw [HG.out]; exact HK.out.cell (by omega)
        have hfw : ∀ t, t < d.size → wr.frozen? ⟨g, off + t, none⟩ = false := fun t _ => HK.out.frozen _
        go_upto_region 16 with fail
        go_quiet (first | (go_at_call 232; refine Calls.quiet_of_same (less_u _ _ _)))
        go_wp2
        · have hl : ltU (G t) (G (t - 1)) = false := by
            have : (!ltU (G t) (G (t - 1))) = true := by assumption
            simpa using this
          go_meet
          refine ⟨dj, ?_, hds, HK.out.drewN nq⟩
          show dj = fixDown ltU a x d1
          unfold fixDown
          rw [if_pos (by omega), ← HU.out, shiftDown_stop ltU t dj (.inr (by rw [← HG.out, ← HG.out]; exact hl))]
        · have hl : ltU (G t) (G (t - 1)) = true := by
            have : (!ltU (G t) (G (t - 1))) = false := by assumption
            simpa using this
          have HK3 : Hid (Srt w0 g off sz dj (wr.drewN nq)) := HK.out.drewN nq
          have hcw3 : ∀ t, t < d.size → (wr.drewN nq).cell? ⟨g, off + t, none⟩ = some (.int .u32 (G t : Int)) := hcw
          have hfw3 : ∀ t, t < d.size → (wr.drewN nq).frozen? ⟨g, off + t, none⟩ = false := hfw
          clear hcw hfw HK
          generalize wr.drewN nq = w3 at *
          go_region
          all_goals go_wp2
          go_roundg (t - 1)
          case measure => omega
          case rel =>
            have h2 := (HK3.out.swap (i := t) (j := t - 1) (by omega) (by omega)).drew
            rw [← HG.out, ← HG.out] at h2
            exact ⟨t - 1, swp dj t (t - 1), by congr 1; omega, Nat.le_refl _, by omega, by rw [size_swp]; exact hds, h2, (shiftDown_go ltU t dj ht (by rw [← HG.out, ← HG.out]; exact hl)).symm.trans HU.out⟩
      · obtain rfl : t = 0 := by omega
        have htz : ¬ (1 : Int) ≤ ((0 : Nat) : Int) := by omega
        go_wp2
        go_meet
        refine ⟨dj, ?_, hds, HK⟩
        show dj = fixDown ltU a x d1
        unfold fixDown
        rw [if_pos (by omega), ← HU.out, shiftDown_stop ltU 0 dj (.inl rfl)]
    · have hx2z : ¬ (2 : Int) ≤ (x : Int) - (a : Int) := by omega
      go_wp2
      go_meet
      refine ⟨d1, ?_, hds, HK⟩
      show d1 = fixDown ltU a x d1
      unfold fixDown
      rw [if_neg (by omega)]
  clear HK hds
  obtain ⟨d2, HD, hds, HK⟩ := hcut
  rw [← HD.out] at he
  clear HD
  go_upto_if 98 with fail
  by_cases hx2 : 2 ≤ b - x
  · have hx2z : (2 : Int) ≤ (b : Int) - (x : Int) := by omega
    go_wp2
    go_loopg [10] (b - (x + 1)) (fun k s10 wr => ∃ (t : Nat) (dj : Array Nat), s10 = .int .i64 (t : Int) ∧ b - t ≤ k ∧ x + 1 ≤ t ∧ dj.size = d.size ∧ Hid (Srt w0 g off sz dj wr) ∧ Hid (shiftUp ltU b t dj = shiftUp ltU b (x + 1) d2))
    case atStart => exact ⟨x + 1, d2, by go_num, Nat.le_refl _, Nat.le_refl _, hds, HK, rfl⟩
    clear HK hds
    obtain ⟨t, dj, rfl, htk, htx, hds, HK, HU⟩ := hrel
    by_cases ht : t < b
    · have htz : (t : Int) < (b : Int) := by omega
      obtain ⟨G, hG⟩ : ∃ G : Nat → Nat, ∀ t, G t = dj[t]! := ⟨fun t => dj[t]!, fun _ => rfl⟩
      have HG : Hid (∀ t, G t = dj[t]!) := hG
      clear hG
      have hcw : ∀ t, t < d.size → wr.cell? ⟨g, off + t, none⟩ = some (.int .u32 (G t : Int)) := fun t ht => by rw [HG.out]; exact HK.out.cell (by omega)
      have hfw : ∀ t, t < d.size → wr.frozen? ⟨g, off + t, none⟩ = false := fun t _ => HK.out.frozen _
      go_upto_region 22 with fail
      go_quiet (first | (go_at_call 232; refine Calls.quiet_of_same (less_u _ _ _)))
      go_wp2
      · have hl : ltU (G t) (G (t - 1)) = false := by
          have : (!ltU (G t) (G (t - 1))) = true := by assumption
          simpa using this
        have e3 : fixUp ltU b x d2 = dj := by
          unfold fixUp
          rw [if_pos (by omega), ← HU.out, shiftUp_stop ltU b t dj (.inr (by rw [← HG.out, ← HG.out]; exact hl))]
        rw [e3] at he
        go_roundg (5 - (s + 1))
        case measure => omega
        case rel => exact ⟨x, s + 1, dj, rfl, by go_num, by omega, by omega, by omega, hds, Nat.le_refl _, Lib.hid (HK.out.drewN nq), he⟩
      · have hl : ltU (G t) (G (t - 1)) = true := by
          have : (!ltU (G t) (G (t - 1))) = false := by assumption
          simpa using this
        have HK3 : Hid (Srt w0 g off sz dj (wr.drewN nq)) := HK.out.drewN nq
        have hcw3 : ∀ t, t < d.size → (wr.drewN nq).cell? ⟨g, off + t, none⟩ = some (.int .u32 (G t : Int)) := hcw
        have hfw3 : ∀ t, t < d.size → (wr.drewN nq).frozen? ⟨g, off + t, none⟩ = false := hfw
        clear hcw hfw HK
        generalize wr.drewN nq = w3 at *
        go_region
        all_goals go_wp2
        go_roundg (b - (t + 1))
        case measure => omega
        case rel =>
          have h2 := (HK3.out.swap (i := t) (j := t - 1) (by omega) (by omega)).drew
          rw [← HG.out, ← HG.out] at h2
          exact ⟨t + 1, swp dj t (t - 1), by go_num, Nat.le_refl _, by omega, by rw [size_swp]; exact hds, h2, (shiftUp_go ltU b t dj ht (by rw [← HG.out, ← HG.out]; exact hl)).symm.trans HU.out⟩
    · have htz : ¬ (t : Int) < (b : Int) := by omega
      go_wp2
      have e3 : fixUp ltU b x d2 = dj := by
        unfold fixUp
        rw [if_pos (by omega), ← HU.out, shiftUp_stop ltU b t dj (.inl ht)]
      rw [e3] at he
      go_roundg (5 - (s + 1))
      case measure => omega
      case rel => exact ⟨x, s + 1, dj, rfl, by go_num, by omega, by omega, by omega, hds, Nat.le_refl _, HK, he⟩
  · have hx2z : ¬ (2 : Int) ≤ (b : Int) - (x : Int) := by omega
    go_wp2
    have e3 : fixUp ltU b x d2 = d2 := by
      unfold fixUp
      rw [if_neg (by omega)]
    rw [e3] at he
    go_roundg (5 - (s + 1))
    case measure => omega
    case rel => exact ⟨x, s + 1, d2, rfl, by go_num, by omega, by omega, by omega, hds, Nat.le_refl _, HK, he⟩
end Go.Proofs.YtckhkfchgcdajaaGreatDoor

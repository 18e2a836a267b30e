import Derived.Test.YtckhkfchgcdajaaGreatDoorYJxS6
import Derived.Sort.WalkC4
namespace Go.Proofs.YtckhkfchgcdajaaGreatDoor
open Go.Fx Go.RowKit Go.Maps Go.Sort
variable {w0 w : World} {g off sz : Nat} {d : Array Nat}
set_option maxHeartbeats 3200000 in
set_option maxRecDepth 100000 in
theorem part_u {cap a b pivot : Nat} (h : Srt w0 g off sz d w) (hap : a ≤ pivot) (hpb : pivot < b) (hb : b ≤ d.size) (hsz : d.size < 4611686018427387904) :
    Calls Tryz.prog 234 #[.slice (some ⟨g, off, none⟩) d.size cap, .int .i64 (a : Int), .int .i64 (b : Int), .int .i64 (pivot : Int)] w fun e w' =>
      e = .returned (.tuple #[.int .i64 ((partition ltU d a b pivot).1 : Int), .bool (partition ltU d a b pivot).2.1]) ∧ Srt w0 g off sz (partition ltU d a b pivot).2.2 w' := by
  obtain ⟨j0, rfl⟩ : ∃ j0, b = j0 + 1 := ⟨b - 1, by omega⟩
  have HK : Hid (Srt w0 g off sz d w) := h
  clear h
  obtain ⟨G, hG⟩ : ∃ G : Nat → Nat, ∀ t, G t = d[t]! := ⟨fun t => d[t]!, fun _ => rfl⟩
  have HG : Hid (∀ t, G t = d[t]!) := hG
  clear hG
  have hcw : ∀ t, t < d.size → w.cell? ⟨g, off + t, none⟩ = some (.int .u32 (G t : Int)) := fun t ht => by rw [HG.out]; exact HK.out.cell (by omega)
  have hfw : ∀ t, t < d.size → w.frozen? ⟨g, off + t, none⟩ = false := fun t _ => HK.out.frozen _
  obtain ⟨d1, hd1⟩ : ∃ d1, d1 = swp d a pivot := ⟨_, rfl⟩
  have hds : d1.size = d.size := by rw [hd1]; exact size_swp _ _ _
  obtain ⟨r, hr⟩ : ∃ r, partition ltU d a (j0 + 1) pivot = r := ⟨_, rfl⟩
  rw [hr]
  have HD := Lib.hid hd1
  clear hd1
  replace hr := Lib.hid hr
  go_enter Tryz.func234, Tryz.ntmps234
  clear hcw hfw
  have hcw : ∀ t, t < d.size → w.cell? ⟨g, off + t, none⟩ = some (.int .u32 (G t : Int)) := fun t ht => by rw [HG.out]; exact HK.out.cell (by omega)
  have hfw : ∀ t, t < d.size → w.frozen? ⟨g, off + t, none⟩ = false := fun t _ => HK.out.frozen _
  have h2 : Hid (Srt w0 g off sz (swp d a pivot) ((w.setCell ⟨g, off + a, none⟩ (encU (G pivot))).setCell ⟨g, off + pivot, none⟩ (encU (G a))).drew) := by
    rw [HG.out, HG.out]
    exact (HK.out.swap (i := a) (j := pivot) (by omega) (by omega)).drew
  go_upto_region 1 with fail
  go_cut [] from 12 to 25 (fun wx => Hid (Srt w0 g off sz (swp d a pivot) wx))
  case first =>
    by_cases hEq : a = pivot
    · subst hEq
      go_region
      all_goals go_wp2
      go_meet
      exact h2.out
    · go_region
      all_goals go_wp2
      go_meet
      exact h2.out
  clear h2 hcw hfw HK
  have HK := hcut
  clear hcut
  clear HG G
  rw [← HD.out] at HK
  go_wp2
  obtain ⟨i1, hi1⟩ : ∃ i1, i1 = a + 1 := ⟨_, rfl⟩
  obtain ⟨G, hG⟩ : ∃ G : Nat → Nat, ∀ t, G t = d1[t]! := ⟨fun t => d1[t]!, fun _ => rfl⟩
  have HG : Hid (∀ t, G t = d1[t]!) := hG
  clear hG
  try go_wp2
  go_loopg [10] (j0 + 1 - i1) (fun k s wr => ∃ x : Nat, s = .int .i64 (x : Int) ∧ i1 ≤ x ∧ x ≤ j0 + 1 ∧ j0 + 1 - x ≤ k ∧ Hid (Srt w0 g off sz d1 wr) ∧ Hid (scanUp (fun x => ltU x d1[a]!) d1 j0 x = scanUp (fun x => ltU x d1[a]!) d1 j0 i1))
  case atStart => exact ⟨i1, by first | rfl | go_num | (congr 1; omega), Nat.le_refl _, by omega, Nat.le_refl _, HK, rfl⟩
  clear HK
  obtain ⟨x, rfl, hx1, hx2, hxk, HK, HU⟩ := hrel
  have hcw : ∀ t, t < d.size → wr.cell? ⟨g, off + t, none⟩ = some (.int .u32 (G t : Int)) := fun t ht => by rw [HG.out]; exact HK.out.cell (by omega)
  have hfw : ∀ t, t < d.size → wr.frozen? ⟨g, off + t, none⟩ = false := fun t _ => HK.out.frozen _
  go_upto_region 3 with fail
  go_cut [43] from 30 to 45 (fun s wx => s = .bool (decide (x ≤ j0) && ltU (G x) (G a)) ∧ ∃ q, wx = wr.drewN q)
  case first =>
    by_cases hxy : x ≤ j0
    · have hxz : (x : Int) ≤ (j0 : Int) := by omega
      go_quiet (first | (go_at_call 232; refine Calls.quiet_of_same (less_u _ _ _)))
      go_wp2
      go_meet
      exact ⟨by simp [hxy], _, rfl⟩
    · have hxz : ¬ (x : Int) ≤ (j0 : Int) := by omega
      go_quiet (first | (go_at_call 232; refine Calls.quiet_of_same (less_u _ _ _)))
      go_wp2
      go_meet
      exact ⟨by simp [hxy], _, rfl⟩
  obtain ⟨rfl, q, rfl⟩ := hcut
  replace HK : Hid (Srt w0 g off sz d1 (wr.drewN q)) := HK.out.drewN q
  clear hcw hfw
  generalize wr.drewN q = w2 at *
  cases hB : (decide (x ≤ j0) && ltU (G x) (G a))
  case true =>
    simp only [Bool.and_eq_true, decide_eq_true_eq] at hB
    have hn := Lib.hid ((scanUp_go (fun x => ltU x d1[a]!) d1 j0 x hB.1 ((by show ltU d1[x]! d1[a]! = _; rw [← HG.out, ← HG.out]; exact hB.2))).symm.trans HU.out)
    have hle := hB.1
    clear hB
    go_wp2
    go_roundg (j0 + 1 - (x + 1))
    case measure => omega
    case rel => exact ⟨x + 1, by go_num, by omega, by omega, Nat.le_refl _, HK, hn⟩
  have HX : Hid (x = scanUp (fun x => ltU x d1[a]!) d1 j0 i1) := by
    refine (scanUp_end (fun x => ltU x d1[a]!) d1 j0 x ?_).symm.trans HU.out
    by_cases h : x ≤ j0
    · refine .inr ?_
      have h2 : (ltU (G x) (G a)) = false := by have h3 := hB; rw [decide_eq_true h, Bool.true_and] at h3; exact h3
      exact (by show ltU d1[x]! d1[a]! = _; rw [← HG.out, ← HG.out]; exact h2)
    · exact .inl h
  clear hB HU
  try go_wp2
  go_loopg [11] j0 (fun k s wr => ∃ y : Nat, s = .int .i64 (y : Int) ∧ y ≤ j0 ∧ x ≤ y + 1 ∧ y ≤ k ∧ Hid (Srt w0 g off sz d1 wr) ∧ Hid (scanDown (fun x => !ltU x d1[a]!) d1 x y = scanDown (fun x => !ltU x d1[a]!) d1 x j0))
  case atStart => exact ⟨j0, by first | rfl | go_num | (congr 1; omega), Nat.le_refl _, by omega, Nat.le_refl _, HK, rfl⟩
  clear HK
  obtain ⟨y, rfl, hy1, hy2, hyk, HK, HV⟩ := hrel
  have hcw : ∀ t, t < d.size → wr.cell? ⟨g, off + t, none⟩ = some (.int .u32 (G t : Int)) := fun t ht => by rw [HG.out]; exact HK.out.cell (by omega)
  have hfw : ∀ t, t < d.size → wr.frozen? ⟨g, off + t, none⟩ = false := fun t _ => HK.out.frozen _
  go_upto_region 5 with fail
  go_cut [60] from 46 to 62 (fun s wx => s = .bool (decide (x ≤ y) && !ltU (G y) (G a)) ∧ ∃ q, wx = wr.drewN q)
  case first =>
    by_cases hxy : x ≤ y
    · have hxz : (x : Int) ≤ (y : Int) := by omega
      go_quiet (first | (go_at_call 232; refine Calls.quiet_of_same (less_u _ _ _)))
      go_wp2
      go_meet
      exact ⟨by simp [hxy], _, rfl⟩
    · have hxz : ¬ (x : Int) ≤ (y : Int) := by omega
      go_quiet (first | (go_at_call 232; refine Calls.quiet_of_same (less_u _ _ _)))
      go_wp2
      go_meet
      exact ⟨by simp [hxy], _, rfl⟩
  obtain ⟨rfl, q, rfl⟩ := hcut
  replace HK : Hid (Srt w0 g off sz d1 (wr.drewN q)) := HK.out.drewN q
  clear hcw hfw
  generalize wr.drewN q = w3 at *
  cases hB : (decide (x ≤ y) && !ltU (G y) (G a))
  case true =>
    simp only [Bool.and_eq_true, decide_eq_true_eq] at hB
    have hn := Lib.hid ((scanDown_go (fun x => !ltU x d1[a]!) d1 x y hB.1 (by omega) ((by show (!ltU d1[y]! d1[a]!) = _; rw [← HG.out, ← HG.out]; exact hB.2))).symm.trans HV.out)
    have hle := hB.1
    clear hB
    go_wp2
    go_roundg (y - 1)
    case measure => omega
    case rel => exact ⟨y - 1, by congr 1; omega, by omega, by omega, Nat.le_refl _, HK, hn⟩
  have HY : Hid (y = scanDown (fun x => !ltU x d1[a]!) d1 x j0) := by
    refine (scanDown_end (fun x => !ltU x d1[a]!) d1 x y ?_).symm.trans HV.out
    by_cases h : x ≤ y
    · refine .inr ?_
      have h2 : (!ltU (G y) (G a)) = false := by have h3 := hB; rw [decide_eq_true h, Bool.true_and] at h3; exact h3
      exact (by show (!ltU d1[y]! d1[a]!) = _; rw [← HG.out, ← HG.out]; exact h2)
    · exact .inl h
  clear hB HV
  by_cases hgt : y < x
  · have hz : (y : Int) < (x : Int) := by omega
    have he := Lib.hid (hr.out.symm.trans (part_first_break ltU d a (j0 + 1) pivot hi1 (j := j0) rfl HD.out HX.out HY.out hgt))
    have hcw : ∀ t, t < d.size → w3.cell? ⟨g, off + t, none⟩ = some (.int .u32 (G t : Int)) := fun t ht => by rw [HG.out]; exact HK.out.cell (by omega)
    have hfw : ∀ t, t < d.size → w3.frozen? ⟨g, off + t, none⟩ = false := fun t _ => HK.out.frozen _
    have h2 : Hid (Srt w0 g off sz (swp d1 y a) ((w3.setCell ⟨g, off + y, none⟩ (encU (G a))).setCell ⟨g, off + a, none⟩ (encU (G y))).drew) := by
      rw [HG.out, HG.out]
      exact (HK.out.swap (i := y) (j := a) (by omega) (by omega)).drew
    go_upto_region 8 with fail
    go_cut [] from 66 to 79 (fun wx => Hid (Srt w0 g off sz (swp d1 y a) wx))
    case first =>
      by_cases hEq : y = a
      · subst hEq
        go_region
        all_goals go_wp2
        go_meet
        exact h2.out
      · go_region
        all_goals go_wp2
        go_meet
        exact h2.out
    clear h2 hcw hfw HK
    have HK := hcut
    clear hcut
    go_wp2
    try simp only [Exit.inBlock, Exit.then]
    refine bodyPost_ret (v := .tuple #[.int .i64 (y : Int), .bool true]) (by simp [results, Tryz.results234, go_sem]) rfl ⟨by rw [he.out], by rw [he.out]; exact HK.out⟩
  have hz : ¬ (y : Int) < (x : Int) := by omega
  have hlt := part_scans_lt ltU a i1 j0 d1 (by omega) HX.out HY.out (by omega)
  have he := Lib.hid (hr.out.symm.trans (part_first_go ltU d a (j0 + 1) pivot hi1 (j := j0) rfl HD.out HX.out HY.out hgt))
  have hcw : ∀ t, t < d.size → w3.cell? ⟨g, off + t, none⟩ = some (.int .u32 (G t : Int)) := fun t ht => by rw [HG.out]; exact HK.out.cell (by omega)
  have hfw : ∀ t, t < d.size → w3.frozen? ⟨g, off + t, none⟩ = false := fun t _ => HK.out.frozen _
  have h2 : Hid (Srt w0 g off sz (swp d1 x y) ((w3.setCell ⟨g, off + x, none⟩ (encU (G y))).setCell ⟨g, off + y, none⟩ (encU (G x))).drew) := by
    rw [HG.out, HG.out]
    exact (HK.out.swap (i := x) (j := y) (by omega) (by omega)).drew
  go_upto_region 10 with fail
  go_cut [] from 81 to 94 (fun wx => Hid (Srt w0 g off sz (swp d1 x y) wx))
  case first =>
    go_region
    all_goals go_wp2
    go_meet
    exact h2.out
  clear h2 hcw hfw HK
  have HK := hcut
  clear hcut
  clear HG G
  replace hds : (swp d1 x y).size = d.size := (size_swp _ _ _).trans hds
  generalize swp d1 x y = d2 at *
  obtain ⟨r2, hr2⟩ : ∃ r2, partLoop ltU a (x + 1) (y - 1) d2 = r2 := ⟨_, rfl⟩
  rw [hr2] at he
  replace hr2 := Lib.hid hr2
  go_wp2
  go_loopg [10, 11] (y - 1 + 1 - (x + 1)) (fun k s10 s11 wr => ∃ (i j : Nat) (dk : Array Nat), s10 = .int .i64 (i : Int) ∧ s11 = .int .i64 (j : Int) ∧ a < i ∧ i ≤ j + 1 ∧ j ≤ j0 ∧ dk.size = d.size ∧ j + 1 - i ≤ k ∧ Hid (Srt w0 g off sz dk wr) ∧ Hid (partLoop ltU a i j dk = r2))
  case atStart => exact ⟨x + 1, y - 1, d2, by go_num, by congr 1; omega, by omega, by omega, by omega, hds, Nat.le_refl _, HK, hr2⟩
  clear HK hds
  obtain ⟨i, j, dk, rfl, rfl, hai, hij, hjb, hds, hk, HK, HE⟩ := hrel
  replace HX := Lib.hid HX
  replace HY := Lib.hid HY
  obtain ⟨G, hG⟩ : ∃ G : Nat → Nat, ∀ t, G t = dk[t]! := ⟨fun t => dk[t]!, fun _ => rfl⟩
  have HG : Hid (∀ t, G t = dk[t]!) := hG
  clear hG
  try go_wp2
  go_loopg [10] (j + 1 - i) (fun k s wr => ∃ x : Nat, s = .int .i64 (x : Int) ∧ i ≤ x ∧ x ≤ j + 1 ∧ j + 1 - x ≤ k ∧ Hid (Srt w0 g off sz dk wr) ∧ Hid (scanUp (fun x => ltU x dk[a]!) dk j x = scanUp (fun x => ltU x dk[a]!) dk j i))
  case atStart => exact ⟨i, by first | rfl | go_num | (congr 1; omega), Nat.le_refl _, by omega, Nat.le_refl _, HK, rfl⟩
  clear HK
  obtain ⟨x2, rfl, hx21, hx22, hx2k, HK, HU⟩ := hrel
  have hcw : ∀ t, t < d.size → wr.cell? ⟨g, off + t, none⟩ = some (.int .u32 (G t : Int)) := fun t ht => by rw [HG.out]; exact HK.out.cell (by omega)
  have hfw : ∀ t, t < d.size → wr.frozen? ⟨g, off + t, none⟩ = false := fun t _ => HK.out.frozen _
  go_upto_region 13 with fail
  go_cut [112] from 99 to 114 (fun s wx => s = .bool (decide (x2 ≤ j) && ltU (G x2) (G a)) ∧ ∃ q, wx = wr.drewN q)
  case first =>
    by_cases hxy : x2 ≤ j
    · have hxz : (x2 : Int) ≤ (j : Int) := by omega
      go_quiet (first | (go_at_call 232; refine Calls.quiet_of_same (less_u _ _ _)))
      go_wp2
      go_meet
      exact ⟨by simp [hxy], _, rfl⟩
    · have hxz : ¬ (x2 : Int) ≤ (j : Int) := by omega
      go_quiet (first | (go_at_call 232; refine Calls.quiet_of_same (less_u _ _ _)))
      go_wp2
      go_meet
      exact ⟨by simp [hxy], _, rfl⟩
  obtain ⟨rfl, q, rfl⟩ := hcut
  replace HK : Hid (Srt w0 g off sz dk (wr.drewN q)) := HK.out.drewN q
  clear hcw hfw
  generalize wr.drewN q = w5 at *
  cases hB : (decide (x2 ≤ j) && ltU (G x2) (G a))
  case true =>
    simp only [Bool.and_eq_true, decide_eq_true_eq] at hB
    have hn := Lib.hid ((scanUp_go (fun x => ltU x dk[a]!) dk j x2 hB.1 ((by show ltU dk[x2]! dk[a]! = _; rw [← HG.out, ← HG.out]; exact hB.2))).symm.trans HU.out)
    have hle := hB.1
    clear hB
    go_wp2
    go_roundg (j + 1 - (x2 + 1))
    case measure => omega
    case rel => exact ⟨x2 + 1, by go_num, by omega, by omega, Nat.le_refl _, HK, hn⟩
  have HX2 : Hid (x2 = scanUp (fun x => ltU x dk[a]!) dk j i) := by
    refine (scanUp_end (fun x => ltU x dk[a]!) dk j x2 ?_).symm.trans HU.out
    by_cases h : x2 ≤ j
    · refine .inr ?_
      have h2 : (ltU (G x2) (G a)) = false := by have h3 := hB; rw [decide_eq_true h, Bool.true_and] at h3; exact h3
      exact (by show ltU dk[x2]! dk[a]! = _; rw [← HG.out, ← HG.out]; exact h2)
    · exact .inl h
  clear hB HU
  try go_wp2
  go_loopg [11] j (fun k s wr => ∃ y : Nat, s = .int .i64 (y : Int) ∧ y ≤ j ∧ x2 ≤ y + 1 ∧ y ≤ k ∧ Hid (Srt w0 g off sz dk wr) ∧ Hid (scanDown (fun x => !ltU x dk[a]!) dk x2 y = scanDown (fun x => !ltU x dk[a]!) dk x2 j))
  case atStart => exact ⟨j, by first | rfl | go_num | (congr 1; omega), Nat.le_refl _, by omega, Nat.le_refl _, HK, rfl⟩
  clear HK
  obtain ⟨y2, rfl, hy21, hy22, hy2k, HK, HV⟩ := hrel
  have hcw : ∀ t, t < d.size → wr.cell? ⟨g, off + t, none⟩ = some (.int .u32 (G t : Int)) := fun t ht => by rw [HG.out]; exact HK.out.cell (by omega)
  have hfw : ∀ t, t < d.size → wr.frozen? ⟨g, off + t, none⟩ = false := fun t _ => HK.out.frozen _
  go_upto_region 15 with fail
  go_cut [129] from 115 to 131 (fun s wx => s = .bool (decide (x2 ≤ y2) && !ltU (G y2) (G a)) ∧ ∃ q, wx = wr.drewN q)
  case first =>
    by_cases hxy : x2 ≤ y2
    · have hxz : (x2 : Int) ≤ (y2 : Int) := by omega
      go_quiet (first | (go_at_call 232; refine Calls.quiet_of_same (less_u _ _ _)))
      go_wp2
      go_meet
      exact ⟨by simp [hxy], _, rfl⟩
    · have hxz : ¬ (x2 : Int) ≤ (y2 : Int) := by omega
      go_quiet (first | (go_at_call 232; refine Calls.quiet_of_same (less_u _ _ _)))
      go_wp2
      go_meet
      exact ⟨by simp [hxy], _, rfl⟩
  obtain ⟨rfl, q, rfl⟩ := hcut
  replace HK : Hid (Srt w0 g off sz dk (wr.drewN q)) := HK.out.drewN q
  clear hcw hfw
  generalize wr.drewN q = w6 at *
  cases hB : (decide (x2 ≤ y2) && !ltU (G y2) (G a))
  case true =>
    simp only [Bool.and_eq_true, decide_eq_true_eq] at hB
    have hn := Lib.hid ((scanDown_go (fun x => !ltU x dk[a]!) dk x2 y2 hB.1 (by omega) ((by show (!ltU dk[y2]! dk[a]!) = _; rw [← HG.out, ← HG.out]; exact hB.2))).symm.trans HV.out)
    have hle := hB.1
    clear hB
    go_wp2
    go_roundg (y2 - 1)
    case measure => omega
    case rel => exact ⟨y2 - 1, by congr 1; omega, by omega, by omega, Nat.le_refl _, HK, hn⟩
  have HY2 : Hid (y2 = scanDown (fun x => !ltU x dk[a]!) dk x2 j) := by
    refine (scanDown_end (fun x => !ltU x dk[a]!) dk x2 y2 ?_).symm.trans HV.out
    by_cases h : x2 ≤ y2
    · refine .inr ?_
      have h2 : (!ltU (G y2) (G a)) = false := by have h3 := hB; rw [decide_eq_true h, Bool.true_and] at h3; exact h3
      exact (by show (!ltU dk[y2]! dk[a]!) = _; rw [← HG.out, ← HG.out]; exact h2)
    · exact .inl h
  clear hB HV
  by_cases hgt2 : y2 < x2
  · have hz2 : (y2 : Int) < (x2 : Int) := by omega
    have he2 := HE.out
    rw [part_break ltU a i j dk HX2.out HY2.out hgt2] at he2
    rw [← he2] at he
    clear he2 HE
    go_wp2
    have hcw : ∀ t, t < d.size → w6.cell? ⟨g, off + t, none⟩ = some (.int .u32 (G t : Int)) := fun t ht => by rw [HG.out]; exact HK.out.cell (by omega)
    have hfw : ∀ t, t < d.size → w6.frozen? ⟨g, off + t, none⟩ = false := fun t _ => HK.out.frozen _
    have h2 : Hid (Srt w0 g off sz (swp dk y2 a) ((w6.setCell ⟨g, off + y2, none⟩ (encU (G a))).setCell ⟨g, off + a, none⟩ (encU (G y2))).drew) := by
      rw [HG.out, HG.out]
      exact (HK.out.swap (i := y2) (j := a) (by omega) (by omega)).drew
    go_upto_region 21 with fail
    go_cut [] from 153 to 166 (fun wx => Hid (Srt w0 g off sz (swp dk y2 a) wx))
    case first =>
      by_cases hEq : y2 = a
      · subst hEq
        go_region
        all_goals go_wp2
        go_meet
        exact h2.out
      · go_region
        all_goals go_wp2
        go_meet
        exact h2.out
    clear h2 hcw hfw HK
    have HK := hcut
    clear hcut
    go_wp2
    go_ret2
    rw [he.out]
    exact ⟨rfl, HK.out⟩
  have hz2 : ¬ (y2 : Int) < (x2 : Int) := by omega
  have hlt2 := part_scans_lt ltU a i j dk (by omega) HX2.out HY2.out (by omega)
  have he2 := HE.out
  rw [part_go ltU a i j dk HX2.out HY2.out hgt2] at he2
  replace he2 := Lib.hid he2
  clear HE
  have hcw : ∀ t, t < d.size → w6.cell? ⟨g, off + t, none⟩ = some (.int .u32 (G t : Int)) := fun t ht => by rw [HG.out]; exact HK.out.cell (by omega)
  have hfw : ∀ t, t < d.size → w6.frozen? ⟨g, off + t, none⟩ = false := fun t _ => HK.out.frozen _
  have h2 : Hid (Srt w0 g off sz (swp dk x2 y2) ((w6.setCell ⟨g, off + x2, none⟩ (encU (G y2))).setCell ⟨g, off + y2, none⟩ (encU (G x2))).drew) := by
    rw [HG.out, HG.out]
    exact (HK.out.swap (i := x2) (j := y2) (by omega) (by omega)).drew
  go_upto_region 18 with fail
  go_cut [] from 99 to 152 (fun wx => Hid (Srt w0 g off sz (swp dk x2 y2) wx))
  case first =>
    go_region
    all_goals go_wp2
    go_meet
    exact h2.out
  clear h2 hcw hfw HK
  have HK := hcut
  clear hcut
  go_wp2
  go_roundg (y2 - 1 + 1 - (x2 + 1))
  case measure => omega
  case rel => exact ⟨x2 + 1, y2 - 1, swp dk x2 y2, by go_num, by congr 1; omega, by omega, by omega, by omega, by rw [size_swp]; exact hds, Nat.le_refl _, HK, he2⟩
end Go.Proofs.YtckhkfchgcdajaaGreatDoor

import Derived.Test.YtckhkfchgcdajaaGreatDoorYFxWm
import Derived.Test.YtckhkfchgcdajaaGreatDoorYJxH2
import Derived.Deep.WholeRow
import Derived.Deep.MidRow
import Derived.Lib.Hide
namespace Go.Proofs.YtckhkfchgcdajaaGreatDoor
open Go.Fx Go.RowKit
set_option maxRecDepth 100000 in
set_option maxHeartbeats 2000000 in
theorem growInt_calls {w0 w : World} {F0 : Nat → Prop} {kb : Nat} {cs : List Value} {vI : Value} {L : List (Value × Value × Nat)} {R : List Thing}
    (h : Mid w0 F0 (cellsT kb cs 55 :: ownT 202 3 vI L.length (hold3V L) :: (L.map (filT 3 1 fun n => [mkInt n]) ++ R)) w) (hc : cs[14]? = some vI) (hs : ∀ p ∈ L, ∃ a n c, p.2.1 = .slice a n c) (hm : ∀ p ∈ L, ∃ a n c, p.1 = .slice a n c ∧ n ≤ 1099511627776) :
    Calls Tryz.prog 115 #[.pointer (some ⟨kb, 0, none⟩)] w fun e w' => e = .returned (.tuple #[]) ∧ ∃ L' : List (Value × Value × Nat), Longer L L' ∧
      Mid w0 F0 (cellsT kb cs 55 :: ownT 202 3 vI L'.length (hold3V L') :: (L'.map (lonT 3 1 fun n => [mkInt n]) ++ R)) w' := by
  have HM := Lib.hid h
  obtain ⟨a, c, rfl⟩ := own_slice0 (h.own (List.mem_cons_of_mem _ (List.mem_cons_self ..)))
  clear h
  obtain ⟨len, hlen⟩ : ∃ len, L.length = len := ⟨_, rfl⟩
  rw [hlen] at HM hc
  obtain ⟨i0, hi0, hz0, hz1, hz2⟩ := info_parts infoH3
  have HI := Lib.hid (And.intro hi0 (And.intro hz0 (And.intro hz1 hz2)))
  clear hi0 hz0 hz1 hz2
  go_enter Tryz.func115, Tryz.ntmps115
  go_wp2_with fail
  go_loopg [2, 3, 4, 5] L.length (fun n s2 s3 s4 s5 wr => ∃ Ld Lr : List (Value × Value × Nat), s2 = .int .i64 (Ld.length : Int) ∧ Lr.length ≤ n ∧ Hid (Ld.length + Lr.length = len) ∧ Hid (Ld.map (fun p => (p.1, p.2.2)) ++ Lr.map (fun p => (p.1, p.2.2)) = L.map (fun p => (p.1, p.2.2))) ∧ Hid (∀ p ∈ Ld ++ Lr, ∃ a n c, p.2.1 = .slice a n c) ∧ Hid (∀ p ∈ Lr, ∃ a n c, p.1 = .slice a n c ∧ n ≤ 1099511627776) ∧
    Hid (Mid w0 F0 (cellsT kb cs 55 :: ownT 202 3 (.slice a len c) len (hold3V (Ld ++ Lr)) :: (Ld.map (lonT 3 1 fun n => [mkInt n]) ++ (Lr.map (filT 3 1 fun n => [mkInt n]) ++ R))) wr))
  case atStart => exact ⟨[], L, rfl, Nat.le_refl _, by show 0 + L.length = len; omega, rfl, hs, hm, HM.out⟩
  clear hs hm HM
  obtain ⟨Ld, Lr, rfl, hn, HL, HK, HS, HSm, HM1⟩ := hrel
  have c14 : wr.cell? ⟨kb, 14, none⟩ = some (.slice a len c) := HM1.out.cellAt (List.mem_cons_self ..) hc
  cases Lr with
  | nil =>
    have hz : ¬ (Ld.length : Int) < (len : Int) := by have := HL.out; simp at this; omega
    go_wp2_with fail
    go_end0
    have h1 := HM1.out
    rw [List.append_nil] at h1
    have h2 := HK.out
    rw [List.map_nil, List.append_nil] at h2
    have h3 : Ld.length = len := HL.out
    refine ⟨rfl, Ld, ⟨by omega, h2, fun p hp => HS.out p (by rw [List.append_nil]; exact hp)⟩, ?_⟩
    rw [← h3] at h1 ⊢
    exact h1
  | cons p Lr =>
    obtain ⟨v, lg, q⟩ := p
    have hz : (Ld.length : Int) < (len : Int) := by have := HL.out; simp at this; omega
    obtain ⟨g, rfl, hgl, hr, hmax, hwhole⟩ := hold3_at (l := _) HM1.out (List.mem_cons_of_mem _ (List.mem_cons_self ..))
    obtain ⟨m, HM2⟩ := (Mid.pickZ (X := [_, _]) HM1.out).exElim
    obtain ⟨la, ln, lc, rfl⟩ : ∃ a n c, lg = .slice a n c := HS.out (v, lg, q) (by simp)
    have hsz := size202X v (.slice la ln lc) q
    have hsz1 : (Tryz.prog.info? 202).map (·.size) = some (#[v, .slice la ln lc, .int .i64 (q : Int)] : Array Value).size := by kernel_rfl
    have hz1 := heap_alloc_new wr (Obj.cells #[.slice none 0 0, .slice none 0 0, .int .i64 0] 202)
    obtain ⟨va, vc, hv⟩ := own_slice0 (HM2.own (List.mem_cons_self ..))
    replace hv : v = .slice va m vc := hv
    subst hv
    have hmm : m ≤ 1099511627776 := by
      obtain ⟨a', n', c', e, h⟩ := HSm.out (.slice va m vc, .slice la ln lc, q) (List.mem_cons_self ..)
      injection e with _ e _
      omega
    have HM3 := Lib.hid ((HM2.grown0).alloc [.slice va m vc, .slice la ln lc, .int .i64 (q : Int)] 202)
    have hrow := World.setRow_alloc_new wr #[.slice none 0 0, .slice none 0 0, .int .i64 0] #[.slice va m vc, .slice la ln lc, .int .i64 (q : Int)] 202
    have hhid := Lib.hid (And.intro HL (And.intro HK (And.intro HS HSm)))
    have hd0 : (wr.alloc (Obj.cells #[.slice va m vc, .slice la ln lc, .int .i64 (q : Int)] 202)).cell? ⟨wr.heap.size, 0, none⟩ = some (.slice va m vc) := HM3.out.cellAt (List.mem_cons_self ..) rfl
    clear HM1 HL HM2 hwhole HK HS HSm
    go_wp2_with (first
      | (refine wpList_load_mid rfl 202 _ rfl g (Ld.length * 3) rfl _ _ hr Tryz.underlying202 rfl hsz ?_)
      | (refine wpList_store_row rfl 202 _ _ rfl wr.heap.size _ rfl rfl 202 _ hz1 hsz1 rfl (by simp [Value.oneCell']) ?_; rw [hrow]))
    generalize wr.alloc (Obj.cells #[.slice va m vc, .slice la ln lc, .int .i64 (q : Int)] 202) = wN at *
    generalize wr.heap.size = N at *
    clear hz1 hrow c14 hr hgl hd0
    go_loopg [4, 5] 70 (fun n s4 s5 wr => ∃ j : Nat, s5 = .int .i64 (j : Int) ∧ j ≤ 70 ∧ 70 - j ≤ n ∧ Hid (∃ la lc, s4 = .slice la (m + j) lc) ∧ Hid (Mid w0 F0 (cellsT N [.slice va m vc, .slice la ln lc, .int .i64 (q : Int)] 202 :: grownT 3 1 (.slice va m vc) m (rep m [mkInt q]) s4 (m + j) (rep (m + j) [mkInt q]) :: (cellsT kb cs 55 :: ownT 202 3 (.slice (some ⟨g, 0, none⟩) len c) len (hold3V (Ld ++ (.slice va m vc, .slice la ln lc, q) :: Lr)) :: (Ld.map (lonT 3 1 fun n => [mkInt n]) ++ (Lr.map (filT 3 1 fun n => [mkInt n]) ++ R)))) wr))
    case atStart => exact ⟨0, rfl, Nat.zero_le _, by omega, ⟨va, vc, rfl⟩, HM3.out⟩
    clear HM3 wN
    obtain ⟨j, rfl, hj, hnj, hlj, HMi⟩ := hrel
    by_cases hj70 : j < 70
    case pos =>
      have hz2 : (j : Int) < 70 := by omega
      have d2 : wr.cell? ⟨N, 2, none⟩ = some (.int .i64 (q : Int)) := HMi.out.cellAt (List.mem_cons_self ..) rfl
      have hown : wr.ownsRow 0 3 1 u4 (m + j) (rep (m + j) [mkInt q]) := by
        obtain ⟨F, hF⟩ := HMi.out.get (List.mem_cons_of_mem _ (List.mem_cons_self ..))
        exact hF.2.1
      have HO := Lib.hid hown
      clear hown
      obtain ⟨hi0, hz0, hz1, hz2'⟩ := HI.out
      go_wp2_with fail
      refine (markInt_calls q).mono ?_
      rintro e w6 ⟨rfl, hw6⟩
      rw [hw6]
      clear hw6 w6
      go_wp2_with (at_builtin; refine wpList_append_apart rfl _ _ 102 rfl 3 i0 _ 1 8 Tryz.underlying102 hi0 hz0 hz1 hz2' rfl (by decide) u4 (m + j) _ rfl (HO.out.alloc _) ⟨wr.heap.size, 0, none⟩ 1 1 [mkInt q] rfl rfl (World.news_of_block (cs := #[mkInt q]) (t := 3) (fr := (0, 0)) (heap_alloc_new wr _)) (by simp [Value.oneCell']) (by unfold maxLen; omega) (by omega) ?_; intro v' w2 hown2 hgrow2 hat2)
      have HMe : Hid (Mid w0 F0 (cellsT N [.slice va m vc, .slice la ln lc, .int .i64 (q : Int)] 202 :: grownT 3 1 (.slice va m vc) m (rep m [mkInt q]) v' (m + (j + 1)) (rep (m + (j + 1)) [mkInt q]) :: (cellsT kb cs 55 :: ownT 202 3 (.slice (some ⟨g, 0, none⟩) len c) len (hold3V (Ld ++ (.slice va m vc, .slice la ln lc, q) :: Lr)) :: (Ld.map (lonT 3 1 fun n => [mkInt n]) ++ (Lr.map (filT 3 1 fun n => [mkInt n]) ++ R)))) w2) := by
        have h0 := (HMi.out.below ((Below.refl _ wr).alloc (Nat.le_refl _) (.cells #[mkInt q] 3))).perm (List.Perm.swap ..)
        rw [rep_add m j] at h0 hown2
        have := (h0.grow hown2 hgrow2 hat2).perm (List.Perm.swap ..)
        rw [List.append_assoc, ← rep_succ, ← rep_add, Nat.add_assoc] at this
        exact this
      have hl2 : Hid (∃ la lc, v' = .slice la (m + (j + 1)) lc) := own_slice0 hown2
      clear HMi hown2 hgrow2 hat2 HO hlj d2 hi0 hz0 hz1 hz2'
      go_roundg (70 - (j + 1))
      case measure => omega
      case rel => exact ⟨j + 1, by go_num, by omega, Nat.le_refl _, hl2, HMe⟩
    case neg =>
      have hz2 : ¬ (j : Int) < 70 := by omega
      obtain rfl : j = 70 := by omega
      obtain ⟨la', lc', rfl⟩ := hlj.out
      have h0 := Lib.hid (HMi.out.perm ((List.Perm.swap _ _ _).trans (List.Perm.cons _ (List.Perm.swap _ _ _))))
      have c14 : wr.cell? ⟨kb, 14, none⟩ = some (.slice (some ⟨g, 0, none⟩) len c) := HMi.out.cellAt mem2 hc
      obtain ⟨d1, f1⟩ := HMi.out.ownCell (k := Ld.length * 3 + 1) (g := g) (List.mem_cons_of_mem _ (List.mem_cons_of_mem _ (List.mem_cons_of_mem _ (List.mem_cons_self ..)))) (hold3_get1 Ld Lr _ _ q)
      have HMf := Lib.hid (Mid.setOwnS (k := Ld.length * 3 + 1) (HMi.out.perm (l' := ownT 202 3 (.slice (some ⟨g, 0, none⟩) len c) len (hold3V (Ld ++ (.slice va m vc, .slice la ln lc, q) :: Lr)) :: cellsT N [.slice va m vc, .slice la ln lc, .int .i64 (q : Int)] 202 :: grownT 3 1 (.slice va m vc) m (rep m [mkInt q]) (.slice la' (m + 70) lc') (m + 70) (rep (m + 70) [mkInt q]) :: cellsT kb cs 55 :: (Ld.map (lonT 3 1 fun n => [mkInt n]) ++ (Lr.map (filT 3 1 fun n => [mkInt n]) ++ R))) (List.perm_middle (l₁ := [_, _, _]))) (.slice la' (m + 70) lc'))
      clear HMi h0 hlj
      go_wp2_with fail
      generalize wr.setCell ⟨g, Ld.length * 3 + 1, none⟩ (.slice la' (m + 70) lc') = w7 at *
      clear c14 d1 f1
      go_roundg Lr.length
      case measure => rw [List.length_cons] at hn; omega
      case rel =>
        refine ⟨Ld ++ [(.slice va m vc, .slice la' (m + 70) lc', q)], Lr, by rw [List.length_append]; go_num, Nat.le_refl _, ?_, ?_, ?_, ?_, ?_⟩
        · have := hhid.out.1.out
          show _ = len
          rw [List.length_append, List.length_singleton]
          rw [List.length_cons] at this
          omega
        · have := hhid.out.2.1.out
          show _ = _
          rw [← this, List.map_append, List.map_cons, List.map_cons, List.map_nil, List.append_assoc]
          rfl
        · intro p hp
          rcases List.mem_append.1 hp with hp | hp
          · rcases List.mem_append.1 hp with hp | hp
            · exact hhid.out.2.2.1.out p (List.mem_append_left _ hp)
            · rw [List.mem_singleton.1 hp]
              exact ⟨_, _, _, rfl⟩
          · exact hhid.out.2.2.1.out p (List.mem_append_right _ (List.mem_cons_of_mem _ hp))
        · exact fun p hp => hhid.out.2.2.2.out p (List.mem_cons_of_mem _ hp)
        · have h1 := HMf.out
          rw [hold3_set] at h1
          have h2 := (h1.perm (List.Perm.swap ..)).drop (l1 := [_])
          have h3 := h2.perm (l' := grownT 3 1 (.slice va m vc) m (rep m [mkInt q]) (.slice la' (m + 70) lc') (m + 70) (rep (m + 70) [mkInt q]) :: cellsT kb cs 55 :: ownT 202 3 (.slice (some ⟨g, 0, none⟩) len c) len (hold3V (Ld ++ (.slice va m vc, .slice la' (m + 70) lc', q) :: Lr)) :: (Ld.map (lonT 3 1 fun n => [mkInt n]) ++ (Lr.map (filT 3 1 fun n => [mkInt n]) ++ R))) ((List.Perm.swap _ _ _).trans (List.Perm.cons _ (List.Perm.swap _ _ _)))
          have h4 := Mid.placeZ (T := filT 3 1 fun n => [mkInt n]) (T' := lonT 3 1 fun n => [mkInt n]) (Ld := Ld) (Lr := Lr) (p := (.slice va m vc, .slice la' (m + 70) lc', q)) (X := [_, _]) (Mid.exIntro (f := fun m' : Nat => grownT 3 1 (.slice va m vc) m' (rep m' [mkInt q]) (.slice la' (m + 70) lc') (m' + 70) (rep (m' + 70) [mkInt q])) m h3)
          show Mid _ _ _ _
          rw [List.append_assoc]
          exact h4
set_option maxRecDepth 100000 in
set_option maxHeartbeats 2000000 in
theorem growMask_calls {w0 w : World} {F0 : Nat → Prop} {kb : Nat} {cs : List Value} {vI : Value} {L : List (Value × Value × Nat)} {R : List Thing}
    (h : Mid w0 F0 (cellsT kb cs 55 :: ownT 245 3 vI L.length (hold3V L) :: (L.map (filT 61 1 fun n => [mkMask n]) ++ R)) w) (hc : cs[22]? = some vI) (hs : ∀ p ∈ L, ∃ a n c, p.2.1 = .slice a n c) (hm : ∀ p ∈ L, ∃ a n c, p.1 = .slice a n c ∧ n ≤ 1099511627776) :
    Calls Tryz.prog 123 #[.pointer (some ⟨kb, 0, none⟩)] w fun e w' => e = .returned (.tuple #[]) ∧ ∃ L' : List (Value × Value × Nat), Longer L L' ∧
      Mid w0 F0 (cellsT kb cs 55 :: ownT 245 3 vI L'.length (hold3V L') :: (L'.map (lonT 61 1 fun n => [mkMask n]) ++ R)) w' := by
  have HM := Lib.hid h
  obtain ⟨a, c, rfl⟩ := own_slice0 (h.own (List.mem_cons_of_mem _ (List.mem_cons_self ..)))
  clear h
  obtain ⟨len, hlen⟩ : ∃ len, L.length = len := ⟨_, rfl⟩
  rw [hlen] at HM hc
  obtain ⟨i0, hi0, hz0, hz1, hz2⟩ := info_parts info61
  have HI := Lib.hid (And.intro hi0 (And.intro hz0 (And.intro hz1 hz2)))
  clear hi0 hz0 hz1 hz2
  go_enter Tryz.func123, Tryz.ntmps123
  go_wp2_with fail
  go_loopg [2, 3, 4, 5] L.length (fun n s2 s3 s4 s5 wr => ∃ Ld Lr : List (Value × Value × Nat), s2 = .int .i64 (Ld.length : Int) ∧ Lr.length ≤ n ∧ Hid (Ld.length + Lr.length = len) ∧ Hid (Ld.map (fun p => (p.1, p.2.2)) ++ Lr.map (fun p => (p.1, p.2.2)) = L.map (fun p => (p.1, p.2.2))) ∧ Hid (∀ p ∈ Ld ++ Lr, ∃ a n c, p.2.1 = .slice a n c) ∧ Hid (∀ p ∈ Lr, ∃ a n c, p.1 = .slice a n c ∧ n ≤ 1099511627776) ∧
    Hid (Mid w0 F0 (cellsT kb cs 55 :: ownT 245 3 (.slice a len c) len (hold3V (Ld ++ Lr)) :: (Ld.map (lonT 61 1 fun n => [mkMask n]) ++ (Lr.map (filT 61 1 fun n => [mkMask n]) ++ R))) wr))
  case atStart => exact ⟨[], L, rfl, Nat.le_refl _, by show 0 + L.length = len; omega, rfl, hs, hm, HM.out⟩
  clear hs hm HM
  obtain ⟨Ld, Lr, rfl, hn, HL, HK, HS, HSm, HM1⟩ := hrel
  have c14 : wr.cell? ⟨kb, 22, none⟩ = some (.slice a len c) := HM1.out.cellAt (List.mem_cons_self ..) hc
  cases Lr with
  | nil =>
    have hz : ¬ (Ld.length : Int) < (len : Int) := by have := HL.out; simp at this; omega
    go_wp2_with fail
    go_end0
    have h1 := HM1.out
    rw [List.append_nil] at h1
    have h2 := HK.out
    rw [List.map_nil, List.append_nil] at h2
    have h3 : Ld.length = len := HL.out
    refine ⟨rfl, Ld, ⟨by omega, h2, fun p hp => HS.out p (by rw [List.append_nil]; exact hp)⟩, ?_⟩
    rw [← h3] at h1 ⊢
    exact h1
  | cons p Lr =>
    obtain ⟨v, lg, q⟩ := p
    have hz : (Ld.length : Int) < (len : Int) := by have := HL.out; simp at this; omega
    obtain ⟨g, rfl, hgl, hr, hmax, hwhole⟩ := hold3_at (l := _) HM1.out (List.mem_cons_of_mem _ (List.mem_cons_self ..))
    obtain ⟨m, HM2⟩ := (Mid.pickZ (X := [_, _]) HM1.out).exElim
    obtain ⟨la, ln, lc, rfl⟩ : ∃ a n c, lg = .slice a n c := HS.out (v, lg, q) (by simp)
    have hsz := size245X v (.slice la ln lc) q
    have hsz1 : (Tryz.prog.info? 245).map (·.size) = some (#[v, .slice la ln lc, .int .i64 (q : Int)] : Array Value).size := by kernel_rfl
    have hz1 := heap_alloc_new wr (Obj.cells #[.slice none 0 0, .slice none 0 0, .int .i64 0] 245)
    obtain ⟨va, vc, hv⟩ := own_slice0 (HM2.own (List.mem_cons_self ..))
    replace hv : v = .slice va m vc := hv
    subst hv
    have hmm : m ≤ 1099511627776 := by
      obtain ⟨a', n', c', e, h⟩ := HSm.out (.slice va m vc, .slice la ln lc, q) (List.mem_cons_self ..)
      injection e with _ e _
      omega
    have HM3 := Lib.hid ((HM2.grown0).alloc [.slice va m vc, .slice la ln lc, .int .i64 (q : Int)] 245)
    have hrow := World.setRow_alloc_new wr #[.slice none 0 0, .slice none 0 0, .int .i64 0] #[.slice va m vc, .slice la ln lc, .int .i64 (q : Int)] 245
    have hhid := Lib.hid (And.intro HL (And.intro HK (And.intro HS HSm)))
    have hd0 : (wr.alloc (Obj.cells #[.slice va m vc, .slice la ln lc, .int .i64 (q : Int)] 245)).cell? ⟨wr.heap.size, 0, none⟩ = some (.slice va m vc) := HM3.out.cellAt (List.mem_cons_self ..) rfl
    clear HM1 HL HM2 hwhole HK HS HSm
    go_wp2_with (first
      | (refine wpList_load_mid rfl 245 _ rfl g (Ld.length * 3) rfl _ _ hr Tryz.underlying245 rfl hsz ?_)
      | (refine wpList_store_row rfl 245 _ _ rfl wr.heap.size _ rfl rfl 245 _ hz1 hsz1 rfl (by simp [Value.oneCell']) ?_; rw [hrow]))
    generalize wr.alloc (Obj.cells #[.slice va m vc, .slice la ln lc, .int .i64 (q : Int)] 245) = wN at *
    generalize wr.heap.size = N at *
    clear hz1 hrow c14 hr hgl hd0
    go_loopg [4, 5] 70 (fun n s4 s5 wr => ∃ j : Nat, s5 = .int .i64 (j : Int) ∧ j ≤ 70 ∧ 70 - j ≤ n ∧ Hid (∃ la lc, s4 = .slice la (m + j) lc) ∧ Hid (Mid w0 F0 (cellsT N [.slice va m vc, .slice la ln lc, .int .i64 (q : Int)] 245 :: grownT 61 1 (.slice va m vc) m (rep m [mkMask q]) s4 (m + j) (rep (m + j) [mkMask q]) :: (cellsT kb cs 55 :: ownT 245 3 (.slice (some ⟨g, 0, none⟩) len c) len (hold3V (Ld ++ (.slice va m vc, .slice la ln lc, q) :: Lr)) :: (Ld.map (lonT 61 1 fun n => [mkMask n]) ++ (Lr.map (filT 61 1 fun n => [mkMask n]) ++ R)))) wr))
    case atStart => exact ⟨0, rfl, Nat.zero_le _, by omega, ⟨va, vc, rfl⟩, HM3.out⟩
    clear HM3 wN
    obtain ⟨j, rfl, hj, hnj, hlj, HMi⟩ := hrel
    by_cases hj70 : j < 70
    case pos =>
      have hz2 : (j : Int) < 70 := by omega
      have d2 : wr.cell? ⟨N, 2, none⟩ = some (.int .i64 (q : Int)) := HMi.out.cellAt (List.mem_cons_self ..) rfl
      have hown : wr.ownsRow 0 61 1 u4 (m + j) (rep (m + j) [mkMask q]) := by
        obtain ⟨F, hF⟩ := HMi.out.get (List.mem_cons_of_mem _ (List.mem_cons_self ..))
        exact hF.2.1
      have HO := Lib.hid hown
      clear hown
      obtain ⟨hi0, hz0, hz1, hz2'⟩ := HI.out
      go_wp2_with fail
      refine (markMask_calls q).mono ?_
      rintro e w6 ⟨rfl, hw6⟩
      rw [hw6]
      clear hw6 w6
      go_wp2_with (at_builtin; refine wpList_append_apart rfl _ _ 119 rfl 61 i0 _ 1 4 Tryz.underlying119 hi0 hz0 hz1 hz2' rfl (by decide) u4 (m + j) _ rfl (HO.out.alloc _) ⟨wr.heap.size, 0, none⟩ 1 1 [mkMask q] rfl rfl (World.news_of_block (cs := #[mkMask q]) (t := 61) (fr := (0, 0)) (heap_alloc_new wr _)) (by simp [Value.oneCell']) (by unfold maxLen; omega) (by omega) ?_; intro v' w2 hown2 hgrow2 hat2)
      have HMe : Hid (Mid w0 F0 (cellsT N [.slice va m vc, .slice la ln lc, .int .i64 (q : Int)] 245 :: grownT 61 1 (.slice va m vc) m (rep m [mkMask q]) v' (m + (j + 1)) (rep (m + (j + 1)) [mkMask q]) :: (cellsT kb cs 55 :: ownT 245 3 (.slice (some ⟨g, 0, none⟩) len c) len (hold3V (Ld ++ (.slice va m vc, .slice la ln lc, q) :: Lr)) :: (Ld.map (lonT 61 1 fun n => [mkMask n]) ++ (Lr.map (filT 61 1 fun n => [mkMask n]) ++ R)))) w2) := by
        have h0 := (HMi.out.below ((Below.refl _ wr).alloc (Nat.le_refl _) (.cells #[mkMask q] 61))).perm (List.Perm.swap ..)
        rw [rep_add m j] at h0 hown2
        have := (h0.grow hown2 hgrow2 hat2).perm (List.Perm.swap ..)
        rw [List.append_assoc, ← rep_succ, ← rep_add, Nat.add_assoc] at this
        exact this
      have hl2 : Hid (∃ la lc, v' = .slice la (m + (j + 1)) lc) := own_slice0 hown2
      clear HMi hown2 hgrow2 hat2 HO hlj d2 hi0 hz0 hz1 hz2'
      go_roundg (70 - (j + 1))
      case measure => omega
      case rel => exact ⟨j + 1, by go_num, by omega, Nat.le_refl _, hl2, HMe⟩
    case neg =>
      have hz2 : ¬ (j : Int) < 70 := by omega
      obtain rfl : j = 70 := by omega
      obtain ⟨la', lc', rfl⟩ := hlj.out
      have h0 := Lib.hid (HMi.out.perm ((List.Perm.swap _ _ _).trans (List.Perm.cons _ (List.Perm.swap _ _ _))))
      have c14 : wr.cell? ⟨kb, 22, none⟩ = some (.slice (some ⟨g, 0, none⟩) len c) := HMi.out.cellAt mem2 hc
      obtain ⟨d1, f1⟩ := HMi.out.ownCell (k := Ld.length * 3 + 1) (g := g) (List.mem_cons_of_mem _ (List.mem_cons_of_mem _ (List.mem_cons_of_mem _ (List.mem_cons_self ..)))) (hold3_get1 Ld Lr _ _ q)
      have HMf := Lib.hid (Mid.setOwnS (k := Ld.length * 3 + 1) (HMi.out.perm (l' := ownT 245 3 (.slice (some ⟨g, 0, none⟩) len c) len (hold3V (Ld ++ (.slice va m vc, .slice la ln lc, q) :: Lr)) :: cellsT N [.slice va m vc, .slice la ln lc, .int .i64 (q : Int)] 245 :: grownT 61 1 (.slice va m vc) m (rep m [mkMask q]) (.slice la' (m + 70) lc') (m + 70) (rep (m + 70) [mkMask q]) :: cellsT kb cs 55 :: (Ld.map (lonT 61 1 fun n => [mkMask n]) ++ (Lr.map (filT 61 1 fun n => [mkMask n]) ++ R))) (List.perm_middle (l₁ := [_, _, _]))) (.slice la' (m + 70) lc'))
      clear HMi h0 hlj
      go_wp2_with fail
      generalize wr.setCell ⟨g, Ld.length * 3 + 1, none⟩ (.slice la' (m + 70) lc') = w7 at *
      clear c14 d1 f1
      go_roundg Lr.length
      case measure => rw [List.length_cons] at hn; omega
      case rel =>
        refine ⟨Ld ++ [(.slice va m vc, .slice la' (m + 70) lc', q)], Lr, by rw [List.length_append]; go_num, Nat.le_refl _, ?_, ?_, ?_, ?_, ?_⟩
        · have := hhid.out.1.out
          show _ = len
          rw [List.length_append, List.length_singleton]
          rw [List.length_cons] at this
          omega
        · have := hhid.out.2.1.out
          show _ = _
          rw [← this, List.map_append, List.map_cons, List.map_cons, List.map_nil, List.append_assoc]
          rfl
        · intro p hp
          rcases List.mem_append.1 hp with hp | hp
          · rcases List.mem_append.1 hp with hp | hp
            · exact hhid.out.2.2.1.out p (List.mem_append_left _ hp)
            · rw [List.mem_singleton.1 hp]
              exact ⟨_, _, _, rfl⟩
          · exact hhid.out.2.2.1.out p (List.mem_append_right _ (List.mem_cons_of_mem _ hp))
        · exact fun p hp => hhid.out.2.2.2.out p (List.mem_cons_of_mem _ hp)
        · have h1 := HMf.out
          rw [hold3_set] at h1
          have h2 := (h1.perm (List.Perm.swap ..)).drop (l1 := [_])
          have h3 := h2.perm (l' := grownT 61 1 (.slice va m vc) m (rep m [mkMask q]) (.slice la' (m + 70) lc') (m + 70) (rep (m + 70) [mkMask q]) :: cellsT kb cs 55 :: ownT 245 3 (.slice (some ⟨g, 0, none⟩) len c) len (hold3V (Ld ++ (.slice va m vc, .slice la' (m + 70) lc', q) :: Lr)) :: (Ld.map (lonT 61 1 fun n => [mkMask n]) ++ (Lr.map (filT 61 1 fun n => [mkMask n]) ++ R))) ((List.Perm.swap _ _ _).trans (List.Perm.cons _ (List.Perm.swap _ _ _)))
          have h4 := Mid.placeZ (T := filT 61 1 fun n => [mkMask n]) (T' := lonT 61 1 fun n => [mkMask n]) (Ld := Ld) (Lr := Lr) (p := (.slice va m vc, .slice la' (m + 70) lc', q)) (X := [_, _]) (Mid.exIntro (f := fun m' : Nat => grownT 61 1 (.slice va m vc) m' (rep m' [mkMask q]) (.slice la' (m + 70) lc') (m' + 70) (rep (m' + 70) [mkMask q])) m h3)
          show Mid _ _ _ _
          rw [List.append_assoc]
          exact h4
end Go.Proofs.YtckhkfchgcdajaaGreatDoor

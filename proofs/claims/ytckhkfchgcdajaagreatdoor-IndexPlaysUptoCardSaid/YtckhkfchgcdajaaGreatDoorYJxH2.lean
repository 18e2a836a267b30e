import Derived.Test.YtckhkfchgcdajaaGreatDoorYFxWm
import Derived.Test.YtckhkfchgcdajaaGreatDoorYJxBa
import Derived.Deep.WholeRow
import Derived.Deep.MidRow
import Derived.Lib.Hide
namespace Go.Proofs.YtckhkfchgcdajaaGreatDoor
open Go.Fx Go.RowKit
abbrev mkInt (n : Nat) : Value := .int .i64 (wrap64 (-1000 - (n : Int)))
theorem markInt_calls {w : World} (n : Nat) : Calls Tryz.prog 84 #[.int .i64 (n : Int)] w fun e w' => e = .returned (mkInt n) ∧ w' = w := by
  go_enter Tryz.func84, Tryz.ntmps84
  go_wp2_with fail
  exact bodyPost_ret (v := mkInt n) (by simp [results, Tryz.results84, go_sem]) rfl ⟨rfl, rfl⟩
theorem isInt_calls {w : World} (n : Nat) : Calls Tryz.prog 190 #[mkInt n, .int .i64 (n : Int)] w fun e w' => e = .returned (.bool true) ∧ w' = w := by
  go_enter Tryz.func190, Tryz.ntmps190
  go_wp2_with fail
  exact bodyPost_ret (v := .bool true) (by simp [results, Tryz.results190, go_sem]) rfl ⟨rfl, rfl⟩
theorem infoH3 : (Tryz.prog.info? 3).map (fun i => (i.zero, i.size, i.bytes)) = some (some (.int .i64 0), 1, 8) := by kernel_rfl
theorem size202X (v lg : Value) (q : Nat) : (Tryz.prog.info? 202).map (·.size) = some [v, lg, .int .i64 (q : Int)].length := by kernel_rfl
abbrev mkMask (n : Nat) : Value := .int .u32 (wrap64 (1073741824 + (n : Int)) % 4294967296)
theorem markMask_calls {w : World} (n : Nat) : Calls Tryz.prog 92 #[.int .i64 (n : Int)] w fun e w' => e = .returned (mkMask n) ∧ w' = w := by
  go_enter Tryz.func92, Tryz.ntmps92
  go_wp2_with fail
  exact bodyPost_ret (v := mkMask n) (by simp [results, Tryz.results92, go_sem]) rfl ⟨rfl, rfl⟩
theorem isMask_calls {w : World} (n : Nat) : Calls Tryz.prog 198 #[mkMask n, .int .i64 (n : Int)] w fun e w' => e = .returned (.bool true) ∧ w' = w := by
  go_enter Tryz.func198, Tryz.ntmps198
  go_wp2_with fail
  exact bodyPost_ret (v := .bool true) (by simp [results, Tryz.results198, go_sem]) rfl ⟨rfl, rfl⟩
theorem info61 : (Tryz.prog.info? 61).map (fun i => (i.zero, i.size, i.bytes)) = some (some (.int .u32 0), 1, 4) := by kernel_rfl
theorem size245X (v lg : Value) (q : Nat) : (Tryz.prog.info? 245).map (·.size) = some [v, lg, .int .i64 (q : Int)].length := by kernel_rfl
set_option maxRecDepth 100000 in
set_option maxHeartbeats 2000000 in
theorem fillInt_calls {w0 w : World} {F0 : Nat → Prop} {kb : Nat} {cs : List Value} {vI : Value} {L : List (Value × Value × Nat)} {R : List Thing}
    (h : Mid w0 F0 (cellsT kb cs 55 :: ownT 202 3 vI L.length (hold3V L) :: (L.map (rawT 3 1) ++ R)) w) (hc : cs[14]? = some vI) (hs : ∀ p ∈ L, ∃ a n c, p.2.1 = .slice a n c) :
    Calls Tryz.prog 33 #[.pointer (some ⟨kb, 0, none⟩)] w fun e w' => e = .returned (.tuple #[]) ∧ Mid w0 F0 (cellsT kb cs 55 :: ownT 202 3 vI L.length (hold3V L) :: (L.map (filT 3 1 fun n => [mkInt n]) ++ R)) w' := by
  have HM := Lib.hid h
  obtain ⟨a, c, rfl⟩ := own_slice0 (h.own (List.mem_cons_of_mem _ (List.mem_cons_self ..)))
  clear h
  go_enter Tryz.func33, Tryz.ntmps33
  go_wp2_with fail
  go_loopg [2, 3, 4] L.length (fun n s2 s3 s4 wr => ∃ Ld Lr, s2 = .int .i64 (Ld.length : Int) ∧ Lr.length ≤ n ∧ Hid (L = Ld ++ Lr) ∧
    Hid (Mid w0 F0 (cellsT kb cs 55 :: ownT 202 3 (.slice a L.length c) L.length (hold3V (Ld ++ Lr)) :: (Ld.map (filT 3 1 fun n => [mkInt n]) ++ (Lr.map (rawT 3 1) ++ R))) wr))
  case atStart => exact ⟨[], L, rfl, Nat.le_refl _, rfl, HM.out⟩
  obtain ⟨Ld, Lr, rfl, hn, HL, HM1⟩ := hrel
  have c14 : wr.cell? ⟨kb, 14, none⟩ = some (.slice a L.length c) := HM1.out.cellAt (List.mem_cons_self ..) hc
  have hlen := Lib.hid (congrArg List.length HL.out)
  cases Lr with
  | nil =>
    have hz : ¬ (Ld.length : Int) < (L.length : Int) := by have := hlen.out; simp at this; omega
    go_wp2_with fail
    go_end0
    refine ⟨rfl, ?_⟩
    have := HM1.out
    rw [List.append_nil] at this
    have e : L = Ld := by have := HL.out; rwa [List.append_nil] at this
    rw [e]
    rw [e] at this
    exact this
  | cons p Lr =>
    obtain ⟨v, lg, q⟩ := p
    have hz : (Ld.length : Int) < (L.length : Int) := by have := hlen.out; simp at this; omega
    obtain ⟨g, rfl, hgl, hr, hmax, hwhole⟩ := hold3_at (l := _) HM1.out (List.mem_cons_of_mem _ (List.mem_cons_self ..))
    obtain ⟨⟨m, xs⟩, HM2⟩ := (Mid.pickZ (X := [_, _]) HM1.out).exElim
    obtain ⟨la, ln, lc, rfl⟩ : ∃ a n c, lg = .slice a n c := hs (v, lg, q) (by rw [HL.out]; simp)
    have hsz := size202X v (.slice la ln lc) q
    have hsz1 : (Tryz.prog.info? 202).map (·.size) = some (#[v, .slice la ln lc, .int .i64 (q : Int)] : Array Value).size := by kernel_rfl
    have hz1 := heap_alloc_new wr (Obj.cells #[.slice none 0 0, .slice none 0 0, .int .i64 0] 202)
    obtain ⟨va, vc, rfl⟩ := own_slice0 (HM2.own (List.mem_cons_self ..))
    have HM3 := Lib.hid (HM2.alloc [.slice va m vc, .slice la ln lc, .int .i64 (q : Int)] 202)
    have hrow := World.setRow_alloc_new wr #[.slice none 0 0, .slice none 0 0, .int .i64 0] #[.slice va m vc, .slice la ln lc, .int .i64 (q : Int)] 202
    have hhid := Lib.hid (And.intro HM1 HL)
    clear HM1 HL HM2 HM hwhole
    go_wp2_with (first
      | (refine wpList_load_mid rfl 202 _ rfl g (Ld.length * 3) rfl _ _ hr Tryz.underlying202 rfl hsz ?_)
      | (refine wpList_store_row rfl 202 _ _ rfl wr.heap.size _ rfl rfl 202 _ hz1 hsz1 rfl (by simp [Value.oneCell']) ?_; rw [hrow]))
    have hNlt : wr.heap.size < (wr.alloc (Obj.cells #[.slice va m vc, .slice la ln lc, .int .i64 (q : Int)] 202)).heap.size := by rw [alloc_size]; omega
    generalize wr.alloc (Obj.cells #[.slice va m vc, .slice la ln lc, .int .i64 (q : Int)] 202) = wN at *
    generalize wr.heap.size = N at *
    clear hz1 hrow c14 hr hgl
    have hm : m ≤ 9223372036854775807 := by
      have := HM3.out.own (List.mem_cons_of_mem _ (List.mem_cons_self ..))
      obtain ⟨_, ⟨_, h0⟩ | ⟨_, _, _, _, _, _, h3, h4, _⟩⟩ := this
      · omega
      · unfold maxLen at h4; omega
    have hxs : xs.length = m := by have := (HM3.out.own (List.mem_cons_of_mem _ (List.mem_cons_self ..))).1; omega
    go_loopg [4] m (fun n s4 wr => ∃ j : Nat, s4 = .int .i64 (j : Int) ∧ j ≤ m ∧ m - j ≤ n ∧ Hid (Mid w0 F0 (cellsT N [.slice va m vc, .slice la ln lc, .int .i64 (q : Int)] 202 :: ownT 3 1 (.slice va m vc) m (rep j [mkInt q] ++ xs.drop j) :: (cellsT kb cs 55 :: ownT 202 3 (.slice (some ⟨g, 0, none⟩) L.length c) L.length (hold3V (Ld ++ (.slice va m vc, .slice la ln lc, q) :: Lr)) :: (Ld.map (filT 3 1 fun n => [mkInt n]) ++ (Lr.map (rawT 3 1) ++ R)))) wr))
    case atStart => exact ⟨0, rfl, Nat.zero_le _, by omega, HM3.out⟩
    clear HM3 hNlt wN
    obtain ⟨j, rfl, hj, hnj, HMi⟩ := hrel
    have d0 : wr.cell? ⟨N, 0, none⟩ = some (.slice va m vc) := HMi.out.cellAt (List.mem_cons_self ..) rfl
    have d2 : wr.cell? ⟨N, 2, none⟩ = some (.int .i64 (q : Int)) := HMi.out.cellAt (List.mem_cons_self ..) rfl
    by_cases hjm : j < m
    case neg =>
      have hz2 : ¬ (j : Int) < (m : Int) := by omega
      obtain rfl : j = m := by omega
      go_wp2_with fail
      go_roundg Lr.length
      case measure => rw [List.length_cons] at hn; omega
      case rel =>
        refine ⟨Ld ++ [(.slice va j vc, .slice la ln lc, q)], Lr, by rw [List.length_append]; go_num, Nat.le_refl _, ?_, ?_⟩
        · show L = _
          rw [hhid.out.2.out, List.append_assoc]
          rfl
        · have h1 := HMi.out
          rw [List.drop_eq_nil_of_le (by omega), List.append_nil] at h1
          have h2 : Mid w0 F0 ([cellsT N [.slice va j vc, .slice la ln lc, .int .i64 (q : Int)] 202] ++ (ownT 3 1 (.slice va j vc) j (rep j [mkInt q]) :: (cellsT kb cs 55 :: ownT 202 3 (.slice (some ⟨g, 0, none⟩) L.length c) L.length (hold3V (Ld ++ (.slice va j vc, .slice la ln lc, q) :: Lr)) :: (Ld.map (filT 3 1 fun n => [mkInt n]) ++ (Lr.map (rawT 3 1) ++ R))))) wr := h1
          have h3 := h2.drop
          have h4 := Mid.placeZ (T := rawT 3 1) (T' := filT 3 1 fun n => [mkInt n]) (Ld := Ld) (Lr := Lr) (p := (.slice va j vc, .slice la ln lc, q)) (X := [_, _]) (Mid.exIntro (f := fun m : Nat => ownT 3 1 (.slice va j vc) m (rep m [mkInt q])) j h3)
          show Mid _ _ _ _
          rw [List.append_assoc]
          exact h4
    case pos =>
      have hz2 : (j : Int) < (m : Int) := by omega
      have hown := HMi.out.own (List.mem_cons_of_mem _ (List.mem_cons_self ..))
      obtain ⟨hxl, ⟨_, h0⟩ | ⟨gv, cap, cur, hv, _, hgv, h3, h4, h5, h6⟩⟩ := hown
      · omega
      injection hv with hva _ hvc
      subst hva
      subst hvc
      have hcj : ∃ u, wr.cell? ⟨gv, j, none⟩ = some u := by
        simp only [World.cell?, hgv]
        exact ⟨_, Array.getElem?_eq_getElem (by omega)⟩
      obtain ⟨u, hcj⟩ := hcj
      have hfj : wr.frozen? ⟨gv, j, none⟩ = false := by simp [World.frozen?, hgv]
      have hNg : N ≠ gv := by
        intro e
        have := HMi.out.cells (List.mem_cons_self ..)
        rw [e, hgv] at this
        injection this with this
        injection this with _ ht _
        exact absurd ht (by decide)
      have HI := Lib.hid (And.intro hgv (And.intro hxl (And.intro h5 h6)))
      clear hgv hxl h3 h4 h5 h6
      have hS : (fun w' : World => w'.cell? ⟨N, 0, none⟩ = some (.slice (some ⟨gv, 0, none⟩) m vc) ∧ w'.cell? ⟨N, 2, none⟩ = some (.int .i64 (q : Int))) wr.drew := ⟨d0, d2⟩
      go_wp2_with fail
      refine wp_region_held_drew (S := (fun w' : World => w'.cell? ⟨N, 0, none⟩ = some (.slice (some ⟨gv, 0, none⟩) m vc) ∧ w'.cell? ⟨N, 2, none⟩ = some (.int .i64 (q : Int)))) (by kernel_rfl) hS (fun hS => ?_)
      have hMW : Hid (Mid w0 F0 (cellsT N [.slice (some ⟨gv, 0, none⟩) m vc, .slice la ln lc, .int .i64 (q : Int)] 202 :: ownT 3 1 (.slice (some ⟨gv, 0, none⟩) m vc) m (rep j [mkInt q] ++ xs.drop j) :: (cellsT kb cs 55 :: ownT 202 3 (.slice (some ⟨g, 0, none⟩) L.length c) L.length (hold3V (Ld ++ (.slice (some ⟨gv, 0, none⟩) m vc, .slice la ln lc, q) :: Lr)) :: (Ld.map (filT 3 1 fun n => [mkInt n]) ++ (Lr.map (rawT 3 1) ++ R)))) wr.drew) := HMi.out.below (below_drew' (Below.refl _ _))
      replace hcj : wr.drew.cell? ⟨gv, j, none⟩ = some u := hcj
      replace hfj : wr.drew.frozen? ⟨gv, j, none⟩ = false := hfj
      clear HMi d0 d2 HI
      generalize wr.drew = W5 at *
      refine wpAnyH_take (i := 0) (v := ?_) rfl (by kernel_rfl) (by kernel_rfl) (by kernel_rfl) (fun _ _ _ h => h) (Or.inl ⟨by rfl, ?_⟩) (by assumption) ?_
      rotate_left
      · intro w hSw; (try dsimp only at hSw); go_simp; try with_reducible rfl
      try simp only [Act.put, List.getElem_toArray, List.getElem_cons_succ, List.getElem_cons_zero, List.setIfInBounds_toArray, List.set_cons_zero, List.set_cons_succ]
      refine wpAnyH_take (i := 1) (v := ?_) rfl (by kernel_rfl) (by kernel_rfl) (by kernel_rfl) (fun _ _ _ h => h) (Or.inl ⟨by rfl, ?_⟩) (by assumption) ?_
      rotate_left
      · intro w hSw; (try dsimp only at hSw); go_simp; try with_reducible rfl
      try simp only [Act.put, List.getElem_toArray, List.getElem_cons_succ, List.getElem_cons_zero, List.setIfInBounds_toArray, List.set_cons_zero, List.set_cons_succ]
      refine wpAnyH_take (i := 2) (v := ?_) rfl (by kernel_rfl) (by kernel_rfl) (by kernel_rfl) (fun _ _ _ h => h) (Or.inl ⟨by rfl, ?_⟩) (by assumption) ?_
      rotate_left
      · intro w hSw; (try dsimp only at hSw); go_simp; try with_reducible rfl
      try simp only [Act.put, List.getElem_toArray, List.getElem_cons_succ, List.getElem_cons_zero, List.setIfInBounds_toArray, List.set_cons_zero, List.set_cons_succ]
      refine wpAnyH_take (i := 3) (v := ?_) rfl (by kernel_rfl) (by kernel_rfl) (by kernel_rfl) (fun _ _ _ h => h) (Or.inl ⟨by rfl, ?_⟩) (by assumption) ?_
      rotate_left
      · intro w hSw; (try dsimp only at hSw); go_simp; try with_reducible rfl
      try simp only [Act.put, List.getElem_toArray, List.getElem_cons_succ, List.getElem_cons_zero, List.setIfInBounds_toArray, List.set_cons_zero, List.set_cons_succ]
      refine wpAnyH_take (i := 4) (v := ?_) rfl (by kernel_rfl) (by kernel_rfl) (by kernel_rfl) (fun _ _ _ h => h) (Or.inl ⟨by rfl, ?_⟩) (by assumption) ?_
      rotate_left
      · intro w hSw; (try dsimp only at hSw); go_simp; try with_reducible rfl
      try simp only [Act.put, List.getElem_toArray, List.getElem_cons_succ, List.getElem_cons_zero, List.setIfInBounds_toArray, List.set_cons_zero, List.set_cons_succ]
      refine wpAnyH_ready (rs := [5]) (by kernel_rfl) (by simp) (AllReadyH.cons rfl (fun K hK => ?_) AllReadyH.nil)
      rw [if_pos (by rfl)]
      go_simp
      refine (markInt_calls q).mono ?_
      rintro e W6 ⟨rfl, rfl⟩
      refine hK.out _ _ hS (fun _ => ?_)
      clear hK K
      try simp only [Act.put, List.getElem_toArray, List.getElem_cons_succ, List.getElem_cons_zero, List.setIfInBounds_toArray, List.set_cons_zero, List.set_cons_succ]
      refine wpAnyH_take (i := 6) (v := ?_) rfl (by kernel_rfl) (by kernel_rfl) (by kernel_rfl) (fun _ _ _ h => h) (Or.inl ⟨by rfl, ?_⟩) (by assumption) ?_
      rotate_left
      · intro w hSw; (try dsimp only at hSw); go_simp; try with_reducible rfl
      try simp only [Act.put, List.getElem_toArray, List.getElem_cons_succ, List.getElem_cons_zero, List.setIfInBounds_toArray, List.set_cons_zero, List.set_cons_succ]
      refine wpAnyH_ready (rs := [7]) (by kernel_rfl) (by simp) (AllReadyH.cons rfl (fun K hK => ?_) AllReadyH.nil)
      rw [if_pos (by rfl)]
      go_simp
      have t0 : (W6.setCell ⟨gv, j, none⟩ (mkInt q)).cell? ⟨N, 0, none⟩ = some (.slice (some ⟨gv, 0, none⟩) m vc) := (World.cell?_of_block (a := ⟨N, 0, none⟩) (Below.heap_setCell _ _ _ _ hNg)).trans hS.1
      have t2 : (W6.setCell ⟨gv, j, none⟩ (mkInt q)).cell? ⟨N, 2, none⟩ = some (.int .i64 (q : Int)) := (World.cell?_of_block (a := ⟨N, 2, none⟩) (Below.heap_setCell _ _ _ _ hNg)).trans hS.2
      refine hK.out _ _ ⟨t0, t2⟩ (fun _ => ?_)
      clear hK K
      have HMe := Lib.hid ((hMW.out.perm (List.Perm.swap ..)).setOwn hjm (mkInt q))
      clear hMW
      refine wpAnyH_done (by kernel_rfl) ?_ _
      generalize W6.setCell ⟨gv, j, none⟩ (mkInt q) = W7 at *
      clear hS hcj hfj t0 t2
      go_wp2_with fail
      go_roundg (m - (j + 1))
      case measure => omega
      case rel =>
        refine ⟨j + 1, by go_num, by omega, Nat.le_refl _, ?_⟩
        show Mid _ _ _ _
        have h1 := HMe.out.perm (List.Perm.swap ..)
        rw [rep_set1 (by omega)] at h1
        exact h1
set_option maxRecDepth 100000 in
set_option maxHeartbeats 2000000 in
theorem fillMask_calls {w0 w : World} {F0 : Nat → Prop} {kb : Nat} {cs : List Value} {vI : Value} {L : List (Value × Value × Nat)} {R : List Thing}
    (h : Mid w0 F0 (cellsT kb cs 55 :: ownT 245 3 vI L.length (hold3V L) :: (L.map (rawT 61 1) ++ R)) w) (hc : cs[22]? = some vI) (hs : ∀ p ∈ L, ∃ a n c, p.2.1 = .slice a n c) :
    Calls Tryz.prog 41 #[.pointer (some ⟨kb, 0, none⟩)] w fun e w' => e = .returned (.tuple #[]) ∧ Mid w0 F0 (cellsT kb cs 55 :: ownT 245 3 vI L.length (hold3V L) :: (L.map (filT 61 1 fun n => [mkMask n]) ++ R)) w' := by
  have HM := Lib.hid h
  obtain ⟨a, c, rfl⟩ := own_slice0 (h.own (List.mem_cons_of_mem _ (List.mem_cons_self ..)))
  clear h
  go_enter Tryz.func41, Tryz.ntmps41
  go_wp2_with fail
  go_loopg [2, 3, 4] L.length (fun n s2 s3 s4 wr => ∃ Ld Lr, s2 = .int .i64 (Ld.length : Int) ∧ Lr.length ≤ n ∧ Hid (L = Ld ++ Lr) ∧
    Hid (Mid w0 F0 (cellsT kb cs 55 :: ownT 245 3 (.slice a L.length c) L.length (hold3V (Ld ++ Lr)) :: (Ld.map (filT 61 1 fun n => [mkMask n]) ++ (Lr.map (rawT 61 1) ++ R))) wr))
  case atStart => exact ⟨[], L, rfl, Nat.le_refl _, rfl, HM.out⟩
  obtain ⟨Ld, Lr, rfl, hn, HL, HM1⟩ := hrel
  have c14 : wr.cell? ⟨kb, 22, none⟩ = some (.slice a L.length c) := HM1.out.cellAt (List.mem_cons_self ..) hc
  have hlen := Lib.hid (congrArg List.length HL.out)
  cases Lr with
  | nil =>
    have hz : ¬ (Ld.length : Int) < (L.length : Int) := by have := hlen.out; simp at this; omega
    go_wp2_with fail
    go_end0
    refine ⟨rfl, ?_⟩
    have := HM1.out
    rw [List.append_nil] at this
    have e : L = Ld := by have := HL.out; rwa [List.append_nil] at this
    rw [e]
    rw [e] at this
    exact this
  | cons p Lr =>
    obtain ⟨v, lg, q⟩ := p
    have hz : (Ld.length : Int) < (L.length : Int) := by have := hlen.out; simp at this; omega
    obtain ⟨g, rfl, hgl, hr, hmax, hwhole⟩ := hold3_at (l := _) HM1.out (List.mem_cons_of_mem _ (List.mem_cons_self ..))
    obtain ⟨⟨m, xs⟩, HM2⟩ := (Mid.pickZ (X := [_, _]) HM1.out).exElim
    obtain ⟨la, ln, lc, rfl⟩ : ∃ a n c, lg = .slice a n c := hs (v, lg, q) (by rw [HL.out]; simp)
    have hsz := size245X v (.slice la ln lc) q
    have hsz1 : (Tryz.prog.info? 245).map (·.size) = some (#[v, .slice la ln lc, .int .i64 (q : Int)] : Array Value).size := by kernel_rfl
    have hz1 := heap_alloc_new wr (Obj.cells #[.slice none 0 0, .slice none 0 0, .int .i64 0] 245)
    obtain ⟨va, vc, rfl⟩ := own_slice0 (HM2.own (List.mem_cons_self ..))
    have HM3 := Lib.hid (HM2.alloc [.slice va m vc, .slice la ln lc, .int .i64 (q : Int)] 245)
    have hrow := World.setRow_alloc_new wr #[.slice none 0 0, .slice none 0 0, .int .i64 0] #[.slice va m vc, .slice la ln lc, .int .i64 (q : Int)] 245
    have hhid := Lib.hid (And.intro HM1 HL)
    clear HM1 HL HM2 HM hwhole
    go_wp2_with (first
      | (refine wpList_load_mid rfl 245 _ rfl g (Ld.length * 3) rfl _ _ hr Tryz.underlying245 rfl hsz ?_)
      | (refine wpList_store_row rfl 245 _ _ rfl wr.heap.size _ rfl rfl 245 _ hz1 hsz1 rfl (by simp [Value.oneCell']) ?_; rw [hrow]))
    have hNlt : wr.heap.size < (wr.alloc (Obj.cells #[.slice va m vc, .slice la ln lc, .int .i64 (q : Int)] 245)).heap.size := by rw [alloc_size]; omega
    generalize wr.alloc (Obj.cells #[.slice va m vc, .slice la ln lc, .int .i64 (q : Int)] 245) = wN at *
    generalize wr.heap.size = N at *
    clear hz1 hrow c14 hr hgl
    have hm : m ≤ 9223372036854775807 := by
      have := HM3.out.own (List.mem_cons_of_mem _ (List.mem_cons_self ..))
      obtain ⟨_, ⟨_, h0⟩ | ⟨_, _, _, _, _, _, h3, h4, _⟩⟩ := this
      · omega
      · unfold maxLen at h4; omega
    have hxs : xs.length = m := by have := (HM3.out.own (List.mem_cons_of_mem _ (List.mem_cons_self ..))).1; omega
    go_loopg [4] m (fun n s4 wr => ∃ j : Nat, s4 = .int .i64 (j : Int) ∧ j ≤ m ∧ m - j ≤ n ∧ Hid (Mid w0 F0 (cellsT N [.slice va m vc, .slice la ln lc, .int .i64 (q : Int)] 245 :: ownT 61 1 (.slice va m vc) m (rep j [mkMask q] ++ xs.drop j) :: (cellsT kb cs 55 :: ownT 245 3 (.slice (some ⟨g, 0, none⟩) L.length c) L.length (hold3V (Ld ++ (.slice va m vc, .slice la ln lc, q) :: Lr)) :: (Ld.map (filT 61 1 fun n => [mkMask n]) ++ (Lr.map (rawT 61 1) ++ R)))) wr))
    case atStart => exact ⟨0, rfl, Nat.zero_le _, by omega, HM3.out⟩
    clear HM3 hNlt wN
    obtain ⟨j, rfl, hj, hnj, HMi⟩ := hrel
    have d0 : wr.cell? ⟨N, 0, none⟩ = some (.slice va m vc) := HMi.out.cellAt (List.mem_cons_self ..) rfl
    have d2 : wr.cell? ⟨N, 2, none⟩ = some (.int .i64 (q : Int)) := HMi.out.cellAt (List.mem_cons_self ..) rfl
    by_cases hjm : j < m
    case neg =>
      have hz2 : ¬ (j : Int) < (m : Int) := by omega
      obtain rfl : j = m := by omega
      go_wp2_with fail
      go_roundg Lr.length
      case measure => rw [List.length_cons] at hn; omega
      case rel =>
        refine ⟨Ld ++ [(.slice va j vc, .slice la ln lc, q)], Lr, by rw [List.length_append]; go_num, Nat.le_refl _, ?_, ?_⟩
        · show L = _
          rw [hhid.out.2.out, List.append_assoc]
          rfl
        · have h1 := HMi.out
          rw [List.drop_eq_nil_of_le (by omega), List.append_nil] at h1
          have h2 : Mid w0 F0 ([cellsT N [.slice va j vc, .slice la ln lc, .int .i64 (q : Int)] 245] ++ (ownT 61 1 (.slice va j vc) j (rep j [mkMask q]) :: (cellsT kb cs 55 :: ownT 245 3 (.slice (some ⟨g, 0, none⟩) L.length c) L.length (hold3V (Ld ++ (.slice va j vc, .slice la ln lc, q) :: Lr)) :: (Ld.map (filT 61 1 fun n => [mkMask n]) ++ (Lr.map (rawT 61 1) ++ R))))) wr := h1
          have h3 := h2.drop
          have h4 := Mid.placeZ (T := rawT 61 1) (T' := filT 61 1 fun n => [mkMask n]) (Ld := Ld) (Lr := Lr) (p := (.slice va j vc, .slice la ln lc, q)) (X := [_, _]) (Mid.exIntro (f := fun m : Nat => ownT 61 1 (.slice va j vc) m (rep m [mkMask q])) j h3)
          show Mid _ _ _ _
          rw [List.append_assoc]
          exact h4
    case pos =>
      have hz2 : (j : Int) < (m : Int) := by omega
      have hown := HMi.out.own (List.mem_cons_of_mem _ (List.mem_cons_self ..))
      obtain ⟨hxl, ⟨_, h0⟩ | ⟨gv, cap, cur, hv, _, hgv, h3, h4, h5, h6⟩⟩ := hown
      · omega
      injection hv with hva _ hvc
      subst hva
      subst hvc
      have hcj : ∃ u, wr.cell? ⟨gv, j, none⟩ = some u := by
        simp only [World.cell?, hgv]
        exact ⟨_, Array.getElem?_eq_getElem (by omega)⟩
      obtain ⟨u, hcj⟩ := hcj
      have hfj : wr.frozen? ⟨gv, j, none⟩ = false := by simp [World.frozen?, hgv]
      have hNg : N ≠ gv := by
        intro e
        have := HMi.out.cells (List.mem_cons_self ..)
        rw [e, hgv] at this
        injection this with this
        injection this with _ ht _
        exact absurd ht (by decide)
      have HI := Lib.hid (And.intro hgv (And.intro hxl (And.intro h5 h6)))
      clear hgv hxl h3 h4 h5 h6
      have hS : (fun w' : World => w'.cell? ⟨N, 0, none⟩ = some (.slice (some ⟨gv, 0, none⟩) m vc) ∧ w'.cell? ⟨N, 2, none⟩ = some (.int .i64 (q : Int))) wr.drew := ⟨d0, d2⟩
      go_wp2_with fail
      refine wp_region_held_drew (S := (fun w' : World => w'.cell? ⟨N, 0, none⟩ = some (.slice (some ⟨gv, 0, none⟩) m vc) ∧ w'.cell? ⟨N, 2, none⟩ = some (.int .i64 (q : Int)))) (by kernel_rfl) hS (fun hS => ?_)
      have hMW : Hid (Mid w0 F0 (cellsT N [.slice (some ⟨gv, 0, none⟩) m vc, .slice la ln lc, .int .i64 (q : Int)] 245 :: ownT 61 1 (.slice (some ⟨gv, 0, none⟩) m vc) m (rep j [mkMask q] ++ xs.drop j) :: (cellsT kb cs 55 :: ownT 245 3 (.slice (some ⟨g, 0, none⟩) L.length c) L.length (hold3V (Ld ++ (.slice (some ⟨gv, 0, none⟩) m vc, .slice la ln lc, q) :: Lr)) :: (Ld.map (filT 61 1 fun n => [mkMask n]) ++ (Lr.map (rawT 61 1) ++ R)))) wr.drew) := HMi.out.below (below_drew' (Below.refl _ _))
      replace hcj : wr.drew.cell? ⟨gv, j, none⟩ = some u := hcj
      replace hfj : wr.drew.frozen? ⟨gv, j, none⟩ = false := hfj
      clear HMi d0 d2 HI
      generalize wr.drew = W5 at *
      refine wpAnyH_take (i := 0) (v := ?_) rfl (by kernel_rfl) (by kernel_rfl) (by kernel_rfl) (fun _ _ _ h => h) (Or.inl ⟨by rfl, ?_⟩) (by assumption) ?_
      rotate_left
      · intro w hSw; (try dsimp only at hSw); go_simp; try with_reducible rfl
      try simp only [Act.put, List.getElem_toArray, List.getElem_cons_succ, List.getElem_cons_zero, List.setIfInBounds_toArray, List.set_cons_zero, List.set_cons_succ]
      refine wpAnyH_take (i := 1) (v := ?_) rfl (by kernel_rfl) (by kernel_rfl) (by kernel_rfl) (fun _ _ _ h => h) (Or.inl ⟨by rfl, ?_⟩) (by assumption) ?_
      rotate_left
      · intro w hSw; (try dsimp only at hSw); go_simp; try with_reducible rfl
      try simp only [Act.put, List.getElem_toArray, List.getElem_cons_succ, List.getElem_cons_zero, List.setIfInBounds_toArray, List.set_cons_zero, List.set_cons_succ]
      refine wpAnyH_take (i := 2) (v := ?_) rfl (by kernel_rfl) (by kernel_rfl) (by kernel_rfl) (fun _ _ _ h => h) (Or.inl ⟨by rfl, ?_⟩) (by assumption) ?_
      rotate_left
      · intro w hSw; (try dsimp only at hSw); go_simp; try with_reducible rfl
      try simp only [Act.put, List.getElem_toArray, List.getElem_cons_succ, List.getElem_cons_zero, List.setIfInBounds_toArray, List.set_cons_zero, List.set_cons_succ]
      refine wpAnyH_take (i := 3) (v := ?_) rfl (by kernel_rfl) (by kernel_rfl) (by kernel_rfl) (fun _ _ _ h => h) (Or.inl ⟨by rfl, ?_⟩) (by assumption) ?_
      rotate_left
      · intro w hSw; (try dsimp only at hSw); go_simp; try with_reducible rfl
      try simp only [Act.put, List.getElem_toArray, List.getElem_cons_succ, List.getElem_cons_zero, List.setIfInBounds_toArray, List.set_cons_zero, List.set_cons_succ]
      refine wpAnyH_take (i := 4) (v := ?_) rfl (by kernel_rfl) (by kernel_rfl) (by kernel_rfl) (fun _ _ _ h => h) (Or.inl ⟨by rfl, ?_⟩) (by assumption) ?_
      rotate_left
      · intro w hSw; (try dsimp only at hSw); go_simp; try with_reducible rfl
      try simp only [Act.put, List.getElem_toArray, List.getElem_cons_succ, List.getElem_cons_zero, List.setIfInBounds_toArray, List.set_cons_zero, List.set_cons_succ]
      refine wpAnyH_ready (rs := [5]) (by kernel_rfl) (by simp) (AllReadyH.cons rfl (fun K hK => ?_) AllReadyH.nil)
      rw [if_pos (by rfl)]
      go_simp
      refine (markMask_calls q).mono ?_
      rintro e W6 ⟨rfl, rfl⟩
      refine hK.out _ _ hS (fun _ => ?_)
      clear hK K
      try simp only [Act.put, List.getElem_toArray, List.getElem_cons_succ, List.getElem_cons_zero, List.setIfInBounds_toArray, List.set_cons_zero, List.set_cons_succ]
      refine wpAnyH_take (i := 6) (v := ?_) rfl (by kernel_rfl) (by kernel_rfl) (by kernel_rfl) (fun _ _ _ h => h) (Or.inl ⟨by rfl, ?_⟩) (by assumption) ?_
      rotate_left
      · intro w hSw; (try dsimp only at hSw); go_simp; try with_reducible rfl
      try simp only [Act.put, List.getElem_toArray, List.getElem_cons_succ, List.getElem_cons_zero, List.setIfInBounds_toArray, List.set_cons_zero, List.set_cons_succ]
      refine wpAnyH_ready (rs := [7]) (by kernel_rfl) (by simp) (AllReadyH.cons rfl (fun K hK => ?_) AllReadyH.nil)
      rw [if_pos (by rfl)]
      go_simp
      have t0 : (W6.setCell ⟨gv, j, none⟩ (mkMask q)).cell? ⟨N, 0, none⟩ = some (.slice (some ⟨gv, 0, none⟩) m vc) := (World.cell?_of_block (a := ⟨N, 0, none⟩) (Below.heap_setCell _ _ _ _ hNg)).trans hS.1
      have t2 : (W6.setCell ⟨gv, j, none⟩ (mkMask q)).cell? ⟨N, 2, none⟩ = some (.int .i64 (q : Int)) := (World.cell?_of_block (a := ⟨N, 2, none⟩) (Below.heap_setCell _ _ _ _ hNg)).trans hS.2
      refine hK.out _ _ ⟨t0, t2⟩ (fun _ => ?_)
      clear hK K
      have HMe := Lib.hid ((hMW.out.perm (List.Perm.swap ..)).setOwn hjm (mkMask q))
      clear hMW
      refine wpAnyH_done (by kernel_rfl) ?_ _
      generalize W6.setCell ⟨gv, j, none⟩ (mkMask q) = W7 at *
      clear hS hcj hfj t0 t2
      go_wp2_with fail
      go_roundg (m - (j + 1))
      case measure => omega
      case rel =>
        refine ⟨j + 1, by go_num, by omega, Nat.le_refl _, ?_⟩
        show Mid _ _ _ _
        have h1 := HMe.out.perm (List.Perm.swap ..)
        rw [rep_set1 (by omega)] at h1
        exact h1
end Go.Proofs.YtckhkfchgcdajaaGreatDoor

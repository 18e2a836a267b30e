import Derived.Test.YtckhkfchgcdajaaGreatDoorYFxWm
import Derived.Test.YtckhkfchgcdajaaGreatDoorYJxH2
import Derived.Deep.WholeRow
import Derived.Deep.MidRow
import Derived.Lib.Hide
namespace Go.Proofs.YtckhkfchgcdajaaGreatDoor
open Go.Fx Go.RowKit
theorem drewN_two (w : World) (a b : Nat) : (w.drewN a).drewN b = w.drewN (a + b) := by
  show { w with drawn := w.drawn + a + b } = { w with drawn := w.drawn + (a + b) }
  rw [Nat.add_assoc]
set_option maxRecDepth 100000 in
set_option maxHeartbeats 2000000 in
theorem lookInt_calls {w0 w : World} {F0 : Nat → Prop} {kb : Nat} {cs : List Value} {vI : Value} {L : List (Value × Value × Nat)} {R : List Thing}
    (h : Mid w0 F0 (cellsT kb cs 55 :: ownT 202 3 vI L.length (hold3V L) :: (L.map (lonT 3 1 fun n => [mkInt n]) ++ R)) w) (hc : cs[14]? = some vI) (hm : ∀ p ∈ L, ∃ a n c, p.1 = .slice a n c ∧ n ≤ 1099511627776) :
    Calls Tryz.prog 146 #[.pointer (some ⟨kb, 0, none⟩)] w fun e w' => e = .returned (.bool true) ∧ Below w.heap.size w w' := by
  have HM := Lib.hid h
  obtain ⟨a, c, rfl⟩ := own_slice0 (h.own mem1)
  have c14w : w.cell? ⟨kb, 14, none⟩ = some (.slice a L.length c) := h.cellAt (List.mem_cons_self ..) hc
  have hkb := h.lt (List.mem_cons_self ..)
  clear h
  go_enter Tryz.func146, Tryz.ntmps146
  go_wp2_with fail
  go_loopg [3, 4, 5] L.length (fun n s3 s4 s5 wr => ∃ Ld Lr, s3 = .int .i64 (Ld.length : Int) ∧ Lr.length ≤ n ∧ Hid (L = Ld ++ Lr) ∧ Hid (Below w.heap.size w wr))
  case atStart => exact ⟨[], L, rfl, Nat.le_refl _, rfl, Below.refl _ _⟩
  obtain ⟨Ld, Lr, rfl, hn, HL, HB⟩ := hrel
  have c14 : wr.cell? ⟨kb, 14, none⟩ = some (.slice a L.length c) := (HB.out.cell (p := ⟨kb, 14, none⟩) hkb).trans c14w
  have hlen := Lib.hid (congrArg List.length HL.out)
  cases Lr with
  | nil =>
    have hz : ¬ (Ld.length : Int) < (L.length : Int) := by have := hlen.out; simp at this; omega
    go_wp2_with fail
    exact bodyPost_ret (v := .bool true) (by simp [results, Tryz.results146, go_sem]) rfl ⟨rfl, HB.out⟩
  | cons p Lr =>
    obtain ⟨v, lg, q⟩ := p
    have hz : (Ld.length : Int) < (L.length : Int) := by have := hlen.out; simp at this; omega
    have HM0 := HM.out.below HB.out
    have HM0' : Mid w0 F0 (cellsT kb cs 55 :: ownT 202 3 (.slice a L.length c) L.length (hold3V (Ld ++ (v, lg, q) :: Lr)) :: (L.map (lonT 3 1 fun n => [mkInt n]) ++ R)) wr := by
      have := HM0
      rw [show hold3V L = hold3V (Ld ++ (v, lg, q) :: Lr) by rw [← HL.out]] at this
      exact this
    obtain ⟨g, rfl, hgl, hr, hmax, hwhole⟩ := hold3_at (l := _) HM0' mem1
    obtain ⟨F, m, hrd, hlo, _⟩ := HM0.get (t := lonT 3 1 (fun n => [mkInt n]) (v, lg, q)) (List.mem_cons_of_mem _ (List.mem_cons_of_mem _ (List.mem_append_left _ (List.mem_map.2 ⟨(v, lg, q), by rw [HL.out]; simp, rfl⟩))))
    obtain ⟨a', m', c', e, hmm⟩ := hm (v, lg, q) (by rw [HL.out]; simp)
    replace hrd : ReadsAt wr 1 v m (rep m [mkInt q]) := hrd
    replace hlo : wr.ownsRow 0 3 1 lg (m + 70) (rep (m + 70) [mkInt q]) := hlo
    obtain ⟨va, vc, rfl⟩ : ∃ va vc, v = .slice va m vc := by
      rcases hrd.2 with ⟨rfl, rfl⟩ | ⟨g, c, rfl, _⟩
      · exact ⟨none, 0, rfl⟩
      · exact ⟨_, _, rfl⟩
    replace hmm : m ≤ 1099511627776 := by
      injection e with _ e _
      omega
    clear e
    obtain ⟨gl, lc, rfl, _, hgll⟩ := hlo.form (by omega)
    have hlcell : ∀ j, j < m + 70 → wr.cell? ⟨gl, j, none⟩ = some (mkInt q) := fun j hj => by
      have := hlo.cells (g := gl) rfl j (mkInt q) (rep_get1 hj)
      rwa [addr_add0] at this
    have hvcell : ∀ j, j < m → ∃ gv, va = some ⟨gv, 0, none⟩ ∧ gv < wr.heap.size ∧ wr.cell? ⟨gv, j, none⟩ = some (mkInt q) := fun j hj => by
      rcases hrd.2 with ⟨_, h0⟩ | ⟨gv, c, e, hgv, hx⟩
      · omega
      · injection e with e _ _
        exact ⟨gv, e, hgv, hx j _ (rep_get1 hj)⟩
    have hsz := size202X (.slice va m vc) (.slice (some ⟨gl, 0, none⟩) (m + 70) lc) q
    have hsz1 : (Tryz.prog.info? 202).map (·.size) = some (#[.slice va m vc, .slice (some ⟨gl, 0, none⟩) (m + 70) lc, .int .i64 (q : Int)] : Array Value).size := by kernel_rfl
    have hz1 := heap_alloc_new wr (Obj.cells #[.slice none 0 0, .slice none 0 0, .int .i64 0] 202)
    have hN := heap_alloc_new wr (Obj.cells #[.slice va m vc, .slice (some ⟨gl, 0, none⟩) (m + 70) lc, .int .i64 (q : Int)] 202)
    have hBN := Lib.hid (And.intro HB.out (HB.out.alloc HB.out.size (Obj.cells #[.slice va m vc, .slice (some ⟨gl, 0, none⟩) (m + 70) lc, .int .i64 (q : Int)] 202)))
    have hBx := (Below.refl wr.heap.size wr).alloc (Nat.le_refl _) (Obj.cells #[.slice va m vc, .slice (some ⟨gl, 0, none⟩) (m + 70) lc, .int .i64 (q : Int)] 202)
    have hrow := World.setRow_alloc_new wr #[.slice none 0 0, .slice none 0 0, .int .i64 0] #[.slice va m vc, .slice (some ⟨gl, 0, none⟩) (m + 70) lc, .int .i64 (q : Int)] 202
    have HC : Hid ((∀ j, j < m + 70 → (wr.alloc (Obj.cells #[.slice va m vc, .slice (some ⟨gl, 0, none⟩) (m + 70) lc, .int .i64 (q : Int)] 202)).cell? ⟨gl, j, none⟩ = some (mkInt q)) ∧ (∀ j, j < m → ∃ gv, va = some ⟨gv, 0, none⟩ ∧ (wr.alloc (Obj.cells #[.slice va m vc, .slice (some ⟨gl, 0, none⟩) (m + 70) lc, .int .i64 (q : Int)] 202)).cell? ⟨gv, j, none⟩ = some (mkInt q))) :=
      ⟨fun j hj => (hBx.cell (p := ⟨gl, j, none⟩) hgll).trans (hlcell j hj), fun j hj => by obtain ⟨gv, e, h1, h2⟩ := hvcell j hj; exact ⟨gv, e, (hBx.cell (p := ⟨gv, j, none⟩) h1).trans h2⟩⟩
    have hd0 : (wr.alloc (Obj.cells #[.slice va m vc, .slice (some ⟨gl, 0, none⟩) (m + 70) lc, .int .i64 (q : Int)] 202)).cell? ⟨wr.heap.size, 0, none⟩ = some (.slice va m vc) := by simp only [World.cell?, hN]; rfl
    have hd1 : (wr.alloc (Obj.cells #[.slice va m vc, .slice (some ⟨gl, 0, none⟩) (m + 70) lc, .int .i64 (q : Int)] 202)).cell? ⟨wr.heap.size, 1, none⟩ = some (.slice (some ⟨gl, 0, none⟩) (m + 70) lc) := by simp only [World.cell?, hN]; rfl
    have hd2 : (wr.alloc (Obj.cells #[.slice va m vc, .slice (some ⟨gl, 0, none⟩) (m + 70) lc, .int .i64 (q : Int)] 202)).cell? ⟨wr.heap.size, 2, none⟩ = some (.int .i64 (q : Int)) := by simp only [World.cell?, hN]; rfl
    clear HM0 HM0' hwhole hrd hlo hlcell hvcell hBx HB hN hgll
    go_wp2_with (first
      | (refine wpList_load_mid rfl 202 _ rfl g (Ld.length * 3) rfl _ _ hr Tryz.underlying202 rfl hsz ?_)
      | (refine wpList_store_row rfl 202 _ _ rfl wr.heap.size _ rfl rfl 202 _ hz1 hsz1 rfl (by simp [Value.oneCell']) ?_; rw [hrow]))
    generalize wr.alloc (Obj.cells #[.slice va m vc, .slice (some ⟨gl, 0, none⟩) (m + 70) lc, .int .i64 (q : Int)] 202) = wN at *
    generalize wr.heap.size = N at *
    clear hz1 hrow c14 hr hgl
    go_loopg [5] (m + 70) (fun n s5 wr => ∃ j : Nat, s5 = .int .i64 (j : Int) ∧ j ≤ m + 70 ∧ m + 70 - j ≤ n ∧ Hid (∃ qd, wr = wN.drewN qd))
    case atStart => exact ⟨0, rfl, Nat.zero_le _, by omega, 0, rfl⟩
    obtain ⟨j, rfl, hj, hnj, HQ⟩ := hrel
    have hcell : ∀ p, wr.cell? p = wN.cell? p := fun p => by obtain ⟨qd, h⟩ := HQ.out; rw [h]; rfl
    replace hd0 := (hcell _).trans hd0
    replace hd1 := (hcell _).trans hd1
    replace hd2 := (hcell _).trans hd2
    replace hBN : Hid (Below w.heap.size w wr) := by obtain ⟨qd, h⟩ := HQ.out; rw [h]; exact below_drewN hBN.out.2 qd
    by_cases hjl : j < m + 70
    case neg =>
      have hz2 : ¬ (j : Int) < ((m + 70 : Nat) : Int) := by omega
      have hz3 : ¬ (j : Int) < (m : Int) + 70 := by omega
      clear HC hcell
      go_wp2_with fail
      go_roundg Lr.length
      case measure => rw [List.length_cons] at hn; omega
      case rel =>
        refine ⟨Ld ++ [(.slice va m vc, .slice (some ⟨gl, 0, none⟩) (m + 70) lc, q)], Lr, by rw [List.length_append]; go_num, Nat.le_refl _, ?_, hBN⟩
        show L = _
        rw [HL.out, List.append_assoc]
        rfl
    case pos =>
      have hz2 : (j : Int) < ((m + 70 : Nat) : Int) := by omega
      have hz3 : (j : Int) < (m : Int) + 70 := by omega
      have e1 : wr.cell? ⟨gl, j, none⟩ = some (mkInt q) := (hcell _).trans (HC.out.1 j hjl)
      by_cases hjm : j < m
      · obtain ⟨gv, rfl, e2⟩ := HC.out.2 j hjm
        replace e2 := (hcell _).trans e2
        clear hcell
        have hz4 : (j : Int) < (m : Int) := by omega
        clear HC
        go_wp2_with fail
        go_quiet ((go_at_call 190; exact Calls.quiet_of_same (isInt_calls q)))
        go_wp2_with fail
        go_roundg (m + 70 - (j + 1))
        case measure => omega
        case rel => exact ⟨j + 1, by go_num, by omega, Nat.le_refl _, by obtain ⟨qd, h⟩ := HQ.out; exact ⟨_, by rw [h]; exact drewN_two wN _ _⟩⟩
      · have hz4 : ¬ (j : Int) < (m : Int) := by omega
        clear HC hcell
        go_wp2_with fail
        go_quiet ((go_at_call 190; exact Calls.quiet_of_same (isInt_calls q)))
        go_wp2_with fail
        go_roundg (m + 70 - (j + 1))
        case measure => omega
        case rel => exact ⟨j + 1, by go_num, by omega, Nat.le_refl _, by obtain ⟨qd, h⟩ := HQ.out; exact ⟨_, by rw [h]; exact drewN_two wN _ _⟩⟩
set_option maxRecDepth 100000 in
set_option maxHeartbeats 2000000 in
theorem lookMask_calls {w0 w : World} {F0 : Nat → Prop} {kb : Nat} {cs : List Value} {vI : Value} {L : List (Value × Value × Nat)} {R : List Thing}
    (h : Mid w0 F0 (cellsT kb cs 55 :: ownT 245 3 vI L.length (hold3V L) :: (L.map (lonT 61 1 fun n => [mkMask n]) ++ R)) w) (hc : cs[22]? = some vI) (hm : ∀ p ∈ L, ∃ a n c, p.1 = .slice a n c ∧ n ≤ 1099511627776) :
    Calls Tryz.prog 154 #[.pointer (some ⟨kb, 0, none⟩)] w fun e w' => e = .returned (.bool true) ∧ Below w.heap.size w w' := by
  have HM := Lib.hid h
  obtain ⟨a, c, rfl⟩ := own_slice0 (h.own mem1)
  have c14w : w.cell? ⟨kb, 22, none⟩ = some (.slice a L.length c) := h.cellAt (List.mem_cons_self ..) hc
  have hkb := h.lt (List.mem_cons_self ..)
  clear h
  go_enter Tryz.func154, Tryz.ntmps154
  go_wp2_with fail
  go_loopg [3, 4, 5] L.length (fun n s3 s4 s5 wr => ∃ Ld Lr, s3 = .int .i64 (Ld.length : Int) ∧ Lr.length ≤ n ∧ Hid (L = Ld ++ Lr) ∧ Hid (Below w.heap.size w wr))
  case atStart => exact ⟨[], L, rfl, Nat.le_refl _, rfl, Below.refl _ _⟩
  obtain ⟨Ld, Lr, rfl, hn, HL, HB⟩ := hrel
  have c14 : wr.cell? ⟨kb, 22, none⟩ = some (.slice a L.length c) := (HB.out.cell (p := ⟨kb, 22, none⟩) hkb).trans c14w
  have hlen := Lib.hid (congrArg List.length HL.out)
  cases Lr with
  | nil =>
    have hz : ¬ (Ld.length : Int) < (L.length : Int) := by have := hlen.out; simp at this; omega
    go_wp2_with fail
    exact bodyPost_ret (v := .bool true) (by simp [results, Tryz.results154, go_sem]) rfl ⟨rfl, HB.out⟩
  | cons p Lr =>
    obtain ⟨v, lg, q⟩ := p
    have hz : (Ld.length : Int) < (L.length : Int) := by have := hlen.out; simp at this; omega
    have HM0 := HM.out.below HB.out
    have HM0' : Mid w0 F0 (cellsT kb cs 55 :: ownT 245 3 (.slice a L.length c) L.length (hold3V (Ld ++ (v, lg, q) :: Lr)) :: (L.map (lonT 61 1 fun n => [mkMask n]) ++ R)) wr := by
      have := HM0
      rw [show hold3V L = hold3V (Ld ++ (v, lg, q) :: Lr) by rw [← HL.out]] at this
      exact this
    obtain ⟨g, rfl, hgl, hr, hmax, hwhole⟩ := hold3_at (l := _) HM0' mem1
    obtain ⟨F, m, hrd, hlo, _⟩ := HM0.get (t := lonT 61 1 (fun n => [mkMask n]) (v, lg, q)) (List.mem_cons_of_mem _ (List.mem_cons_of_mem _ (List.mem_append_left _ (List.mem_map.2 ⟨(v, lg, q), by rw [HL.out]; simp, rfl⟩))))
    obtain ⟨a', m', c', e, hmm⟩ := hm (v, lg, q) (by rw [HL.out]; simp)
    replace hrd : ReadsAt wr 1 v m (rep m [mkMask q]) := hrd
    replace hlo : wr.ownsRow 0 61 1 lg (m + 70) (rep (m + 70) [mkMask q]) := hlo
    obtain ⟨va, vc, rfl⟩ : ∃ va vc, v = .slice va m vc := by
      rcases hrd.2 with ⟨rfl, rfl⟩ | ⟨g, c, rfl, _⟩
      · exact ⟨none, 0, rfl⟩
      · exact ⟨_, _, rfl⟩
    replace hmm : m ≤ 1099511627776 := by
      injection e with _ e _
      omega
    clear e
    obtain ⟨gl, lc, rfl, _, hgll⟩ := hlo.form (by omega)
    have hlcell : ∀ j, j < m + 70 → wr.cell? ⟨gl, j, none⟩ = some (mkMask q) := fun j hj => by
      have := hlo.cells (g := gl) rfl j (mkMask q) (rep_get1 hj)
      rwa [addr_add0] at this
    have hvcell : ∀ j, j < m → ∃ gv, va = some ⟨gv, 0, none⟩ ∧ gv < wr.heap.size ∧ wr.cell? ⟨gv, j, none⟩ = some (mkMask q) := fun j hj => by
      rcases hrd.2 with ⟨_, h0⟩ | ⟨gv, c, e, hgv, hx⟩
      · omega
      · injection e with e _ _
        exact ⟨gv, e, hgv, hx j _ (rep_get1 hj)⟩
    have hsz := size245X (.slice va m vc) (.slice (some ⟨gl, 0, none⟩) (m + 70) lc) q
    have hsz1 : (Tryz.prog.info? 245).map (·.size) = some (#[.slice va m vc, .slice (some ⟨gl, 0, none⟩) (m + 70) lc, .int .i64 (q : Int)] : Array Value).size := by kernel_rfl
    have hz1 := heap_alloc_new wr (Obj.cells #[.slice none 0 0, .slice none 0 0, .int .i64 0] 245)
    have hN := heap_alloc_new wr (Obj.cells #[.slice va m vc, .slice (some ⟨gl, 0, none⟩) (m + 70) lc, .int .i64 (q : Int)] 245)
    have hBN := Lib.hid (And.intro HB.out (HB.out.alloc HB.out.size (Obj.cells #[.slice va m vc, .slice (some ⟨gl, 0, none⟩) (m + 70) lc, .int .i64 (q : Int)] 245)))
    have hBx := (Below.refl wr.heap.size wr).alloc (Nat.le_refl _) (Obj.cells #[.slice va m vc, .slice (some ⟨gl, 0, none⟩) (m + 70) lc, .int .i64 (q : Int)] 245)
    have hrow := World.setRow_alloc_new wr #[.slice none 0 0, .slice none 0 0, .int .i64 0] #[.slice va m vc, .slice (some ⟨gl, 0, none⟩) (m + 70) lc, .int .i64 (q : Int)] 245
    have HC : Hid ((∀ j, j < m + 70 → (wr.alloc (Obj.cells #[.slice va m vc, .slice (some ⟨gl, 0, none⟩) (m + 70) lc, .int .i64 (q : Int)] 245)).cell? ⟨gl, j, none⟩ = some (mkMask q)) ∧ (∀ j, j < m → ∃ gv, va = some ⟨gv, 0, none⟩ ∧ (wr.alloc (Obj.cells #[.slice va m vc, .slice (some ⟨gl, 0, none⟩) (m + 70) lc, .int .i64 (q : Int)] 245)).cell? ⟨gv, j, none⟩ = some (mkMask q))) :=
      ⟨fun j hj => (hBx.cell (p := ⟨gl, j, none⟩) hgll).trans (hlcell j hj), fun j hj => by obtain ⟨gv, e, h1, h2⟩ := hvcell j hj; exact ⟨gv, e, (hBx.cell (p := ⟨gv, j, none⟩) h1).trans h2⟩⟩
    have hd0 : (wr.alloc (Obj.cells #[.slice va m vc, .slice (some ⟨gl, 0, none⟩) (m + 70) lc, .int .i64 (q : Int)] 245)).cell? ⟨wr.heap.size, 0, none⟩ = some (.slice va m vc) := by simp only [World.cell?, hN]; rfl
    have hd1 : (wr.alloc (Obj.cells #[.slice va m vc, .slice (some ⟨gl, 0, none⟩) (m + 70) lc, .int .i64 (q : Int)] 245)).cell? ⟨wr.heap.size, 1, none⟩ = some (.slice (some ⟨gl, 0, none⟩) (m + 70) lc) := by simp only [World.cell?, hN]; rfl
    have hd2 : (wr.alloc (Obj.cells #[.slice va m vc, .slice (some ⟨gl, 0, none⟩) (m + 70) lc, .int .i64 (q : Int)] 245)).cell? ⟨wr.heap.size, 2, none⟩ = some (.int .i64 (q : Int)) := by simp only [World.cell?, hN]; rfl
    clear HM0 HM0' hwhole hrd hlo hlcell hvcell hBx HB hN hgll
    go_wp2_with (first
      | (refine wpList_load_mid rfl 245 _ rfl g (Ld.length * 3) rfl _ _ hr Tryz.underlying245 rfl hsz ?_)
      | (refine wpList_store_row rfl 245 _ _ rfl wr.heap.size _ rfl rfl 245 _ hz1 hsz1 rfl (by simp [Value.oneCell']) ?_; rw [hrow]))
    generalize wr.alloc (Obj.cells #[.slice va m vc, .slice (some ⟨gl, 0, none⟩) (m + 70) lc, .int .i64 (q : Int)] 245) = wN at *
    generalize wr.heap.size = N at *
    clear hz1 hrow c14 hr hgl
    go_loopg [5] (m + 70) (fun n s5 wr => ∃ j : Nat, s5 = .int .i64 (j : Int) ∧ j ≤ m + 70 ∧ m + 70 - j ≤ n ∧ Hid (∃ qd, wr = wN.drewN qd))
    case atStart => exact ⟨0, rfl, Nat.zero_le _, by omega, 0, rfl⟩
    obtain ⟨j, rfl, hj, hnj, HQ⟩ := hrel
    have hcell : ∀ p, wr.cell? p = wN.cell? p := fun p => by obtain ⟨qd, h⟩ := HQ.out; rw [h]; rfl
    replace hd0 := (hcell _).trans hd0
    replace hd1 := (hcell _).trans hd1
    replace hd2 := (hcell _).trans hd2
    replace hBN : Hid (Below w.heap.size w wr) := by obtain ⟨qd, h⟩ := HQ.out; rw [h]; exact below_drewN hBN.out.2 qd
    by_cases hjl : j < m + 70
    case neg =>
      have hz2 : ¬ (j : Int) < ((m + 70 : Nat) : Int) := by omega
      have hz3 : ¬ (j : Int) < (m : Int) + 70 := by omega
      clear HC hcell
      go_wp2_with fail
      go_roundg Lr.length
      case measure => rw [List.length_cons] at hn; omega
      case rel =>
        refine ⟨Ld ++ [(.slice va m vc, .slice (some ⟨gl, 0, none⟩) (m + 70) lc, q)], Lr, by rw [List.length_append]; go_num, Nat.le_refl _, ?_, hBN⟩
        show L = _
        rw [HL.out, List.append_assoc]
        rfl
    case pos =>
      have hz2 : (j : Int) < ((m + 70 : Nat) : Int) := by omega
      have hz3 : (j : Int) < (m : Int) + 70 := by omega
      have e1 : wr.cell? ⟨gl, j, none⟩ = some (mkMask q) := (hcell _).trans (HC.out.1 j hjl)
      by_cases hjm : j < m
      · obtain ⟨gv, rfl, e2⟩ := HC.out.2 j hjm
        replace e2 := (hcell _).trans e2
        clear hcell
        have hz4 : (j : Int) < (m : Int) := by omega
        clear HC
        go_wp2_with fail
        go_quiet ((go_at_call 198; exact Calls.quiet_of_same (isMask_calls q)))
        go_wp2_with fail
        go_roundg (m + 70 - (j + 1))
        case measure => omega
        case rel => exact ⟨j + 1, by go_num, by omega, Nat.le_refl _, by obtain ⟨qd, h⟩ := HQ.out; exact ⟨_, by rw [h]; exact drewN_two wN _ _⟩⟩
      · have hz4 : ¬ (j : Int) < (m : Int) := by omega
        clear HC hcell
        go_wp2_with fail
        go_quiet ((go_at_call 198; exact Calls.quiet_of_same (isMask_calls q)))
        go_wp2_with fail
        go_roundg (m + 70 - (j + 1))
        case measure => omega
        case rel => exact ⟨j + 1, by go_num, by omega, Nat.le_refl _, by obtain ⟨qd, h⟩ := HQ.out; exact ⟨_, by rw [h]; exact drewN_two wN _ _⟩⟩
end Go.Proofs.YtckhkfchgcdajaaGreatDoor

import Derived.Test.YtckhkfchgcdajaaGreatDoorYJxI7
import Derived.Test.YtckhkfchgcdajaaGreatDoorYJxH5
import Derived.OrdersHeld
namespace Go.Proofs.YtckhkfchgcdajaaGreatDoor
open Go.Fx Go.RowKit Go.Maps Go.Sort
theorem mem8 {α : Type} {a b c d e f g i j : α} {l : List α} : j ∈ a :: b :: c :: d :: e :: f :: g :: i :: j :: l := by simp
theorem mem9 {α : Type} {a b c d e f g i j k : α} {l : List α} : k ∈ a :: b :: c :: d :: e :: f :: g :: i :: j :: k :: l := by simp
theorem anyH_more {P : Program} {md : Region.Mode} {ops : Array Oper} {Q : Exit → Act → World → Prop} {S S' : World → Prop} (hSS : ∀ w, S' w → S w) : ∀ (fuel : Nat) (listed : Array Bool) (a : Act) (w : World), wpAnyH P md ops Q S' fuel listed a w → wpAnyH P md ops Q S fuel listed a w
  | 0, _, _, _, h => h
  | fuel + 1, _, _, _, h => ⟨h.1, fun i hi => wpOp_mono (fun a' w' h' => ⟨hSS w' h'.1, anyH_more hSS fuel _ a' w' h'.2⟩) (h.2 i hi)⟩
structure OpR where
  kind : Int
  on : Int
  book : Int
  m : Nat
  row : List Int
def OpR.vs (o : OpR) : List Value := opV o.kind o.on o.book o.m o.row
def OpR.ok (o : OpR) : Prop := RowOk o.row ∧ MskOk o.m
def SlOps (w : World) (lv : Value) (L : List OpR) : Prop :=
  ∃ ad cap, lv = .slice ad L.length cap ∧ (∀ i, i < L.length → ∃ g o, ad = some ⟨g, o, none⟩ ∧ g < w.heap.size ∧ w.rangeAt g (o + i * 28) (L.getD i ⟨0, 0, 0, 0, []⟩).vs) ∧ ∀ x ∈ L, x.ok
theorem kept_zero {w0 w : World} {F0 : Nat → Prop} {R : List Thing} {kb : Nat} (h : Mid w0 F0 (cellsT kb (keepCells 0 (.slice none 0 0) (.slice none 0 0)) 55 :: R) w) : Mid w0 F0 (kT kb 0 :: R) w := by
  refine kT_shut (n := 0) (LI := []) (LM := []) ?_ ⟨Nat.le_refl _, Nat.le_refl _, Nat.le_refl _, (fun p hp => by cases hp), fun p hp => by cases hp⟩
  show Mid w0 F0 (keptT kb 0 [] [] :: R) w
  refine h.weaken ?_
  rintro F ⟨h1, rfl⟩
  refine ⟨.slice none 0 0, .slice none 0 0, h1, World.ownsRow_nil _ _ _ _, World.ownsRow_nil _ _ _ _, (fun g h => by cases h), ?_⟩
  funext k
  exact propext ⟨.inl, fun h => h.elim id fun h => h.elim (fun h => by cases h) fun h => by cases h⟩
theorem apart_of_kept {w0 w : World} {F0 : Nat → Prop} {R : List Thing} {kb n B : Nat} {LI LM : List (Value × Nat)} (h : Mid w0 F0 (keptS kb n LI LM ++ R) w) (hk : KIn B (n, LI, LM)) :
    Calls Tryz.prog 8 #[.pointer (some ⟨kb, 0, none⟩)] w fun e w' => e = .returned (.bool true) ∧ ∃ B, Mid w0 F0 (B ++ R) w' := by
  obtain ⟨F, hK, ht⟩ := (show Mid w0 F0 (keptT kb n LI LM :: ((LI.map (toldT 3) ++ LM.map (toldT 61)) ++ R)) w from h).turn1
  obtain ⟨vI, vM, g1, g2, g3, g4, e⟩ := hK
  have hne : ∀ k, vI.ownBlock = some k → kb + 1 ≤ k := fun k hk => (g2.lt k hk).1
  have hne2 : ∀ k, vM.ownBlock = some k → kb + 1 ≤ k := fun k hk => (g3.lt k hk).1
  have hA : All [cellsT kb (keepCells n vI vM) 55, ownT 202 3 vI LI.length (heldV LI), ownT 245 3 vM LM.length (heldV LM)] w F := by
    refine ⟨fun k => k = kb, fun k => vI.ownBlock = some k ∨ vM.ownBlock = some k, ⟨g1, rfl⟩, ⟨_, fun k => vM.ownBlock = some k, ⟨ownsRow_base g2, rfl⟩, All.one ⟨ownsRow_base g3, rfl⟩, fun k hk hm => g4 k hk hm, rfl⟩, ?_, e⟩
    rintro k rfl (hh | hh)
    · have := hne _ hh; omega
    · have := hne2 _ hh; omega
  have h2 := (ht (t' := allT [cellsT kb (keepCells n vI vM) 55, ownT 202 3 vI LI.length (heldV LI), ownT 245 3 vM LM.length (heldV LM)]) hA (Turn.refl _ _)).unpack
  have e3 : ∀ l : List (Value × Nat), heldV l = hold3V (l.map fun p => (p.1, .slice none 0 0, p.2)) := fun l => by
    induction l with
    | nil => rfl
    | cons p l ih => simp only [heldV, List.map_cons, hold3V, ih]
  have hfit : ∀ l : List (Value × Nat), Slim l → FitsAll (l.map fun p => (p.1, .slice none 0 0, p.2)) := fun l hs p hp => by
    obtain ⟨q, hq, rfl⟩ := List.mem_map.1 hp
    exact hs q hq
  have hsl : ∀ l : List (Value × Nat), Slices2 (l.map fun p => (p.1, Value.slice none 0 0, p.2)) := fun l p hp => by
    obtain ⟨q, hq, rfl⟩ := List.mem_map.1 hp
    exact ⟨none, 0, 0, rfl⟩
  obtain ⟨_, _, _, k4, k5⟩ := hk
  refine apart_calls (n := n) (vI := vI) (vM := vM) (LI := LI.map fun p => (p.1, .slice none 0 0, p.2)) (LM := LM.map fun p => (p.1, .slice none 0 0, p.2)) (R := R) ?_ (hsl _) (hsl _) (hfit _ k4) (hfit _ k5)
  unfold bookS
  rw [List.length_map, List.length_map, ← e3, ← e3, List.map_map, List.map_map]
  refine h2.perm ?_
  refine List.Perm.cons _ ?_
  show (ownT 202 3 vI LI.length (heldV LI) :: ownT 245 3 vM LM.length (heldV LM) :: ((LI.map (toldT 3) ++ LM.map (toldT 61)) ++ R)).Perm (ownT 202 3 vI LI.length (heldV LI) :: ((LI.map (toldT 3) ++ ownT 245 3 vM LM.length (heldV LM) :: LM.map (toldT 61)) ++ R))
  refine List.Perm.cons _ ?_
  rw [List.append_assoc, List.append_assoc, List.cons_append]
  exact List.perm_middle.symm
theorem rem25 (n : Nat) : ((n : Int).tmod 25) = ((n % 25 : Nat) : Int) := by
  rw [Int.tmod_eq_emod_of_nonneg (by omega)]
  omega
set_option maxRecDepth 100000 in
set_option maxHeartbeats 8000000 in
theorem plays_calls {w : World} {one two : Nat} (ho : one < 256) (ht : two < 256) {v : Value} {L : List OpR} (hl : SlOps w v L) (hn : L.length ≤ 1048576) :
    Calls Tryz.prog 3 #[.int .u8 (one : Int), .int .u8 (two : Int), v] w fun e w' => e = .returned (.bool true) ∧ Below w.heap.size w w' := by
  obtain ⟨ad, cap, rfl, hr, hok⟩ := hl
  have HR := Lib.hid hr
  have HO := Lib.hid hok
  clear hr hok
  have e1 := rem25 one
  have e2 := rem25 two
  have l1 : one % 25 ≤ 24 := by omega
  have l2 : two % 25 ≤ 24 := by omega
  generalize one % 25 = a1 at *
  generalize two % 25 = a2 at *
  have HM0 := Lib.hid ((Mid.empty w).alloc (keepCells 0 (.slice none 0 0) (.slice none 0 0)) 55)
  go_enter Tryz.func3, Tryz.ntmps3
  go_wp2_with fail
  have HM1 := Lib.hid (kept_zero HM0.out)
  clear HM0
  change Calls _ _ _ (w.alloc (Obj.cells (keepCells 0 (.slice none 0 0) (.slice none 0 0)).toArray 55)) _
  generalize w.alloc (Obj.cells (keepCells 0 (.slice none 0 0) (.slice none 0 0)).toArray 55) = w1 at *
  obtain ⟨kb, hkb⟩ : ∃ kb, w.heap.size = kb := ⟨_, rfl⟩
  rw [hkb] at HM1 ⊢
  clear hkb
  refine (made_calls HM1.out l1).mono ?_
  rintro e w2 ⟨sa, rfl, h2⟩
  have HM2 := Lib.hid h2
  clear HM1 h2
  go_wp2_with fail
  refine (made_calls HM2.out l2).mono ?_
  rintro e w3 ⟨sb, rfl, h3⟩
  have HM3 := Lib.hid h3.up1
  clear HM2 h3 l1 l2 e1 e2
  go_wp2_with fail
  go_loopg [12, 13] L.length (fun n s12 s13 wr => ∃ i : Nat, s12 = .int .i64 (i : Int) ∧ i ≤ L.length ∧ L.length - i ≤ n ∧ Hid (Mid w (fun _ => False) [shelfT sa kb i, shelfT sb kb i, kT kb (2 * i)] wr))
  case atStart => exact ⟨0, rfl, Nat.zero_le _, by omega, HM3.out⟩
  clear HM3
  obtain ⟨i, rfl, hi, hfu, HM⟩ := hrel
  by_cases hil : i < L.length
  case pos =>
    have hz : (i : Int) < (L.length : Int) := by omega
    have hz0 : (0 : Int) ≤ (i : Int) := by omega
    obtain ⟨g, oo, rfl, hg, hrx⟩ := HR.out i hil
    obtain ⟨o, hoo⟩ : ∃ o, L.getD i ⟨0, 0, 0, 0, []⟩ = o := ⟨_, rfl⟩
    rw [hoo] at hrx
    have hok : o.ok := HO.out o (by
      rw [← hoo, List.getD_eq_getElem?_getD, List.getElem?_eq_getElem hil, Option.getD_some]
      exact List.getElem_mem _)
    obtain ⟨kind, on, book, m, row⟩ := o
    obtain ⟨hrow, hm⟩ := hok
    replace hrow : RowOk row := hrow
    replace hm : MskOk m := hm
    replace hrx : w.rangeAt g (oo + i * 28) (opV kind on book m row) := hrx
    clear hoo
    have hrw := range_below hrx HM.out.wasBelow hg
    have con : wr.cell? ⟨g, oo + i * 28 + 1, none⟩ = some (.int .i64 on) := hrw 1 _ rfl
    have hszo : (Tryz.prog.info? 66).map (·.size) = some (opV kind on book m row).length := by
      have : (Tryz.prog.info? 66).map (·.size) = some 28 := by kernel_rfl
      rw [this]; simp [opV, hrow.1]
    have HRX := Lib.hid hrx
    clear hrx
    by_cases hon : on.tmod 2 = 0
    · have honz := hon
      go_upto_region 12 with fail
      have hS : (fun w' : World => w'.rangeAt g (oo + i * 28) (opV kind on book m row)) wr.drew := hrw
      have HMd := Lib.hid (HM.out.below (below_drew' (Below.refl _ _)))
      clear HM hrw con
      refine wp_region_held_drew (S := (fun w' : World => w'.rangeAt g (oo + i * 28) (opV kind on book m row))) (by kernel_rfl) hS (fun hS => ?_)
      generalize wr.drew = W5 at *
      refine wpAnyH_take (i := 0) (v := ?_) rfl (by kernel_rfl) (by kernel_rfl) (by kernel_rfl) (fun _ _ _ h => h) (Or.inl ⟨by rfl, ?_⟩) (by assumption) ?_
      rotate_left
      · intro w hSw; (try dsimp only at hSw); go_simp; try with_reducible rfl
      try simp only [Act.put, List.getElem_toArray, List.getElem_cons_succ, List.getElem_cons_zero, List.setIfInBounds_toArray, List.set_cons_zero, List.set_cons_succ]
      refine wpAnyH_take (i := 1) (v := ?_) rfl (by kernel_rfl) (by kernel_rfl) (by kernel_rfl) (fun _ _ _ h => h) (Or.inl ⟨by rfl, ?_⟩) (by assumption) ?_
      rotate_left
      · intro w hSw; (try dsimp only at hSw); go_simp; try with_reducible rfl
      try simp only [Act.put, List.getElem_toArray, List.getElem_cons_succ, List.getElem_cons_zero, List.setIfInBounds_toArray, List.set_cons_zero, List.set_cons_succ]
      refine wpAnyH_take (i := 2) (v := ?_) rfl (by kernel_rfl) (by kernel_rfl) (by kernel_rfl) (fun _ _ _ h => h) (Or.inl ⟨by rfl, ?_⟩) (by assumption) ?_
      rotate_left
      · intro w hSw; (try dsimp only at hSw); go_simp; try with_reducible rfl
      try simp only [Act.put, List.getElem_toArray, List.getElem_cons_succ, List.getElem_cons_zero, List.setIfInBounds_toArray, List.set_cons_zero, List.set_cons_succ]
      refine wpAnyH_take (i := 3) (v := ?_) rfl (by kernel_rfl) (by kernel_rfl) (by kernel_rfl) (fun _ _ _ h => h) (Or.inl ⟨by rfl, ?_⟩) (by assumption) ?_
      rotate_left
      · intro w hSw; (try dsimp only at hSw); go_simp; try with_reducible rfl
      try simp only [Act.put, List.getElem_toArray, List.getElem_cons_succ, List.getElem_cons_zero, List.setIfInBounds_toArray, List.set_cons_zero, List.set_cons_succ]
      refine wpAnyH_take (i := 4) (v := _) rfl (by kernel_rfl) (by kernel_rfl) (by kernel_rfl) (fun _ _ _ h => h) (yieldsIf_load_mid (by rfl) 66 _ rfl g (oo + i * 28) rfl (opV kind on book m row) _ (fun w' hw' => hw') Tryz.underlying66 rfl hszo) (by assumption) ?_
      try simp only [Act.put, List.getElem_toArray, List.getElem_cons_succ, List.getElem_cons_zero, List.setIfInBounds_toArray, List.set_cons_zero, List.set_cons_succ]
      refine wpAnyH_ready (rs := [5]) (by kernel_rfl) (by simp) (AllReadyH.cons rfl (fun K hK => ?_) AllReadyH.nil)
      rw [if_pos (by rfl)]
      go_simp
      refine (does_calls HMd.out.up2.up1 (by omega) (by omega) hrow hm).mono ?_
      rintro e W6 ⟨rfl, h6⟩
      clear HMd hS
      obtain ⟨xa, hxa, h7⟩ := shelf_open h6.up1.up2.up2
      obtain ⟨xb, hxb, h8⟩ := shelf_open (h7.perm (List.perm_middle (l₁ := shelfL sa kb xa)))
      clear h6 h7
      obtain ⟨ab, abk0, abk1, ak0, ak1, aar, ago, arows, alv, aabs0, aabs1, al0, al1⟩ := xa
      obtain ⟨bb, bbk0, bbk1, bk0, bk1, bar, bgo, brows, blv, babs0, babs1, bl0, bl1⟩ := xb
      have HM6 := Lib.hid (show Mid w (fun _ => False) (cellsT sb [ptrV bb, .int .i64 (bar : Int), blv, ptrV bbk0, ptrV bbk1, ptrV bk0, ptrV bk1, ptrV kb] 75 :: relT bb bar bgo brows :: rowsT blv brows :: bkT bbk0 bb babs0 :: docT bk0 bar bl0 :: bkT bbk1 bb babs1 :: docT bk1 bar bl1 :: cellsT sa [ptrV ab, .int .i64 (aar : Int), alv, ptrV abk0, ptrV abk1, ptrV ak0, ptrV ak1, ptrV kb] 75 :: relT ab aar ago arows :: rowsT alv arows :: bkT abk0 ab aabs0 :: docT ak0 aar al0 :: bkT abk1 ab aabs1 :: docT ak1 aar al1 :: [kT kb (2 * i + 2)]) W6 from h8)
      have HXA := Lib.hid hxa
      have HXB := Lib.hid hxb
      clear h8 hxa hxb
      obtain ⟨aa, ca, rfl⟩ : ∃ a c, alv = .slice a arows.length c := by obtain ⟨F, hT, _⟩ := HM6.out.get mem9; exact own_slice0 hT.1
      obtain ⟨ba, cb, rfl⟩ : ∃ a c, blv = .slice a brows.length c := by obtain ⟨F, hT, _⟩ := HM6.out.get mem2; exact own_slice0 hT.1
      have hla := b_len (show Rel W6 _ ab aar ago arows from (HM6.out.get mem8).choose_spec)
      have hlb := b_len (show Rel W6 _ bb bar bgo brows from (HM6.out.get mem1).choose_spec)
      have hS2 : (fun w' : World => w'.rangeAt g (oo + i * 28) (opV kind on book m row) ∧ w'.cell? ⟨sa, 0, none⟩ = some (ptrV ab) ∧ w'.cell? ⟨sa, 2, none⟩ = some (.slice aa arows.length ca) ∧ w'.cell? ⟨sb, 0, none⟩ = some (ptrV bb) ∧ w'.cell? ⟨sb, 2, none⟩ = some (.slice ba brows.length cb)) W6 := ⟨range_below HRX.out HM6.out.wasBelow hg, HM6.out.cellAt mem7 rfl, HM6.out.cellAt mem7 rfl, HM6.out.cellAt (List.mem_cons_self ..) rfl, HM6.out.cellAt (List.mem_cons_self ..) rfl⟩
      refine hK.out _ _ hS2.1 (fun _ => ?_)
      clear hK K
      try simp only [Act.put, List.getElem_toArray, List.getElem_cons_succ, List.getElem_cons_zero, List.setIfInBounds_toArray, List.set_cons_zero, List.set_cons_succ]
      refine anyH_more (S' := (fun w' : World => w'.rangeAt g (oo + i * 28) (opV kind on book m row) ∧ w'.cell? ⟨sa, 0, none⟩ = some (ptrV ab) ∧ w'.cell? ⟨sa, 2, none⟩ = some (.slice aa arows.length ca) ∧ w'.cell? ⟨sb, 0, none⟩ = some (ptrV bb) ∧ w'.cell? ⟨sb, 2, none⟩ = some (.slice ba brows.length cb))) (fun w h => h.1) _ _ _ _ ?_
      refine wpAnyH_take (i := 6) (v := ?_) rfl (by kernel_rfl) (by kernel_rfl) (by kernel_rfl) (fun _ _ _ h => h) (Or.inl ⟨by rfl, ?_⟩) (by assumption) ?_
      rotate_left
      · intro w hSw; (try dsimp only at hSw); go_simp; try with_reducible rfl
      try simp only [Act.put, List.getElem_toArray, List.getElem_cons_succ, List.getElem_cons_zero, List.setIfInBounds_toArray, List.set_cons_zero, List.set_cons_succ]
      refine wpAnyH_take (i := 7) (v := ?_) rfl (by kernel_rfl) (by kernel_rfl) (by kernel_rfl) (fun _ _ _ h => h) (Or.inl ⟨by rfl, ?_⟩) (by assumption) ?_
      rotate_left
      · intro w hSw; (try dsimp only at hSw); go_simp; try with_reducible rfl
      try simp only [Act.put, List.getElem_toArray, List.getElem_cons_succ, List.getElem_cons_zero, List.setIfInBounds_toArray, List.set_cons_zero, List.set_cons_succ]
      refine wpAnyH_take (i := 8) (v := ?_) rfl (by kernel_rfl) (by kernel_rfl) (by kernel_rfl) (fun _ _ _ h => h) (Or.inl ⟨by rfl, ?_⟩) (by assumption) ?_
      rotate_left
      · intro w hSw; (try dsimp only at hSw); go_simp; try with_reducible rfl
      try simp only [Act.put, List.getElem_toArray, List.getElem_cons_succ, List.getElem_cons_zero, List.setIfInBounds_toArray, List.set_cons_zero, List.set_cons_succ]
      refine wpAnyH_take (i := 9) (v := ?_) rfl (by kernel_rfl) (by kernel_rfl) (by kernel_rfl) (fun _ _ _ h => h) (Or.inl ⟨by rfl, ?_⟩) (by assumption) ?_
      rotate_left
      · intro w hSw; (try dsimp only at hSw); go_simp; try with_reducible rfl
      try simp only [Act.put, List.getElem_toArray, List.getElem_cons_succ, List.getElem_cons_zero, List.setIfInBounds_toArray, List.set_cons_zero, List.set_cons_succ]
      refine wpAnyH_take (i := 10) (v := ?_) rfl (by kernel_rfl) (by kernel_rfl) (by kernel_rfl) (fun _ _ _ h => h) (Or.inl ⟨by rfl, ?_⟩) (by assumption) ?_
      rotate_left
      · intro w hSw; (try dsimp only at hSw); go_simp; try with_reducible rfl
      try simp only [Act.put, List.getElem_toArray, List.getElem_cons_succ, List.getElem_cons_zero, List.setIfInBounds_toArray, List.set_cons_zero, List.set_cons_succ]
      refine wpAnyH_take (i := 11) (v := ?_) rfl (by kernel_rfl) (by kernel_rfl) (by kernel_rfl) (fun _ _ _ h => h) (Or.inl ⟨by rfl, ?_⟩) (by assumption) ?_
      rotate_left
      · intro w hSw; (try dsimp only at hSw); go_simp; try with_reducible rfl
      try simp only [Act.put, List.getElem_toArray, List.getElem_cons_succ, List.getElem_cons_zero, List.setIfInBounds_toArray, List.set_cons_zero, List.set_cons_succ]
      refine wpAnyH_take (i := 13) (v := ?_) rfl (by kernel_rfl) (by kernel_rfl) (by kernel_rfl) (fun _ _ _ h => h) (Or.inl ⟨by rfl, ?_⟩) (by assumption) ?_
      rotate_left
      · intro w hSw; (try dsimp only at hSw); go_simp; try with_reducible rfl
      try simp only [Act.put, List.getElem_toArray, List.getElem_cons_succ, List.getElem_cons_zero, List.setIfInBounds_toArray, List.set_cons_zero, List.set_cons_succ]
      refine wpAnyH_take (i := 14) (v := ?_) rfl (by kernel_rfl) (by kernel_rfl) (by kernel_rfl) (fun _ _ _ h => h) (Or.inl ⟨by rfl, ?_⟩) (by assumption) ?_
      rotate_left
      · intro w hSw; (try dsimp only at hSw); go_simp; try with_reducible rfl
      try simp only [Act.put, List.getElem_toArray, List.getElem_cons_succ, List.getElem_cons_zero, List.setIfInBounds_toArray, List.set_cons_zero, List.set_cons_succ]
      refine wpAnyH_take (i := 15) (v := ?_) rfl (by kernel_rfl) (by kernel_rfl) (by kernel_rfl) (fun _ _ _ h => h) (Or.inl ⟨by rfl, ?_⟩) (by assumption) ?_
      rotate_left
      · intro w hSw; (try dsimp only at hSw); go_simp; try with_reducible rfl
      try simp only [Act.put, List.getElem_toArray, List.getElem_cons_succ, List.getElem_cons_zero, List.setIfInBounds_toArray, List.set_cons_zero, List.set_cons_succ]
      refine wpAnyH_take (i := 16) (v := ?_) rfl (by kernel_rfl) (by kernel_rfl) (by kernel_rfl) (fun _ _ _ h => h) (Or.inl ⟨by rfl, ?_⟩) (by assumption) ?_
      rotate_left
      · intro w hSw; (try dsimp only at hSw); go_simp; try with_reducible rfl
      try simp only [Act.put, List.getElem_toArray, List.getElem_cons_succ, List.getElem_cons_zero, List.setIfInBounds_toArray, List.set_cons_zero, List.set_cons_succ]
      refine wpAnyH_take (i := 17) (v := ?_) rfl (by kernel_rfl) (by kernel_rfl) (by kernel_rfl) (fun _ _ _ h => h) (Or.inl ⟨by rfl, ?_⟩) (by assumption) ?_
      rotate_left
      · intro w hSw; (try dsimp only at hSw); go_simp; try with_reducible rfl
      try simp only [Act.put, List.getElem_toArray, List.getElem_cons_succ, List.getElem_cons_zero, List.setIfInBounds_toArray, List.set_cons_zero, List.set_cons_succ]
      refine wpAnyH_ready (rs := [12]) (by kernel_rfl) (by simp) (AllReadyH.cons rfl (fun K hK => ?_) AllReadyH.nil)
      rw [if_pos (by rfl)]
      go_simp
      refine hla.mono ?_
      rintro e W7 ⟨rfl, hW7⟩
      rw [hW7]
      clear hW7 W7
      refine hK.out _ _ hS2 (fun _ => ?_)
      clear hK K
      try simp only [Act.put, List.getElem_toArray, List.getElem_cons_succ, List.getElem_cons_zero, List.setIfInBounds_toArray, List.set_cons_zero, List.set_cons_succ]
      refine wpAnyH_take (i := 18) (v := ?_) rfl (by kernel_rfl) (by kernel_rfl) (by kernel_rfl) (fun _ _ _ h => h) (Or.inl ⟨by rfl, ?_⟩) (by assumption) ?_
      rotate_left
      · intro w hSw; (try dsimp only at hSw); go_simp; try with_reducible rfl
      try simp only [Act.put, List.getElem_toArray, List.getElem_cons_succ, List.getElem_cons_zero, List.setIfInBounds_toArray, List.set_cons_zero, List.set_cons_succ]
      refine wpAnyH_take (i := 19) (v := ?_) rfl (by kernel_rfl) (by kernel_rfl) (by kernel_rfl) (fun _ _ _ h => h) (Or.inl ⟨by rfl, ?_⟩) (by assumption) ?_
      rotate_left
      · intro w hSw; (try dsimp only at hSw); go_simp; try with_reducible rfl
      try simp only [Act.put, List.getElem_toArray, List.getElem_cons_succ, List.getElem_cons_zero, List.setIfInBounds_toArray, List.set_cons_zero, List.set_cons_succ]
      refine wpAnyH_take (i := 20) (v := ?_) rfl (by kernel_rfl) (by kernel_rfl) (by kernel_rfl) (fun _ _ _ h => h) (Or.inl ⟨by rfl, ?_⟩) (by assumption) ?_
      rotate_left
      · intro w hSw; (try dsimp only at hSw); go_simp; try with_reducible rfl
      try simp only [Act.put, List.getElem_toArray, List.getElem_cons_succ, List.getElem_cons_zero, List.setIfInBounds_toArray, List.set_cons_zero, List.set_cons_succ]
      refine wpAnyH_take (i := 21) (v := ?_) rfl (by kernel_rfl) (by kernel_rfl) (by kernel_rfl) (fun _ _ _ h => h) (Or.inl ⟨by rfl, ?_⟩) (by assumption) ?_
      rotate_left
      · intro w hSw; (try dsimp only at hSw); go_simp; try with_reducible rfl
      try simp only [Act.put, List.getElem_toArray, List.getElem_cons_succ, List.getElem_cons_zero, List.setIfInBounds_toArray, List.set_cons_zero, List.set_cons_succ]
      refine wpAnyH_take (i := 22) (v := ?_) rfl (by kernel_rfl) (by kernel_rfl) (by kernel_rfl) (fun _ _ _ h => h) (Or.inl ⟨by rfl, ?_⟩) (by assumption) ?_
      rotate_left
      · intro w hSw; (try dsimp only at hSw); go_simp; try with_reducible rfl
      try simp only [Act.put, List.getElem_toArray, List.getElem_cons_succ, List.getElem_cons_zero, List.setIfInBounds_toArray, List.set_cons_zero, List.set_cons_succ]
      refine wpAnyH_take (i := 23) (v := ?_) rfl (by kernel_rfl) (by kernel_rfl) (by kernel_rfl) (fun _ _ _ h => h) (Or.inl ⟨by rfl, ?_⟩) (by assumption) ?_
      rotate_left
      · intro w hSw; (try dsimp only at hSw); go_simp; try with_reducible rfl
      try simp only [Act.put, List.getElem_toArray, List.getElem_cons_succ, List.getElem_cons_zero, List.setIfInBounds_toArray, List.set_cons_zero, List.set_cons_succ]
      refine wpAnyH_take (i := 24) (v := ?_) rfl (by kernel_rfl) (by kernel_rfl) (by kernel_rfl) (fun _ _ _ h => h) (Or.inl ⟨by rfl, ?_⟩) (by assumption) ?_
      rotate_left
      · intro w hSw; (try dsimp only at hSw); go_simp; try with_reducible rfl
      try simp only [Act.put, List.getElem_toArray, List.getElem_cons_succ, List.getElem_cons_zero, List.setIfInBounds_toArray, List.set_cons_zero, List.set_cons_succ]
      refine wpAnyH_take (i := 26) (v := ?_) rfl (by kernel_rfl) (by kernel_rfl) (by kernel_rfl) (fun _ _ _ h => h) (Or.inl ⟨by rfl, ?_⟩) (by assumption) ?_
      rotate_left
      · intro w hSw; (try dsimp only at hSw); go_simp; try with_reducible rfl
      try simp only [Act.put, List.getElem_toArray, List.getElem_cons_succ, List.getElem_cons_zero, List.setIfInBounds_toArray, List.set_cons_zero, List.set_cons_succ]
      refine wpAnyH_take (i := 27) (v := ?_) rfl (by kernel_rfl) (by kernel_rfl) (by kernel_rfl) (fun _ _ _ h => h) (Or.inl ⟨by rfl, ?_⟩) (by assumption) ?_
      rotate_left
      · intro w hSw; (try dsimp only at hSw); go_simp; try with_reducible rfl
      try simp only [Act.put, List.getElem_toArray, List.getElem_cons_succ, List.getElem_cons_zero, List.setIfInBounds_toArray, List.set_cons_zero, List.set_cons_succ]
      refine wpAnyH_take (i := 28) (v := ?_) rfl (by kernel_rfl) (by kernel_rfl) (by kernel_rfl) (fun _ _ _ h => h) (Or.inl ⟨by rfl, ?_⟩) (by assumption) ?_
      rotate_left
      · intro w hSw; (try dsimp only at hSw); go_simp; try with_reducible rfl
      try simp only [Act.put, List.getElem_toArray, List.getElem_cons_succ, List.getElem_cons_zero, List.setIfInBounds_toArray, List.set_cons_zero, List.set_cons_succ]
      refine wpAnyH_take (i := 29) (v := ?_) rfl (by kernel_rfl) (by kernel_rfl) (by kernel_rfl) (fun _ _ _ h => h) (Or.inl ⟨by rfl, ?_⟩) (by assumption) ?_
      rotate_left
      · intro w hSw; (try dsimp only at hSw); go_simp; try with_reducible rfl
      try simp only [Act.put, List.getElem_toArray, List.getElem_cons_succ, List.getElem_cons_zero, List.setIfInBounds_toArray, List.set_cons_zero, List.set_cons_succ]
      refine wpAnyH_take (i := 30) (v := ?_) rfl (by kernel_rfl) (by kernel_rfl) (by kernel_rfl) (fun _ _ _ h => h) (Or.inl ⟨by rfl, ?_⟩) (by assumption) ?_
      rotate_left
      · intro w hSw; (try dsimp only at hSw); go_simp; try with_reducible rfl
      try simp only [Act.put, List.getElem_toArray, List.getElem_cons_succ, List.getElem_cons_zero, List.setIfInBounds_toArray, List.set_cons_zero, List.set_cons_succ]
      refine wpAnyH_ready (rs := [25]) (by kernel_rfl) (by simp) (AllReadyH.cons rfl (fun K hK => ?_) AllReadyH.nil)
      rw [if_pos (by rfl)]
      go_simp
      refine hlb.mono ?_
      rintro e W7 ⟨rfl, hW7⟩
      rw [hW7]
      clear hW7 W7
      refine hK.out _ _ hS2 (fun _ => ?_)
      clear hK K
      try simp only [Act.put, List.getElem_toArray, List.getElem_cons_succ, List.getElem_cons_zero, List.setIfInBounds_toArray, List.set_cons_zero, List.set_cons_succ]
      refine wpAnyH_take (i := 31) (v := ?_) rfl (by kernel_rfl) (by kernel_rfl) (by kernel_rfl) (fun _ _ _ h => h) (Or.inl ⟨by rfl, ?_⟩) (by assumption) ?_
      rotate_left
      · intro w hSw; (try dsimp only at hSw); go_simp; try with_reducible rfl
      try simp only [Act.put, List.getElem_toArray, List.getElem_cons_succ, List.getElem_cons_zero, List.setIfInBounds_toArray, List.set_cons_zero, List.set_cons_succ]
      refine wpAnyH_take (i := 32) (v := ?_) rfl (by kernel_rfl) (by kernel_rfl) (by kernel_rfl) (fun _ _ _ h => h) (Or.inl ⟨by rfl, ?_⟩) (by assumption) ?_
      rotate_left
      · intro w hSw; (try dsimp only at hSw); go_simp; try with_reducible rfl
      try simp only [Act.put, List.getElem_toArray, List.getElem_cons_succ, List.getElem_cons_zero, List.setIfInBounds_toArray, List.set_cons_zero, List.set_cons_succ]
      refine wpAnyH_done (by kernel_rfl) ?_ _
      clear hS2 hla hlb
      have HZ : Hid (Mid w (fun _ => False) [shelfT sa kb (i + 1), shelfT sb kb (i + 1), kT kb (2 * (i + 1))] W6) := by
        have g1 := shelf_shut (s := sb) (B := i + 1) (x := ⟨bb, bbk0, bbk1, bk0, bk1, bar, bgo, brows, .slice ba brows.length cb, babs0, babs1, bl0, bl1⟩) HM6.out (HXB.out.more (by omega))
        have g2 := g1.perm (List.perm_middle (l₁ := shelfL sa kb ⟨ab, abk0, abk1, ak0, ak1, aar, ago, arows, .slice aa arows.length ca, aabs0, aabs1, al0, al1⟩)).symm
        exact shelf_shut (s := sa) (B := i + 1) g2 (HXA.out.more (by omega))
      clear HM6 HXA HXB
      go_wp2_with fail
      go_roundg (L.length - (i + 1))
      case measure => omega
      case rel => exact ⟨i + 1, by go_num, by omega, Nat.le_refl _, HZ⟩
    · have honz := hon
      go_upto_region 12 with fail
      have hS : (fun w' : World => w'.rangeAt g (oo + i * 28) (opV kind on book m row)) wr.drew := hrw
      have HMd := Lib.hid (HM.out.below (below_drew' (Below.refl _ _)))
      clear HM hrw con
      refine wp_region_held_drew (S := (fun w' : World => w'.rangeAt g (oo + i * 28) (opV kind on book m row))) (by kernel_rfl) hS (fun hS => ?_)
      generalize wr.drew = W5 at *
      refine wpAnyH_take (i := 0) (v := ?_) rfl (by kernel_rfl) (by kernel_rfl) (by kernel_rfl) (fun _ _ _ h => h) (Or.inl ⟨by rfl, ?_⟩) (by assumption) ?_
      rotate_left
      · intro w hSw; (try dsimp only at hSw); go_simp; try with_reducible rfl
      try simp only [Act.put, List.getElem_toArray, List.getElem_cons_succ, List.getElem_cons_zero, List.setIfInBounds_toArray, List.set_cons_zero, List.set_cons_succ]
      refine wpAnyH_take (i := 1) (v := ?_) rfl (by kernel_rfl) (by kernel_rfl) (by kernel_rfl) (fun _ _ _ h => h) (Or.inl ⟨by rfl, ?_⟩) (by assumption) ?_
      rotate_left
      · intro w hSw; (try dsimp only at hSw); go_simp; try with_reducible rfl
      try simp only [Act.put, List.getElem_toArray, List.getElem_cons_succ, List.getElem_cons_zero, List.setIfInBounds_toArray, List.set_cons_zero, List.set_cons_succ]
      refine wpAnyH_take (i := 2) (v := ?_) rfl (by kernel_rfl) (by kernel_rfl) (by kernel_rfl) (fun _ _ _ h => h) (Or.inl ⟨by rfl, ?_⟩) (by assumption) ?_
      rotate_left
      · intro w hSw; (try dsimp only at hSw); go_simp; try with_reducible rfl
      try simp only [Act.put, List.getElem_toArray, List.getElem_cons_succ, List.getElem_cons_zero, List.setIfInBounds_toArray, List.set_cons_zero, List.set_cons_succ]
      refine wpAnyH_take (i := 3) (v := ?_) rfl (by kernel_rfl) (by kernel_rfl) (by kernel_rfl) (fun _ _ _ h => h) (Or.inl ⟨by rfl, ?_⟩) (by assumption) ?_
      rotate_left
      · intro w hSw; (try dsimp only at hSw); go_simp; try with_reducible rfl
      try simp only [Act.put, List.getElem_toArray, List.getElem_cons_succ, List.getElem_cons_zero, List.setIfInBounds_toArray, List.set_cons_zero, List.set_cons_succ]
      refine wpAnyH_take (i := 4) (v := _) rfl (by kernel_rfl) (by kernel_rfl) (by kernel_rfl) (fun _ _ _ h => h) (yieldsIf_load_mid (by rfl) 66 _ rfl g (oo + i * 28) rfl (opV kind on book m row) _ (fun w' hw' => hw') Tryz.underlying66 rfl hszo) (by assumption) ?_
      try simp only [Act.put, List.getElem_toArray, List.getElem_cons_succ, List.getElem_cons_zero, List.setIfInBounds_toArray, List.set_cons_zero, List.set_cons_succ]
      refine wpAnyH_ready (rs := [5]) (by kernel_rfl) (by simp) (AllReadyH.cons rfl (fun K hK => ?_) AllReadyH.nil)
      rw [if_pos (by rfl)]
      go_simp
      refine (does_calls HMd.out.up2.up2 (by omega) (by omega) hrow hm).mono ?_
      rintro e W6 ⟨rfl, h6⟩
      clear HMd hS
      obtain ⟨xa, hxa, h7⟩ := shelf_open h6.up1.up1.up2
      obtain ⟨xb, hxb, h8⟩ := shelf_open (h7.perm (List.perm_middle (l₁ := shelfL sa kb xa)))
      clear h6 h7
      obtain ⟨ab, abk0, abk1, ak0, ak1, aar, ago, arows, alv, aabs0, aabs1, al0, al1⟩ := xa
      obtain ⟨bb, bbk0, bbk1, bk0, bk1, bar, bgo, brows, blv, babs0, babs1, bl0, bl1⟩ := xb
      have HM6 := Lib.hid (show Mid w (fun _ => False) (cellsT sb [ptrV bb, .int .i64 (bar : Int), blv, ptrV bbk0, ptrV bbk1, ptrV bk0, ptrV bk1, ptrV kb] 75 :: relT bb bar bgo brows :: rowsT blv brows :: bkT bbk0 bb babs0 :: docT bk0 bar bl0 :: bkT bbk1 bb babs1 :: docT bk1 bar bl1 :: cellsT sa [ptrV ab, .int .i64 (aar : Int), alv, ptrV abk0, ptrV abk1, ptrV ak0, ptrV ak1, ptrV kb] 75 :: relT ab aar ago arows :: rowsT alv arows :: bkT abk0 ab aabs0 :: docT ak0 aar al0 :: bkT abk1 ab aabs1 :: docT ak1 aar al1 :: [kT kb (2 * i + 2)]) W6 from h8)
      have HXA := Lib.hid hxa
      have HXB := Lib.hid hxb
      clear h8 hxa hxb
      obtain ⟨aa, ca, rfl⟩ : ∃ a c, alv = .slice a arows.length c := by obtain ⟨F, hT, _⟩ := HM6.out.get mem9; exact own_slice0 hT.1
      obtain ⟨ba, cb, rfl⟩ : ∃ a c, blv = .slice a brows.length c := by obtain ⟨F, hT, _⟩ := HM6.out.get mem2; exact own_slice0 hT.1
      have hla := b_len (show Rel W6 _ ab aar ago arows from (HM6.out.get mem8).choose_spec)
      have hlb := b_len (show Rel W6 _ bb bar bgo brows from (HM6.out.get mem1).choose_spec)
      have hS2 : (fun w' : World => w'.rangeAt g (oo + i * 28) (opV kind on book m row) ∧ w'.cell? ⟨sa, 0, none⟩ = some (ptrV ab) ∧ w'.cell? ⟨sa, 2, none⟩ = some (.slice aa arows.length ca) ∧ w'.cell? ⟨sb, 0, none⟩ = some (ptrV bb) ∧ w'.cell? ⟨sb, 2, none⟩ = some (.slice ba brows.length cb)) W6 := ⟨range_below HRX.out HM6.out.wasBelow hg, HM6.out.cellAt mem7 rfl, HM6.out.cellAt mem7 rfl, HM6.out.cellAt (List.mem_cons_self ..) rfl, HM6.out.cellAt (List.mem_cons_self ..) rfl⟩
      refine hK.out _ _ hS2.1 (fun _ => ?_)
      clear hK K
      try simp only [Act.put, List.getElem_toArray, List.getElem_cons_succ, List.getElem_cons_zero, List.setIfInBounds_toArray, List.set_cons_zero, List.set_cons_succ]
      refine anyH_more (S' := (fun w' : World => w'.rangeAt g (oo + i * 28) (opV kind on book m row) ∧ w'.cell? ⟨sa, 0, none⟩ = some (ptrV ab) ∧ w'.cell? ⟨sa, 2, none⟩ = some (.slice aa arows.length ca) ∧ w'.cell? ⟨sb, 0, none⟩ = some (ptrV bb) ∧ w'.cell? ⟨sb, 2, none⟩ = some (.slice ba brows.length cb))) (fun w h => h.1) _ _ _ _ ?_
      refine wpAnyH_take (i := 6) (v := ?_) rfl (by kernel_rfl) (by kernel_rfl) (by kernel_rfl) (fun _ _ _ h => h) (Or.inl ⟨by rfl, ?_⟩) (by assumption) ?_
      rotate_left
      · intro w hSw; (try dsimp only at hSw); go_simp; try with_reducible rfl
      try simp only [Act.put, List.getElem_toArray, List.getElem_cons_succ, List.getElem_cons_zero, List.setIfInBounds_toArray, List.set_cons_zero, List.set_cons_succ]
      refine wpAnyH_take (i := 7) (v := ?_) rfl (by kernel_rfl) (by kernel_rfl) (by kernel_rfl) (fun _ _ _ h => h) (Or.inl ⟨by rfl, ?_⟩) (by assumption) ?_
      rotate_left
      · intro w hSw; (try dsimp only at hSw); go_simp; try with_reducible rfl
      try simp only [Act.put, List.getElem_toArray, List.getElem_cons_succ, List.getElem_cons_zero, List.setIfInBounds_toArray, List.set_cons_zero, List.set_cons_succ]
      refine wpAnyH_take (i := 8) (v := ?_) rfl (by kernel_rfl) (by kernel_rfl) (by kernel_rfl) (fun _ _ _ h => h) (Or.inl ⟨by rfl, ?_⟩) (by assumption) ?_
      rotate_left
      · intro w hSw; (try dsimp only at hSw); go_simp; try with_reducible rfl
      try simp only [Act.put, List.getElem_toArray, List.getElem_cons_succ, List.getElem_cons_zero, List.setIfInBounds_toArray, List.set_cons_zero, List.set_cons_succ]
      refine wpAnyH_take (i := 9) (v := ?_) rfl (by kernel_rfl) (by kernel_rfl) (by kernel_rfl) (fun _ _ _ h => h) (Or.inl ⟨by rfl, ?_⟩) (by assumption) ?_
      rotate_left
      · intro w hSw; (try dsimp only at hSw); go_simp; try with_reducible rfl
      try simp only [Act.put, List.getElem_toArray, List.getElem_cons_succ, List.getElem_cons_zero, List.setIfInBounds_toArray, List.set_cons_zero, List.set_cons_succ]
      refine wpAnyH_take (i := 10) (v := ?_) rfl (by kernel_rfl) (by kernel_rfl) (by kernel_rfl) (fun _ _ _ h => h) (Or.inl ⟨by rfl, ?_⟩) (by assumption) ?_
      rotate_left
      · intro w hSw; (try dsimp only at hSw); go_simp; try with_reducible rfl
      try simp only [Act.put, List.getElem_toArray, List.getElem_cons_succ, List.getElem_cons_zero, List.setIfInBounds_toArray, List.set_cons_zero, List.set_cons_succ]
      refine wpAnyH_take (i := 11) (v := ?_) rfl (by kernel_rfl) (by kernel_rfl) (by kernel_rfl) (fun _ _ _ h => h) (Or.inl ⟨by rfl, ?_⟩) (by assumption) ?_
      rotate_left
      · intro w hSw; (try dsimp only at hSw); go_simp; try with_reducible rfl
      try simp only [Act.put, List.getElem_toArray, List.getElem_cons_succ, List.getElem_cons_zero, List.setIfInBounds_toArray, List.set_cons_zero, List.set_cons_succ]
      refine wpAnyH_take (i := 13) (v := ?_) rfl (by kernel_rfl) (by kernel_rfl) (by kernel_rfl) (fun _ _ _ h => h) (Or.inl ⟨by rfl, ?_⟩) (by assumption) ?_
      rotate_left
      · intro w hSw; (try dsimp only at hSw); go_simp; try with_reducible rfl
      try simp only [Act.put, List.getElem_toArray, List.getElem_cons_succ, List.getElem_cons_zero, List.setIfInBounds_toArray, List.set_cons_zero, List.set_cons_succ]
      refine wpAnyH_take (i := 14) (v := ?_) rfl (by kernel_rfl) (by kernel_rfl) (by kernel_rfl) (fun _ _ _ h => h) (Or.inl ⟨by rfl, ?_⟩) (by assumption) ?_
      rotate_left
      · intro w hSw; (try dsimp only at hSw); go_simp; try with_reducible rfl
      try simp only [Act.put, List.getElem_toArray, List.getElem_cons_succ, List.getElem_cons_zero, List.setIfInBounds_toArray, List.set_cons_zero, List.set_cons_succ]
      refine wpAnyH_take (i := 15) (v := ?_) rfl (by kernel_rfl) (by kernel_rfl) (by kernel_rfl) (fun _ _ _ h => h) (Or.inl ⟨by rfl, ?_⟩) (by assumption) ?_
      rotate_left
      · intro w hSw; (try dsimp only at hSw); go_simp; try with_reducible rfl
      try simp only [Act.put, List.getElem_toArray, List.getElem_cons_succ, List.getElem_cons_zero, List.setIfInBounds_toArray, List.set_cons_zero, List.set_cons_succ]
      refine wpAnyH_take (i := 16) (v := ?_) rfl (by kernel_rfl) (by kernel_rfl) (by kernel_rfl) (fun _ _ _ h => h) (Or.inl ⟨by rfl, ?_⟩) (by assumption) ?_
      rotate_left
      · intro w hSw; (try dsimp only at hSw); go_simp; try with_reducible rfl
      try simp only [Act.put, List.getElem_toArray, List.getElem_cons_succ, List.getElem_cons_zero, List.setIfInBounds_toArray, List.set_cons_zero, List.set_cons_succ]
      refine wpAnyH_take (i := 17) (v := ?_) rfl (by kernel_rfl) (by kernel_rfl) (by kernel_rfl) (fun _ _ _ h => h) (Or.inl ⟨by rfl, ?_⟩) (by assumption) ?_
      rotate_left
      · intro w hSw; (try dsimp only at hSw); go_simp; try with_reducible rfl
      try simp only [Act.put, List.getElem_toArray, List.getElem_cons_succ, List.getElem_cons_zero, List.setIfInBounds_toArray, List.set_cons_zero, List.set_cons_succ]
      refine wpAnyH_ready (rs := [12]) (by kernel_rfl) (by simp) (AllReadyH.cons rfl (fun K hK => ?_) AllReadyH.nil)
      rw [if_pos (by rfl)]
      go_simp
      refine hla.mono ?_
      rintro e W7 ⟨rfl, hW7⟩
      rw [hW7]
      clear hW7 W7
      refine hK.out _ _ hS2 (fun _ => ?_)
      clear hK K
      try simp only [Act.put, List.getElem_toArray, List.getElem_cons_succ, List.getElem_cons_zero, List.setIfInBounds_toArray, List.set_cons_zero, List.set_cons_succ]
      refine wpAnyH_take (i := 18) (v := ?_) rfl (by kernel_rfl) (by kernel_rfl) (by kernel_rfl) (fun _ _ _ h => h) (Or.inl ⟨by rfl, ?_⟩) (by assumption) ?_
      rotate_left
      · intro w hSw; (try dsimp only at hSw); go_simp; try with_reducible rfl
      try simp only [Act.put, List.getElem_toArray, List.getElem_cons_succ, List.getElem_cons_zero, List.setIfInBounds_toArray, List.set_cons_zero, List.set_cons_succ]
      refine wpAnyH_take (i := 19) (v := ?_) rfl (by kernel_rfl) (by kernel_rfl) (by kernel_rfl) (fun _ _ _ h => h) (Or.inl ⟨by rfl, ?_⟩) (by assumption) ?_
      rotate_left
      · intro w hSw; (try dsimp only at hSw); go_simp; try with_reducible rfl
      try simp only [Act.put, List.getElem_toArray, List.getElem_cons_succ, List.getElem_cons_zero, List.setIfInBounds_toArray, List.set_cons_zero, List.set_cons_succ]
      refine wpAnyH_take (i := 20) (v := ?_) rfl (by kernel_rfl) (by kernel_rfl) (by kernel_rfl) (fun _ _ _ h => h) (Or.inl ⟨by rfl, ?_⟩) (by assumption) ?_
      rotate_left
      · intro w hSw; (try dsimp only at hSw); go_simp; try with_reducible rfl
      try simp only [Act.put, List.getElem_toArray, List.getElem_cons_succ, List.getElem_cons_zero, List.setIfInBounds_toArray, List.set_cons_zero, List.set_cons_succ]
      refine wpAnyH_take (i := 21) (v := ?_) rfl (by kernel_rfl) (by kernel_rfl) (by kernel_rfl) (fun _ _ _ h => h) (Or.inl ⟨by rfl, ?_⟩) (by assumption) ?_
      rotate_left
      · intro w hSw; (try dsimp only at hSw); go_simp; try with_reducible rfl
      try simp only [Act.put, List.getElem_toArray, List.getElem_cons_succ, List.getElem_cons_zero, List.setIfInBounds_toArray, List.set_cons_zero, List.set_cons_succ]
      refine wpAnyH_take (i := 22) (v := ?_) rfl (by kernel_rfl) (by kernel_rfl) (by kernel_rfl) (fun _ _ _ h => h) (Or.inl ⟨by rfl, ?_⟩) (by assumption) ?_
      rotate_left
      · intro w hSw; (try dsimp only at hSw); go_simp; try with_reducible rfl
      try simp only [Act.put, List.getElem_toArray, List.getElem_cons_succ, List.getElem_cons_zero, List.setIfInBounds_toArray, List.set_cons_zero, List.set_cons_succ]
      refine wpAnyH_take (i := 23) (v := ?_) rfl (by kernel_rfl) (by kernel_rfl) (by kernel_rfl) (fun _ _ _ h => h) (Or.inl ⟨by rfl, ?_⟩) (by assumption) ?_
      rotate_left
      · intro w hSw; (try dsimp only at hSw); go_simp; try with_reducible rfl
      try simp only [Act.put, List.getElem_toArray, List.getElem_cons_succ, List.getElem_cons_zero, List.setIfInBounds_toArray, List.set_cons_zero, List.set_cons_succ]
      refine wpAnyH_take (i := 24) (v := ?_) rfl (by kernel_rfl) (by kernel_rfl) (by kernel_rfl) (fun _ _ _ h => h) (Or.inl ⟨by rfl, ?_⟩) (by assumption) ?_
      rotate_left
      · intro w hSw; (try dsimp only at hSw); go_simp; try with_reducible rfl
      try simp only [Act.put, List.getElem_toArray, List.getElem_cons_succ, List.getElem_cons_zero, List.setIfInBounds_toArray, List.set_cons_zero, List.set_cons_succ]
      refine wpAnyH_take (i := 26) (v := ?_) rfl (by kernel_rfl) (by kernel_rfl) (by kernel_rfl) (fun _ _ _ h => h) (Or.inl ⟨by rfl, ?_⟩) (by assumption) ?_
      rotate_left
      · intro w hSw; (try dsimp only at hSw); go_simp; try with_reducible rfl
      try simp only [Act.put, List.getElem_toArray, List.getElem_cons_succ, List.getElem_cons_zero, List.setIfInBounds_toArray, List.set_cons_zero, List.set_cons_succ]
      refine wpAnyH_take (i := 27) (v := ?_) rfl (by kernel_rfl) (by kernel_rfl) (by kernel_rfl) (fun _ _ _ h => h) (Or.inl ⟨by rfl, ?_⟩) (by assumption) ?_
      rotate_left
      · intro w hSw; (try dsimp only at hSw); go_simp; try with_reducible rfl
      try simp only [Act.put, List.getElem_toArray, List.getElem_cons_succ, List.getElem_cons_zero, List.setIfInBounds_toArray, List.set_cons_zero, List.set_cons_succ]
      refine wpAnyH_take (i := 28) (v := ?_) rfl (by kernel_rfl) (by kernel_rfl) (by kernel_rfl) (fun _ _ _ h => h) (Or.inl ⟨by rfl, ?_⟩) (by assumption) ?_
      rotate_left
      · intro w hSw; (try dsimp only at hSw); go_simp; try with_reducible rfl
      try simp only [Act.put, List.getElem_toArray, List.getElem_cons_succ, List.getElem_cons_zero, List.setIfInBounds_toArray, List.set_cons_zero, List.set_cons_succ]
      refine wpAnyH_take (i := 29) (v := ?_) rfl (by kernel_rfl) (by kernel_rfl) (by kernel_rfl) (fun _ _ _ h => h) (Or.inl ⟨by rfl, ?_⟩) (by assumption) ?_
      rotate_left
      · intro w hSw; (try dsimp only at hSw); go_simp; try with_reducible rfl
      try simp only [Act.put, List.getElem_toArray, List.getElem_cons_succ, List.getElem_cons_zero, List.setIfInBounds_toArray, List.set_cons_zero, List.set_cons_succ]
      refine wpAnyH_take (i := 30) (v := ?_) rfl (by kernel_rfl) (by kernel_rfl) (by kernel_rfl) (fun _ _ _ h => h) (Or.inl ⟨by rfl, ?_⟩) (by assumption) ?_
      rotate_left
      · intro w hSw; (try dsimp only at hSw); go_simp; try with_reducible rfl
      try simp only [Act.put, List.getElem_toArray, List.getElem_cons_succ, List.getElem_cons_zero, List.setIfInBounds_toArray, List.set_cons_zero, List.set_cons_succ]
      refine wpAnyH_ready (rs := [25]) (by kernel_rfl) (by simp) (AllReadyH.cons rfl (fun K hK => ?_) AllReadyH.nil)
      rw [if_pos (by rfl)]
      go_simp
      refine hlb.mono ?_
      rintro e W7 ⟨rfl, hW7⟩
      rw [hW7]
      clear hW7 W7
      refine hK.out _ _ hS2 (fun _ => ?_)
      clear hK K
      try simp only [Act.put, List.getElem_toArray, List.getElem_cons_succ, List.getElem_cons_zero, List.setIfInBounds_toArray, List.set_cons_zero, List.set_cons_succ]
      refine wpAnyH_take (i := 31) (v := ?_) rfl (by kernel_rfl) (by kernel_rfl) (by kernel_rfl) (fun _ _ _ h => h) (Or.inl ⟨by rfl, ?_⟩) (by assumption) ?_
      rotate_left
      · intro w hSw; (try dsimp only at hSw); go_simp; try with_reducible rfl
      try simp only [Act.put, List.getElem_toArray, List.getElem_cons_succ, List.getElem_cons_zero, List.setIfInBounds_toArray, List.set_cons_zero, List.set_cons_succ]
      refine wpAnyH_take (i := 32) (v := ?_) rfl (by kernel_rfl) (by kernel_rfl) (by kernel_rfl) (fun _ _ _ h => h) (Or.inl ⟨by rfl, ?_⟩) (by assumption) ?_
      rotate_left
      · intro w hSw; (try dsimp only at hSw); go_simp; try with_reducible rfl
      try simp only [Act.put, List.getElem_toArray, List.getElem_cons_succ, List.getElem_cons_zero, List.setIfInBounds_toArray, List.set_cons_zero, List.set_cons_succ]
      refine wpAnyH_done (by kernel_rfl) ?_ _
      clear hS2 hla hlb
      have HZ : Hid (Mid w (fun _ => False) [shelfT sa kb (i + 1), shelfT sb kb (i + 1), kT kb (2 * (i + 1))] W6) := by
        have g1 := shelf_shut (s := sb) (B := i + 1) (x := ⟨bb, bbk0, bbk1, bk0, bk1, bar, bgo, brows, .slice ba brows.length cb, babs0, babs1, bl0, bl1⟩) HM6.out (HXB.out.more (by omega))
        have g2 := g1.perm (List.perm_middle (l₁ := shelfL sa kb ⟨ab, abk0, abk1, ak0, ak1, aar, ago, arows, .slice aa arows.length ca, aabs0, aabs1, al0, al1⟩)).symm
        exact shelf_shut (s := sa) (B := i + 1) g2 (HXA.out.more (by omega))
      clear HM6 HXA HXB
      go_wp2_with fail
      go_roundg (L.length - (i + 1))
      case measure => omega
      case rel => exact ⟨i + 1, by go_num, by omega, Nat.le_refl _, HZ⟩
  case neg =>
    have hz : ¬ (i : Int) < (L.length : Int) := by omega
    obtain rfl : i = L.length := by omega
    obtain ⟨xa, hxa, h7⟩ := shelf_open HM.out
    obtain ⟨xb, hxb, h8⟩ := shelf_open (h7.perm (List.perm_middle (l₁ := shelfL sa kb xa)))
    have hna := Nat.le_trans hxa.n hn
    have hnb := Nat.le_trans hxb.n hn
    clear HM h7 hxa hxb
    obtain ⟨ab, abk0, abk1, ak0, ak1, aar, ago, arows, alv, aabs0, aabs1, al0, al1⟩ := xa
    obtain ⟨bb, bbk0, bbk1, bk0, bk1, bar, bgo, brows, blv, babs0, babs1, bl0, bl1⟩ := xb
    replace hna : arows.length ≤ 1048576 := hna
    replace hnb : brows.length ≤ 1048576 := hnb
    have HM6 := Lib.hid (show Mid w (fun _ => False) (cellsT sb [ptrV bb, .int .i64 (bar : Int), blv, ptrV bbk0, ptrV bbk1, ptrV bk0, ptrV bk1, ptrV kb] 75 :: relT bb bar bgo brows :: rowsT blv brows :: bkT bbk0 bb babs0 :: docT bk0 bar bl0 :: bkT bbk1 bb babs1 :: docT bk1 bar bl1 :: cellsT sa [ptrV ab, .int .i64 (aar : Int), alv, ptrV abk0, ptrV abk1, ptrV ak0, ptrV ak1, ptrV kb] 75 :: relT ab aar ago arows :: rowsT alv arows :: bkT abk0 ab aabs0 :: docT ak0 aar al0 :: bkT abk1 ab aabs1 :: docT ak1 aar al1 :: [kT kb (2 * L.length)]) wr from h8)
    clear h8
    obtain ⟨aa, ca, rfl⟩ : ∃ a c, alv = .slice a arows.length c := by obtain ⟨F, hT, _⟩ := HM6.out.get mem9; exact own_slice0 hT.1
    obtain ⟨ba, cb, rfl⟩ : ∃ a c, blv = .slice a brows.length c := by obtain ⟨F, hT, _⟩ := HM6.out.get mem2; exact own_slice0 hT.1
    obtain ⟨TS, hTS⟩ : ∃ TS, cellsT sb [ptrV bb, .int .i64 (bar : Int), .slice ba brows.length cb, ptrV bbk0, ptrV bbk1, ptrV bk0, ptrV bk1, ptrV kb] 75 :: relT bb bar bgo brows :: rowsT (.slice ba brows.length cb) brows :: bkT bbk0 bb babs0 :: docT bk0 bar bl0 :: bkT bbk1 bb babs1 :: docT bk1 bar bl1 :: cellsT sa [ptrV ab, .int .i64 (aar : Int), .slice aa arows.length ca, ptrV abk0, ptrV abk1, ptrV ak0, ptrV ak1, ptrV kb] 75 :: relT ab aar ago arows :: rowsT (.slice aa arows.length ca) arows :: bkT abk0 ab aabs0 :: docT ak0 aar al0 :: bkT abk1 ab aabs1 :: docT ak1 aar al1 :: [] = TS := ⟨_, rfl⟩
    have mra : Hid (relT ab aar ago arows ∈ TS) := by rw [← hTS]; exact mem8
    have mwa : Hid (rowsT (.slice aa arows.length ca) arows ∈ TS) := by rw [← hTS]; exact mem9
    have mca : Hid (cellsT sa [ptrV ab, .int .i64 (aar : Int), .slice aa arows.length ca, ptrV abk0, ptrV abk1, ptrV ak0, ptrV ak1, ptrV kb] 75 ∈ TS) := by rw [← hTS]; exact mem7
    have mrb : Hid (relT bb bar bgo brows ∈ TS) := by rw [← hTS]; exact mem1
    have mwb : Hid (rowsT (.slice ba brows.length cb) brows ∈ TS) := by rw [← hTS]; exact mem2
    have mcb : Hid (cellsT sb [ptrV bb, .int .i64 (bar : Int), .slice ba brows.length cb, ptrV bbk0, ptrV bbk1, ptrV bk0, ptrV bk1, ptrV kb] 75 ∈ TS) := by rw [← hTS]; exact List.mem_cons_self ..
    have HM7 := Lib.hid (show Mid w (fun _ => False) (kT kb (2 * L.length) :: TS) wr from by
      rw [← hTS]
      exact HM6.out.perm (List.perm_middle (l₁ := [_, _, _, _, _, _, _, _, _, _, _, _, _, _])))
    clear HM6 hTS
    have HM8 := Lib.hid (HM7.out.alloc [ptrV sa, ptrV sb] 56)
    clear HM7
    go_wp2_with fail
    change Code.wp _ _ _ _ (wr.alloc (.cells [ptrV sa, ptrV sb].toArray 56))
    generalize wr.alloc (.cells [ptrV sa, ptrV sb].toArray 56) = wn at *
    generalize wr.heap.size = NB at *
    refine wp_loop_rounds 3 ?_
    rw [rounds_succ]
    have cN : wn.cell? ⟨NB, 0, none⟩ = some (ptrV sa) := HM8.out.cellAt (List.mem_cons_self ..) rfl
    go_wp2_with fail
    go_loopg [16, 17, 18] arows.length (fun n s16 s17 s18 wr => ∃ i : Nat, s16 = .int .i64 (i : Int) ∧ i ≤ arows.length ∧ arows.length - i ≤ n ∧ Hid (Mid w (fun _ => False) (cellsT NB [ptrV sa, ptrV sb] 56 :: kT kb (2 * L.length) :: TS) wr))
    case atStart => exact ⟨0, rfl, Nat.zero_le _, by omega, HM8.out⟩
    clear HM8 cN
    obtain ⟨i, rfl, hi, hfu, HM8⟩ := hrel
    have c2 : wr.cell? ⟨sa, 2, none⟩ = some (.slice aa arows.length ca) := HM8.out.cellAt (List.mem_cons_of_mem _ (List.mem_cons_of_mem _ mca.out)) rfl
    have c0 : wr.cell? ⟨sa, 0, none⟩ = some (ptrV ab) := HM8.out.cellAt (List.mem_cons_of_mem _ (List.mem_cons_of_mem _ mca.out)) rfl
    by_cases hil : i < arows.length
    case pos =>
      have hz : (i : Int) < (arows.length : Int) := by omega
      have hat := b_at (show Rel wr _ ab aar ago arows from (HM8.out.get (List.mem_cons_of_mem _ (List.mem_cons_of_mem _ mra.out))).choose_spec) hil
      obtain ⟨xi, hxi⟩ : ∃ xi, arows[i] = xi := ⟨_, rfl⟩
      rw [hxi] at hat
      obtain ⟨Fr, hrt, hro⟩ := HM8.out.get (List.mem_cons_of_mem _ (List.mem_cons_of_mem _ mwa.out))
      have hxo : RowOk xi := hxi ▸ hro _ (List.getElem_mem hil)
      obtain ⟨a', c', e', hra⟩ := rows_at hrt.1 hro
      injection e' with e1' _ e2'
      subst e1'; subst e2'
      obtain ⟨g, hge, hg, hrx⟩ := hra i hil
      rw [List.getD_eq_getElem?_getD, List.getElem?_eq_getElem hil, Option.getD_some, hxi] at hrx
      clear hra hrt hro hxi
      go_wp2_with fail
      refine hat.mono ?_
      rintro e w5 ⟨rfl, hb5⟩
      clear hat
      have HM9 := Lib.hid ((HM8.out.below hb5).alloc (List.replicate 24 (Value.int .i32 0)) 64)
      have hz5 := heap_alloc_new w5 (.cells (List.replicate 24 (Value.int .i32 0)).toArray 64)
      have hrx5 := range_below hrx hb5 hg
      have hg5 : g < w5.heap.size := Nat.lt_of_lt_of_le hg hb5.size
      have hrx6 := range_below hrx5 ((Below.refl w5.heap.size w5).alloc (Nat.le_refl _) (.cells (List.replicate 24 (Value.int .i32 0)).toArray 64)) hg5
      simp only [List.replicate] at HM9 hz5 hrx6
      have hxl := hxo.1
      have hszr : (Tryz.prog.info? 64).map (·.size) = some (xi.map symV).toArray.size := by rw [infoRow]; simp [hxl]
      have hszx : (Tryz.prog.info? 64).map (·.size) = some (xi.map symV).length := by rw [infoRow]; simp [hxl]
      have hone := row_one xi
      have HMa := Lib.hid (HM9.out.setRow (xi.map symV))
      have hrx7 : ∀ W : World, (∀ k, k < w5.heap.size → W.heap[k]? = w5.heap[k]?) → W.rangeAt g (i * 24) (xi.map symV) := fun W hW q v hq => (World.cell?_of_block (a := ⟨g, i * 24 + q, none⟩) (hW g hg5)).trans (hrx5 q v hq)
      clear HM8 c2 c0 hb5 hrx hrx5 hrx6 HM9
      go_wp2_with (refine wpList_store_row rfl 64 _ _ rfl w5.heap.size _ rfl rfl 64 _ hz5 hszr (by simp [hxl]) hone ?_)
      have hrx8 := hrx7 _ (fun k hk => (setRow_other _ w5.heap.size k (xi.map symV).toArray (by omega)).trans (Below.heap_alloc w5 (.cells (List.replicate 24 (Value.int .i32 0)).toArray 64) k hk))
      simp only [List.replicate] at hrx8
      clear hrx7 hz5
      generalize (w5.alloc _).setRow w5.heap.size _ = w6 at *
      generalize w5.heap.size = NX at *
      have c2 : w6.cell? ⟨sa, 2, none⟩ = some (.slice aa arows.length ca) := HMa.out.cellAt (List.mem_cons_of_mem _ (List.mem_cons_of_mem _ (List.mem_cons_of_mem _ mca.out))) rfl
      have hX := range_cells (HMa.out.cells (List.mem_cons_self ..))
      have heq := fun w => run_eqIn_row hxo hxo w
      subst hge
      have hS : (fun w' : World => w'.rangeAt NX 0 (xi.map symV) ∧ w'.cell? ⟨sa, 2, none⟩ = some (.slice (some ⟨g, 0, none⟩) arows.length ca) ∧ w'.rangeAt g (i * 24) (xi.map symV)) w6.drew := ⟨hX, c2, hrx8⟩
      have HMb := Lib.hid (HMa.out.below (below_drew' (Below.refl _ _)))
      clear HMa hX c2 hrx8
      refine wp_region_held_drew (S := (fun w' : World => w'.rangeAt NX 0 (xi.map symV) ∧ w'.cell? ⟨sa, 2, none⟩ = some (.slice (some ⟨g, 0, none⟩) arows.length ca) ∧ w'.rangeAt g (i * 24) (xi.map symV))) (by kernel_rfl) hS (fun hS => ?_)
      generalize w6.drew = W5 at *
      refine wpAnyH_take (i := 0) (v := ?_) rfl (by kernel_rfl) (by kernel_rfl) (by kernel_rfl) (fun _ _ _ h => h) (Or.inl ⟨by rfl, ?_⟩) (by assumption) ?_
      rotate_left
      · intro w hSw; (try dsimp only at hSw); go_simp; try with_reducible rfl
      try simp only [Act.put, List.getElem_toArray, List.getElem_cons_succ, List.getElem_cons_zero, List.setIfInBounds_toArray, List.set_cons_zero, List.set_cons_succ]
      refine wpAnyH_take (i := 1) (v := ?_) rfl (by kernel_rfl) (by kernel_rfl) (by kernel_rfl) (fun _ _ _ h => h) (Or.inl ⟨by rfl, ?_⟩) (by assumption) ?_
      rotate_left
      · intro w hSw; (try dsimp only at hSw); go_simp; try with_reducible rfl
      try simp only [Act.put, List.getElem_toArray, List.getElem_cons_succ, List.getElem_cons_zero, List.setIfInBounds_toArray, List.set_cons_zero, List.set_cons_succ]
      refine wpAnyH_take (i := 2) (v := ?_) rfl (by kernel_rfl) (by kernel_rfl) (by kernel_rfl) (fun _ _ _ h => h) (Or.inl ⟨by rfl, ?_⟩) (by assumption) ?_
      rotate_left
      · intro w hSw; (try dsimp only at hSw); go_simp; try with_reducible rfl
      try simp only [Act.put, List.getElem_toArray, List.getElem_cons_succ, List.getElem_cons_zero, List.setIfInBounds_toArray, List.set_cons_zero, List.set_cons_succ]
      refine wpAnyH_take (i := 3) (v := _) rfl (by kernel_rfl) (by kernel_rfl) (by kernel_rfl) (fun _ _ _ h => h) (yieldsIf_load_mid (by rfl) 64 _ rfl NX 0 rfl (xi.map symV) _ (fun w' hw' => hw'.1) Tryz.underlying64 rfl hszx) (by assumption) ?_
      try simp only [Act.put, List.getElem_toArray, List.getElem_cons_succ, List.getElem_cons_zero, List.setIfInBounds_toArray, List.set_cons_zero, List.set_cons_succ]
      refine wpAnyH_take (i := 4) (v := ?_) rfl (by kernel_rfl) (by kernel_rfl) (by kernel_rfl) (fun _ _ _ h => h) (Or.inl ⟨by rfl, ?_⟩) (by assumption) ?_
      rotate_left
      · intro w hSw; (try dsimp only at hSw); go_simp; try with_reducible rfl
      try simp only [Act.put, List.getElem_toArray, List.getElem_cons_succ, List.getElem_cons_zero, List.setIfInBounds_toArray, List.set_cons_zero, List.set_cons_succ]
      refine wpAnyH_take (i := 5) (v := ?_) rfl (by kernel_rfl) (by kernel_rfl) (by kernel_rfl) (fun _ _ _ h => h) (Or.inl ⟨by rfl, ?_⟩) (by assumption) ?_
      rotate_left
      · intro w hSw; (try dsimp only at hSw); go_simp; try with_reducible rfl
      try simp only [Act.put, List.getElem_toArray, List.getElem_cons_succ, List.getElem_cons_zero, List.setIfInBounds_toArray, List.set_cons_zero, List.set_cons_succ]
      refine wpAnyH_take (i := 6) (v := ?_) rfl (by kernel_rfl) (by kernel_rfl) (by kernel_rfl) (fun _ _ _ h => h) (Or.inl ⟨by rfl, ?_⟩) (by assumption) ?_
      rotate_left
      · intro w hSw; (try dsimp only at hSw); go_simp; try with_reducible rfl
      try simp only [Act.put, List.getElem_toArray, List.getElem_cons_succ, List.getElem_cons_zero, List.setIfInBounds_toArray, List.set_cons_zero, List.set_cons_succ]
      refine wpAnyH_take (i := 7) (v := ?_) rfl (by kernel_rfl) (by kernel_rfl) (by kernel_rfl) (fun _ _ _ h => h) (Or.inl ⟨by rfl, ?_⟩) (by assumption) ?_
      rotate_left
      · intro w hSw; (try dsimp only at hSw); go_simp; try with_reducible rfl
      try simp only [Act.put, List.getElem_toArray, List.getElem_cons_succ, List.getElem_cons_zero, List.setIfInBounds_toArray, List.set_cons_zero, List.set_cons_succ]
      refine wpAnyH_take (i := 8) (v := ?_) rfl (by kernel_rfl) (by kernel_rfl) (by kernel_rfl) (fun _ _ _ h => h) (Or.inl ⟨by rfl, ?_⟩) (by assumption) ?_
      rotate_left
      · intro w hSw; (try dsimp only at hSw); go_simp; try with_reducible rfl
      try simp only [Act.put, List.getElem_toArray, List.getElem_cons_succ, List.getElem_cons_zero, List.setIfInBounds_toArray, List.set_cons_zero, List.set_cons_succ]
      refine wpAnyH_take (i := 9) (v := ?_) rfl (by kernel_rfl) (by kernel_rfl) (by kernel_rfl) (fun _ _ _ h => h) (Or.inl ⟨by rfl, ?_⟩) (by assumption) ?_
      rotate_left
      · intro w hSw; (try dsimp only at hSw); go_simp; try with_reducible rfl
      try simp only [Act.put, List.getElem_toArray, List.getElem_cons_succ, List.getElem_cons_zero, List.setIfInBounds_toArray, List.set_cons_zero, List.set_cons_succ]
      refine wpAnyH_take (i := 10) (v := _) rfl (by kernel_rfl) (by kernel_rfl) (by kernel_rfl) (fun _ _ _ h => h) (yieldsIf_load_mid (by rfl) 64 _ rfl g (i * 24) rfl (xi.map symV) _ (fun w' hw' => hw'.2.2) Tryz.underlying64 rfl hszx) (by assumption) ?_
      try simp only [Act.put, List.getElem_toArray, List.getElem_cons_succ, List.getElem_cons_zero, List.setIfInBounds_toArray, List.set_cons_zero, List.set_cons_succ]
      refine wpAnyH_take (i := 11) (v := ?_) rfl (by kernel_rfl) (by kernel_rfl) (by kernel_rfl) (fun _ _ _ h => h) (Or.inl ⟨by rfl, ?_⟩) (by assumption) ?_
      rotate_left
      · intro w hSw; (try dsimp only at hSw); go_simp; try with_reducible rfl
      try simp only [Act.put, List.getElem_toArray, List.getElem_cons_succ, List.getElem_cons_zero, List.setIfInBounds_toArray, List.set_cons_zero, List.set_cons_succ]
      refine wpAnyH_take (i := 12) (v := ?_) rfl (by kernel_rfl) (by kernel_rfl) (by kernel_rfl) (fun _ _ _ h => h) (Or.inl ⟨by rfl, ?_⟩) (by assumption) ?_
      rotate_left
      · intro w hSw; (try dsimp only at hSw); go_simp; try with_reducible rfl
      try simp only [Act.put, List.getElem_toArray, List.getElem_cons_succ, List.getElem_cons_zero, List.setIfInBounds_toArray, List.set_cons_zero, List.set_cons_succ]
      refine wpAnyH_done (by kernel_rfl) ?_ _
      have HMc := Lib.hid HMb.out.drop1
      clear hS HMb heq
      go_wp2_with fail
      go_roundg (arows.length - (i + 1))
      case measure => omega
      case rel => exact ⟨i + 1, by go_num, by omega, Nat.le_refl _, HMc⟩
    have hz : ¬ (i : Int) < (arows.length : Int) := by omega
    go_wp2_with fail
    clear c2 c0 hz hil hi hfu
    rw [rounds_succ]
    have cN : wr.cell? ⟨NB, 1, none⟩ = some (ptrV sb) := HM8.out.cellAt (List.mem_cons_self ..) rfl
    go_wp2_with fail
    go_loopg [16, 17, 18] brows.length (fun n s16 s17 s18 wr => ∃ i : Nat, s16 = .int .i64 (i : Int) ∧ i ≤ brows.length ∧ brows.length - i ≤ n ∧ Hid (Mid w (fun _ => False) (cellsT NB [ptrV sa, ptrV sb] 56 :: kT kb (2 * L.length) :: TS) wr))
    case atStart => exact ⟨0, rfl, Nat.zero_le _, by omega, HM8.out⟩
    clear HM8 cN
    obtain ⟨i, rfl, hi, hfu, HM8⟩ := hrel
    have c2 : wr.cell? ⟨sb, 2, none⟩ = some (.slice ba brows.length cb) := HM8.out.cellAt (List.mem_cons_of_mem _ (List.mem_cons_of_mem _ mcb.out)) rfl
    have c0 : wr.cell? ⟨sb, 0, none⟩ = some (ptrV bb) := HM8.out.cellAt (List.mem_cons_of_mem _ (List.mem_cons_of_mem _ mcb.out)) rfl
    by_cases hil : i < brows.length
    case pos =>
      have hz : (i : Int) < (brows.length : Int) := by omega
      have hat := b_at (show Rel wr _ bb bar bgo brows from (HM8.out.get (List.mem_cons_of_mem _ (List.mem_cons_of_mem _ mrb.out))).choose_spec) hil
      obtain ⟨xi, hxi⟩ : ∃ xi, brows[i] = xi := ⟨_, rfl⟩
      rw [hxi] at hat
      obtain ⟨Fr, hrt, hro⟩ := HM8.out.get (List.mem_cons_of_mem _ (List.mem_cons_of_mem _ mwb.out))
      have hxo : RowOk xi := hxi ▸ hro _ (List.getElem_mem hil)
      obtain ⟨a', c', e', hra⟩ := rows_at hrt.1 hro
      injection e' with e1' _ e2'
      subst e1'; subst e2'
      obtain ⟨g, hge, hg, hrx⟩ := hra i hil
      rw [List.getD_eq_getElem?_getD, List.getElem?_eq_getElem hil, Option.getD_some, hxi] at hrx
      clear hra hrt hro hxi
      go_wp2_with fail
      refine hat.mono ?_
      rintro e w5 ⟨rfl, hb5⟩
      clear hat
      have HM9 := Lib.hid ((HM8.out.below hb5).alloc (List.replicate 24 (Value.int .i32 0)) 64)
      have hz5 := heap_alloc_new w5 (.cells (List.replicate 24 (Value.int .i32 0)).toArray 64)
      have hrx5 := range_below hrx hb5 hg
      have hg5 : g < w5.heap.size := Nat.lt_of_lt_of_le hg hb5.size
      have hrx6 := range_below hrx5 ((Below.refl w5.heap.size w5).alloc (Nat.le_refl _) (.cells (List.replicate 24 (Value.int .i32 0)).toArray 64)) hg5
      simp only [List.replicate] at HM9 hz5 hrx6
      have hxl := hxo.1
      have hszr : (Tryz.prog.info? 64).map (·.size) = some (xi.map symV).toArray.size := by rw [infoRow]; simp [hxl]
      have hszx : (Tryz.prog.info? 64).map (·.size) = some (xi.map symV).length := by rw [infoRow]; simp [hxl]
      have hone := row_one xi
      have HMa := Lib.hid (HM9.out.setRow (xi.map symV))
      have hrx7 : ∀ W : World, (∀ k, k < w5.heap.size → W.heap[k]? = w5.heap[k]?) → W.rangeAt g (i * 24) (xi.map symV) := fun W hW q v hq => (World.cell?_of_block (a := ⟨g, i * 24 + q, none⟩) (hW g hg5)).trans (hrx5 q v hq)
      clear HM8 c2 c0 hb5 hrx hrx5 hrx6 HM9
      go_wp2_with (refine wpList_store_row rfl 64 _ _ rfl w5.heap.size _ rfl rfl 64 _ hz5 hszr (by simp [hxl]) hone ?_)
      have hrx8 := hrx7 _ (fun k hk => (setRow_other _ w5.heap.size k (xi.map symV).toArray (by omega)).trans (Below.heap_alloc w5 (.cells (List.replicate 24 (Value.int .i32 0)).toArray 64) k hk))
      simp only [List.replicate] at hrx8
      clear hrx7 hz5
      generalize (w5.alloc _).setRow w5.heap.size _ = w6 at *
      generalize w5.heap.size = NX at *
      have c2 : w6.cell? ⟨sb, 2, none⟩ = some (.slice ba brows.length cb) := HMa.out.cellAt (List.mem_cons_of_mem _ (List.mem_cons_of_mem _ (List.mem_cons_of_mem _ mcb.out))) rfl
      have hX := range_cells (HMa.out.cells (List.mem_cons_self ..))
      have heq := fun w => run_eqIn_row hxo hxo w
      subst hge
      have hS : (fun w' : World => w'.rangeAt NX 0 (xi.map symV) ∧ w'.cell? ⟨sb, 2, none⟩ = some (.slice (some ⟨g, 0, none⟩) brows.length cb) ∧ w'.rangeAt g (i * 24) (xi.map symV)) w6.drew := ⟨hX, c2, hrx8⟩
      have HMb := Lib.hid (HMa.out.below (below_drew' (Below.refl _ _)))
      clear HMa hX c2 hrx8
      refine wp_region_held_drew (S := (fun w' : World => w'.rangeAt NX 0 (xi.map symV) ∧ w'.cell? ⟨sb, 2, none⟩ = some (.slice (some ⟨g, 0, none⟩) brows.length cb) ∧ w'.rangeAt g (i * 24) (xi.map symV))) (by kernel_rfl) hS (fun hS => ?_)
      generalize w6.drew = W5 at *
      refine wpAnyH_take (i := 0) (v := ?_) rfl (by kernel_rfl) (by kernel_rfl) (by kernel_rfl) (fun _ _ _ h => h) (Or.inl ⟨by rfl, ?_⟩) (by assumption) ?_
      rotate_left
      · intro w hSw; (try dsimp only at hSw); go_simp; try with_reducible rfl
      try simp only [Act.put, List.getElem_toArray, List.getElem_cons_succ, List.getElem_cons_zero, List.setIfInBounds_toArray, List.set_cons_zero, List.set_cons_succ]
      refine wpAnyH_take (i := 1) (v := ?_) rfl (by kernel_rfl) (by kernel_rfl) (by kernel_rfl) (fun _ _ _ h => h) (Or.inl ⟨by rfl, ?_⟩) (by assumption) ?_
      rotate_left
      · intro w hSw; (try dsimp only at hSw); go_simp; try with_reducible rfl
      try simp only [Act.put, List.getElem_toArray, List.getElem_cons_succ, List.getElem_cons_zero, List.setIfInBounds_toArray, List.set_cons_zero, List.set_cons_succ]
      refine wpAnyH_take (i := 2) (v := ?_) rfl (by kernel_rfl) (by kernel_rfl) (by kernel_rfl) (fun _ _ _ h => h) (Or.inl ⟨by rfl, ?_⟩) (by assumption) ?_
      rotate_left
      · intro w hSw; (try dsimp only at hSw); go_simp; try with_reducible rfl
      try simp only [Act.put, List.getElem_toArray, List.getElem_cons_succ, List.getElem_cons_zero, List.setIfInBounds_toArray, List.set_cons_zero, List.set_cons_succ]
      refine wpAnyH_take (i := 3) (v := _) rfl (by kernel_rfl) (by kernel_rfl) (by kernel_rfl) (fun _ _ _ h => h) (yieldsIf_load_mid (by rfl) 64 _ rfl NX 0 rfl (xi.map symV) _ (fun w' hw' => hw'.1) Tryz.underlying64 rfl hszx) (by assumption) ?_
      try simp only [Act.put, List.getElem_toArray, List.getElem_cons_succ, List.getElem_cons_zero, List.setIfInBounds_toArray, List.set_cons_zero, List.set_cons_succ]
      refine wpAnyH_take (i := 4) (v := ?_) rfl (by kernel_rfl) (by kernel_rfl) (by kernel_rfl) (fun _ _ _ h => h) (Or.inl ⟨by rfl, ?_⟩) (by assumption) ?_
      rotate_left
      · intro w hSw; (try dsimp only at hSw); go_simp; try with_reducible rfl
      try simp only [Act.put, List.getElem_toArray, List.getElem_cons_succ, List.getElem_cons_zero, List.setIfInBounds_toArray, List.set_cons_zero, List.set_cons_succ]
      refine wpAnyH_take (i := 5) (v := ?_) rfl (by kernel_rfl) (by kernel_rfl) (by kernel_rfl) (fun _ _ _ h => h) (Or.inl ⟨by rfl, ?_⟩) (by assumption) ?_
      rotate_left
      · intro w hSw; (try dsimp only at hSw); go_simp; try with_reducible rfl
      try simp only [Act.put, List.getElem_toArray, List.getElem_cons_succ, List.getElem_cons_zero, List.setIfInBounds_toArray, List.set_cons_zero, List.set_cons_succ]
      refine wpAnyH_take (i := 6) (v := ?_) rfl (by kernel_rfl) (by kernel_rfl) (by kernel_rfl) (fun _ _ _ h => h) (Or.inl ⟨by rfl, ?_⟩) (by assumption) ?_
      rotate_left
      · intro w hSw; (try dsimp only at hSw); go_simp; try with_reducible rfl
      try simp only [Act.put, List.getElem_toArray, List.getElem_cons_succ, List.getElem_cons_zero, List.setIfInBounds_toArray, List.set_cons_zero, List.set_cons_succ]
      refine wpAnyH_take (i := 7) (v := ?_) rfl (by kernel_rfl) (by kernel_rfl) (by kernel_rfl) (fun _ _ _ h => h) (Or.inl ⟨by rfl, ?_⟩) (by assumption) ?_
      rotate_left
      · intro w hSw; (try dsimp only at hSw); go_simp; try with_reducible rfl
      try simp only [Act.put, List.getElem_toArray, List.getElem_cons_succ, List.getElem_cons_zero, List.setIfInBounds_toArray, List.set_cons_zero, List.set_cons_succ]
      refine wpAnyH_take (i := 8) (v := ?_) rfl (by kernel_rfl) (by kernel_rfl) (by kernel_rfl) (fun _ _ _ h => h) (Or.inl ⟨by rfl, ?_⟩) (by assumption) ?_
      rotate_left
      · intro w hSw; (try dsimp only at hSw); go_simp; try with_reducible rfl
      try simp only [Act.put, List.getElem_toArray, List.getElem_cons_succ, List.getElem_cons_zero, List.setIfInBounds_toArray, List.set_cons_zero, List.set_cons_succ]
      refine wpAnyH_take (i := 9) (v := ?_) rfl (by kernel_rfl) (by kernel_rfl) (by kernel_rfl) (fun _ _ _ h => h) (Or.inl ⟨by rfl, ?_⟩) (by assumption) ?_
      rotate_left
      · intro w hSw; (try dsimp only at hSw); go_simp; try with_reducible rfl
      try simp only [Act.put, List.getElem_toArray, List.getElem_cons_succ, List.getElem_cons_zero, List.setIfInBounds_toArray, List.set_cons_zero, List.set_cons_succ]
      refine wpAnyH_take (i := 10) (v := _) rfl (by kernel_rfl) (by kernel_rfl) (by kernel_rfl) (fun _ _ _ h => h) (yieldsIf_load_mid (by rfl) 64 _ rfl g (i * 24) rfl (xi.map symV) _ (fun w' hw' => hw'.2.2) Tryz.underlying64 rfl hszx) (by assumption) ?_
      try simp only [Act.put, List.getElem_toArray, List.getElem_cons_succ, List.getElem_cons_zero, List.setIfInBounds_toArray, List.set_cons_zero, List.set_cons_succ]
      refine wpAnyH_take (i := 11) (v := ?_) rfl (by kernel_rfl) (by kernel_rfl) (by kernel_rfl) (fun _ _ _ h => h) (Or.inl ⟨by rfl, ?_⟩) (by assumption) ?_
      rotate_left
      · intro w hSw; (try dsimp only at hSw); go_simp; try with_reducible rfl
      try simp only [Act.put, List.getElem_toArray, List.getElem_cons_succ, List.getElem_cons_zero, List.setIfInBounds_toArray, List.set_cons_zero, List.set_cons_succ]
      refine wpAnyH_take (i := 12) (v := ?_) rfl (by kernel_rfl) (by kernel_rfl) (by kernel_rfl) (fun _ _ _ h => h) (Or.inl ⟨by rfl, ?_⟩) (by assumption) ?_
      rotate_left
      · intro w hSw; (try dsimp only at hSw); go_simp; try with_reducible rfl
      try simp only [Act.put, List.getElem_toArray, List.getElem_cons_succ, List.getElem_cons_zero, List.setIfInBounds_toArray, List.set_cons_zero, List.set_cons_succ]
      refine wpAnyH_done (by kernel_rfl) ?_ _
      have HMc := Lib.hid HMb.out.drop1
      clear hS HMb heq
      go_wp2_with fail
      go_roundg (brows.length - (i + 1))
      case measure => omega
      case rel => exact ⟨i + 1, by go_num, by omega, Nat.le_refl _, HMc⟩
    have hz : ¬ (i : Int) < (brows.length : Int) := by omega
    go_wp2_with fail
    clear c2 c0 hz hil hi hfu
    rw [rounds_succ]
    go_wp2_with fail
    have HMz := Lib.hid HM8.out.drop1
    clear HM8
    obtain ⟨n, LI, LM, hkin, h9⟩ := kT_open HMz.out
    clear HMz
    refine (apart_of_kept h9 hkin).mono ?_
    rintro e w5 ⟨rfl, B, h5⟩
    have hb5 := h5.wasBelow
    clear h5 h9
    go_wp2_with fail
    refine lives_calls.mono ?_
    rintro e w6 ⟨rfl, hb6⟩
    have hbz := hb5.trans (hb6.mono hb5.size)
    go_wp2_with fail
    exact bodyPost_ret (v := .bool true) (by simp [results, Tryz.results3, go_sem]) rfl ⟨rfl, hbz⟩
end Go.Proofs.YtckhkfchgcdajaaGreatDoor

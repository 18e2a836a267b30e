import Derived.Test.YtiomojlcnemnhaaGreatDoorCGxJ6
namespace Go.Proofs.YtiomojlcnemnhaaGreatDoor
open Go.Fx Go.RowKit Go.Ped
theorem lit_cells_flat : ∀ l : List LitM, (l.flatMap LitM.cells).length = l.length * 16
  | [] => rfl
  | k :: l => by rw [List.flatMap_cons, List.length_append, lit_cells_flat l, LitM.cells_length, List.length_cons]; omega
def mixL {α : Type} (f : α → α) (l : List α) (i : Nat) : List α := (l.take i).map f ++ l.drop i
theorem mixL_len {α : Type} (f : α → α) (l : List α) (i : Nat) : (mixL f l i).length = l.length := by simp [mixL]; omega
theorem mixL_zero {α : Type} (f : α → α) (l : List α) : mixL f l 0 = l := by simp [mixL]
theorem mixL_all {α : Type} (f : α → α) (l : List α) : mixL f l l.length = l.map f := by simp [mixL]
theorem mixL_split {α : Type} (f : α → α) {l : List α} {i : Nat} (hi : i < l.length) : mixL f l i = (l.take i).map f ++ l[i] :: l.drop (i + 1) := by
  unfold mixL; rw [List.drop_eq_getElem_cons hi]
theorem mixL_next {α : Type} (f : α → α) {l : List α} {i : Nat} (hi : i < l.length) : mixL f l (i + 1) = (l.take i).map f ++ f l[i] :: l.drop (i + 1) := by
  unfold mixL; rw [List.take_succ_eq_append_getElem hi, List.map_append, List.append_assoc]; rfl
theorem ownsRow_open {α : Type} {w : World} {base : Nat} {e : TypeId} {size : Nat} {v : Value} {l : List α} {cells : α → List Value} (hsize : ∀ x, (cells x).length = size) (f : α → α) {i : Nat} (hi : i < l.length) (h : w.ownsRow base e size v l.length ((mixL f l i).flatMap cells)) :
    ∃ g cap room, v = .slice (some ⟨g, 0, none⟩) l.length cap ∧ l.length ≤ cap ∧ cap ≤ maxLen ∧ base ≤ g ∧ g ∈ svB v ∧ (((l.take i).map f).flatMap cells).length = i * size ∧
      w.heap[g]? = some (.cells (((l.take i).map f).flatMap cells ++ cells l[i] ++ ((l.drop (i + 1)).flatMap cells ++ room)).toArray e (0, 0)) ∧
      ∀ w' : World, w'.heap[g]? = some (.cells (((l.take i).map f).flatMap cells ++ cells (f l[i]) ++ ((l.drop (i + 1)).flatMap cells ++ room)).toArray e (0, 0)) → w'.ownsRow base e size v l.length ((mixL f l (i + 1)).flatMap cells) := by
  have flat : ∀ l : List α, (l.flatMap cells).length = l.length * size := fun l => by
    induction l with
    | nil => simp
    | cons k l ih => rw [List.flatMap_cons, List.length_append, ih, hsize, List.length_cons, Nat.add_mul, Nat.one_mul, Nat.add_comm]
  obtain ⟨hl, ⟨_, h0⟩ | ⟨g, cap, cur, rfl, hbase, hcur, hn, hm, hsz, htk⟩⟩ := h
  · rw [h0] at hi; exact absurd hi (Nat.not_lt_zero _)
  rw [mixL_split f hi, List.flatMap_append, List.flatMap_cons] at htk
  obtain ⟨room, hroom⟩ : ∃ room, cur.toList = ((l.take i).map f).flatMap cells ++ cells l[i] ++ ((l.drop (i + 1)).flatMap cells ++ room) := by
    refine ⟨cur.toList.drop (l.length * size), ?_⟩
    rw [← List.append_assoc, List.append_assoc _ (cells l[i]), ← htk, List.take_append_drop]
  have hpre : (((l.take i).map f).flatMap cells).length = i * size := by rw [flat, List.length_map, List.length_take, Nat.min_eq_left (Nat.le_of_lt hi)]
  have hlen : l.length * size + room.length = cap * size := by
    have h1 : cur.toList.length = cap * size := by rw [Array.length_toList, hsz]
    rw [hroom] at h1
    simp only [List.length_append, hpre, hsize, flat, List.length_drop] at h1
    have h2 : i * size + size + (l.length - (i + 1)) * size = l.length * size := by
      rw [← Nat.succ_mul, ← Nat.add_mul]
      congr 1
      omega
    omega
  refine ⟨g, cap, room, rfl, hn, hm, hbase, svB_mem.2 rfl, hpre, by rw [hcur, ← hroom], fun w' hw' => ?_⟩
  have hfl : (mixL f l (i + 1)).flatMap cells = ((l.take i).map f).flatMap cells ++ cells (f l[i]) ++ (l.drop (i + 1)).flatMap cells := by
    rw [mixL_next f hi, List.flatMap_append, List.flatMap_cons, List.append_assoc]
  have hl' : ((mixL f l (i + 1)).flatMap cells).length = l.length * size := by rw [flat, mixL_len]
  refine ⟨hl', .inr ⟨g, cap, _, rfl, hbase, hw', hn, hm, ?_, ?_⟩⟩
  · rw [← List.append_assoc, ← hfl]
    simp only [List.size_toArray, List.length_append, hl']
    exact hlen
  · rw [← List.append_assoc, ← hfl]
    simp only [List.take_left' hl']
theorem ownsRow_len {w : World} {base : Nat} {e : TypeId} {size : Nat} {v : Value} {n : Nat} {xs : List Value} (h : w.ownsRow base e size v n xs) : ∃ ad cap, v = .slice ad n cap ∧ n ≤ maxLen := by
  obtain ⟨_, ⟨rfl, h0⟩ | ⟨g, cap, cur, rfl, _, _, hn, hm, _⟩⟩ := h
  · exact ⟨_, _, by rw [h0], by rw [h0]; exact Nat.zero_le _⟩
  · exact ⟨_, _, rfl, Nat.le_trans hn hm⟩
set_option maxRecDepth 100000 in
set_option maxHeartbeats 2000000 in
theorem walkA (m : List Pr) (mb : Nat) (p : Name) (sv : Value) (l : List Tm) (w : World) (b : Nat) (ty : TypeId) (pre post : List Value) (hm : MapAt w mb m) (hmk : mb ∉ svB sv) (hb : w.heap[b]? = some (.cells (pre ++ [.string (bs p), sv] ++ post).toArray ty (0, 0)))
    (hrow : w.ownsRow 0 73 4 sv l.length (l.flatMap tmCells)) (hbk : b ∉ svB sv) :
    Calls Tryz.prog 80 #[.iface 120 (.pointer (some ⟨b, pre.length, none⟩)), putF mb] w fun e w' =>
      e = .returned (.tuple #[]) ∧ w'.ownsRow 0 73 4 sv l.length ((l.map (putP m)).flatMap tmCells) ∧ KeptBut (fun c => c ∈ svB sv) w w' := by
  have q1 : ∀ u w, (Instr.typeAssert (.iface 120 u) 20 143 true).run Tryz.prog w = .ok (.tuple #[.pointer none, .bool false]) w := fun u w => run_ask_no u w Tryz.underlying143 (by decide) (fun w => Tryz.zeroValue143 w)
  have q2 : ∀ u w, (Instr.typeAssert (.iface 120 u) 20 221 true).run Tryz.prog w = .ok (.tuple #[.pointer none, .bool false]) w := fun u w => run_ask_no u w Tryz.underlying221 (by decide) (fun w => Tryz.zeroValue221 w)
  have q3 : ∀ u w, (Instr.typeAssert (.iface 120 u) 20 222 true).run Tryz.prog w = .ok (.tuple #[.pointer none, .bool false]) w := fun u w => run_ask_no u w Tryz.underlying222 (by decide) (fun w => Tryz.zeroValue222 w)
  have q4 : ∀ u w, (Instr.typeAssert (.iface 120 u) 20 120 true).run Tryz.prog w = .ok (.tuple #[u, .bool true]) w := fun u w => run_ask u w Tryz.underlying120
  have hblt : b < w.heap.size := (Array.getElem?_eq_some_iff.1 hb).1
  obtain ⟨ad, cap, rfl, hmx⟩ := ownsRow_len hrow
  unfold maxLen at hmx
  have c1 : ∀ w' : World, w'.heap[b]? = w.heap[b]? → w'.cell? ⟨b, pre.length + 1, none⟩ = some (.slice ad l.length cap) := fun w' h => by
    simp [World.cell?, h.trans hb, List.getElem?_append_right]
  have c1w := c1 w rfl
  go_enter Tryz.func80, Tryz.ntmps80
  go_wp2_with fail
  go_loopw [107] (fun n w' => ∃ i : Nat, n = .int .i64 (i : Int) ∧ i ≤ l.length ∧ w'.ownsRow 0 73 4 (.slice ad l.length cap) l.length ((mixL (putP m) l i).flatMap tmCells) ∧ KeptBut (fun c => c ∈ svB (.slice ad l.length cap)) w w') (fun n _ => match n with | .int _ k => l.length - k.toNat | _ => 0)
  case atStart => exact ⟨0, rfl, Nat.zero_le _, by rw [mixL_zero]; exact hrow, KeptBut.refl _ _⟩
  case round =>
    obtain ⟨i, rfl, hi, hrow', hk⟩ := hrel
    have hbr : wr.heap[b]? = w.heap[b]? := hk.block b hblt hbk
    have c1r := c1 wr hbr
    by_cases hlt : i < l.length
    · have hlt' : (i : Int) < (l.length : Int) := by omega
      obtain ⟨g, cap', room, hv, hn, hmm, _, hg, hpre, hcur, hnext⟩ := ownsRow_open (fun x => tmCells_length x) (putP m) hlt hrow'
      injection hv with e1 e2 e3
      subst e1 e3
      have hput := putk_calls m l[i] wr mb g _ _ 73 hcur (hm.frame (hk.block mb hm.lt hmk))
      rw [hpre] at hput
      go_wp2_with fail
      refine hput.mono ?_
      rintro e w2 ⟨rfl, hb4, hk4⟩
      go_wp2_with fail
      refine ⟨⟨i + 1, congrArg (Value.int .i64) (by omega), hlt, hnext _ hb4, kept_same hk (hk4.mono fun c hc => hc ▸ hg)⟩, ?_⟩
      show l.length - ((i : Int) + 1).toNat < l.length - (i : Int).toNat
      omega
    · obtain rfl : i = l.length := by omega
      rw [mixL_all] at hrow'
      go_wp2_with fail
      simp [bodyPost, results, Tryz.results126, go_sem]
      exact ⟨hrow', hk⟩
def LitM.put (m : List Pr) (x : LitM) : LitM := { x with l := x.l.map (putP m), left := x.left.put m, right := x.right.put m }
theorem LitM.put_blks (m : List Pr) (x : LitM) : (x.put m).blks = x.blks := by
  unfold LitM.blks LitM.put
  simp only [Nd.put_blks]
theorem LitM.put_cells (m : List Pr) (x : LitM) : (x.put m).cells = .int .i8 x.kind :: .string (bs x.p) :: x.sv :: .int .i8 x.rel :: ((x.left.put m).cells ++ (x.right.put m).cells) := rfl
set_option maxRecDepth 100000 in
set_option maxHeartbeats 2000000 in
theorem walkL (m : List Pr) (mb : Nat) (x : LitM) (w : World) (b : Nat) (ty : TypeId) (pre post : List Value) (hm : MapAt w mb m) (hmb : mb ≠ b) (hmk : mb ∉ x.blks) (hb : w.heap[b]? = some (.cells (pre ++ x.cells ++ post).toArray ty (0, 0)))
    (hin : x.In w) (hnd : x.blks.Nodup) (hbk : b ∉ x.blks) :
    Calls Tryz.prog 80 #[.iface 221 (.pointer (some ⟨b, pre.length, none⟩)), putF mb] w fun e w' =>
      e = .returned (.tuple #[]) ∧ w'.heap[b]? = some (.cells (pre ++ (x.put m).cells ++ post).toArray ty (0, 0)) ∧ (x.put m).In w' ∧ KeptBut (fun c => c = b ∨ c ∈ x.blks) w w' := by
  have q1 : ∀ u w, (Instr.typeAssert (.iface 221 u) 20 143 true).run Tryz.prog w = .ok (.tuple #[.pointer none, .bool false]) w := fun u w => run_ask_no u w Tryz.underlying143 (by decide) (fun w => Tryz.zeroValue143 w)
  have q2 : ∀ u w, (Instr.typeAssert (.iface 221 u) 20 221 true).run Tryz.prog w = .ok (.tuple #[u, .bool true]) w := fun u w => run_ask u w Tryz.underlying221
  have hblt : b < w.heap.size := (Array.getElem?_eq_some_iff.1 hb).1
  unfold LitM.blks at hmk hnd hbk
  rw [List.nodup_append] at hnd
  obtain ⟨nd1, nd2, nd3⟩ := hnd
  rw [List.nodup_append] at nd2
  obtain ⟨nd2, nd4, nd5⟩ := nd2
  simp only [List.mem_append, not_or] at hmk hbk
  obtain ⟨hm1, hm2, hm3⟩ := hmk
  obtain ⟨hb1, hb2, hb3⟩ := hbk
  have e1 : w.heap[b]? = some (.cells ((pre ++ [Value.int .i8 x.kind]) ++ [.string (bs x.p), x.sv] ++ (.int .i8 x.rel :: (x.left.cells ++ x.right.cells) ++ post)).toArray ty (0, 0)) := by
    rw [hb]; simp [LitM.cells]
  have hA := walkA m mb x.p x.sv x.l w b ty _ _ hm hm1 e1 hin.row hb1
  rw [show (pre ++ [Value.int .i8 x.kind]).length = pre.length + 1 by simp] at hA
  go_enter Tryz.func80, Tryz.ntmps80
  go_wp2_with fail
  refine hA.mono ?_
  rintro e w1 ⟨rfl, hrow1, hk1⟩
  have hL1 : x.left.In w1 := hin.left.frame _ fun c hc => hk1.block c (hin.left.lt _ c hc) fun hc' => nd3 c hc' c (List.mem_append_left _ hc) rfl
  have hR1 : x.right.In w1 := hin.right.frame _ fun c hc => hk1.block c (hin.right.lt _ c hc) fun hc' => nd3 c hc' c (List.mem_append_right _ hc) rfl
  have hm1' : MapAt w1 mb m := hm.frame (hk1.block mb hm.lt hm1)
  have e2 : w1.heap[b]? = some (.cells ((pre ++ [Value.int .i8 x.kind, .string (bs x.p), x.sv, .int .i8 x.rel]) ++ x.left.cells ++ (x.right.cells ++ post)).toArray ty (0, 0)) := by
    rw [hk1.block b hblt hb1, hb]; simp [LitM.cells]
  have hE := walkE m mb x.left w1 b ty _ _ hm1' hmb hm2 e2 hL1 nd2 hb2
  rw [show (pre ++ [Value.int .i8 x.kind, .string (bs x.p), x.sv, .int .i8 x.rel]).length = pre.length + 4 by simp] at hE
  go_wp2_with fail
  refine hE.mono ?_
  rintro e w2 ⟨rfl, hb4, hL2, hk2⟩
  have hR2 : x.right.In w2 := hR1.frame _ fun c hc => hk2.block c (hR1.lt _ c hc) fun hc' => by
    rcases hc' with rfl | hc'
    · exact hb3 hc
    · exact nd5 c hc' c hc rfl
  have hblt2 : b < w2.heap.size := (Array.getElem?_eq_some_iff.1 hb4).1
  have hm2' : MapAt w2 mb m := hm1'.frame (hk2.block mb hm1'.lt fun hc => hc.elim hmb hm2)
  have e3 : w2.heap[b]? = some (.cells ((pre ++ [Value.int .i8 x.kind, .string (bs x.p), x.sv, .int .i8 x.rel] ++ (x.left.put m).cells) ++ x.right.cells ++ post).toArray ty (0, 0)) := by
    rw [hb4]; simp
  have hE2 := walkE m mb x.right w2 b ty _ _ hm2' hmb hm3 e3 hR2 nd4 hb3
  rw [show (pre ++ [Value.int .i8 x.kind, .string (bs x.p), x.sv, .int .i8 x.rel] ++ (x.left.put m).cells).length = pre.length + 10 by simp] at hE2
  go_wp2_with fail
  refine hE2.mono ?_
  rintro e w3 ⟨rfl, hb5, hR3, hk3⟩
  go_wp2_with fail
  simp [bodyPost, results, Tryz.results126, go_sem]
  have hs1 : ∀ g ∈ svB x.sv, w3.heap[g]? = w1.heap[g]? := fun g hg => by
    have hl1 := (ownsRow_block hrow1 g (svB_mem.1 hg)).2
    have h2 := hk2.block g hl1 fun hc => by
      rcases hc with rfl | hc
      · exact hb1 hg
      · exact nd3 g hg g (List.mem_append_left _ hc) rfl
    rw [hk3.block g (Nat.lt_of_lt_of_le hl1 hk2.size) fun hc => by
      rcases hc with rfl | hc
      · exact hb1 hg
      · exact nd3 g hg g (List.mem_append_right _ hc) rfl, h2]
  refine ⟨by rw [hb5]; simp [LitM.put_cells], ⟨?_, ?_, hR3⟩, ?_⟩
  · show w3.ownsRow 0 73 4 x.sv (x.l.map (putP m)).length _
    rw [List.length_map]
    exact ownsRow_frame' hrow1 (Nat.le_refl _) hs1
  · exact hL2.frame _ fun c hc => by
      rw [Nd.put_blks] at hc
      exact hk3.block c (by have := hL2.lt _ c (by rw [Nd.put_blks]; exact hc); exact this) fun hc' => by
        rcases hc' with rfl | hc'
        · exact hb2 hc
        · exact nd5 c hc c hc' rfl
  · refine kept_same (kept_same (hk1.mono fun c hc => .inr (List.mem_append_left _ hc)) (hk2.mono fun c hc => ?_)) (hk3.mono fun c hc => ?_)
    · exact hc.imp id fun hc => List.mem_append_right _ (List.mem_append_left _ hc)
    · exact hc.imp id fun hc => List.mem_append_right _ (List.mem_append_right _ hc)
def argPut (m : List Pr) (a : Arg) : Arg := { a with t := putP m a.t }
def RuleM.put (m : List Pr) (r : RuleM) : RuleM := { r with hs := r.hs.map (argPut m), ls := r.ls.map (LitM.put m) }
theorem flat_put (m : List Pr) : ∀ l : List LitM, (l.map (LitM.put m)).flatMap LitM.blks = l.flatMap LitM.blks
  | [] => rfl
  | x :: l => by rw [List.map_cons, List.flatMap_cons, List.flatMap_cons, LitM.put_blks, flat_put m l]
theorem RuleM.put_blks (m : List Pr) (r : RuleM) : (r.put m).blks = r.blks := by
  unfold RuleM.blks RuleM.put
  simp only [flat_put]
set_option maxRecDepth 100000 in
set_option maxHeartbeats 4000000 in
theorem walkR (m : List Pr) (mb : Nat) (r : RuleM) (w : World) (b : Nat) (hm : MapAt w mb m) (hmb : mb ≠ b) (hmk : mb ∉ r.blks) (hb : w.heap[b]? = some (.cells r.cells.toArray 29 (0, 0)))
    (hin : r.In w) (hbk : b ∉ r.blks) :
    Calls Tryz.prog 80 #[.iface 143 (.pointer (some ⟨b, 0, none⟩)), putF mb] w fun e w' =>
      e = .returned (.tuple #[]) ∧ w'.heap[b]? = w.heap[b]? ∧ (r.put m).In w' ∧ KeptBut (fun c => c ∈ r.blks) w w' := by
  have q1 : ∀ u w, (Instr.typeAssert (.iface 143 u) 20 143 true).run Tryz.prog w = .ok (.tuple #[u, .bool true]) w := fun u w => run_ask u w Tryz.underlying143
  have hblt : b < w.heap.size := (Array.getElem?_eq_some_iff.1 hb).1
  obtain ⟨rp, hv, hs, bv, ls⟩ := r
  obtain ⟨hhead, hbody, hlits, hnd⟩ := hin
  simp only at hhead hbody hlits
  have hnd0 := hnd
  unfold RuleM.blks at hmk hnd hbk
  simp only at hmk hnd hbk
  rw [List.nodup_append] at hnd
  obtain ⟨nd1, nd2, nd3⟩ := hnd
  rw [List.nodup_append] at nd2
  obtain ⟨nd2, nd4, nd5⟩ := nd2
  simp only [List.mem_append, not_or] at hmk hbk
  obtain ⟨hm1, hm2, hm3⟩ := hmk
  obtain ⟨hb1, hb2, hb3⟩ := hbk
  obtain ⟨hnl, hdis⟩ := nodup_flat nd4
  obtain ⟨ha, hcp, rfl, hmx1⟩ := ownsRow_len hhead
  obtain ⟨ba, bcp, rfl, hmx2⟩ := ownsRow_len hbody
  unfold maxLen at hmx1 hmx2
  have c1 : ∀ w' : World, w'.heap[b]? = w.heap[b]? → w'.cell? ⟨b, 1, none⟩ = some (.slice ha hs.length hcp) := fun w' h => by
    simp [World.cell?, h.trans hb, RuleM.cells]
  have c2 : ∀ w' : World, w'.heap[b]? = w.heap[b]? → w'.cell? ⟨b, 2, none⟩ = some (.slice ba ls.length bcp) := fun w' h => by
    simp [World.cell?, h.trans hb, RuleM.cells]
  have c1w := c1 w rfl
  have hblk : ∀ i (hi : i < ls.length), ∀ c ∈ ls[i].blks, c ∈ ls.flatMap LitM.blks := fun i hi c hc => List.mem_flatMap.2 ⟨_, List.getElem_mem hi, hc⟩
  go_enter Tryz.func80, Tryz.ntmps80
  go_wp2_with fail
  go_loopw [21] (fun n w' => ∃ i : Nat, n = .int .i64 (i : Int) ∧ i ≤ hs.length ∧ w'.ownsRow 0 137 5 (.slice ha hs.length hcp) hs.length ((mixL (argPut m) hs i).flatMap argCells) ∧ KeptBut (fun c => c ∈ svB (.slice ha hs.length hcp)) w w') (fun n _ => match n with | .int _ k => hs.length - k.toNat | _ => 0)
  case atStart => exact ⟨0, rfl, Nat.zero_le _, by rw [mixL_zero]; exact hhead, KeptBut.refl _ _⟩
  case round =>
    obtain ⟨i, rfl, hi, hrow', hk⟩ := hrel
    have hbr : wr.heap[b]? = w.heap[b]? := hk.block b hblt hb1
    have c1r := c1 wr hbr
    by_cases hlt : i < hs.length
    · have hlt' : (i : Int) < (hs.length : Int) := by omega
      obtain ⟨g, cap', room, hv, hn, hmm, _, hg, hpre, hcur, hnext⟩ := ownsRow_open (fun x => argCells_length x) (argPut m) hlt hrow'
      injection hv with e1 e2 e3
      subst e1 e3
      have hcur2 : wr.heap[g]? = some (.cells ((((hs.take i).map (argPut m)).flatMap argCells ++ [Value.int .i8 hs[i].agg]) ++ tmCells hs[i].t ++ ((hs.drop (i + 1)).flatMap argCells ++ room)).toArray 137 (0, 0)) := by
        rw [hcur]; simp [argCells]
      have hput := putk_calls m hs[i].t wr mb g _ _ 137 hcur2 (hm.frame (hk.block mb hm.lt hm1))
      rw [show (((hs.take i).map (argPut m)).flatMap argCells ++ [Value.int .i8 hs[i].agg]).length = i * 5 + 1 by rw [List.length_append, hpre]; rfl] at hput
      go_wp2_with fail
      refine hput.mono ?_
      rintro e w2 ⟨rfl, hb4, hk4⟩
      go_wp2_with fail
      refine ⟨⟨i + 1, congrArg (Value.int .i64) (by omega), hlt, hnext _ (by rw [hb4]; simp [argCells, argPut]), kept_same hk (hk4.mono fun c hc => hc ▸ hg)⟩, ?_⟩
      show hs.length - ((i : Int) + 1).toNat < hs.length - (i : Int).toNat
      omega
    · obtain rfl : i = hs.length := by omega
      rw [mixL_all] at hrow'
      have c2r := c2 wr hbr
      have hbody1 : wr.ownsRow 0 107 16 (.slice ba ls.length bcp) ls.length (ls.flatMap LitM.cells) := ownsRow_frame' hbody (Nat.le_refl _) fun g hg => hk.block g (ownsRow_block hbody g (svB_mem.1 hg)).2 fun hc => nd3 g hc g (List.mem_append_left _ hg) rfl
      have hlits1 : ∀ x ∈ ls, x.In wr := fun x hx => (hlits x hx).frame fun c hc => hk.block c ((hlits x hx).lt c hc) fun hc' => nd3 c hc' c (List.mem_append_right _ (List.mem_flatMap.2 ⟨x, hx, hc⟩)) rfl
      have hm' : MapAt wr mb m := hm.frame (hk.block mb hm.lt hm1)
      have hbltr : b < wr.heap.size := Nat.lt_of_lt_of_le hblt hk.size
      rename World => wz
      go_wp2_with fail
      go_loopw [39] (fun n w' => ∃ i : Nat, n = .int .i64 (i : Int) ∧ i ≤ ls.length ∧ w'.ownsRow 0 107 16 (.slice ba ls.length bcp) ls.length ((mixL (LitM.put m) ls i).flatMap LitM.cells) ∧ (∀ j (hj : j < ls.length), if j < i then (ls[j].put m).In w' else ls[j].In w') ∧
        KeptBut (fun c => c ∈ svB (.slice ba ls.length bcp) ∨ c ∈ ls.flatMap LitM.blks) wz w') (fun n _ => match n with | .int _ k => ls.length - k.toNat | _ => 0)
      case atStart => exact ⟨0, rfl, Nat.zero_le _, by rw [mixL_zero]; exact hbody1, fun j hj => by rw [if_neg (Nat.not_lt_zero _)]; exact hlits1 _ (List.getElem_mem hj), KeptBut.refl _ _⟩
      case round =>
        obtain ⟨i, rfl, hi, hrow2, hins, hk2⟩ := hrel
        have hbr2 : wr.heap[b]? = w.heap[b]? := (hk2.block b hbltr fun hc => hc.elim hb2 hb3).trans hbr
        have c2s := c2 wr hbr2
        have hm2' : MapAt wr mb m := hm'.frame (hk2.block mb hm'.lt fun hc => hc.elim hm2 hm3)
        by_cases hlt : i < ls.length
        · have hlt' : (i : Int) < (ls.length : Int) := by omega
          obtain ⟨g, cap', room, hv, hn, hmm, _, hg, hpre, hcur, hnext⟩ := ownsRow_open (fun x => LitM.cells_length x) (LitM.put m) hlt hrow2
          injection hv with e1 e2 e3
          subst e1 e3
          have hxi := hins i hlt
          rw [if_neg (Nat.lt_irrefl _)] at hxi
          have hgx : g ∉ ls[i].blks := fun hc => nd5 g hg g (hblk i hlt g hc) rfl
          have hcall := walkL m mb ls[i] wr g 107 _ _ hm2' (fun e => hm2 (e ▸ hg)) (fun hc => hm3 (hblk i hlt _ hc)) hcur hxi (hnl _ (List.getElem_mem hlt)) hgx
          rw [hpre] at hcall
          go_wp2_with fail
          refine hcall.mono ?_
          rintro e w2 ⟨rfl, hb4, hin4, hk4⟩
          have hins2 : ∀ j (hj : j < ls.length), if j < i + 1 then (ls[j].put m).In w2 else ls[j].In w2 := fun j hj => by
            have hold := hins j hj
            by_cases hji : j = i
            · subst hji
              rw [if_pos (Nat.lt_succ_self _)]
              exact hin4
            · have hfr : ∀ x : LitM, x.blks = ls[j].blks → x.In wr → x.In w2 := fun x hx hxin => hxin.frame fun c hc => hk4.block c (hxin.lt c hc) fun hc' => by
                rw [hx] at hc
                rcases hc' with rfl | hc'
                · exact nd5 _ hg _ (hblk j hj _ hc) rfl
                · exact hdis j i hj hlt hji c hc hc'
              by_cases hjl : j < i
              · rw [if_pos hjl] at hold
                rw [if_pos (by omega)]
                exact hfr _ (LitM.put_blks m _) hold
              · rw [if_neg hjl] at hold
                rw [if_neg (by omega)]
                exact hfr _ rfl hold
          go_wp2_with fail
          refine ⟨⟨i + 1, congrArg (Value.int .i64) (by omega), hlt, hnext _ hb4, hins2, kept_same hk2 (hk4.mono fun c hc => hc.elim (fun e => .inl (e ▸ hg)) fun hc => .inr (hblk i hlt c hc))⟩, ?_⟩
          show ls.length - ((i : Int) + 1).toNat < ls.length - (i : Int).toNat
          omega
        · obtain rfl : i = ls.length := by omega
          rw [mixL_all] at hrow2
          go_wp2_with fail
          simp [bodyPost, results, Tryz.results126, go_sem]
          refine ⟨hbr2, ⟨?_, ?_, ?_, ?_⟩, ?_⟩
          · show wr.ownsRow 0 137 5 _ (hs.map (argPut m)).length _
            rw [List.length_map]
            exact ownsRow_frame' hrow' (Nat.le_refl _) fun g hg => hk2.block g (ownsRow_block hrow' g (svB_mem.1 hg)).2 fun hc => by
              rcases hc with hc | hc
              · exact nd3 g hg g (List.mem_append_left _ hc) rfl
              · exact nd3 g hg g (List.mem_append_right _ hc) rfl
          · show wr.ownsRow 0 107 16 _ (ls.map (LitM.put m)).length _
            rw [List.length_map]
            exact hrow2
          · intro x hx
            obtain ⟨y, hy, rfl⟩ := List.mem_map.1 hx
            obtain ⟨j, hj, rfl⟩ := List.mem_iff_getElem.1 hy
            have := hins j hj
            rwa [if_pos hj] at this
          · rw [RuleM.put_blks]
            exact hnd0
          · exact kept_same (hk.mono fun c hc => List.mem_append_left _ hc) (hk2.mono fun c hc => List.mem_append_right _ (List.mem_append.2 hc))
end Go.Proofs.YtiomojlcnemnhaaGreatDoor

import Derived.Test.YtckhkfchgcdajaaGreatDoorYJxA2
import Derived.Test.YtckhkfchgcdajaaGreatDoorYJxA4
import Derived.Maps.AppendAt
import Derived.StillTailTactics
import Derived.OwnWalk
import Derived.Great.BuildSlice
import Derived.Deep.RegionHeld3
import Derived.Deep.AppendLies
import Derived.Deep.MidRow
import Derived.Lib.Hide
namespace Go.Proofs.YtckhkfchgcdajaaGreatDoor
open Go.Fx Go.RowKit
abbrev rowsV (rows : List (List Int)) : List Value := rows.flatten.map symV
def kvAt (o : Nat) : List (List Int) → KV
  | [] => []
  | x :: l => (x, .int .i64 (o : Int)) :: kvAt (o + 1) l
theorem kvAt_fst (o : Nat) : ∀ l, (kvAt o l).map (·.1) = l := fun l => by
  induction l generalizing o with
  | nil => rfl
  | cons x l ih => rw [kvAt, List.map_cons, ih]
theorem kvAt_app (o : Nat) : ∀ l x, kvAt o (l ++ [x]) = kvAt o l ++ [(x, .int .i64 ((o + l.length : Nat) : Int))] := fun l x => by
  induction l generalizing o with
  | nil => rfl
  | cons y l ih => rw [List.cons_append, kvAt, ih, kvAt, List.cons_append, List.length_cons, show o + 1 + l.length = o + (l.length + 1) by omega]
theorem kvAt_none {o : Nat} {l : List (List Int)} {x : List Int} (h : x ∉ l) : lookKV (kvAt o l) x = none := by
  unfold lookKV
  rw [List.find?_eq_none.2 fun p hp => ?_]
  · rfl
  · simp only [decide_eq_true_eq]
    intro e
    have := List.mem_map_of_mem (f := (·.1)) hp
    rw [kvAt_fst, e] at this
    exact h this
theorem kvAt_some {l : List (List Int)} {x : List Int} (h : x ∈ l) : ∀ o, ∃ v, lookKV (kvAt o l) x = some v := fun o => by
  cases hq : lookKV (kvAt o l) x with
  | some v => exact ⟨v, rfl⟩
  | none =>
    unfold lookKV at hq
    rw [Option.map_eq_none_iff, List.find?_eq_none] at hq
    rw [← kvAt_fst o l] at h
    obtain ⟨p, hp, e⟩ := List.mem_map.1 h
    exact absurd (by simpa using e) (hq p hp)
structure RelAt (w : World) (b pb mb : Nat) (lv : Value) (arity : Nat) (gone : Int) (rows : List (List Int)) : Prop where
  hb : w.heap[b]? = some (.cells #[.int .i64 arity, .int .i64 gone, .pointer (some ⟨pb, 0, none⟩)] 99 (0, 0))
  hp : w.heap[pb]? = some (.cells #[lv, .map (some mb)] 96 (0, 0))
  own : w.ownsRow 0 64 24 lv rows.length (rowsV rows)
  map : MapAt w mb (kvAt 0 rows)
  ne1 : b ≠ pb
  ne2 : b ≠ mb
  ne3 : pb ≠ mb
  ne4 : ∀ k, lv.ownBlock = some k → k ≠ b ∧ k ≠ pb ∧ k ≠ mb
  ok : ∀ x ∈ rows, RowOk x
  nodup : rows.Nodup
  wide : arity ≤ 24
def relF (b pb mb : Nat) (lv : Value) (k : Nat) : Prop := k = b ∨ k = pb ∨ k = mb ∨ lv.ownBlock = some k
theorem RelAt.cells {w : World} {b pb mb : Nat} {lv : Value} {arity : Nat} {gone : Int} {rows : List (List Int)} (h : RelAt w b pb mb lv arity gone rows) : RelCells w b pb mb lv arity gone where
  h0 := by simp [World.cell?, h.hb]
  h1 := by simp [World.cell?, h.hb]
  h2 := by simp [World.cell?, h.hb]
  p0 := by simp [World.cell?, h.hp]
  p1 := by simp [World.cell?, h.hp]
  lb := (Array.getElem?_eq_some_iff.1 h.hb).1
  lp := (Array.getElem?_eq_some_iff.1 h.hp).1
theorem still_load_row {P : Program} {o : Oper} {a : Act} {w : World} {next : Act → Prop} (ty : TypeId) (x : Operand) (ho : o.op = .load ty x)
    (g : Nat) (hx : a.eval x = .pointer (some ⟨g, 0, none⟩)) (t : TypeId) (cs : Array Value) (fr : Nat × Nat) (d : TypeDesc) (hg : w.heap[g]? = some (.cells cs t fr))
    (hu : P.underlying ty = some d) (hd : (match d with | .struct _ | .array _ _ => true | _ => false) = true) (hi : (P.info? ty).map (·.size) = some cs.size)
    (h : next (a.put o.dst (.agg cs))) : o.still P a w next := by
  unfold Oper.still execOp
  simp only [ho, hx, Instr.loadAt, Instr.sureAddr, Sem.run_bind, Sem.run_pure, Result.andThen_ok, run_loadVar_row w g t ty cs fr d hg hu hd hi]
  exact ⟨rfl, h⟩
theorem wp_load_row {P : Program} {o : Oper} {a : Act} {w : World} {K : Act → World → Prop} {Q : Exit → Act → World → Prop} (ty : TypeId) (x : Operand) (ho : o.op = .load ty x)
    (g : Nat) (hx : a.eval x = .pointer (some ⟨g, 0, none⟩)) (t : TypeId) (cs : Array Value) (fr : Nat × Nat) (d : TypeDesc) (hg : w.heap[g]? = some (.cells cs t fr))
    (hu : P.underlying ty = some d) (hd : (match d with | .struct _ | .array _ _ => true | _ => false) = true) (hi : (P.info? ty).map (·.size) = some cs.size)
    (h : K (a.put o.dst (.agg cs)) w) : o.wp P a w K Q := by
  unfold Oper.wp execOp
  simp only [ho, hx, Instr.loadAt, Instr.sureAddr, Sem.run_bind, Sem.run_pure, Result.andThen_ok, run_loadVar_row w g t ty cs fr d hg hu hd hi]
  exact h
theorem fill_row {x : List Int} (hx : x.length = 24) {zs : Array Value} (hz : zs.size = 24) : Instr.fill (fun i => some (i * 24, 24)) zs [(0, rowV x)] = some (x.map symV).toArray := by
  have hc : (rowV x).cells = (x.map symV).toArray := rfl
  have hov : ((x.map symV).toArray.zipIdx.foldl (fun cs (y : Value × Nat) => cs.setIfInBounds (0 * 24 + y.2) y.1) zs).toList = x.map symV := by
    have := foldl_over (x.map symV) 0 0 zs (by simp [hx, hz])
    rw [← Array.foldl_toList, Array.toList_zipIdx]
    have h2 : over zs.toList 0 (x.map symV) = x.map symV := by
      unfold over
      rw [List.drop_eq_nil_of_le (by simp [hx, hz])]
      simp
    rw [Nat.add_zero, h2] at this
    simpa using this
  simp only [Instr.fill, hc]
  rw [if_neg (by simp [hx, hz])]
  congr 1
  apply Array.toList_inj.1
  rw [hov]
theorem infoR : (Tryz.prog.info? 64).map (fun i => (i.zero, i.size, i.bytes)) = some (some (rowV zRow), 24, 96) := by kernel_rfl
theorem own_lt {w : World} {base : Nat} {e : TypeId} {size : Nat} {v : Value} {n : Nat} {xs : List Value} (h : w.ownsRow base e size v n xs) {k : Nat} (hk : v.ownBlock = some k) : k < w.heap.size := by
  rcases h.2 with ⟨rfl, _⟩ | ⟨g, cap, cur, rfl, _, hg, _⟩
  · cases hk
  · simp only [Value.ownBlock, Option.some.injEq] at hk
    exact hk ▸ (Array.getElem?_eq_some_iff.1 hg).1
@[irreducible] def Stop (p : Prop) : Prop := p
theorem stop_at {p : Prop} (h : Stop p) : p := by unfold Stop at h; exact h
theorem below_drew' {B : Nat} {w w' : World} (h : Below B w w') : Below B w w'.drew := h.trans ⟨rfl, rfl, rfl, Nat.le_refl _, fun _ _ => rfl⟩
set_option maxRecDepth 100000 in
set_option maxHeartbeats 4000000 in
theorem put_in {w : World} {b pb mb : Nat} {lv : Value} {arity : Nat} {gone : Int} {rows : List (List Int)} (h : RelAt w b pb mb lv arity gone rows) {x : List Int} (hx : RowOk x) (hin : x ∈ rows) :
    Calls Tryz.prog 58 #[.pointer (some ⟨pb, 0, none⟩), rowV x] w fun e w' => e = .returned (.bool false) ∧ Below w.heap.size w w' := by
  obtain ⟨v, hv⟩ := kvAt_some hin 0
  go_enter Tryz.func58, Tryz.ntmps58
  go_wp2_with fail
  have hal := (MapKept.heap_alloc w (Obj.cells (List.map symV x).toArray 64)).1
  have hba : Below w.heap.size w (w.alloc (Obj.cells (List.map symV x).toArray 64)) := (Below.refl _ w).alloc (Nat.le_refl _) _
  generalize w.alloc (Obj.cells (List.map symV x).toArray 64) = wa at *
  have hbd : Below w.heap.size w wa.drew := below_drew' hba
  have p1 := (h.cells.frame hbd).p1
  have hm := h.map.frame (w' := wa.drew) (hbd.block mb h.map.lt)
  have hlook := row_look true (t := 94) Tryz.underlying94 (Tryz.zeroValue3 wa.drew) hm hx
  rw [hv] at hlook
  simp only [if_true, Option.getD_some, Option.isSome_some] at hlook
  have hald : wa.drew.heap[w.heap.size]? = some (Obj.cells (List.map symV x).toArray 64) := hal
  have hsz : (Tryz.prog.info? 64).map (·.size) = some (List.map symV x).toArray.size := by rw [infoRow]; simp [hx.1]
  refine wp_region_still_lit (by kernel_rfl) (by kernel_rfl) ?_
  change wpStill _ _ wa.drew _ _ _
  repeat (first
    | (refine wpStill_step (fun K hK => ?_); rw [if_pos (by rfl)]; refine still_load_row 64 _ rfl w.heap.size rfl 64 _ (0, 0) _ hald Tryz.underlying64 rfl hsz (hK _ ?_); clear hK K)
    | still_step)
  refine wpStill_nil ?_
  change Exit.then _ _ _ _ wa.drew
  go_wp2_with fail
  simp [bodyPost, results, Tryz.results58, go_sem]
  exact hbd
theorem cells_set {W : World} {b n : Nat} {ty : TypeId} {pre post : List Value} {x v : Value} (hn : n = pre.length) (hb : W.heap[b]? = some (.cells (pre ++ x :: post).toArray ty (0, 0))) :
    (W.setCell ⟨b, n, none⟩ v).heap[b]? = some (.cells (pre ++ v :: post).toArray ty (0, 0)) ∧ W.cell? ⟨b, n, none⟩ = some x ∧ W.frozen? ⟨b, n, none⟩ = false ∧ KeptBut (fun c => c = b) W (W.setCell ⟨b, n, none⟩ v) := by
  subst hn
  refine ⟨?_, ?_, ?_, ⟨rfl, rfl, rfl, ?_, fun i hi hne => ?_⟩⟩
  · simp [World.setCell, Array.getElem?_modify, hb]
  · simp [World.cell?, hb]
  · simp [World.frozen?, hb]
  · simp [World.setCell, Array.size_modify]
  · have hb' : ¬ b = i := fun e => hne e.symm
    simp only [World.setCell, Array.getElem?_modify, hb', if_false]
theorem kept_grown {M : Nat → Prop} {w w' : World} {row : Option Nat} (h : w.grownBy w' row) (hm : ∀ k, row = some k → M k) : KeptBut M w w' :=
  ⟨h.os, h.tape, h.output, h.size, fun i hi hn => h.block i hi fun e => hn (hm i e.symm)⟩
theorem kept_alloc (w : World) (o : Obj) (M : Nat → Prop) : KeptBut M w (w.alloc o) := KeptBut.of_below ((Below.refl _ w).alloc (Nat.le_refl _) o)
theorem put_post {w w5 w7 : World} {o : Obj} {b pb mb g cap' : Nat} {lv : Value} {arity : Nat} {gone : Int} {rows : List (List Int)} {x : List Int} (hx : RowOk x) (hin : x ∉ rows)
    (h1 : MapAt w5 mb (putKV (kvAt 0 rows) x (.int .i64 (rows.length : Int)))) (h2 : KeptBut (relF b pb mb lv) w w5) (h3 : ∀ k, k ≠ mb → k < w.heap.size → w5.heap[k]? = w.heap[k]?)
    (h4 : w5.heap[pb]? = some (.cells #[lv, .map (some mb)] 96 (0, 0))) (h : RelAt w b pb mb lv arity gone rows)
    (hown : w7.ownsRow 0 64 24 (.slice (some ⟨g, 0, none⟩) (rows.length + 1) cap') (rows.length + 1) (rowsV rows ++ List.map symV x)) (hg : (w5.alloc o).grownBy w7 lv.ownBlock) (hat : lv.ownBlock = some g ∨ g = w5.heap.size + 1) :
    ∃ lv', RelAt (w7.setCell ⟨pb, 0, none⟩ (.slice (some ⟨g, 0, none⟩) (rows.length + 1) cap')) b pb mb lv' arity gone (rows ++ [x]) ∧ KeptBut (relF b pb mb lv) w (w7.setCell ⟨pb, 0, none⟩ (.slice (some ⟨g, 0, none⟩) (rows.length + 1) cap')) ∧
      (∀ k, relF b pb mb lv' k → relF b pb mb lv k ∨ w.heap.size ≤ k) := by
  have hlb := h.cells.lb
  have hlp := h.cells.lp
  have hlm := h.map.lt
  have hs5 := h2.size
  have hlt : ∀ k, lv.ownBlock = some k → k < w.heap.size := fun k hk => own_lt h.own hk
  have hbk : ∀ k, k < w5.heap.size → lv.ownBlock ≠ some k → w7.heap[k]? = w5.heap[k]? := fun k hk hne => by
    have hs := ((Below.refl _ w5).alloc (Nat.le_refl _) o).block k hk
    exact (hg.block k (Nat.lt_of_lt_of_le hk ((Below.refl _ w5).alloc (Nat.le_refl _) o).size) (fun e => hne e.symm)).trans hs
  have hgne : g ≠ b ∧ g ≠ pb ∧ g ≠ mb := by
    rcases hat with hat | hat
    · exact h.ne4 g hat
    · omega
  have hp7 : w7.heap[pb]? = some (.cells ([] ++ lv :: [.map (some mb)]).toArray 96 (0, 0)) := (hbk pb (by omega) (fun e => (h.ne4 pb e).2.1 rfl)).trans h4
  obtain ⟨s1, _, _, s4⟩ := cells_set (v := .slice (some ⟨g, 0, none⟩) (rows.length + 1) cap') rfl hp7
  generalize hw8 : w7.setCell ⟨pb, ([] : List Value).length, none⟩ (.slice (some ⟨g, 0, none⟩) (rows.length + 1) cap') = w8 at s1 s4
  have hbb : ∀ k, k ≠ pb → k ≠ mb → lv.ownBlock ≠ some k → k < w.heap.size → w8.heap[k]? = w.heap[k]? := fun k a1 a2 a3 a4 => by
    have hs7 := hg.size
    have hs6 := ((Below.refl _ w5).alloc (Nat.le_refl _) o).size
    rw [s4.block k (by omega) a1, hbk k (by omega) a3, h3 k a2 a4]
  have hs7 : w5.heap.size ≤ w7.heap.size := Nat.le_trans ((Below.refl _ w5).alloc (Nat.le_refl _) o).size hg.size
  refine ⟨.slice (some ⟨g, 0, none⟩) (rows.length + 1) cap', ⟨?_, s1, ?_, ?_, h.ne1, h.ne2, h.ne3, ?_, ?_, ?_, h.wide⟩, ?_, ?_⟩
  · rw [hbb b h.ne1 h.ne2 (fun e => (h.ne4 b e).1 rfl) hlb]; exact h.hb
  · rw [List.length_append, List.length_singleton, show rowsV (rows ++ [x]) = rowsV rows ++ List.map symV x by simp [rowsV]]
    refine ownsRow_of_block hown fun k hk => ?_
    simp only [Value.ownBlock, Option.some.injEq] at hk
    subst hk
    exact s4.block g (own_lt hown rfl) hgne.2.1
  · have : kvAt 0 (rows ++ [x]) = putKV (kvAt 0 rows) x (.int .i64 (rows.length : Int)) := by
      rw [kvAt_app]
      unfold putKV
      rw [if_neg (by rw [kvAt_fst]; exact hin), Nat.zero_add]
    rw [this]
    refine h1.frame ?_
    rw [s4.block mb (by omega) (Ne.symm h.ne3), hbk mb (by omega) (fun e => (h.ne4 mb e).2.2 rfl)]
  · intro k hk
    simp only [Value.ownBlock, Option.some.injEq] at hk
    exact hk ▸ hgne
  · intro y hy
    rcases List.mem_append.1 hy with hy | hy
    · exact h.ok y hy
    · rw [List.mem_singleton.1 hy]; exact hx
  · rw [List.nodup_append]
    refine ⟨h.nodup, by simp, ?_⟩
    intro a ha c hc
    rw [List.mem_singleton.1 hc]
    exact fun e => hin (e ▸ ha)
  · have k1 : KeptBut (relF b pb mb lv) w5 w7 := (kept_alloc w5 o _).trans (kept_grown (M := relF b pb mb lv) hg fun k hk => .inr (.inr (.inr hk))) fun k hk => .inr hk
    exact (h2.trans k1 fun k hk => .inr hk).trans s4 fun k hk => .inr (.inr (.inl hk))
  · rintro k (rfl | rfl | rfl | hk)
    · exact .inl (.inl rfl)
    · exact .inl (.inr (.inl rfl))
    · exact .inl (.inr (.inr (.inl rfl)))
    · simp only [Value.ownBlock, Option.some.injEq] at hk
      subst hk
      rcases hat with hat | hat
      · exact .inl (.inr (.inr (.inr hat)))
      · exact .inr (by omega)
set_option maxRecDepth 100000 in
set_option maxHeartbeats 4000000 in
theorem put_new {w : World} {b pb mb : Nat} {lv : Value} {arity : Nat} {gone : Int} {rows : List (List Int)} (h : RelAt w b pb mb lv arity gone rows) {x : List Int} (hx : RowOk x) (hin : x ∉ rows) (hn : rows.length ≤ 1048576) :
    Calls Tryz.prog 58 #[.pointer (some ⟨pb, 0, none⟩), rowV x] w fun e w' => e = .returned (.bool true) ∧ ∃ lv', RelAt w' b pb mb lv' arity gone (rows ++ [x]) ∧ KeptBut (relF b pb mb lv) w w' ∧ (∀ k, relF b pb mb lv' k → relF b pb mb lv k ∨ w.heap.size ≤ k) := by
  have hv := kvAt_none (o := 0) hin
  go_enter Tryz.func58, Tryz.ntmps58
  go_wp2_with fail
  have hal := (MapKept.heap_alloc w (Obj.cells (List.map symV x).toArray 64)).1
  have hba : Below w.heap.size w (w.alloc (Obj.cells (List.map symV x).toArray 64)) := (Below.refl _ w).alloc (Nat.le_refl _) _
  generalize w.alloc (Obj.cells (List.map symV x).toArray 64) = wa at *
  have hbd : Below w.heap.size w wa.drew := below_drew' hba
  have p1 := (h.cells.frame hbd).p1
  have hm := h.map.frame (w' := wa.drew) (hbd.block mb h.map.lt)
  have hlook := row_look true (t := 94) Tryz.underlying94 (Tryz.zeroValue3 wa.drew) hm hx
  rw [hv] at hlook
  simp only [if_true, Option.getD_none, Option.isSome_none] at hlook
  have hald : wa.drew.heap[w.heap.size]? = some (Obj.cells (List.map symV x).toArray 64) := hal
  have hsz : (Tryz.prog.info? 64).map (·.size) = some (List.map symV x).toArray.size := by rw [infoRow]; simp [hx.1]
  refine wp_region_still_lit (by kernel_rfl) (by kernel_rfl) ?_
  change wpStill _ _ wa.drew _ _ _
  repeat (first
    | (refine wpStill_step (fun K hK => ?_); rw [if_pos (by rfl)]; refine still_load_row 64 _ rfl w.heap.size rfl 64 _ (0, 0) _ hald Tryz.underlying64 rfl hsz (hK _ ?_); clear hK K)
    | still_step)
  refine wpStill_nil ?_
  change Exit.then _ _ _ _ wa.drew
  generalize wa.drew = w2 at *
  go_wp2_with fail
  obtain ⟨ad, cap, rfl⟩ : ∃ ad cap, lv = .slice ad rows.length cap := by
    obtain ⟨_, ⟨rfl, h0⟩ | ⟨g, cap, cur, rfl, _⟩⟩ := h.own
    · exact ⟨none, 0, by rw [h0]⟩
    · exact ⟨_, _, rfl⟩
  have hb3 : Below w.heap.size w w2.drew := below_drew' hbd
  have q0 := (h.cells.frame hb3).p0
  have q1 := (h.cells.frame hb3).p1
  have hal3 : w2.drew.heap[w.heap.size]? = some (Obj.cells (List.map symV x).toArray 64) := hald
  have hm3 := h.map.frame (w' := w2.drew) (hb3.block mb h.map.lt)
  obtain ⟨w4, hput, hm4, hk4⟩ := row_put (t := 94) Tryz.underlying94 hm3 hx (.int .i64 (rows.length : Int))
  refine wp_region_still_tail 10 (by kernel_rfl) (by kernel_rfl) ?_
  change wpStill _ _ w2.drew _ _ _
  simp only [List.take_succ_cons, List.take_zero, List.drop_succ_cons, List.drop_zero]
  repeat (first
    | (refine wpStill_step (fun K hK => ?_); rw [if_pos (by rfl)]; refine still_load_row 64 _ rfl w.heap.size rfl 64 _ (0, 0) _ hal3 Tryz.underlying64 rfl hsz (hK _ ?_); clear hK K)
    | still_step)
  refine wpStill_nil ?_
  change wpList _ _ _ _ _ w2.drew
  generalize w2.drew = w3 at *
  go_wp2_with fail
  have hk3 : KeptBut (relF b pb mb (.slice ad rows.length cap)) w w4 := (KeptBut.of_below hb3).trans hk4 fun k hk => .inr (.inr (.inr (.inl hk)))
  have hk3d : KeptBut (relF b pb mb (.slice ad rows.length cap)) w w4.drew := ⟨hk3.os, hk3.tape, hk3.output, hk3.size, hk3.block⟩
  have hbo : ∀ k, k ≠ mb → k < w.heap.size → w4.drew.heap[k]? = w.heap[k]? := fun k h1 h2 => (hk4.block k (Nat.lt_of_lt_of_le h2 hb3.size) h1).trans (hb3.block k h2)
  have hlb := h.cells.lb
  have hlp := h.cells.lp
  have hp4 : w4.drew.heap[pb]? = some (.cells #[.slice ad rows.length cap, .map (some mb)] 96 (0, 0)) := (hbo pb h.ne3 hlp).trans h.hp
  have r0 : w4.drew.cell? ⟨pb, 0, none⟩ = some (.slice ad rows.length cap) := by simp [World.cell?, hp4]
  have hmbw : mb < w.heap.size := h.map.lt
  have hlt3 : w.heap.size < w3.heap.size := (Array.getElem?_eq_some_iff.1 hal3).1
  have hal4 : w4.drew.heap[w.heap.size]? = some (Obj.cells (List.map symV x).toArray 64) := (hk4.block _ hlt3 (by omega)).trans hal3
  have hown4 : w4.ownsRow 0 64 24 (.slice ad rows.length cap) rows.length (rowsV rows) := by
    refine ownsRow_of_block h.own fun k hk => ?_
    exact hbo k (h.ne4 k hk).2.2 (own_lt h.own hk)
  have hcap : (0:Int) ≤ rows.length := by omega
  obtain ⟨i0, hi, hz0, hz1, hz2⟩ := info_parts infoR
  have hfill : Instr.fill (fun i => some (i * i0.size, i0.size)) ((Array.range (1 * i0.size)).map ((rowV zRow).cells[· % (rowV zRow).cells.size]!)) [(0, rowV x)] = some (x.map symV).toArray := by
    rw [hz1]
    exact fill_row hx.1 (by simp)
  have hone : ∀ u ∈ List.map symV x, u.oneCell' = true := fun u hu => by obtain ⟨n, _, rfl⟩ := List.mem_map.1 hu; rfl
  have hbs : ∀ w, (Instr.buildSlice 69 1 #[(0, .agg (List.map symV x).toArray)]).run Tryz.prog w = .ok (.slice (some ⟨w.heap.size, 0, none⟩) 1 1) (w.alloc (.cells (List.map symV x).toArray 64)) := fun w =>
    run_buildSlice w 69 64 1 _ (List.map symV x).toArray i0 (rowV zRow) Tryz.underlying69 hi hz0 (by rw [hz1]; decide) (by rw [hz1]; decide) hfill
  have hu := Tryz.underlying64
  have hi2 : (Tryz.prog.info? 64).map (·.size) = some (List.map symV x).length := by rw [infoRow]; simp [hx.1]
  have hfold : List.foldl (fun (cs : Array Value) (y : Value × Nat) => cs.setIfInBounds y.2 y.1) #[.int .i32 0, .int .i32 0, .int .i32 0, .int .i32 0, .int .i32 0, .int .i32 0, .int .i32 0, .int .i32 0, .int .i32 0, .int .i32 0, .int .i32 0, .int .i32 0, .int .i32 0, .int .i32 0, .int .i32 0, .int .i32 0, .int .i32 0, .int .i32 0, .int .i32 0, .int .i32 0, .int .i32 0, .int .i32 0, .int .i32 0, .int .i32 0] (List.map symV x).zipIdx = (List.map symV x).toArray := by
    have := foldl_over (x.map symV) 0 0 #[.int .i32 0, .int .i32 0, .int .i32 0, .int .i32 0, .int .i32 0, .int .i32 0, .int .i32 0, .int .i32 0, .int .i32 0, .int .i32 0, .int .i32 0, .int .i32 0, .int .i32 0, .int .i32 0, .int .i32 0, .int .i32 0, .int .i32 0, .int .i32 0, .int .i32 0, .int .i32 0, .int .i32 0, .int .i32 0, .int .i32 0, .int .i32 0] (by simp [hx.1])
    apply Array.toList_inj.1
    rw [Nat.add_zero] at this
    refine Eq.trans ?_ (this.trans ?_)
    · simp
    · unfold over
      rw [List.drop_eq_nil_of_le (by simp [hx.1])]
      simp
  have hlen : (List.map symV x).length = 24 := by simp [hx.1]
  obtain ⟨w5, hw5⟩ : ∃ w5, w5 = w4.drew := ⟨_, rfl⟩
  have H : Hid ((MapAt w5 mb (putKV (kvAt 0 rows) x (.int .i64 (rows.length : Int))) ∧ KeptBut (relF b pb mb (.slice ad rows.length cap)) w w5 ∧ (∀ k, k ≠ mb → k < w.heap.size → w5.heap[k]? = w.heap[k]?) ∧
      w5.ownsRow 0 64 24 (.slice ad rows.length cap) rows.length (rowsV rows) ∧ w5.heap[pb]? = some (.cells #[.slice ad rows.length cap, .map (some mb)] 96 (0, 0)) ∧ RelAt w b pb mb (.slice ad rows.length cap) arity gone rows ∧
      w5.heap[w.heap.size]? = some (Obj.cells (List.map symV x).toArray 64)) ∧ (Tryz.prog.info? 64 = some i0 ∧ i0.zero = some (rowV zRow) ∧ i0.size = 24 ∧ i0.bytes = 96) ∧ rows.length ≤ 1048576) := by
    subst hw5
    exact Lib.hid ⟨⟨hm4, hk3d, hbo, hown4, hp4, h, hal4⟩, ⟨hi, hz0, hz1, hz2⟩, hn⟩
  rw [← hw5] at r0
  have r0a : (w5.alloc (Obj.cells (List.map symV x).toArray 64)).cell? ⟨pb, 0, none⟩ = some (.slice ad rows.length cap) :=
    ((((Below.refl _ w5).alloc (Nat.le_refl _) _).cell (p := ⟨pb, 0, none⟩) (World.block_lt_of_cell? w5 _ r0))).trans r0
  clear hfill hlook hput hm3 hm hk3 hk3d hm4 hk4 hbo hown4 hp4 h hald hal hal3 hbd hb3 p1 q0 q1 hv hba hcap hi hz0 hz1 hz2 hbs hal4 hn hu hi2
  refine wp_region_any (by kernel_rfl) ?_
  change wpAny _ _ _ _ _ _ _ (World.drew _)
  rw [← hw5]
  clear hw5
  refine wpAny_take (i := 0) (v := ?_) rfl (by kernel_rfl) (by kernel_rfl) (by kernel_rfl) (fun _ _ _ h => h) (Or.inl ⟨by rfl, ?_⟩) ?_
  rotate_left
  · intro w; go_simp; try with_reducible rfl
  refine wpAny_take (i := 1) (v := ?_) rfl (by kernel_rfl) (by kernel_rfl) (by kernel_rfl) (fun _ _ _ h => h) (Or.inl ⟨by rfl, ?_⟩) ?_
  rotate_left
  · intro w; go_simp; try with_reducible rfl
  refine wpAny_take (i := 2) (v := ?_) rfl (by kernel_rfl) (by kernel_rfl) (by kernel_rfl) (fun _ _ _ h => h) (Or.inl ⟨by rfl, ?_⟩) ?_
  rotate_left
  · intro w; go_simp; try with_reducible rfl
  refine wpAny_take (i := 3) (v := ?_) rfl (by kernel_rfl) (by kernel_rfl) (by kernel_rfl) (fun _ _ _ h => h) (Or.inl ⟨by rfl, ?_⟩) ?_
  rotate_left
  · intro w; go_simp; try with_reducible rfl
  refine wpAny_ready (rs := [4, 5]) (by kernel_rfl) (by simp) ?_
  refine AllReady.cons rfl (fun K hK => ?_) (AllReady.cons rfl (fun K hK => ?_) AllReady.nil)
  · rw [if_pos (by rfl)]
    go_simp
    refine hK _ _ ?_
    clear hK K
    refine wpAny_ready (rs := [5]) (by kernel_rfl) (by simp) ?_
    refine AllReady.cons rfl (fun K hK => ?_) AllReady.nil
    rw [if_pos (by rfl)]
    refine wp_load_row 64 _ rfl w.heap.size rfl 64 _ (0, 0) _ H.out.1.2.2.2.2.2.2 Tryz.underlying64 rfl hsz ?_
    refine hK _ _ ?_
    clear hK K
    refine wpAny_ready (rs := [6]) (by kernel_rfl) (by simp) ?_
    refine AllReady.cons rfl (fun K hK => ?_) AllReady.nil
    rw [if_pos (by rfl)]
    go_simp
    refine hK _ _ ?_
    clear hK K
    refine wpAny_ready (rs := [7]) (by kernel_rfl) (by simp) ?_
    refine AllReady.cons rfl (fun K hK => ?_) AllReady.nil
    refine step_append_lies _ (by rfl) _ _ _ (by rfl) 0 64 i0 _ 24 96 Tryz.underlying69 H.out.2.1.1 H.out.2.1.2.1 H.out.2.1.2.2.1 H.out.2.1.2.2.2 rfl (by omega) (.slice ad rows.length cap) rows.length (rowsV rows) (by rfl) (H.out.1.2.2.2.1.alloc _) ⟨w5.heap.size, 0, none⟩ 1 1 (List.map symV x) (by rfl) (by simp [hlen]) (World.news_of_block (heap_alloc_new w5 _)) hone (by omega) (by have := H.out.2.2; unfold maxLen; omega) (by have := H.out.2.2; omega) (Nat.zero_le _) (w5.heap.size + 1) (by simp) ?_
    intro g cap' w7 hown7 hgrow hat hlt
    have Hz := put_post hx hin H.out.1.1 H.out.1.2.1 H.out.1.2.2.1 H.out.1.2.2.2.2.1 H.out.1.2.2.2.2.2.1 hown7 hgrow hat
    have Hz := Lib.hid Hz
    have hcp : w7.cell? ⟨pb, 0, none⟩ = some (.slice ad rows.length cap) := by
      rw [hgrow.cell_far _ (by have := World.block_lt_of_cell? _ _ r0a; exact this) (fun e => (H.out.1.2.2.2.2.2.1.ne4 pb e.symm).2.1 rfl)]; exact r0a
    have hfp : w7.frozen? ⟨pb, 0, none⟩ = false := by
      rw [hgrow.frozen_far _ (by have := World.block_lt_of_cell? _ _ r0a; exact this) (fun e => (H.out.1.2.2.2.2.2.1.ne4 pb e.symm).2.1 rfl)]
      have hq := H.out.1.2.2.2.2.1
      have := ((Below.refl _ w5).alloc (Nat.le_refl _) (Obj.cells (List.map symV x).toArray 64)).block pb (World.block_lt_of_cell? w5 _ r0)
      simp [World.frozen?, this, hq]
    clear hat hgrow hown7
    refine hK _ _ ?_
    clear hK K
    refine wpAny_ready (rs := [8]) (by kernel_rfl) (by simp) ?_
    refine AllReady.cons rfl (fun K hK => ?_) AllReady.nil
    rw [if_pos (by rfl)]
    go_simp
    refine hK _ _ ?_
    clear hK K
    refine wpAny_ready (rs := [9]) (by kernel_rfl) (by simp) ?_
    refine AllReady.cons rfl (fun K hK => ?_) AllReady.nil
    rw [if_pos (by rfl)]
    go_simp
    refine hK _ _ ?_
    clear hK K
    refine wpAny_ready (rs := [10]) (by kernel_rfl) (by simp) ?_
    refine AllReady.cons rfl (fun K hK => ?_) AllReady.nil
    rw [if_pos (by rfl)]
    go_simp
    refine hK _ _ ?_
    clear hK K
    refine wpAny_done (by kernel_rfl) ?_ _
    go_wp2_with fail
    simp [bodyPost, results, Tryz.results58, go_sem]
    exact Hz.out
  · rw [if_pos (by rfl)]
    refine wp_load_row 64 _ rfl w.heap.size rfl 64 _ (0, 0) _ H.out.1.2.2.2.2.2.2 Tryz.underlying64 rfl hsz ?_
    refine hK _ _ ?_
    clear hK K
    refine wpAny_ready (rs := [4, 6]) (by kernel_rfl) (by simp) ?_
    refine AllReady.cons rfl (fun K hK => ?_) (AllReady.cons rfl (fun K hK => ?_) AllReady.nil)
    · rw [if_pos (by rfl)]
      go_simp
      refine hK _ _ ?_
      clear hK K
      refine wpAny_ready (rs := [6]) (by kernel_rfl) (by simp) ?_
      refine AllReady.cons rfl (fun K hK => ?_) AllReady.nil
      rw [if_pos (by rfl)]
      go_simp
      refine hK _ _ ?_
      clear hK K
      refine wpAny_ready (rs := [7]) (by kernel_rfl) (by simp) ?_
      refine AllReady.cons rfl (fun K hK => ?_) AllReady.nil
      refine step_append_lies _ (by rfl) _ _ _ (by rfl) 0 64 i0 _ 24 96 Tryz.underlying69 H.out.2.1.1 H.out.2.1.2.1 H.out.2.1.2.2.1 H.out.2.1.2.2.2 rfl (by omega) (.slice ad rows.length cap) rows.length (rowsV rows) (by rfl) (H.out.1.2.2.2.1.alloc _) ⟨w5.heap.size, 0, none⟩ 1 1 (List.map symV x) (by rfl) (by simp [hlen]) (World.news_of_block (heap_alloc_new w5 _)) hone (by omega) (by have := H.out.2.2; unfold maxLen; omega) (by have := H.out.2.2; omega) (Nat.zero_le _) (w5.heap.size + 1) (by simp) ?_
      intro g cap' w7 hown7 hgrow hat hlt
      have Hz := put_post hx hin H.out.1.1 H.out.1.2.1 H.out.1.2.2.1 H.out.1.2.2.2.2.1 H.out.1.2.2.2.2.2.1 hown7 hgrow hat
      have Hz := Lib.hid Hz
      have hcp : w7.cell? ⟨pb, 0, none⟩ = some (.slice ad rows.length cap) := by
        rw [hgrow.cell_far _ (by have := World.block_lt_of_cell? _ _ r0a; exact this) (fun e => (H.out.1.2.2.2.2.2.1.ne4 pb e.symm).2.1 rfl)]; exact r0a
      have hfp : w7.frozen? ⟨pb, 0, none⟩ = false := by
        rw [hgrow.frozen_far _ (by have := World.block_lt_of_cell? _ _ r0a; exact this) (fun e => (H.out.1.2.2.2.2.2.1.ne4 pb e.symm).2.1 rfl)]
        have hq := H.out.1.2.2.2.2.1
        have := ((Below.refl _ w5).alloc (Nat.le_refl _) (Obj.cells (List.map symV x).toArray 64)).block pb (World.block_lt_of_cell? w5 _ r0)
        simp [World.frozen?, this, hq]
      clear hat hgrow hown7
      refine hK _ _ ?_
      clear hK K
      refine wpAny_ready (rs := [8]) (by kernel_rfl) (by simp) ?_
      refine AllReady.cons rfl (fun K hK => ?_) AllReady.nil
      rw [if_pos (by rfl)]
      go_simp
      refine hK _ _ ?_
      clear hK K
      refine wpAny_ready (rs := [9]) (by kernel_rfl) (by simp) ?_
      refine AllReady.cons rfl (fun K hK => ?_) AllReady.nil
      rw [if_pos (by rfl)]
      go_simp
      refine hK _ _ ?_
      clear hK K
      refine wpAny_ready (rs := [10]) (by kernel_rfl) (by simp) ?_
      refine AllReady.cons rfl (fun K hK => ?_) AllReady.nil
      rw [if_pos (by rfl)]
      go_simp
      refine hK _ _ ?_
      clear hK K
      refine wpAny_done (by kernel_rfl) ?_ _
      go_wp2_with fail
      simp [bodyPost, results, Tryz.results58, go_sem]
      exact Hz.out
    · rw [if_pos (by rfl)]
      go_simp
      refine hK _ _ ?_
      clear hK K
      refine wpAny_ready (rs := [4]) (by kernel_rfl) (by simp) ?_
      refine AllReady.cons rfl (fun K hK => ?_) AllReady.nil
      rw [if_pos (by rfl)]
      go_simp
      refine hK _ _ ?_
      clear hK K
      refine wpAny_ready (rs := [7]) (by kernel_rfl) (by simp) ?_
      refine AllReady.cons rfl (fun K hK => ?_) AllReady.nil
      refine step_append_lies _ (by rfl) _ _ _ (by rfl) 0 64 i0 _ 24 96 Tryz.underlying69 H.out.2.1.1 H.out.2.1.2.1 H.out.2.1.2.2.1 H.out.2.1.2.2.2 rfl (by omega) (.slice ad rows.length cap) rows.length (rowsV rows) (by rfl) (H.out.1.2.2.2.1.alloc _) ⟨w5.heap.size, 0, none⟩ 1 1 (List.map symV x) (by rfl) (by simp [hlen]) (World.news_of_block (heap_alloc_new w5 _)) hone (by omega) (by have := H.out.2.2; unfold maxLen; omega) (by have := H.out.2.2; omega) (Nat.zero_le _) (w5.heap.size + 1) (by simp) ?_
      intro g cap' w7 hown7 hgrow hat hlt
      have Hz := put_post hx hin H.out.1.1 H.out.1.2.1 H.out.1.2.2.1 H.out.1.2.2.2.2.1 H.out.1.2.2.2.2.2.1 hown7 hgrow hat
      have Hz := Lib.hid Hz
      have hcp : w7.cell? ⟨pb, 0, none⟩ = some (.slice ad rows.length cap) := by
        rw [hgrow.cell_far _ (by have := World.block_lt_of_cell? _ _ r0a; exact this) (fun e => (H.out.1.2.2.2.2.2.1.ne4 pb e.symm).2.1 rfl)]; exact r0a
      have hfp : w7.frozen? ⟨pb, 0, none⟩ = false := by
        rw [hgrow.frozen_far _ (by have := World.block_lt_of_cell? _ _ r0a; exact this) (fun e => (H.out.1.2.2.2.2.2.1.ne4 pb e.symm).2.1 rfl)]
        have hq := H.out.1.2.2.2.2.1
        have := ((Below.refl _ w5).alloc (Nat.le_refl _) (Obj.cells (List.map symV x).toArray 64)).block pb (World.block_lt_of_cell? w5 _ r0)
        simp [World.frozen?, this, hq]
      clear hat hgrow hown7
      refine hK _ _ ?_
      clear hK K
      refine wpAny_ready (rs := [8]) (by kernel_rfl) (by simp) ?_
      refine AllReady.cons rfl (fun K hK => ?_) AllReady.nil
      rw [if_pos (by rfl)]
      go_simp
      refine hK _ _ ?_
      clear hK K
      refine wpAny_ready (rs := [9]) (by kernel_rfl) (by simp) ?_
      refine AllReady.cons rfl (fun K hK => ?_) AllReady.nil
      rw [if_pos (by rfl)]
      go_simp
      refine hK _ _ ?_
      clear hK K
      refine wpAny_ready (rs := [10]) (by kernel_rfl) (by simp) ?_
      refine AllReady.cons rfl (fun K hK => ?_) AllReady.nil
      rw [if_pos (by rfl)]
      go_simp
      refine hK _ _ ?_
      clear hK K
      refine wpAny_done (by kernel_rfl) ?_ _
      go_wp2_with fail
      simp [bodyPost, results, Tryz.results58, go_sem]
      exact Hz.out
end Go.Proofs.YtckhkfchgcdajaaGreatDoor

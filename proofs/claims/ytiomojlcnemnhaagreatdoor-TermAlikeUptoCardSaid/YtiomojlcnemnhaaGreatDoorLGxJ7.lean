import Derived.Test.YtiomojlcnemnhaaGreatDoorLGxJ3
namespace Go.Proofs.YtiomojlcnemnhaaGreatDoor
open Go.Fx Go.RowKit Go.Ped
def MapAt (w : World) (mb : Nat) (m : List Pr) : Prop :=
  ∃ ob, w.heap[mb]? = some ob ∧ ∀ w' : World, w'.heap[mb]? = some ob → ∀ v : Name, (Instr.lookup 123 (.map (some mb)) (.string (bs v)) true).run Tryz.prog w' = .ok (.tuple #[.agg (tmCells ((nextOf m v).getD zeroT)).toArray, .bool (nextOf m v).isSome]) w'
theorem MapAt.frame {w w' : World} {mb : Nat} {m : List Pr} (h : MapAt w mb m) (hb : w'.heap[mb]? = w.heap[mb]?) : MapAt w' mb m := by
  obtain ⟨ob, h1, h2⟩ := h
  exact ⟨ob, hb.trans h1, h2⟩
theorem MapAt.run {w : World} {mb : Nat} {m : List Pr} (h : MapAt w mb m) (v : Name) : (Instr.lookup 123 (.map (some mb)) (.string (bs v)) true).run Tryz.prog w = .ok (.tuple #[.agg (tmCells ((nextOf m v).getD zeroT)).toArray, .bool (nextOf m v).isSome]) w := by
  obtain ⟨ob, h1, h2⟩ := h
  exact h2 w h1 v
theorem MapAt.lt {w : World} {mb : Nat} {m : List Pr} (h : MapAt w mb m) : mb < w.heap.size := by
  obtain ⟨ob, h1, _⟩ := h
  exact (Array.getElem?_eq_some_iff.1 h1).1
theorem mapAt_of {env : Env} {toks : Nat → Option Fx.Tok} {w : World} {mb : Nat} {us : List Value} {m : List Pr} (hb : BoxIn w ⟨0, 5, m.map nxRow, some (.string, false)⟩ mb us)
    (hr : All2 (RepA env toks w) ((m.map nxRow).flatten) us) : MapAt w mb m := by
  obtain ⟨ob, g3, g3'⟩ := hb
  refine ⟨ob, g3, fun w' g3 v => ?_⟩
  obtain ⟨⟨es, clock, rfl, rfl, hl, _, hes⟩, hrows⟩ := g3'
  obtain ⟨i0, z, hi, hz0, _, _, hzs⟩ := info41
  have hd : Tryz.prog.underlying 9 = some .string := Tryz.underlying9
  have ht : Tryz.prog.underlying 123 = some (.map 9 73) := Tryz.underlying123
  have hx : MapKept.IsKey .string (.string (bs v)) := by simp [MapKept.IsKey]
  have hal := aligned (by simpa using hl.symm) (fun r hr => by obtain ⟨p, _, rfl⟩ := List.mem_map.1 hr; rfl) (fun e he => (hes e he).2.1) hrows hr
  have hz : z = .agg (tmCells zeroT).toArray := by
    have e : (Tryz.prog.info? 73).bind (·.zero) = some (.agg (tmCells zeroT).toArray) := by kernel_rfl
    rw [hi] at e
    exact Option.some.inj (hz0.symm.trans e)
  have hzr : (zeroValue 73).run Tryz.prog w' = .ok z w' := by simp [zeroValue, typeInfo, hi, hz0]
  have hfind := nx_find v m
  rcases find_aligned hx 0 hal (fun e he => (hes e he).1) with ⟨q1, q2⟩ | ⟨j, r, e, q1, _, q3, _, q5, ⟨tl, q6, q7⟩, _⟩
  · have hrun := run_mlook true ht hd g3 hx hzr q2
    rw [hfind] at q1
    have hn : nextOf m v = none := by
      unfold nextOf
      simpa using q1
    rw [hrun, hn, hz]
    rfl
  · have hrun := run_mlook true ht hd g3 hx hzr q3
    have he : e ∈ es.toList := List.mem_of_getElem? q5
    rw [hfind] at q1
    obtain ⟨p, hp, rfl⟩ := Option.map_eq_some_iff.1 q1
    have hn : nextOf m v = some p.t := by unfold nextOf; rw [hp]; rfl
    obtain ⟨cs, hcs⟩ := (hes e he).2.2.2 rfl
    have hval : e.val = .agg (tmCells p.t).toArray := by
      have htl : tl = p.t.row.map A.c := by
        have := q6
        unfold nxRow at this
        exact (List.cons.inj this).2.symm
      have h4 := q7.2
      rw [htl, hcs] at h4
      have h5 : All2 (RepC env.V w) p.t.row cs.toList := by
        have := All2.of_map_left (f := A.c) h4
        exact this
      rw [hcs, ← tm_cells_of h5]
    refine hrun.trans ?_
    rw [hn, hval]
    rfl
theorem tm_at {w : World} {b : Nat} {ty : TypeId} {pre post : List Value} {t : Tm} (hb : w.heap[b]? = some (.cells (pre ++ tmCells t ++ post).toArray ty (0, 0))) :
    w.cell? ⟨b, pre.length, none⟩ = some (.string (bs t.v)) ∧ w.cell? ⟨b, pre.length + 1, none⟩ = some (.int .i8 t.x.k) ∧ w.cell? ⟨b, pre.length + 2, none⟩ = some (.int .i64 t.x.n) ∧ w.cell? ⟨b, pre.length + 3, none⟩ = some (.string (bs t.x.s)) ∧
    ∀ o, w.frozen? ⟨b, o, none⟩ = false := by
  refine ⟨?_, ?_, ?_, ?_, fun o => ?_⟩
  · simp [World.cell?, hb, tmCells]
  · simp [World.cell?, hb, tmCells, List.getElem?_append_right]
  · simp [World.cell?, hb, tmCells, List.getElem?_append_right]
  · simp [World.cell?, hb, tmCells, List.getElem?_append_right]
  · simp [World.frozen?, hb]
theorem tm_agg (t : Tm) : (tmCells t).toArray = #[.string (bs t.v), .int .i8 t.x.k, .int .i64 t.x.n, .string (bs t.x.s)] := rfl
theorem cells_set {W : World} {b n : Nat} {ty : TypeId} {pre post : List Value} {x v : Value} (hn : n = pre.length) (hb : W.heap[b]? = some (.cells (pre ++ x :: post).toArray ty (0, 0))) :
    (W.setCell ⟨b, n, none⟩ v).heap[b]? = some (.cells (pre ++ v :: post).toArray ty (0, 0)) ∧ W.cell? ⟨b, n, none⟩ = some x ∧ W.frozen? ⟨b, n, none⟩ = false ∧ KeptBut (fun c => c = b) W (W.setCell ⟨b, n, none⟩ v) := by
  subst hn
  refine ⟨?_, ?_, ?_, ⟨rfl, rfl, rfl, ?_, fun i hi hne => ?_⟩⟩
  · simp [World.setCell, Array.getElem?_modify, hb]
  · simp [World.cell?, hb]
  · simp [World.frozen?, hb]
  · simp [World.setCell, Array.size_modify]
  · have hb' : ¬ b = i := fun e => hne e.symm
    simp only [World.setCell, Array.getElem?_modify, hb', if_false]
theorem kept_same {M : Nat → Prop} {w w1 w2 : World} (h : KeptBut M w w1) (h' : KeptBut M w1 w2) : KeptBut M w w2 := h.trans h' fun _ h => .inr h
theorem tm_set {W : World} {b : Nat} {ty : TypeId} {pre post : List Value} {t : Tm} (y : Tm) (hb : W.heap[b]? = some (.cells (pre ++ tmCells t ++ post).toArray ty (0, 0))) :
    ∃ A1 A2 A3 A4, W.setCell ⟨b, pre.length, none⟩ (.string (bs y.v)) = A1 ∧ A1.setCell ⟨b, pre.length + 1, none⟩ (.int .i8 y.x.k) = A2 ∧ A2.setCell ⟨b, pre.length + 2, none⟩ (.int .i64 y.x.n) = A3 ∧ A3.setCell ⟨b, pre.length + 3, none⟩ (.string (bs y.x.s)) = A4 ∧
      W.cell? ⟨b, pre.length, none⟩ = some (.string (bs t.v)) ∧ W.frozen? ⟨b, pre.length, none⟩ = false ∧ A1.cell? ⟨b, pre.length + 1, none⟩ = some (.int .i8 t.x.k) ∧ A1.frozen? ⟨b, pre.length + 1, none⟩ = false ∧
      A2.cell? ⟨b, pre.length + 2, none⟩ = some (.int .i64 t.x.n) ∧ A2.frozen? ⟨b, pre.length + 2, none⟩ = false ∧ A3.cell? ⟨b, pre.length + 3, none⟩ = some (.string (bs t.x.s)) ∧ A3.frozen? ⟨b, pre.length + 3, none⟩ = false ∧
      A4.heap[b]? = some (.cells (pre ++ tmCells y ++ post).toArray ty (0, 0)) ∧ KeptBut (fun c => c = b) W A4 := by
  have hb0 : W.heap[b]? = some (.cells (pre ++ Value.string (bs t.v) :: (Value.int .i8 t.x.k :: .int .i64 t.x.n :: .string (bs t.x.s) :: post)).toArray ty (0, 0)) := by rw [hb, List.append_assoc]; rfl
  obtain ⟨h1, c1, f1, k1⟩ := cells_set (v := .string (bs y.v)) rfl hb0
  have hb1 : (W.setCell ⟨b, pre.length, none⟩ (.string (bs y.v))).heap[b]? = some (.cells ((pre ++ [Value.string (bs y.v)]) ++ Value.int .i8 t.x.k :: (Value.int .i64 t.x.n :: .string (bs t.x.s) :: post)).toArray ty (0, 0)) := by rw [h1, List.append_assoc]; rfl
  obtain ⟨h2, c2, f2, k2⟩ := cells_set (n := pre.length + 1) (v := .int .i8 y.x.k) (by simp) hb1
  have hb2 : ((W.setCell ⟨b, pre.length, none⟩ (.string (bs y.v))).setCell ⟨b, pre.length + 1, none⟩ (.int .i8 y.x.k)).heap[b]? = some (.cells ((pre ++ [Value.string (bs y.v), .int .i8 y.x.k]) ++ Value.int .i64 t.x.n :: (Value.string (bs t.x.s) :: post)).toArray ty (0, 0)) := by rw [h2]; simp
  obtain ⟨h3, c3, f3, k3⟩ := cells_set (n := pre.length + 2) (v := .int .i64 y.x.n) (by simp) hb2
  have hb3 : (((W.setCell ⟨b, pre.length, none⟩ (.string (bs y.v))).setCell ⟨b, pre.length + 1, none⟩ (.int .i8 y.x.k)).setCell ⟨b, pre.length + 2, none⟩ (.int .i64 y.x.n)).heap[b]? = some (.cells ((pre ++ [Value.string (bs y.v), .int .i8 y.x.k, .int .i64 y.x.n]) ++ Value.string (bs t.x.s) :: post).toArray ty (0, 0)) := by rw [h3]; simp
  obtain ⟨h4, c4, f4, k4⟩ := cells_set (n := pre.length + 3) (v := .string (bs y.x.s)) (by simp) hb3
  refine ⟨_, _, _, _, rfl, rfl, rfl, rfl, c1, f1, c2, f2, c3, f3, c4, f4, ?_, kept_same (kept_same (kept_same k1 k2) k3) k4⟩
  rw [h4]
  simp [tmCells]
set_option maxRecDepth 100000 in
set_option maxHeartbeats 1000000 in
theorem putk_calls (m : List Pr) (t : Tm) (w : World) (mb b : Nat) (pre post : List Value) (ty : TypeId) (hb : w.heap[b]? = some (.cells (pre ++ tmCells t ++ post).toArray ty (0, 0))) (hm : MapAt w mb m) :
    Calls Tryz.prog 82 #[.map (some mb), .pointer (some ⟨b, pre.length, none⟩)] w fun e w' => e = .returned (.tuple #[]) ∧ w'.heap[b]? = some (.cells (pre ++ tmCells (putP m t) ++ post).toArray ty (0, 0)) ∧ KeptBut (fun c => c = b) w w' := by
  have hlt : b < w.heap.size := (Array.getElem?_eq_some_iff.1 hb).1
  obtain ⟨c0, c1, c2, c3, cf⟩ := tm_at hb
  have hl := hm.run t.v
  rw [tm_agg] at hl
  have kept_alloc : ∀ o : Obj, KeptBut (fun c => c = b) w (w.alloc o) ∧ (w.alloc o).heap[b]? = some (.cells (pre ++ tmCells t ++ post).toArray ty (0, 0)) := fun o => by
    refine ⟨⟨rfl, rfl, rfl, by rw [alloc_size]; omega, fun i hi _ => by rw [alloc_heap, if_neg (by omega)]⟩, by rw [alloc_heap, if_neg (by omega)]; exact hb⟩
  cases hn : nextOf m t.v with
  | none =>
    have hp : putP m t = t := by simp [putP, hn]
    rw [hn] at hl
    simp only [Option.getD_none, Option.isSome_none] at hl
    go_enter Tryz.func82, Tryz.ntmps82
    go_wp2_with fail
    simp [bodyPost, results, Tryz.results128, go_sem]
    rw [hp]
    exact ⟨by simpa using (kept_alloc _).2, (kept_alloc _).1⟩
  | some y =>
    have hp : putP m t = y := by simp [putP, hn]
    rw [hn] at hl
    simp only [Option.getD_some, Option.isSome_some] at hl
    obtain ⟨k0, hb0⟩ := kept_alloc (.cells #[.string (bs y.v), .int .i8 y.x.k, .int .i64 y.x.n, .string (bs y.x.s)] 73)
    obtain ⟨A1, A2, A3, A4, e1, e2, e3, e4, q1, f1, q2, f2, q3, f3, q4, f4, hA, kA⟩ := tm_set y hb0
    go_enter Tryz.func82, Tryz.ntmps82
    go_wp2_with fail
    simp [bodyPost, results, Tryz.results128, go_sem]
    rw [hp]
    exact ⟨by simpa using hA, kept_same k0 kA⟩
end Go.Proofs.YtiomojlcnemnhaaGreatDoor

namespace Go.Proofs.YtiomojlcnemnhaaGreatDoor
open Go.Fx Go.RowKit Go.Ped
mutual
def Nd.put (m : List Pr) : Nd → Nd
  | .mk op t b c kids => .mk op (putP m t) b c (ndsPut m kids)
def ndsPut (m : List Pr) : List Nd → List Nd
  | [] => []
  | k :: l => k.put m :: ndsPut m l
end
theorem ndsPut_map (m : List Pr) : ∀ l : List Nd, ndsPut m l = l.map (Nd.put m)
  | [] => rfl
  | k :: l => by rw [ndsPut, ndsPut_map m l]; rfl
theorem Nd.put_mk (m : List Pr) (op : Int) (t : Tm) (b c : Nat) (kids : List Nd) : (Nd.mk op t b c kids).put m = .mk op (putP m t) b c (kids.map (Nd.put m)) := by rw [Nd.put, ndsPut_map]
theorem Nd.put_blks (m : List Pr) : ∀ n : Nd, (n.put m).blks = n.blks := by
  refine Nd.ind fun op t b c kids ih => ?_
  rw [Nd.put_mk, Nd.blks_mk, Nd.blks_mk, List.flatMap_map]
  have : kids.flatMap (fun k => (k.put m).blks) = kids.flatMap Nd.blks := by
    rw [List.flatMap_def, List.flatMap_def, List.map_congr_left ih]
  rw [this]
  simp
theorem Nd.put_sl (m : List Pr) (n : Nd) : (n.put m).sl = n.sl := by
  cases n
  rw [Nd.put_mk]
  show slV _ _ _ = slV _ _ _
  rw [List.length_map]
mutual
def Ex.mapT (f : Tm → Tm) : Ex → Ex
  | .mk op t kids _ => .mk op (f t) (exMapT f kids) []
def exMapT (f : Tm → Tm) : List Ex → List Ex
  | [] => []
  | e :: l => e.mapT f :: exMapT f l
end
theorem exMapT_map (f : Tm → Tm) : ∀ l : List Ex, exMapT f l = l.map (Ex.mapT f)
  | [] => rfl
  | e :: l => by rw [exMapT, exMapT_map f l]; rfl
theorem Ex.mapT_mk (f : Tm → Tm) (op : Int) (t : Tm) (kids : List Ex) (sp : Sp) : (Ex.mk op t kids sp).mapT f = .mk op (f t) (kids.map (Ex.mapT f)) [] := by rw [Ex.mapT, exMapT_map]
theorem Nd.put_ex (m : List Pr) : ∀ n : Nd, (n.put m).ex = n.ex.mapT (putP m) := by
  refine Nd.ind fun op t b c kids ih => ?_
  rw [Nd.put_mk, Nd.ex_mk, Nd.ex_mk, Ex.mapT_mk, List.map_map, List.map_map]
  congr 1
  exact List.map_congr_left ih
abbrev putF (mb : Nat) : Value := .func (.func 82) #[.map (some mb)] #[]
theorem nd_cells_eq (n : Nd) : n.cells = [.int .i8 n.op, .string (bs n.t.v), .int .i8 n.t.x.k, .int .i64 n.t.x.n, .string (bs n.t.x.s), n.sl] := rfl
theorem nd_cells_flat : ∀ l : List Nd, (l.flatMap Nd.cells).length = l.length * 6
  | [] => rfl
  | k :: l => by rw [List.flatMap_cons, List.length_append, nd_cells_flat l, Nd.cells_length, List.length_cons]; omega
def WalkE (m : List Pr) (mb : Nat) (n : Nd) : Prop :=
  ∀ (w : World) (b : Nat) (ty : TypeId) (pre post : List Value), MapAt w mb m → mb ≠ b → mb ∉ n.blks → w.heap[b]? = some (.cells (pre ++ n.cells ++ post).toArray ty (0, 0)) → n.In w → n.blks.Nodup → b ∉ n.blks →
    Calls Tryz.prog 80 #[.iface 222 (.pointer (some ⟨b, pre.length, none⟩)), putF mb] w fun e w' =>
      e = .returned (.tuple #[]) ∧ w'.heap[b]? = some (.cells (pre ++ (n.put m).cells ++ post).toArray ty (0, 0)) ∧ (n.put m).In w' ∧ KeptBut (fun c => c = b ∨ c ∈ n.blks) w w'
def mixK (m : List Pr) (kids : List Nd) (i : Nat) : List Nd := (kids.take i).map (Nd.put m) ++ kids.drop i
theorem run_ask {a e : TypeId} (u : Value) (w : World) (hu : Tryz.prog.underlying a = some (.pointer e)) : (Instr.typeAssert (.iface a u) 20 a true).run Tryz.prog w = .ok (.tuple #[u, .bool true]) w := by
  simp [Instr.typeAssert, run_underlying hu]
theorem run_ask_no {a e : TypeId} {x : TypeId} (u : Value) (w : World) (hu : Tryz.prog.underlying a = some (.pointer e)) (hne : x ≠ a) (hz : ∀ w, (zeroValue a).run Tryz.prog w = .ok (.pointer none) w) : (Instr.typeAssert (.iface x u) 20 a true).run Tryz.prog w = .ok (.tuple #[.pointer none, .bool false]) w := by
  simp [Instr.typeAssert, run_underlying hu, hne, hz, Result.andThen]
structure KidsAt (m : List Pr) (mb : Nat) (w0 w : World) (b : Nat) (ty : TypeId) (pre post : List Value) (op : Int) (t : Tm) (blk cap : Nat) (kids : List Nd) (i : Nat) : Prop where
  le : i ≤ kids.length
  own : w.heap[b]? = some (.cells (pre ++ (Nd.mk op (putP m t) blk cap kids).cells ++ post).toArray ty (0, 0))
  row : kids ≠ [] → RowAt w blk 105 6 cap kids.length ((mixK m kids i).flatMap Nd.cells)
  ins : ∀ k ∈ mixK m kids i, k.In w
  kept : KeptBut (fun c => c = b ∨ c ∈ (Nd.mk op t blk cap kids).blks) w0 w
theorem mixK_len (m : List Pr) (kids : List Nd) (i : Nat) : (mixK m kids i).length = kids.length := by
  simp [mixK]; omega
theorem mixK_zero (m : List Pr) (kids : List Nd) : mixK m kids 0 = kids := by simp [mixK]
theorem mixK_all (m : List Pr) (kids : List Nd) : mixK m kids kids.length = kids.map (Nd.put m) := by simp [mixK]
theorem mixK_split (m : List Pr) {kids : List Nd} {i : Nat} (hi : i < kids.length) : mixK m kids i = (kids.take i).map (Nd.put m) ++ kids[i] :: kids.drop (i + 1) := by
  unfold mixK; rw [List.drop_eq_getElem_cons hi]
theorem mixK_next (m : List Pr) {kids : List Nd} {i : Nat} (hi : i < kids.length) : mixK m kids (i + 1) = (kids.take i).map (Nd.put m) ++ kids[i].put m :: kids.drop (i + 1) := by
  unfold mixK; rw [List.take_succ_eq_append_getElem hi, List.map_append, List.append_assoc]; rfl
theorem nodup_flat {α : Type} {f : α → List Nat} : ∀ {l : List α}, (l.flatMap f).Nodup → (∀ x ∈ l, (f x).Nodup) ∧ ∀ (i j : Nat) (hi : i < l.length) (hj : j < l.length), i ≠ j → ∀ c ∈ f l[i], c ∉ f l[j]
  | [], _ => ⟨fun x hx => absurd hx (List.not_mem_nil), fun i j hi => absurd hi (Nat.not_lt_zero _)⟩
  | x :: l, h => by
    rw [List.flatMap_cons, List.nodup_append] at h
    obtain ⟨h1, h2, h3⟩ := h
    obtain ⟨i1, i2⟩ := nodup_flat h2
    refine ⟨fun y hy => ?_, fun i j hi hj hij c hc hc' => ?_⟩
    · rcases List.mem_cons.1 hy with rfl | hy
      · exact h1
      · exact i1 y hy
    · cases i with
      | zero =>
        cases j with
        | zero => exact hij rfl
        | succ j => exact h3 c hc c (List.mem_flatMap.2 ⟨_, List.getElem_mem (by simpa using hj), by simpa using hc'⟩) rfl
      | succ i =>
        cases j with
        | zero => exact h3 c hc' c (List.mem_flatMap.2 ⟨_, List.getElem_mem (by simpa using hi), by simpa using hc⟩) rfl
        | succ j => exact i2 i j (by simpa using hi) (by simpa using hj) (by omega) c (by simpa using hc) (by simpa using hc')
theorem kids_step {m : List Pr} {mb : Nat} {w0 w w' : World} {b : Nat} {ty : TypeId} {pre post : List Value} {op : Int} {t : Tm} {blk cap : Nat} {kids : List Nd} {i : Nat} (h : KidsAt m mb w0 w b ty pre post op t blk cap kids i) (hi : i < kids.length)
    (hnd : (Nd.mk op t blk cap kids).blks.Nodup) (hbk : b ∉ (Nd.mk op t blk cap kids).blks) {room : List Value}
    (hrow : w'.heap[blk]? = some (.cells (((kids.take i).map (Nd.put m)).flatMap Nd.cells ++ (kids[i].put m).cells ++ ((kids.drop (i + 1)).flatMap Nd.cells ++ room)).toArray 105 (0, 0))) (hin : (kids[i].put m).In w')
    (hk : KeptBut (fun c => c = blk ∨ c ∈ kids[i].blks) w w')
    (hcap : kids.length ≤ cap) (hm : cap ≤ maxLen) (hroom : (kids.length * 6 + room.length) = cap * 6) : KidsAt m mb w0 w' b ty pre post op t blk cap kids (i + 1) := by
  have hne : kids ≠ [] := fun e => by rw [e] at hi; exact absurd hi (Nat.not_lt_zero _)
  rw [Nd.blks_mk, if_neg hne] at hnd hbk
  obtain ⟨hnd1, hnd2⟩ := List.nodup_cons.1 hnd
  have hblt : b < w.heap.size := (Array.getElem?_eq_some_iff.1 h.own).1
  have hki : kids[i] ∈ kids := List.getElem_mem hi
  have hsub : ∀ c, c = blk ∨ c ∈ kids[i].blks → c ∈ (Nd.mk op t blk cap kids).blks := fun c hc => by
    rw [Nd.blks_mk, if_neg hne]
    rcases hc with rfl | hc
    · exact List.mem_cons_self ..
    · exact List.mem_cons_of_mem _ (List.mem_flatMap.2 ⟨_, hki, hc⟩)
  refine ⟨hi, ?_, fun _ => ?_, ?_, ?_⟩
  · rw [hk.block b hblt fun hc => hbk ?_]
    · exact h.own
    · have := hsub b hc
      rwa [Nd.blks_mk, if_neg hne] at this
  · have hfl : (mixK m kids (i + 1)).flatMap Nd.cells = ((kids.take i).map (Nd.put m)).flatMap Nd.cells ++ (kids[i].put m).cells ++ (kids.drop (i + 1)).flatMap Nd.cells := by
      rw [mixK_next m hi, List.flatMap_append, List.flatMap_cons, List.append_assoc]
    have hl : ((mixK m kids (i + 1)).flatMap Nd.cells).length = kids.length * 6 := by rw [nd_cells_flat, mixK_len]
    refine ⟨hl, _, hrow, hcap, hm, ?_, ?_⟩
    · rw [← List.append_assoc, ← hfl]
      simp only [List.size_toArray, List.length_append, hl]
      exact hroom
    · rw [← List.append_assoc, ← hfl]
      simp only [List.take_left' hl]
  · intro k hk'
    rw [mixK_next m hi] at hk'
    have hins := h.ins
    rw [mixK_split m hi] at hins
    have other : ∀ k : Nd, ∀ k0 ∈ kids, k.blks = k0.blks → (∀ c ∈ k0.blks, c ∉ kids[i].blks) → k.In w → k.In w' := fun k k0 hk0 e hd hkin => by
      refine hkin.frame _ fun c hc => hk.block c (hkin.lt _ c hc) fun hc' => ?_
      rw [e] at hc
      rcases hc' with rfl | hc'
      · exact hnd1 (List.mem_flatMap.2 ⟨k0, hk0, hc⟩)
      · exact hd c hc hc'
    have hdis : ∀ j (hj : j < kids.length), j ≠ i → ∀ c ∈ kids[j].blks, c ∉ kids[i].blks := fun j hj hji => (nodup_flat hnd2).2 j i hj hi hji
    rcases List.mem_append.1 hk' with hk1 | hk1
    · obtain ⟨k0, hk0, rfl⟩ := List.mem_map.1 hk1
      obtain ⟨j, hj, rfl⟩ := List.mem_iff_getElem.1 hk0
      rw [List.length_take] at hj
      rw [List.getElem_take] at hk1 ⊢
      exact other _ _ (List.getElem_mem (by omega)) (Nd.put_blks _ _) (hdis j (by omega) (by omega)) (hins _ (List.mem_append_left _ hk1))
    · rcases List.mem_cons.1 hk1 with rfl | hk1
      · exact hin
      · obtain ⟨j, hj, rfl⟩ := List.mem_iff_getElem.1 hk1
        rw [List.length_drop] at hj
        have hkw := hins _ (List.mem_append_right _ (List.mem_cons_of_mem _ hk1))
        rw [List.getElem_drop] at hkw ⊢
        exact other _ _ (List.getElem_mem (by omega)) rfl (hdis (i + 1 + j) (by omega) (by omega)) hkw
  · exact kept_same h.kept (hk.mono fun c hc => .inr (hsub c hc))
set_option maxRecDepth 100000 in
set_option maxHeartbeats 2000000 in
theorem walkE (m : List Pr) (mb : Nat) : ∀ n : Nd, WalkE m mb n := by
  refine Nd.ind fun op t blk cap kids ih w b ty pre post hm hmb hmk hb hin hnd hbk => ?_
  have hb1 : w.heap[b]? = some (.cells ((pre ++ [Value.int .i8 op]) ++ tmCells t ++ (slV blk cap kids.length :: post)).toArray ty (0, 0)) := by
    rw [hb]; simp [nd_cells_eq, Nd.op, Nd.t, Nd.sl, tmCells]
  have hput := putk_calls m t w mb b _ _ ty hb1 hm
  have hpl : (pre ++ [Value.int .i8 op]).length = pre.length + 1 := by simp
  rw [hpl] at hput
  have q1 : ∀ u w, (Instr.typeAssert (.iface 222 u) 20 143 true).run Tryz.prog w = .ok (.tuple #[.pointer none, .bool false]) w := fun u w => run_ask_no u w Tryz.underlying143 (by decide) (fun w => Tryz.zeroValue143 w)
  have q2 : ∀ u w, (Instr.typeAssert (.iface 222 u) 20 221 true).run Tryz.prog w = .ok (.tuple #[.pointer none, .bool false]) w := fun u w => run_ask_no u w Tryz.underlying221 (by decide) (fun w => Tryz.zeroValue221 w)
  have q3 : ∀ u w, (Instr.typeAssert (.iface 222 u) 20 222 true).run Tryz.prog w = .ok (.tuple #[u, .bool true]) w := fun u w => run_ask u w Tryz.underlying222
  go_enter Tryz.func80, Tryz.ntmps80
  go_wp2_with fail
  refine hput.mono ?_
  rintro e w1 ⟨rfl, hb2, hk1⟩
  have hb3 : w1.heap[b]? = some (.cells (pre ++ (Nd.mk op (putP m t) blk cap kids).cells ++ post).toArray ty (0, 0)) := by
    rw [hb2]; simp [nd_cells_eq, Nd.op, Nd.t, Nd.sl, tmCells]
  have c5 : ∀ w' : World, w'.heap[b]? = some (.cells (pre ++ (Nd.mk op (putP m t) blk cap kids).cells ++ post).toArray ty (0, 0)) → w'.cell? ⟨b, pre.length + 5, none⟩ = some (slV blk cap kids.length) := fun w' h => by
    simp [World.cell?, h, nd_cells_eq, Nd.sl, List.getElem?_append_right]
  obtain ⟨ad, hsl, had⟩ : ∃ ad, slV blk cap kids.length = .slice ad kids.length (if kids.length = 0 then 0 else cap) ∧ (kids ≠ [] → ad = some ⟨blk, 0, none⟩) := by
    unfold slV
    by_cases h0 : kids.length = 0
    · rw [if_pos h0, if_pos h0, h0]; exact ⟨none, rfl, fun h => absurd (List.length_eq_zero_iff.1 h0) h⟩
    · rw [if_neg h0, if_neg h0]; exact ⟨_, rfl, fun _ => rfl⟩
  rw [hsl] at c5
  generalize (if kids.length = 0 then 0 else cap) = cap' at c5 hsl
  have c51 := c5 w1 hb3
  have hrel0 : KidsAt m mb w w1 b ty pre post op t blk cap kids 0 := by
    have h0 := Nd.In_mk.1 hin
    have hfr : ∀ c ∈ (Nd.mk op t blk cap kids).blks, w1.heap[c]? = w.heap[c]? := fun c hc => hk1.block c (hin.lt _ c hc) fun e => hbk (e ▸ hc)
    refine ⟨Nat.zero_le _, hb3, fun hne => ?_, fun k hk => ?_, hk1.mono fun c hc => .inl hc⟩
    · rw [mixK_zero]
      exact (h0.1 hne).frame (hfr blk (by rw [Nd.blks_mk, if_neg hne]; exact List.mem_cons_self ..))
    · rw [mixK_zero] at hk
      have hne : kids ≠ [] := fun e => by rw [e] at hk; cases hk
      exact (h0.2 k hk).frame _ fun c hc => hfr c (by rw [Nd.blks_mk, if_neg hne]; exact List.mem_cons_of_mem _ (List.mem_flatMap.2 ⟨k, hk, hc⟩))
  go_wp2_with fail
  go_loopw [86] (fun n w' => ∃ i : Nat, n = .int .i64 (i : Int) ∧ KidsAt m mb w w' b ty pre post op t blk cap kids i) (fun n _ => match n with | .int _ k => kids.length - k.toNat | _ => 0)
  case atStart => exact ⟨0, rfl, hrel0⟩
  case round =>
    obtain ⟨i, rfl, hrel⟩ := hrel
    have c5r := c5 wr hrel.own
    by_cases hlt : i < kids.length
    · have hlt' : (i : Int) < (kids.length : Int) := by omega
      have hne : kids ≠ [] := fun e => by rw [e] at hlt; exact absurd hlt (Nat.not_lt_zero _)
      obtain rfl := had hne
      obtain ⟨hl, cur, hcur, hcap, hmx, hsz, htk⟩ := hrel.row hne
      have hki : kids[i] ∈ kids := List.getElem_mem hlt
      rw [mixK_split m hlt, List.flatMap_append, List.flatMap_cons] at htk
      obtain ⟨room, hroom⟩ : ∃ room, cur.toList = ((kids.take i).map (Nd.put m)).flatMap Nd.cells ++ kids[i].cells ++ ((kids.drop (i + 1)).flatMap Nd.cells ++ room) := by
        refine ⟨cur.toList.drop (kids.length * 6), ?_⟩
        rw [← List.append_assoc, List.append_assoc _ kids[i].cells, ← htk, List.take_append_drop]
      have hcur2 : wr.heap[blk]? = some (.cells (((kids.take i).map (Nd.put m)).flatMap Nd.cells ++ kids[i].cells ++ ((kids.drop (i + 1)).flatMap Nd.cells ++ room)).toArray 105 (0, 0)) := by
        rw [hcur, ← hroom]
      have hpre : (((kids.take i).map (Nd.put m)).flatMap Nd.cells).length = i * 6 := by rw [nd_cells_flat]; simp; omega
      have hndk := hnd
      rw [Nd.blks_mk, if_neg hne] at hndk hmk
      obtain ⟨hnd1, hnd2⟩ := List.nodup_cons.1 hndk
      have hcall := ih _ hki wr blk 105 _ _ (hm.frame (hrel.kept.block mb hm.lt fun hc => by
          rcases hc with hc | hc
          · exact hmb hc
          · rw [Nd.blks_mk, if_neg hne] at hc; exact hmk hc)) (fun e => hmk (e ▸ List.mem_cons_self ..)) (fun hc => hmk (List.mem_cons_of_mem _ (List.mem_flatMap.2 ⟨_, hki, hc⟩))) hcur2
        (hrel.ins _ (by rw [mixK_split m hlt]; exact List.mem_append_right _ (List.mem_cons_self ..))) ((nodup_flat hnd2).1 _ hki) (fun hc => hnd1 (List.mem_flatMap.2 ⟨_, hki, hc⟩))
      rw [hpre] at hcall
      have hlen : kids.length * 6 + room.length = cap * 6 := by
        have h1 : cur.toList.length = cap * 6 := by rw [Array.length_toList, hsz]
        rw [hroom] at h1
        simp only [List.length_append, hpre, Nd.cells_length, nd_cells_flat, List.length_drop] at h1
        omega
      have hmx' := Nat.le_trans hcap hmx
      unfold maxLen at hmx'
      go_wp2_with fail
      refine hcall.mono ?_
      rintro e w2 ⟨rfl, hb4, hin4, hk4⟩
      go_wp2_with fail
      refine ⟨⟨i + 1, congrArg (Value.int .i64) (by omega), kids_step hrel hlt hnd hbk hb4 hin4 hk4 hcap hmx hlen⟩, ?_⟩
      show kids.length - ((i : Int) + 1).toNat < kids.length - (i : Int).toNat
      omega
    · obtain rfl : i = kids.length := by have := hrel.le; omega
      have hins := hrel.ins
      have hrow := hrel.row
      rw [mixK_all] at hins hrow
      have hfin : ((Nd.mk op t blk cap kids).put m).In wr := by
        rw [Nd.put_mk]
        refine Nd.In_mk.2 ⟨fun hne => ?_, hins⟩
        rw [List.length_map]
        exact hrow fun e => hne (by rw [e]; rfl)
      have hown : wr.heap[b]? = some (.cells (pre ++ ((Nd.mk op t blk cap kids).put m).cells ++ post).toArray ty (0, 0)) := by
        rw [hrel.own, nd_cells_eq, nd_cells_eq, Nd.put_sl, Nd.put_mk]
        rfl
      go_wp2_with fail
      simp [bodyPost, results, Tryz.results126, go_sem]
      exact ⟨by simpa using hown, hfin, hrel.kept⟩
end Go.Proofs.YtiomojlcnemnhaaGreatDoor

namespace Go.Proofs.YtiomojlcnemnhaaGreatDoor
open Go.Fx Go.RowKit Go.Ped
theorem lit_cells_flat : ∀ l : List LitM, (l.flatMap LitM.cells).length = l.length * 16
  | [] => rfl
  | k :: l => by rw [List.flatMap_cons, List.length_append, lit_cells_flat l, LitM.cells_length, List.length_cons]; omega
def mixL {α : Type} (f : α → α) (l : List α) (i : Nat) : List α := (l.take i).map f ++ l.drop i
theorem mixL_len {α : Type} (f : α → α) (l : List α) (i : Nat) : (mixL f l i).length = l.length := by simp [mixL]; omega
theorem mixL_zero {α : Type} (f : α → α) (l : List α) : mixL f l 0 = l := by simp [mixL]
theorem mixL_all {α : Type} (f : α → α) (l : List α) : mixL f l l.length = l.map f := by simp [mixL]
theorem mixL_split {α : Type} (f : α → α) {l : List α} {i : Nat} (hi : i < l.length) : mixL f l i = (l.take i).map f ++ l[i] :: l.drop (i + 1) := by
  unfold mixL; rw [List.drop_eq_getElem_cons hi]
theorem mixL_next {α : Type} (f : α → α) {l : List α} {i : Nat} (hi : i < l.length) : mixL f l (i + 1) = (l.take i).map f ++ f l[i] :: l.drop (i + 1) := by
  unfold mixL; rw [List.take_succ_eq_append_getElem hi, List.map_append, List.append_assoc]; rfl
theorem ownsRow_open {α : Type} {w : World} {base : Nat} {e : TypeId} {size : Nat} {v : Value} {l : List α} {cells : α → List Value} (hsize : ∀ x, (cells x).length = size) (f : α → α) {i : Nat} (hi : i < l.length) (h : w.ownsRow base e size v l.length ((mixL f l i).flatMap cells)) :
    ∃ g cap room, v = .slice (some ⟨g, 0, none⟩) l.length cap ∧ l.length ≤ cap ∧ cap ≤ maxLen ∧ base ≤ g ∧ g ∈ svB v ∧ (((l.take i).map f).flatMap cells).length = i * size ∧
      w.heap[g]? = some (.cells (((l.take i).map f).flatMap cells ++ cells l[i] ++ ((l.drop (i + 1)).flatMap cells ++ room)).toArray e (0, 0)) ∧
      ∀ w' : World, w'.heap[g]? = some (.cells (((l.take i).map f).flatMap cells ++ cells (f l[i]) ++ ((l.drop (i + 1)).flatMap cells ++ room)).toArray e (0, 0)) → w'.ownsRow base e size v l.length ((mixL f l (i + 1)).flatMap cells) := by
  have flat : ∀ l : List α, (l.flatMap cells).length = l.length * size := fun l => by
    induction l with
    | nil => simp
    | cons k l ih => rw [List.flatMap_cons, List.length_append, ih, hsize, List.length_cons, Nat.add_mul, Nat.one_mul, Nat.add_comm]
  obtain ⟨hl, ⟨_, h0⟩ | ⟨g, cap, cur, rfl, hbase, hcur, hn, hm, hsz, htk⟩⟩ := h
  · rw [h0] at hi; exact absurd hi (Nat.not_lt_zero _)
  rw [mixL_split f hi, List.flatMap_append, List.flatMap_cons] at htk
  obtain ⟨room, hroom⟩ : ∃ room, cur.toList = ((l.take i).map f).flatMap cells ++ cells l[i] ++ ((l.drop (i + 1)).flatMap cells ++ room) := by
    refine ⟨cur.toList.drop (l.length * size), ?_⟩
    rw [← List.append_assoc, List.append_assoc _ (cells l[i]), ← htk, List.take_append_drop]
  have hpre : (((l.take i).map f).flatMap cells).length = i * size := by rw [flat, List.length_map, List.length_take, Nat.min_eq_left (Nat.le_of_lt hi)]
  have hlen : l.length * size + room.length = cap * size := by
    have h1 : cur.toList.length = cap * size := by rw [Array.length_toList, hsz]
    rw [hroom] at h1
    simp only [List.length_append, hpre, hsize, flat, List.length_drop] at h1
    have h2 : i * size + size + (l.length - (i + 1)) * size = l.length * size := by
      rw [← Nat.succ_mul, ← Nat.add_mul]
      congr 1
      omega
    omega
  refine ⟨g, cap, room, rfl, hn, hm, hbase, svB_mem.2 rfl, hpre, by rw [hcur, ← hroom], fun w' hw' => ?_⟩
  have hfl : (mixL f l (i + 1)).flatMap cells = ((l.take i).map f).flatMap cells ++ cells (f l[i]) ++ (l.drop (i + 1)).flatMap cells := by
    rw [mixL_next f hi, List.flatMap_append, List.flatMap_cons, List.append_assoc]
  have hl' : ((mixL f l (i + 1)).flatMap cells).length = l.length * size := by rw [flat, mixL_len]
  refine ⟨hl', .inr ⟨g, cap, _, rfl, hbase, hw', hn, hm, ?_, ?_⟩⟩
  · rw [← List.append_assoc, ← hfl]
    simp only [List.size_toArray, List.length_append, hl']
    exact hlen
  · rw [← List.append_assoc, ← hfl]
    simp only [List.take_left' hl']
theorem ownsRow_len {w : World} {base : Nat} {e : TypeId} {size : Nat} {v : Value} {n : Nat} {xs : List Value} (h : w.ownsRow base e size v n xs) : ∃ ad cap, v = .slice ad n cap ∧ n ≤ maxLen := by
  obtain ⟨_, ⟨rfl, h0⟩ | ⟨g, cap, cur, rfl, _, _, hn, hm, _⟩⟩ := h
  · exact ⟨_, _, by rw [h0], by rw [h0]; exact Nat.zero_le _⟩
  · exact ⟨_, _, rfl, Nat.le_trans hn hm⟩
set_option maxRecDepth 100000 in
set_option maxHeartbeats 2000000 in
theorem walkA (m : List Pr) (mb : Nat) (p : Name) (sv : Value) (l : List Tm) (w : World) (b : Nat) (ty : TypeId) (pre post : List Value) (hm : MapAt w mb m) (hmk : mb ∉ svB sv) (hb : w.heap[b]? = some (.cells (pre ++ [.string (bs p), sv] ++ post).toArray ty (0, 0)))
    (hrow : w.ownsRow 0 73 4 sv l.length (l.flatMap tmCells)) (hbk : b ∉ svB sv) :
    Calls Tryz.prog 80 #[.iface 120 (.pointer (some ⟨b, pre.length, none⟩)), putF mb] w fun e w' =>
      e = .returned (.tuple #[]) ∧ w'.ownsRow 0 73 4 sv l.length ((l.map (putP m)).flatMap tmCells) ∧ KeptBut (fun c => c ∈ svB sv) w w' := by
  have q1 : ∀ u w, (Instr.typeAssert (.iface 120 u) 20 143 true).run Tryz.prog w = .ok (.tuple #[.pointer none, .bool false]) w := fun u w => run_ask_no u w Tryz.underlying143 (by decide) (fun w => Tryz.zeroValue143 w)
  have q2 : ∀ u w, (Instr.typeAssert (.iface 120 u) 20 221 true).run Tryz.prog w = .ok (.tuple #[.pointer none, .bool false]) w := fun u w => run_ask_no u w Tryz.underlying221 (by decide) (fun w => Tryz.zeroValue221 w)
  have q3 : ∀ u w, (Instr.typeAssert (.iface 120 u) 20 222 true).run Tryz.prog w = .ok (.tuple #[.pointer none, .bool false]) w := fun u w => run_ask_no u w Tryz.underlying222 (by decide) (fun w => Tryz.zeroValue222 w)
  have q4 : ∀ u w, (Instr.typeAssert (.iface 120 u) 20 120 true).run Tryz.prog w = .ok (.tuple #[u, .bool true]) w := fun u w => run_ask u w Tryz.underlying120
  have hblt : b < w.heap.size := (Array.getElem?_eq_some_iff.1 hb).1
  obtain ⟨ad, cap, rfl, hmx⟩ := ownsRow_len hrow
  unfold maxLen at hmx
  have c1 : ∀ w' : World, w'.heap[b]? = w.heap[b]? → w'.cell? ⟨b, pre.length + 1, none⟩ = some (.slice ad l.length cap) := fun w' h => by
    simp [World.cell?, h.trans hb, List.getElem?_append_right]
  have c1w := c1 w rfl
  go_enter Tryz.func80, Tryz.ntmps80
  go_wp2_with fail
  go_loopw [107] (fun n w' => ∃ i : Nat, n = .int .i64 (i : Int) ∧ i ≤ l.length ∧ w'.ownsRow 0 73 4 (.slice ad l.length cap) l.length ((mixL (putP m) l i).flatMap tmCells) ∧ KeptBut (fun c => c ∈ svB (.slice ad l.length cap)) w w') (fun n _ => match n with | .int _ k => l.length - k.toNat | _ => 0)
  case atStart => exact ⟨0, rfl, Nat.zero_le _, by rw [mixL_zero]; exact hrow, KeptBut.refl _ _⟩
  case round =>
    obtain ⟨i, rfl, hi, hrow', hk⟩ := hrel
    have hbr : wr.heap[b]? = w.heap[b]? := hk.block b hblt hbk
    have c1r := c1 wr hbr
    by_cases hlt : i < l.length
    · have hlt' : (i : Int) < (l.length : Int) := by omega
      obtain ⟨g, cap', room, hv, hn, hmm, _, hg, hpre, hcur, hnext⟩ := ownsRow_open (fun x => tmCells_length x) (putP m) hlt hrow'
      injection hv with e1 e2 e3
      subst e1 e3
      have hput := putk_calls m l[i] wr mb g _ _ 73 hcur (hm.frame (hk.block mb hm.lt hmk))
      rw [hpre] at hput
      go_wp2_with fail
      refine hput.mono ?_
      rintro e w2 ⟨rfl, hb4, hk4⟩
      go_wp2_with fail
      refine ⟨⟨i + 1, congrArg (Value.int .i64) (by omega), hlt, hnext _ hb4, kept_same hk (hk4.mono fun c hc => hc ▸ hg)⟩, ?_⟩
      show l.length - ((i : Int) + 1).toNat < l.length - (i : Int).toNat
      omega
    · obtain rfl : i = l.length := by omega
      rw [mixL_all] at hrow'
      go_wp2_with fail
      simp [bodyPost, results, Tryz.results126, go_sem]
      exact ⟨hrow', hk⟩
def LitM.put (m : List Pr) (x : LitM) : LitM := { x with l := x.l.map (putP m), left := x.left.put m, right := x.right.put m }
theorem LitM.put_blks (m : List Pr) (x : LitM) : (x.put m).blks = x.blks := by
  unfold LitM.blks LitM.put
  simp only [Nd.put_blks]
theorem LitM.put_cells (m : List Pr) (x : LitM) : (x.put m).cells = .int .i8 x.kind :: .string (bs x.p) :: x.sv :: .int .i8 x.rel :: ((x.left.put m).cells ++ (x.right.put m).cells) := rfl
set_option maxRecDepth 100000 in
set_option maxHeartbeats 2000000 in
theorem walkL (m : List Pr) (mb : Nat) (x : LitM) (w : World) (b : Nat) (ty : TypeId) (pre post : List Value) (hm : MapAt w mb m) (hmb : mb ≠ b) (hmk : mb ∉ x.blks) (hb : w.heap[b]? = some (.cells (pre ++ x.cells ++ post).toArray ty (0, 0)))
    (hin : x.In w) (hnd : x.blks.Nodup) (hbk : b ∉ x.blks) :
    Calls Tryz.prog 80 #[.iface 221 (.pointer (some ⟨b, pre.length, none⟩)), putF mb] w fun e w' =>
      e = .returned (.tuple #[]) ∧ w'.heap[b]? = some (.cells (pre ++ (x.put m).cells ++ post).toArray ty (0, 0)) ∧ (x.put m).In w' ∧ KeptBut (fun c => c = b ∨ c ∈ x.blks) w w' := by
  have q1 : ∀ u w, (Instr.typeAssert (.iface 221 u) 20 143 true).run Tryz.prog w = .ok (.tuple #[.pointer none, .bool false]) w := fun u w => run_ask_no u w Tryz.underlying143 (by decide) (fun w => Tryz.zeroValue143 w)
  have q2 : ∀ u w, (Instr.typeAssert (.iface 221 u) 20 221 true).run Tryz.prog w = .ok (.tuple #[u, .bool true]) w := fun u w => run_ask u w Tryz.underlying221
  have hblt : b < w.heap.size := (Array.getElem?_eq_some_iff.1 hb).1
  unfold LitM.blks at hmk hnd hbk
  rw [List.nodup_append] at hnd
  obtain ⟨nd1, nd2, nd3⟩ := hnd
  rw [List.nodup_append] at nd2
  obtain ⟨nd2, nd4, nd5⟩ := nd2
  simp only [List.mem_append, not_or] at hmk hbk
  obtain ⟨hm1, hm2, hm3⟩ := hmk
  obtain ⟨hb1, hb2, hb3⟩ := hbk
  have e1 : w.heap[b]? = some (.cells ((pre ++ [Value.int .i8 x.kind]) ++ [.string (bs x.p), x.sv] ++ (.int .i8 x.rel :: (x.left.cells ++ x.right.cells) ++ post)).toArray ty (0, 0)) := by
    rw [hb]; simp [LitM.cells]
  have hA := walkA m mb x.p x.sv x.l w b ty _ _ hm hm1 e1 hin.row hb1
  rw [show (pre ++ [Value.int .i8 x.kind]).length = pre.length + 1 by simp] at hA
  go_enter Tryz.func80, Tryz.ntmps80
  go_wp2_with fail
  refine hA.mono ?_
  rintro e w1 ⟨rfl, hrow1, hk1⟩
  have hL1 : x.left.In w1 := hin.left.frame _ fun c hc => hk1.block c (hin.left.lt _ c hc) fun hc' => nd3 c hc' c (List.mem_append_left _ hc) rfl
  have hR1 : x.right.In w1 := hin.right.frame _ fun c hc => hk1.block c (hin.right.lt _ c hc) fun hc' => nd3 c hc' c (List.mem_append_right _ hc) rfl
  have hm1' : MapAt w1 mb m := hm.frame (hk1.block mb hm.lt hm1)
  have e2 : w1.heap[b]? = some (.cells ((pre ++ [Value.int .i8 x.kind, .string (bs x.p), x.sv, .int .i8 x.rel]) ++ x.left.cells ++ (x.right.cells ++ post)).toArray ty (0, 0)) := by
    rw [hk1.block b hblt hb1, hb]; simp [LitM.cells]
  have hE := walkE m mb x.left w1 b ty _ _ hm1' hmb hm2 e2 hL1 nd2 hb2
  rw [show (pre ++ [Value.int .i8 x.kind, .string (bs x.p), x.sv, .int .i8 x.rel]).length = pre.length + 4 by simp] at hE
  go_wp2_with fail
  refine hE.mono ?_
  rintro e w2 ⟨rfl, hb4, hL2, hk2⟩
  have hR2 : x.right.In w2 := hR1.frame _ fun c hc => hk2.block c (hR1.lt _ c hc) fun hc' => by
    rcases hc' with rfl | hc'
    · exact hb3 hc
    · exact nd5 c hc' c hc rfl
  have hblt2 : b < w2.heap.size := (Array.getElem?_eq_some_iff.1 hb4).1
  have hm2' : MapAt w2 mb m := hm1'.frame (hk2.block mb hm1'.lt fun hc => hc.elim hmb hm2)
  have e3 : w2.heap[b]? = some (.cells ((pre ++ [Value.int .i8 x.kind, .string (bs x.p), x.sv, .int .i8 x.rel] ++ (x.left.put m).cells) ++ x.right.cells ++ post).toArray ty (0, 0)) := by
    rw [hb4]; simp
  have hE2 := walkE m mb x.right w2 b ty _ _ hm2' hmb hm3 e3 hR2 nd4 hb3
  rw [show (pre ++ [Value.int .i8 x.kind, .string (bs x.p), x.sv, .int .i8 x.rel] ++ (x.left.put m).cells).length = pre.length + 10 by simp] at hE2
  go_wp2_with fail
  refine hE2.mono ?_
  rintro e w3 ⟨rfl, hb5, hR3, hk3⟩
  go_wp2_with fail
  simp [bodyPost, results, Tryz.results126, go_sem]
  have hs1 : ∀ g ∈ svB x.sv, w3.heap[g]? = w1.heap[g]? := fun g hg => by
    have hl1 := (ownsRow_block hrow1 g (svB_mem.1 hg)).2
    have h2 := hk2.block g hl1 fun hc => by
      rcases hc with rfl | hc
      · exact hb1 hg
      · exact nd3 g hg g (List.mem_append_left _ hc) rfl
    rw [hk3.block g (Nat.lt_of_lt_of_le hl1 hk2.size) fun hc => by
      rcases hc with rfl | hc
      · exact hb1 hg
      · exact nd3 g hg g (List.mem_append_right _ hc) rfl, h2]
  refine ⟨by rw [hb5]; simp [LitM.put_cells], ⟨?_, ?_, hR3⟩, ?_⟩
  · show w3.ownsRow 0 73 4 x.sv (x.l.map (putP m)).length _
    rw [List.length_map]
    exact ownsRow_frame' hrow1 (Nat.le_refl _) hs1
  · exact hL2.frame _ fun c hc => by
      rw [Nd.put_blks] at hc
      exact hk3.block c (by have := hL2.lt _ c (by rw [Nd.put_blks]; exact hc); exact this) fun hc' => by
        rcases hc' with rfl | hc'
        · exact hb2 hc
        · exact nd5 c hc c hc' rfl
  · refine kept_same (kept_same (hk1.mono fun c hc => .inr (List.mem_append_left _ hc)) (hk2.mono fun c hc => ?_)) (hk3.mono fun c hc => ?_)
    · exact hc.imp id fun hc => List.mem_append_right _ (List.mem_append_left _ hc)
    · exact hc.imp id fun hc => List.mem_append_right _ (List.mem_append_right _ hc)
def argPut (m : List Pr) (a : Arg) : Arg := { a with t := putP m a.t }
def RuleM.put (m : List Pr) (r : RuleM) : RuleM := { r with hs := r.hs.map (argPut m), ls := r.ls.map (LitM.put m) }
theorem flat_put (m : List Pr) : ∀ l : List LitM, (l.map (LitM.put m)).flatMap LitM.blks = l.flatMap LitM.blks
  | [] => rfl
  | x :: l => by rw [List.map_cons, List.flatMap_cons, List.flatMap_cons, LitM.put_blks, flat_put m l]
theorem RuleM.put_blks (m : List Pr) (r : RuleM) : (r.put m).blks = r.blks := by
  unfold RuleM.blks RuleM.put
  simp only [flat_put]
set_option maxRecDepth 100000 in
set_option maxHeartbeats 4000000 in
theorem walkR (m : List Pr) (mb : Nat) (r : RuleM) (w : World) (b : Nat) (hm : MapAt w mb m) (hmb : mb ≠ b) (hmk : mb ∉ r.blks) (hb : w.heap[b]? = some (.cells r.cells.toArray 29 (0, 0)))
    (hin : r.In w) (hbk : b ∉ r.blks) :
    Calls Tryz.prog 80 #[.iface 143 (.pointer (some ⟨b, 0, none⟩)), putF mb] w fun e w' =>
      e = .returned (.tuple #[]) ∧ w'.heap[b]? = w.heap[b]? ∧ (r.put m).In w' ∧ KeptBut (fun c => c ∈ r.blks) w w' := by
  have q1 : ∀ u w, (Instr.typeAssert (.iface 143 u) 20 143 true).run Tryz.prog w = .ok (.tuple #[u, .bool true]) w := fun u w => run_ask u w Tryz.underlying143
  have hblt : b < w.heap.size := (Array.getElem?_eq_some_iff.1 hb).1
  obtain ⟨rp, hv, hs, bv, ls⟩ := r
  obtain ⟨hhead, hbody, hlits, hnd⟩ := hin
  simp only at hhead hbody hlits
  have hnd0 := hnd
  unfold RuleM.blks at hmk hnd hbk
  simp only at hmk hnd hbk
  rw [List.nodup_append] at hnd
  obtain ⟨nd1, nd2, nd3⟩ := hnd
  rw [List.nodup_append] at nd2
  obtain ⟨nd2, nd4, nd5⟩ := nd2
  simp only [List.mem_append, not_or] at hmk hbk
  obtain ⟨hm1, hm2, hm3⟩ := hmk
  obtain ⟨hb1, hb2, hb3⟩ := hbk
  obtain ⟨hnl, hdis⟩ := nodup_flat nd4
  obtain ⟨ha, hcp, rfl, hmx1⟩ := ownsRow_len hhead
  obtain ⟨ba, bcp, rfl, hmx2⟩ := ownsRow_len hbody
  unfold maxLen at hmx1 hmx2
  have c1 : ∀ w' : World, w'.heap[b]? = w.heap[b]? → w'.cell? ⟨b, 1, none⟩ = some (.slice ha hs.length hcp) := fun w' h => by
    simp [World.cell?, h.trans hb, RuleM.cells]
  have c2 : ∀ w' : World, w'.heap[b]? = w.heap[b]? → w'.cell? ⟨b, 2, none⟩ = some (.slice ba ls.length bcp) := fun w' h => by
    simp [World.cell?, h.trans hb, RuleM.cells]
  have c1w := c1 w rfl
  have hblk : ∀ i (hi : i < ls.length), ∀ c ∈ ls[i].blks, c ∈ ls.flatMap LitM.blks := fun i hi c hc => List.mem_flatMap.2 ⟨_, List.getElem_mem hi, hc⟩
  go_enter Tryz.func80, Tryz.ntmps80
  go_wp2_with fail
  go_loopw [21] (fun n w' => ∃ i : Nat, n = .int .i64 (i : Int) ∧ i ≤ hs.length ∧ w'.ownsRow 0 137 5 (.slice ha hs.length hcp) hs.length ((mixL (argPut m) hs i).flatMap argCells) ∧ KeptBut (fun c => c ∈ svB (.slice ha hs.length hcp)) w w') (fun n _ => match n with | .int _ k => hs.length - k.toNat | _ => 0)
  case atStart => exact ⟨0, rfl, Nat.zero_le _, by rw [mixL_zero]; exact hhead, KeptBut.refl _ _⟩
  case round =>
    obtain ⟨i, rfl, hi, hrow', hk⟩ := hrel
    have hbr : wr.heap[b]? = w.heap[b]? := hk.block b hblt hb1
    have c1r := c1 wr hbr
    by_cases hlt : i < hs.length
    · have hlt' : (i : Int) < (hs.length : Int) := by omega
      obtain ⟨g, cap', room, hv, hn, hmm, _, hg, hpre, hcur, hnext⟩ := ownsRow_open (fun x => argCells_length x) (argPut m) hlt hrow'
      injection hv with e1 e2 e3
      subst e1 e3
      have hcur2 : wr.heap[g]? = some (.cells ((((hs.take i).map (argPut m)).flatMap argCells ++ [Value.int .i8 hs[i].agg]) ++ tmCells hs[i].t ++ ((hs.drop (i + 1)).flatMap argCells ++ room)).toArray 137 (0, 0)) := by
        rw [hcur]; simp [argCells]
      have hput := putk_calls m hs[i].t wr mb g _ _ 137 hcur2 (hm.frame (hk.block mb hm.lt hm1))
      rw [show (((hs.take i).map (argPut m)).flatMap argCells ++ [Value.int .i8 hs[i].agg]).length = i * 5 + 1 by rw [List.length_append, hpre]; rfl] at hput
      go_wp2_with fail
      refine hput.mono ?_
      rintro e w2 ⟨rfl, hb4, hk4⟩
      go_wp2_with fail
      refine ⟨⟨i + 1, congrArg (Value.int .i64) (by omega), hlt, hnext _ (by rw [hb4]; simp [argCells, argPut]), kept_same hk (hk4.mono fun c hc => hc ▸ hg)⟩, ?_⟩
      show hs.length - ((i : Int) + 1).toNat < hs.length - (i : Int).toNat
      omega
    · obtain rfl : i = hs.length := by omega
      rw [mixL_all] at hrow'
      have c2r := c2 wr hbr
      have hbody1 : wr.ownsRow 0 107 16 (.slice ba ls.length bcp) ls.length (ls.flatMap LitM.cells) := ownsRow_frame' hbody (Nat.le_refl _) fun g hg => hk.block g (ownsRow_block hbody g (svB_mem.1 hg)).2 fun hc => nd3 g hc g (List.mem_append_left _ hg) rfl
      have hlits1 : ∀ x ∈ ls, x.In wr := fun x hx => (hlits x hx).frame fun c hc => hk.block c ((hlits x hx).lt c hc) fun hc' => nd3 c hc' c (List.mem_append_right _ (List.mem_flatMap.2 ⟨x, hx, hc⟩)) rfl
      have hm' : MapAt wr mb m := hm.frame (hk.block mb hm.lt hm1)
      have hbltr : b < wr.heap.size := Nat.lt_of_lt_of_le hblt hk.size
      rename World => wz
      go_wp2_with fail
      go_loopw [39] (fun n w' => ∃ i : Nat, n = .int .i64 (i : Int) ∧ i ≤ ls.length ∧ w'.ownsRow 0 107 16 (.slice ba ls.length bcp) ls.length ((mixL (LitM.put m) ls i).flatMap LitM.cells) ∧ (∀ j (hj : j < ls.length), if j < i then (ls[j].put m).In w' else ls[j].In w') ∧
        KeptBut (fun c => c ∈ svB (.slice ba ls.length bcp) ∨ c ∈ ls.flatMap LitM.blks) wz w') (fun n _ => match n with | .int _ k => ls.length - k.toNat | _ => 0)
      case atStart => exact ⟨0, rfl, Nat.zero_le _, by rw [mixL_zero]; exact hbody1, fun j hj => by rw [if_neg (Nat.not_lt_zero _)]; exact hlits1 _ (List.getElem_mem hj), KeptBut.refl _ _⟩
      case round =>
        obtain ⟨i, rfl, hi, hrow2, hins, hk2⟩ := hrel
        have hbr2 : wr.heap[b]? = w.heap[b]? := (hk2.block b hbltr fun hc => hc.elim hb2 hb3).trans hbr
        have c2s := c2 wr hbr2
        have hm2' : MapAt wr mb m := hm'.frame (hk2.block mb hm'.lt fun hc => hc.elim hm2 hm3)
        by_cases hlt : i < ls.length
        · have hlt' : (i : Int) < (ls.length : Int) := by omega
          obtain ⟨g, cap', room, hv, hn, hmm, _, hg, hpre, hcur, hnext⟩ := ownsRow_open (fun x => LitM.cells_length x) (LitM.put m) hlt hrow2
          injection hv with e1 e2 e3
          subst e1 e3
          have hxi := hins i hlt
          rw [if_neg (Nat.lt_irrefl _)] at hxi
          have hgx : g ∉ ls[i].blks := fun hc => nd5 g hg g (hblk i hlt g hc) rfl
          have hcall := walkL m mb ls[i] wr g 107 _ _ hm2' (fun e => hm2 (e ▸ hg)) (fun hc => hm3 (hblk i hlt _ hc)) hcur hxi (hnl _ (List.getElem_mem hlt)) hgx
          rw [hpre] at hcall
          go_wp2_with fail
          refine hcall.mono ?_
          rintro e w2 ⟨rfl, hb4, hin4, hk4⟩
          have hins2 : ∀ j (hj : j < ls.length), if j < i + 1 then (ls[j].put m).In w2 else ls[j].In w2 := fun j hj => by
            have hold := hins j hj
            by_cases hji : j = i
            · subst hji
              rw [if_pos (Nat.lt_succ_self _)]
              exact hin4
            · have hfr : ∀ x : LitM, x.blks = ls[j].blks → x.In wr → x.In w2 := fun x hx hxin => hxin.frame fun c hc => hk4.block c (hxin.lt c hc) fun hc' => by
                rw [hx] at hc
                rcases hc' with rfl | hc'
                · exact nd5 _ hg _ (hblk j hj _ hc) rfl
                · exact hdis j i hj hlt hji c hc hc'
              by_cases hjl : j < i
              · rw [if_pos hjl] at hold
                rw [if_pos (by omega)]
                exact hfr _ (LitM.put_blks m _) hold
              · rw [if_neg hjl] at hold
                rw [if_neg (by omega)]
                exact hfr _ rfl hold
          go_wp2_with fail
          refine ⟨⟨i + 1, congrArg (Value.int .i64) (by omega), hlt, hnext _ hb4, hins2, kept_same hk2 (hk4.mono fun c hc => hc.elim (fun e => .inl (e ▸ hg)) fun hc => .inr (hblk i hlt c hc))⟩, ?_⟩
          show ls.length - ((i : Int) + 1).toNat < ls.length - (i : Int).toNat
          omega
        · obtain rfl : i = ls.length := by omega
          rw [mixL_all] at hrow2
          go_wp2_with fail
          simp [bodyPost, results, Tryz.results126, go_sem]
          refine ⟨hbr2, ⟨?_, ?_, ?_, ?_⟩, ?_⟩
          · show wr.ownsRow 0 137 5 _ (hs.map (argPut m)).length _
            rw [List.length_map]
            exact ownsRow_frame' hrow' (Nat.le_refl _) fun g hg => hk2.block g (ownsRow_block hrow' g (svB_mem.1 hg)).2 fun hc => by
              rcases hc with hc | hc
              · exact nd3 g hg g (List.mem_append_left _ hc) rfl
              · exact nd3 g hg g (List.mem_append_right _ hc) rfl
          · show wr.ownsRow 0 107 16 _ (ls.map (LitM.put m)).length _
            rw [List.length_map]
            exact hrow2
          · intro x hx
            obtain ⟨y, hy, rfl⟩ := List.mem_map.1 hx
            obtain ⟨j, hj, rfl⟩ := List.mem_iff_getElem.1 hy
            have := hins j hj
            rwa [if_pos hj] at this
          · rw [RuleM.put_blks]
            exact hnd0
          · exact kept_same (hk.mono fun c hc => List.mem_append_left _ hc) (hk2.mono fun c hc => List.mem_append_right _ (List.mem_append.2 hc))
end Go.Proofs.YtiomojlcnemnhaaGreatDoor

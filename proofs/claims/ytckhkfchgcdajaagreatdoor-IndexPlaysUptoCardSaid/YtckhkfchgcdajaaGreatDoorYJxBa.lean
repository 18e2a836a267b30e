import Derived.Test.YtckhkfchgcdajaaGreatDoorYJxA8
import Derived.StillTailTactics
import Derived.Deep.Cut
import Derived.Deep.CutRange
import Derived.Deep.DeepCutAuto
import Derived.Deep.QuietTactic
import Derived.BigQuiet
namespace Go.Proofs.YtckhkfchgcdajaaGreatDoor
open Go.Fx Go.RowKit
def askAbs (l : List (Nat × List (Int × List Int) × Int)) (m : Nat) (rows : List (List Int)) (gone : Int) : List (Nat × List (Int × List Int) × Int) :=
  if m ∈ l.map (·.1) then l.map fun a => if a.1 = m then (m, nums 0 rows, gone) else a else l ++ [(m, nums 0 rows, gone)]
theorem askAbs_mid {l1 l2 : List Ix} {x : Ix} {rows : List (List Int)} {gone : Int} (hn : ((l1 ++ x :: l2).map (·.m)).Nodup) :
    askAbs ((l1 ++ x :: l2).map Ix.abs) x.m rows gone = l1.map Ix.abs ++ (x.m, nums 0 rows, gone) :: l2.map Ix.abs := by
  have hm : (l1 ++ x :: l2).map (·.m) = ((l1 ++ x :: l2).map Ix.abs).map (·.1) := by rw [List.map_map]; rfl
  rw [List.map_append, List.map_cons, List.nodup_append, List.nodup_cons] at hn
  obtain ⟨h1, ⟨h2, h3⟩, h4⟩ := hn
  unfold askAbs
  rw [if_pos (by rw [← hm]; simp), List.map_append, List.map_append, List.map_cons, List.map_cons]
  have hno : ∀ l : List Ix, x.m ∉ l.map (·.m) → (l.map Ix.abs).map (fun a => if a.1 = x.m then (x.m, nums 0 rows, gone) else a) = l.map Ix.abs := fun l hl => by
    rw [List.map_map]
    refine List.map_congr_left fun y hy => ?_
    have : y.m ≠ x.m := fun e => hl (List.mem_map.2 ⟨y, hy, e⟩)
    show (if y.m = x.m then _ else _) = _
    rw [if_neg this]
  rw [hno l1 fun h => h4 _ h _ (List.mem_cons_self ..) rfl, hno l2 h2]
  have : x.abs.1 = x.m := rfl
  rw [if_pos this]
theorem askAbs_new {ixs : List Ix} {m : Nat} {rows : List (List Int)} {gone : Int} (hn : m ∉ ixs.map (·.m)) : askAbs (ixs.map Ix.abs) m rows gone = ixs.map Ix.abs ++ [(m, nums 0 rows, gone)] := by
  have hm : ixs.map (·.m) = (ixs.map Ix.abs).map (·.1) := by rw [List.map_map]; rfl
  unfold askAbs
  rw [if_neg (by rw [← hm]; exact hn)]
def AskMid (w : World) (bk b bm : Nat) (ixs : List Ix) (m : Nat) (rows : List (List Int)) (gone : Int) (N6 : Nat) (wx : World) : Prop :=
  ∃ l1 x l2, BookAt wx bk b bm (l1 ++ x :: l2) ∧ x.m = m ∧ wx.heap[w.heap.size]? = some (.cells #[.int .u32 (m : Int)] 61 (0, 0)) ∧ wx.heap[N6]? = some (.cells #[.pointer (some ⟨x.rb, 0, none⟩)] 302 (0, 0)) ∧
    KeptBut (BookF bk bm ixs) w wx ∧ (∀ k, BookF bk bm (l1 ++ x :: l2) k → BookF bk bm ixs k ∨ (w.heap.size < k ∧ k ≠ N6)) ∧
    askAbs (ixs.map Ix.abs) m rows gone = l1.map Ix.abs ++ (m, nums 0 rows, gone) :: l2.map Ix.abs ∧ (x.gone = gone → x.took = nums 0 (rows.take x.took.length)) ∧ w.heap.size < N6
def AskMid2 (w : World) (bk b bm : Nat) (ixs : List Ix) (m : Nat) (rows : List (List Int)) (gone : Int) (N6 : Nat) (wx : World) : Prop :=
  ∃ l1 x l2, BookAt wx bk b bm (l1 ++ x :: l2) ∧ x.m = m ∧ wx.heap[w.heap.size]? = some (.cells #[.int .u32 (m : Int)] 61 (0, 0)) ∧ wx.heap[N6]? = some (.cells #[.pointer (some ⟨x.rb, 0, none⟩)] 302 (0, 0)) ∧
    KeptBut (BookF bk bm ixs) w wx ∧ (∀ k, BookF bk bm (l1 ++ x :: l2) k → BookF bk bm ixs k ∨ (w.heap.size < k ∧ k ≠ N6)) ∧
    askAbs (ixs.map Ix.abs) m rows gone = l1.map Ix.abs ++ (m, nums 0 rows, gone) :: l2.map Ix.abs ∧ x.gone = gone ∧ x.took = nums 0 (rows.take x.took.length) ∧ w.heap.size < N6
theorem cell_ne {w : World} {g i : Nat} {v : Value} {p : Addr} (h : p.block ≠ g) : (w.setCell ⟨g, i, none⟩ v).cell? p = w.cell? p := World.cell?_setCell_other _ _ _ _ fun e => h (by rw [← e])
theorem RelCells.set {w : World} {b pb mb : Nat} {lv : Value} {arity gone : Int} (h : RelCells w b pb mb lv arity gone) {g i : Nat} {v : Value} (h1 : b ≠ g) (h2 : pb ≠ g) : RelCells (w.setCell ⟨g, i, none⟩ v) b pb mb lv arity gone where
  h0 := (cell_ne h1).trans h.h0
  h1 := (cell_ne h1).trans h.h1
  h2 := (cell_ne h1).trans h.h2
  p0 := (cell_ne h2).trans h.p0
  p1 := (cell_ne h2).trans h.p1
  lb := by have := h.lb; simpa [World.setCell, Array.size_modify] using this
  lp := by have := h.lp; simpa [World.setCell, Array.size_modify] using this
theorem ask_cleared {w wc w9 : World} {bk b bm : Nat} {ixs : List Ix} {m : Nat} {rows : List (List Int)} {gone : Int} {N6 : Nat} {l1 l2 : List Ix} {x : Ix} (hB2 : BookAt wc bk b bm (l1 ++ x :: l2)) (hxm : x.m = m)
    (hN3 : wc.heap[w.heap.size]? = some (.cells #[.int .u32 (m : Int)] 61 (0, 0))) (hN6 : wc.heap[N6]? = some (.cells #[.pointer (some ⟨x.rb, 0, none⟩)] 302 (0, 0)))
    (hK2 : KeptBut (BookF bk bm ixs) w wc) (hF2 : ∀ k, BookF bk bm (l1 ++ x :: l2) k → BookF bk bm ixs k ∨ (w.heap.size < k ∧ k ≠ N6))
    (hA2 : askAbs (ixs.map Ix.abs) m rows gone = l1.map Ix.abs ++ (m, nums 0 rows, gone) :: l2.map Ix.abs) (hlt6 : w.heap.size < N6) (hm9 : MapAt w9 x.kb []) (hk9 : KeptBut (fun k => k = x.kb) wc w9) (n2 : N6 ≠ x.rb) (hltB : ∀ k, BookF bk bm ixs k → k < w.heap.size) :
    AskMid2 w bk b bm ixs m rows gone N6 ((w9.setCell ⟨x.rb, 1, none⟩ (.int .i64 0)).setCell ⟨x.rb, 2, none⟩ (.int .i64 gone)).drew := by
  have hmx : x ∈ l1 ++ x :: l2 := by simp
  have hI := hB2.ix x hmx
  have hrb9 : w9.heap[x.rb]? = some (.cells #[.map (some x.kb), .int .i64 (x.took.length : Int), .int .i64 x.gone] 307 (0, 0)) := (hk9.block _ (hI.lt _ (.inl rfl)) hI.ne).trans hI.hr
  obtain ⟨s1, _, _, s4⟩ := cells_set (n := 1) (pre := [.map (some x.kb)]) (post := [.int .i64 x.gone]) (v := .int .i64 0) rfl hrb9
  obtain ⟨t1, _, _, t4⟩ := cells_set (W := w9.setCell ⟨x.rb, 1, none⟩ (.int .i64 0)) (n := 2) (pre := [.map (some x.kb), .int .i64 0]) (post := []) (v := .int .i64 gone) rfl (by rw [s1]; rfl)
  have hd : ((w9.setCell ⟨x.rb, 1, none⟩ (.int .i64 0)).setCell ⟨x.rb, 2, none⟩ (.int .i64 gone)).drew.heap = ((w9.setCell ⟨x.rb, 1, none⟩ (.int .i64 0)).setCell ⟨x.rb, 2, none⟩ (.int .i64 gone)).heap := rfl
  have hk : KeptBut (fun k => k = x.kb ∨ k = x.rb) wc ((w9.setCell ⟨x.rb, 1, none⟩ (.int .i64 0)).setCell ⟨x.rb, 2, none⟩ (.int .i64 gone)).drew := by
    have h1 := ((hk9.mono (M' := fun k => k = x.kb ∨ k = x.rb) fun k hk => .inl hk).trans s4 fun k hk => .inr (.inr hk)).trans t4 fun k hk => .inr (.inr hk)
    exact ⟨h1.os, h1.tape, h1.output, h1.size, h1.block⟩
  have hrb : ((w9.setCell ⟨x.rb, 1, none⟩ (.int .i64 0)).setCell ⟨x.rb, 2, none⟩ (.int .i64 gone)).drew.heap[x.rb]? = some (.cells #[.map (some x.kb), .int .i64 0, .int .i64 gone] 307 (0, 0)) := t1
  have hkb : ((w9.setCell ⟨x.rb, 1, none⟩ (.int .i64 0)).setCell ⟨x.rb, 2, none⟩ (.int .i64 gone)).drew.heap[x.kb]? = w9.heap[x.kb]? := by
    rw [hd, t4.block _ (by have := hm9.lt; have := s4.size; omega) (Ne.symm hI.ne), s4.block _ hm9.lt (Ne.symm hI.ne)]
  generalize ((w9.setCell ⟨x.rb, 1, none⟩ (.int .i64 0)).setCell ⟨x.rb, 2, none⟩ (.int .i64 gone)).drew = w' at *
  clear s1 s4 t1 t4 hd
  have hxI : IxAt w' { x with took := [], gone := gone } 0 :=
    { hr := hrb
      hk := hm9.frame hkb
      hs := fun q hq => (by cases hq)
      ok := fun p hp => (by cases hp)
      ne := hI.ne
      nr := fun q hq => (by cases hq)
      nn := fun q hq => (by cases hq) }
  have hxF : ∀ k, IxF { x with took := [], gone := gone } k → IxF x k := by
    rintro k (hk | hk | ⟨q, hq, hk⟩)
    · exact .inl hk
    · exact .inr (.inl hk)
    · cases hq
  obtain ⟨g1, g2, g3⟩ := hB2.turn (x' := { x with took := [], gone := gone }) rfl rfl hxI (hk.mono fun k hk => hk.elim (fun e => .inr (.inl e)) (fun e => .inl e)) fun k hk => .inl (hxF k hk)
  have hno : ∀ k, BookF bk bm (l1 ++ x :: l2) k → k ≠ w.heap.size ∧ k ≠ N6 := fun k hk => by
    rcases hF2 k hk with h | h
    · have := hltB k h; omega
    · exact ⟨by omega, h.2⟩
  have hkN : ∀ k, k ≠ x.kb → k ≠ x.rb → k < wc.heap.size → w'.heap[k]? = wc.heap[k]? := fun k h1 h2 h3 => hk.block k h3 fun h => h.elim h1 h2
  have hxr := hno x.rb (.inr (.inr ⟨x, hmx, .inl rfl⟩))
  have hxk := hno x.kb (.inr (.inr ⟨x, hmx, .inr (.inl rfl)⟩))
  refine ⟨l1, { x with took := [], gone := gone }, l2, g1, hxm, (hkN _ (Ne.symm hxk.1) (Ne.symm hxr.1) (Array.getElem?_eq_some_iff.1 hN3).1).trans hN3, (hkN _ (Ne.symm hxk.2) (Ne.symm hxr.2) (Array.getElem?_eq_some_iff.1 hN6).1).trans hN6, hK2.trans g2 fun k hk => ?_, fun k hk => ?_, hA2, rfl, rfl, hlt6⟩
  · rcases hF2 k hk with h | h
    · exact .inr h
    · exact .inl (by omega)
  · have : BookF bk bm (l1 ++ x :: l2) k := by
      rcases hk with hk | hk | ⟨y, hy, hk⟩
      · exact .inl hk
      · exact .inr (.inl hk)
      · rw [List.mem_append, List.mem_cons] at hy
        rcases hy with hy | rfl | hy
        · exact .inr (.inr ⟨y, by simp [hy], hk⟩)
        · exact .inr (.inr ⟨x, hmx, hxF k hk⟩)
        · exact .inr (.inr ⟨y, by simp [hy], hk⟩)
    exact hF2 k this
def AskA (ixs : List Ix) (m : Nat) (w4 : World) (ok : Bool) (wx : World) : Prop :=
  (∃ l1 x l2, ixs = l1 ++ x :: l2 ∧ x.m = m ∧ ok = true ∧ wx = (w4.alloc (.cells #[.pointer (some ⟨x.rb, 0, none⟩)] 302)).drew) ∨
  (m ∉ ixs.map (·.m) ∧ ok = false ∧ wx = (w4.alloc (.cells #[.pointer none] 302)).drew)
end Go.Proofs.YtckhkfchgcdajaaGreatDoor

namespace Go.Proofs.YtckhkfchgcdajaaGreatDoor
open Go.Fx Go.RowKit
def Ix.with (x : Ix) (pre : List NR) (sl : List Int → Value) : Ix := { x with took := x.took ++ pre.map (·.1), sl := sl }
def AskI (x : Ix) (s : Nat) (wr : World) (pre : List NR) (W : World) : Prop :=
  ∃ sl, IxAt W (x.with pre sl) s ∧ KeptBut (IxF x) wr W ∧ (∀ k, IxF (x.with pre sl) k → IxF x k ∨ wr.heap.size ≤ k)
theorem AskI.start {x : Ix} {s : Nat} {wr : World} (h : IxAt wr x s) : AskI x s wr [] wr :=
  ⟨x.sl, by simpa [Ix.with] using h, KeptBut.refl _ _, fun k hk => .inl (by simpa [Ix.with] using hk)⟩
theorem IxAt.obj {w : World} {x : Ix} {s : Nat} (h : IxAt w x s) : ∀ k, IxF x k → k = x.kb ∨ ∃ cs t fr, w.heap[k]? = some (.cells cs t fr) ∧ t ≠ 64 := by
  rintro k (rfl | rfl | ⟨q, hq, hk⟩)
  · exact .inr ⟨_, _, _, h.hr, by decide⟩
  · exact .inl rfl
  · rcases (h.hs q hq).2 with ⟨h0, _⟩ | ⟨g, cap, cur, h0, _, hg, _⟩
    · rw [h0] at hk; cases hk
    · rw [h0] at hk
      simp only [Value.ownBlock, Option.some.injEq] at hk
      subst hk
      exact .inr ⟨_, _, _, hg, by decide⟩
theorem AskI.own {x : Ix} {s : Nat} {wr : World} (hlt : ∀ k, IxF x k → k < wr.heap.size) : OwnFrom wr.heap.size (AskI x s wr) := by
  rintro pre W W' row ⟨sl, h1, h2, h3⟩ hg hr
  refine ⟨sl, h1.frame fun k hk => ?_, h2.trans (kept_grown (M := fun k => row = some k) hg fun k hk => hk) fun k hk => .inl (hr k hk).1, h3⟩
  refine hg.block k (h1.lt k hk) fun e => ?_
  obtain ⟨h4, o, ho, hc⟩ := hr k e.symm
  rcases h1.obj k hk with h5 | ⟨cs, t, fr, h5, _⟩
  · have h6 : x.kb < wr.heap.size := hlt x.kb (.inr (.inl rfl))
    have h7 : k = x.kb := h5
    omega
  · rw [ho] at h5
    cases h5
    cases hc
theorem AskI.keep {x : Ix} {s : Nat} {wr W : World} {pre : List NR} (h : AskI x s wr pre W) {k : Nat} (hk : ¬ IxF x k) {o : Obj} (ho : wr.heap[k]? = some o) : W.heap[k]? = some o := by
  obtain ⟨sl, _, h2, _⟩ := h
  exact (h2.block k (Array.getElem?_eq_some_iff.1 ho).1 hk).trans ho
theorem Ix.with_add (x : Ix) (pre : List NR) (sl : List Int → Value) (p : NR) (v : Value) : (x.with pre sl).add p.1 v = x.with (pre ++ [p]) (fun q => if q = keyRow x.m p.1.2 then v else sl q) := by
  simp [Ix.with, Ix.add]
  rfl
theorem AskI.step {x : Ix} {s : Nat} {wr W : World} {pre : List NR} {sl : List Int → Value} (h1 : IxAt W (x.with pre sl) s) (h2 : KeptBut (IxF x) wr W) (h3 : ∀ k, IxF (x.with pre sl) k → IxF x k ∨ wr.heap.size ≤ k) (hkb : x.kb < wr.heap.size)
    (p : NR) {W' : World} {v : Value} (hk : MapAt W' x.kb (putKV (entKV (x.with pre sl).kv (keyRow x.m p.1.2) (.slice none 0 0)) (keyRow x.m p.1.2) v))
    (hv : W'.ownsRow 0 3 1 v ((idsOf x.m (x.with pre sl).took (keyRow x.m p.1.2)).length + 1) ((idsOf x.m (x.with pre sl).took (keyRow x.m p.1.2)).map intV ++ [intV p.1.1]))
    (hb : KeptBut (fun k => k = x.kb ∨ ((x.with pre sl).at (keyRow x.m p.1.2)).ownBlock = some k) W W')
    (hat : v.ownBlock = ((x.with pre sl).at (keyRow x.m p.1.2)).ownBlock ∨ ∃ g, v.ownBlock = some g ∧ W.heap.size ≤ g) :
    KeepsFrom wr.heap.size W W' ∧ KpRow W W' ∧ AskI x s wr (pre ++ [p]) W' := by
  have hM : ∀ k, (k = x.kb ∨ ((x.with pre sl).at (keyRow x.m p.1.2)).ownBlock = some k) → IxF (x.with pre sl) k := fun k hk => by
    rcases hk with rfl | hk
    · exact .inr (.inl rfl)
    · obtain ⟨hq, hq2⟩ := Ix.at_block hk
      exact .inr (.inr ⟨_, hq, hq2⟩)
  have hne : ∀ k, k < W.heap.size → k ≠ x.kb → ((x.with pre sl).at (keyRow x.m p.1.2)).ownBlock ≠ some k → W'.heap[k]? = W.heap[k]? := fun k a1 a2 a3 => hb.block k a1 fun h => h.elim a2 a3
  have hrb : (x.with pre sl).rb < W.heap.size := h1.lt _ (.inl rfl)
  have hrr : W'.heap[(x.with pre sl).rb]? = W.heap[(x.with pre sl).rb]? := by
    refine hne _ hrb h1.ne fun hc => ?_
    obtain ⟨hq, hq2⟩ := Ix.at_block hc
    exact (h1.nr _ hq).1 hq2
  obtain ⟨g1, g2⟩ := ix_step h1 p.2 hrr hk hv hne hat
  refine ⟨⟨hb.size, fun i o hi ho hoc => ?_⟩, fun k cs fr hk' => ?_, _, by rw [← Ix.with_add]; exact g1, h2.trans (hb.mono hM) fun k hk => (h3 k hk).symm, fun k hk => ?_⟩
  · refine (hb.block i (Array.getElem?_eq_some_iff.1 ho).1 fun hc => ?_).trans ho
    rcases h1.obj i (hM i hc) with h | ⟨cs, t, fr, h, _⟩
    · have : i = x.kb := h
      omega
    · rw [ho] at h; cases h; cases hoc
  · refine (hb.block k (Array.getElem?_eq_some_iff.1 hk').1 fun hc => ?_).trans hk'
    rcases h1.obj k (hM k hc) with h | ⟨cs', t, fr', h, hne⟩
    · obtain ⟨es, clock, hkm, _⟩ := h1.hk
      have : k = x.kb := h
      subst this
      have hkm2 : W.heap[x.kb]? = some (.map es clock) := hkm
      rw [hk'] at hkm2
      cases hkm2
    · rw [hk'] at h; cases h; exact hne rfl
  · rw [← Ix.with_add] at hk
    rcases g2 k hk with h | h
    · exact h3 k h
    · exact .inr (Nat.le_trans h2.size h)
theorem kpRow_put (W : World) (l : Nat) (o o' : Obj) (ho : W.heap[l]? = some o) (hc : o.isCells = false) : KpRow W (W.putObj l o') := fun k cs fr hk => by
  have : k ≠ l := fun e => by subst e; rw [ho] at hk; cases hk; cases hc
  rw [World.putObj_heap_other this]; exact hk
theorem yieldsIf_load_row {P : Program} {ops : Array Oper} {S : World → Prop} {o : Oper} {a : Act} (hw : Region.wanted o (yielded ops a.tmps) = true) (ty : TypeId) (x : Operand) (ho : o.op = .load ty x) (g : Nat) (hx : a.eval x = .pointer (some ⟨g, 0, none⟩)) (t : TypeId) (cs : Array Value) (fr : Nat × Nat) (d : TypeDesc)
    (hS : ∀ w, S w → w.heap[g]? = some (.cells cs t fr)) (hu : P.underlying ty = some d) (hd : (match d with | .struct _ | .array _ _ => true | _ => false) = true) (hi : (P.info? ty).map (·.size) = some cs.size) : YieldsIf P ops S o (.agg cs) a :=
  .inl ⟨hw, fun w hw' => by
    unfold execOp
    simp only [ho, hx, Instr.loadAt, Instr.sureAddr, Sem.run_bind, Sem.run_pure, Result.andThen_ok, run_loadVar_row w g t ty cs fr d (hS w hw') hu hd hi]⟩
theorem info3 : (Tryz.prog.info? 3).map (fun i => (i.zero, i.size, i.bytes)) = some (some (.int .i64 0), 1, 8) := by kernel_rfl
theorem AskI.finish {x : Ix} {s : Nat} {wr W W4 W6 W7 W8 : World} {pre : List NR} {sl : List Int → Value} (h1 : IxAt W (x.with pre sl) s) (h2 : KeptBut (IxF x) wr W) (h3 : ∀ k, IxF (x.with pre sl) k → IxF x k ∨ wr.heap.size ≤ k) (hkb : x.kb < wr.heap.size) (p : NR)
    (hb4 : Below W.heap.size W W4) (h6 : KeptBut (fun k => k = x.kb) W4 W6) {g cap : Nat}
    (hown : W7.ownsRow 0 3 1 (.slice (some ⟨g, 0, none⟩) ((idsOf x.m (x.with pre sl).took (keyRow x.m p.1.2)).length + 1) cap) ((idsOf x.m (x.with pre sl).took (keyRow x.m p.1.2)).length + 1) ((idsOf x.m (x.with pre sl).took (keyRow x.m p.1.2)).map intV ++ [intV p.1.1]))
    (hg : W6.grownBy W7 ((x.with pre sl).at (keyRow x.m p.1.2)).ownBlock) (hat : ((x.with pre sl).at (keyRow x.m p.1.2)).ownBlock = some g ∨ g = W6.heap.size)
    (h8 : KeptBut (fun k => k = x.kb) W7 W8) (hm8 : MapAt W8 x.kb (putKV (entKV (x.with pre sl).kv (keyRow x.m p.1.2) (.slice none 0 0)) (keyRow x.m p.1.2) (.slice (some ⟨g, 0, none⟩) ((idsOf x.m (x.with pre sl).took (keyRow x.m p.1.2)).length + 1) cap))) :
    KeepsFrom wr.heap.size W W8 ∧ KpRow W W8 ∧ AskI x s wr (pre ++ [p]) W8 := by
  have hs4 := hb4.size
  have hs6 := h6.size
  have hgk : g ≠ x.kb := by
    rcases hat with h | h
    · obtain ⟨hq, hq2⟩ := Ix.at_block h
      exact fun e => (h1.nr _ hq).2 (by rw [hq2, e]; rfl)
    · have : x.kb < W.heap.size := h1.lt _ (.inr (.inl rfl))
      omega
  refine AskI.step h1 h2 h3 hkb p (v := .slice (some ⟨g, 0, none⟩) ((idsOf x.m (x.with pre sl).took (keyRow x.m p.1.2)).length + 1) cap) hm8 ?_ ?_ ?_
  · refine ownsRow_of_block hown fun k hk => ?_
    simp only [Value.ownBlock, Option.some.injEq] at hk
    subst hk
    exact h8.block g (own_lt hown rfl) hgk
  · have k1 := (KeptBut.of_below (M := fun k => k = x.kb ∨ ((x.with pre sl).at (keyRow x.m p.1.2)).ownBlock = some k) hb4).trans h6 fun k hk => .inr (.inl hk)
    have k2 := k1.trans (kept_grown (M := fun k => ((x.with pre sl).at (keyRow x.m p.1.2)).ownBlock = some k) hg fun k hk => hk) fun k hk => .inr (.inr hk)
    exact k2.trans h8 fun k hk => .inr (.inl hk)
  · rcases hat with h | h
    · exact .inl h.symm
    · exact .inr ⟨g, rfl, by omega⟩
theorem nums_split (o : Nat) : ∀ (l : List (List Int)) (s : Nat), s ≤ l.length → nums o (l.take s) ++ nums (o + s) (l.drop s) = nums o l := fun l => by
  induction l generalizing o with
  | nil => intro s h; simp [nums]
  | cons x l ih =>
    intro s h
    cases s with
    | zero => simp [nums]
    | succ s =>
      have := ih (o + 1) s (by simpa using h)
      rw [List.take_succ_cons, List.drop_succ_cons, nums, List.cons_append, nums, show o + (s + 1) = o + 1 + s by omega, this]
theorem ask_end {w wc wr W w9 : World} {bk b bm : Nat} {ixs l1 l2 : List Ix} {x : Ix} {m D : Nat} {rows : List (List Int)} {gone : Int} {ys : List NR} (hB3 : BookAt wc bk b bm (l1 ++ x :: l2)) (hxm : x.m = m) (hK3 : KeptBut (BookF bk bm ixs) w wc)
    (hF3 : ∀ k, BookF bk bm (l1 ++ x :: l2) k → BookF bk bm ixs k ∨ w.heap.size < k)
    (hA3 : askAbs (ixs.map Ix.abs) m rows gone = l1.map Ix.abs ++ (m, nums 0 rows, gone) :: l2.map Ix.abs) (hg3 : x.gone = gone) (hP3 : x.took = nums 0 (rows.take x.took.length)) (hlen : x.took.length ≤ rows.length)
    (hbw : Below wc.heap.size wc wr) (hI : AskI x x.took.length wr ys W) (hS : ys.map (·.1) = nums x.took.length (rows.drop x.took.length))
    (h9 : w9.heap[x.rb]? = some (.cells #[.map (some x.kb), .int .i64 (rows.length : Int), .int .i64 x.gone] 307 (0, 0))) (hk9 : KeptBut (fun k => k = x.rb ∨ k = D) W w9) (hD : wr.heap.size ≤ D) (hWD : W.heap[D]? = some (.deferred (some []))) :
    ∃ ixs', BookAt w9 bk b bm ixs' ∧ (∃ y ∈ ixs', y.rb = x.rb ∧ y.abs = (m, nums 0 rows, gone)) ∧ ixs'.map Ix.abs = askAbs (ixs.map Ix.abs) m rows gone ∧ KeptBut (BookF bk bm ixs) w w9 ∧ (∀ k, BookF bk bm ixs' k → BookF bk bm ixs k ∨ w.heap.size ≤ k) := by
  obtain ⟨sl, h1, h2, h3⟩ := hI
  have hmx : x ∈ l1 ++ x :: l2 := by simp
  have hIc := hB3.ix x hmx
  have htook : (x.with ys sl).took = nums 0 rows := by
    show x.took ++ ys.map (·.1) = _
    rw [hS]
    have := nums_split 0 rows x.took.length hlen
    rw [← hP3, Nat.zero_add] at this
    exact this
  have hDF : ¬ IxF (x.with ys sl) D := fun hc => by
    rcases h1.obj D hc with h | ⟨cs, t, fr, h, _⟩
    · have h4 : D = x.kb := h
      have := hIc.lt x.kb (.inr (.inl rfl))
      have := hbw.size
      omega
    · rw [hWD] at h; cases h
  have hkk : ∀ k, k ≠ x.rb → k ≠ D → k < W.heap.size → w9.heap[k]? = W.heap[k]? := fun k a1 a2 a3 => hk9.block k a3 fun h => h.elim a1 a2
  have hsl : ∀ q ∈ (x.with ys sl).keys, ∀ k, (sl q).ownBlock = some k → w9.heap[k]? = W.heap[k]? := fun q hq k hk => by
    have hF : IxF (x.with ys sl) k := .inr (.inr ⟨q, hq, hk⟩)
    exact hkk k (fun e => (h1.nr q hq).1 (hk.trans (by rw [e]; rfl))) (fun e => hDF (e ▸ hF)) (h1.lt k hF)
  have hkb9 : w9.heap[x.kb]? = W.heap[x.kb]? := by
    have hF : IxF (x.with ys sl) x.kb := .inr (.inl rfl)
    exact hkk _ (Ne.symm h1.ne) (fun e => hDF (e ▸ hF)) (h1.lt _ hF)
  have hI9 : IxAt w9 (x.with ys sl) (x.with ys sl).took.length :=
    { hr := by rw [htook, nums_len]; exact h9
      hk := h1.hk.frame hkb9
      hs := fun q hq => ownsRow_of_block (h1.hs q hq) (hsl q hq)
      ok := h1.ok
      ne := h1.ne
      nr := h1.nr
      nn := h1.nn }
  have hk1 : KeptBut (IxF x) wc wr := KeptBut.of_below hbw
  have hk2 : KeptBut (IxF x) wc w9 := (hk1.trans h2 fun k hk => .inr hk).trans hk9 fun k hk => by
    rcases hk with rfl | rfl
    · exact .inr (.inl rfl)
    · exact .inl (Nat.le_trans hbw.size hD)
  obtain ⟨g1, g2, g3⟩ := hB3.turn (x' := x.with ys sl) rfl rfl hI9 hk2 fun k hk => (h3 k hk).imp_right fun h => Nat.le_trans hbw.size h
  have hsz := hK3.size
  refine ⟨_, g1, ⟨x.with ys sl, by simp, rfl, ?_⟩, ?_, hK3.trans g2 fun k hk => ?_, fun k hk => ?_⟩
  · show (x.m, (x.with ys sl).took, x.gone) = _
    rw [htook, hxm, hg3]
  · rw [hA3, List.map_append, List.map_cons]
    congr 2
    show (x.m, (x.with ys sl).took, x.gone) = _
    rw [htook, hxm, hg3]
  · rcases hF3 k hk with h | h
    · exact .inr h
    · exact .inl (Nat.le_of_lt h)
  · rcases g3 k hk with h | h
    · exact (hF3 k h).imp_right fun h => Nat.le_of_lt h
    · exact .inr (by omega)
end Go.Proofs.YtckhkfchgcdajaaGreatDoor

import Derived.Test.YtiomojlcnemnhaaAHxA8
import Derived.StillTailTactics
import Derived.Deep.Cut
import Derived.Deep.CutRange
import Derived.Deep.DeepCutAuto
import Derived.Deep.QuietTactic
import Derived.BigQuiet
namespace Go.Proofs.Ytiomojlcnemnhaa
open Go.Fx Go.RowKit
def askAbs (l : List (Nat × List (Int × List Int) × Int)) (m : Nat) (rows : List (List Int)) (gone : Int) : List (Nat × List (Int × List Int) × Int) :=
  if m ∈ l.map (·.1) then l.map fun a => if a.1 = m then (m, nums 0 rows, gone) else a else l ++ [(m, nums 0 rows, gone)]
theorem askAbs_mid {l1 l2 : List Ix} {x : Ix} {rows : List (List Int)} {gone : Int} (hn : ((l1 ++ x :: l2).map (·.m)).Nodup) :
    askAbs ((l1 ++ x :: l2).map Ix.abs) x.m rows gone = l1.map Ix.abs ++ (x.m, nums 0 rows, gone) :: l2.map Ix.abs := by
  have hm : (l1 ++ x :: l2).map (·.m) = ((l1 ++ x :: l2).map Ix.abs).map (·.1) := by rw [List.map_map]; rfl
  rw [List.map_append, List.map_cons, List.nodup_append, List.nodup_cons] at hn
  obtain ⟨h1, ⟨h2, h3⟩, h4⟩ := hn
  unfold askAbs
  rw [if_pos (by rw [← hm]; simp), List.map_append, List.map_append, List.map_cons, List.map_cons]
  have hno : ∀ l : List Ix, x.m ∉ l.map (·.m) → (l.map Ix.abs).map (fun a => if a.1 = x.m then (x.m, nums 0 rows, gone) else a) = l.map Ix.abs := fun l hl => by
    rw [List.map_map]
    refine List.map_congr_left fun y hy => ?_
    have : y.m ≠ x.m := fun e => hl (List.mem_map.2 ⟨y, hy, e⟩)
    show (if y.m = x.m then _ else _) = _
    rw [if_neg this]
  rw [hno l1 fun h => h4 _ h _ (List.mem_cons_self ..) rfl, hno l2 h2]
  have : x.abs.1 = x.m := rfl
  rw [if_pos this]
theorem askAbs_new {ixs : List Ix} {m : Nat} {rows : List (List Int)} {gone : Int} (hn : m ∉ ixs.map (·.m)) : askAbs (ixs.map Ix.abs) m rows gone = ixs.map Ix.abs ++ [(m, nums 0 rows, gone)] := by
  have hm : ixs.map (·.m) = (ixs.map Ix.abs).map (·.1) := by rw [List.map_map]; rfl
  unfold askAbs
  rw [if_neg (by rw [← hm]; exact hn)]
def AskMid (w : World) (bk b bm : Nat) (ixs : List Ix) (m : Nat) (rows : List (List Int)) (gone : Int) (N6 : Nat) (wx : World) : Prop :=
  ∃ l1 x l2, BookAt wx bk b bm (l1 ++ x :: l2) ∧ x.m = m ∧ wx.heap[w.heap.size]? = some (.cells #[.int .u32 (m : Int)] 33 (0, 0)) ∧ wx.heap[N6]? = some (.cells #[.pointer (some ⟨x.rb, 0, none⟩)] 165 (0, 0)) ∧
    KeptBut (BookF bk bm ixs) w wx ∧ (∀ k, BookF bk bm (l1 ++ x :: l2) k → BookF bk bm ixs k ∨ (w.heap.size < k ∧ k ≠ N6)) ∧
    askAbs (ixs.map Ix.abs) m rows gone = l1.map Ix.abs ++ (m, nums 0 rows, gone) :: l2.map Ix.abs ∧ (x.gone = gone → x.took = nums 0 (rows.take x.took.length)) ∧ w.heap.size < N6
def AskMid2 (w : World) (bk b bm : Nat) (ixs : List Ix) (m : Nat) (rows : List (List Int)) (gone : Int) (N6 : Nat) (wx : World) : Prop :=
  ∃ l1 x l2, BookAt wx bk b bm (l1 ++ x :: l2) ∧ x.m = m ∧ wx.heap[w.heap.size]? = some (.cells #[.int .u32 (m : Int)] 33 (0, 0)) ∧ wx.heap[N6]? = some (.cells #[.pointer (some ⟨x.rb, 0, none⟩)] 165 (0, 0)) ∧
    KeptBut (BookF bk bm ixs) w wx ∧ (∀ k, BookF bk bm (l1 ++ x :: l2) k → BookF bk bm ixs k ∨ (w.heap.size < k ∧ k ≠ N6)) ∧
    askAbs (ixs.map Ix.abs) m rows gone = l1.map Ix.abs ++ (m, nums 0 rows, gone) :: l2.map Ix.abs ∧ x.gone = gone ∧ x.took = nums 0 (rows.take x.took.length) ∧ w.heap.size < N6
theorem cell_ne {w : World} {g i : Nat} {v : Value} {p : Addr} (h : p.block ≠ g) : (w.setCell ⟨g, i, none⟩ v).cell? p = w.cell? p := World.cell?_setCell_other _ _ _ _ fun e => h (by rw [← e])
theorem RelCells.set {w : World} {b pb mb : Nat} {lv : Value} {arity gone : Int} (h : RelCells w b pb mb lv arity gone) {g i : Nat} {v : Value} (h1 : b ≠ g) (h2 : pb ≠ g) : RelCells (w.setCell ⟨g, i, none⟩ v) b pb mb lv arity gone where
  h0 := (cell_ne h1).trans h.h0
  h1 := (cell_ne h1).trans h.h1
  h2 := (cell_ne h1).trans h.h2
  p0 := (cell_ne h2).trans h.p0
  p1 := (cell_ne h2).trans h.p1
  lb := by have := h.lb; simpa [World.setCell, Array.size_modify] using this
  lp := by have := h.lp; simpa [World.setCell, Array.size_modify] using this
theorem ask_cleared {w wc w9 : World} {bk b bm : Nat} {ixs : List Ix} {m : Nat} {rows : List (List Int)} {gone : Int} {N6 : Nat} {l1 l2 : List Ix} {x : Ix} (hB2 : BookAt wc bk b bm (l1 ++ x :: l2)) (hxm : x.m = m)
    (hN3 : wc.heap[w.heap.size]? = some (.cells #[.int .u32 (m : Int)] 33 (0, 0))) (hN6 : wc.heap[N6]? = some (.cells #[.pointer (some ⟨x.rb, 0, none⟩)] 165 (0, 0)))
    (hK2 : KeptBut (BookF bk bm ixs) w wc) (hF2 : ∀ k, BookF bk bm (l1 ++ x :: l2) k → BookF bk bm ixs k ∨ (w.heap.size < k ∧ k ≠ N6))
    (hA2 : askAbs (ixs.map Ix.abs) m rows gone = l1.map Ix.abs ++ (m, nums 0 rows, gone) :: l2.map Ix.abs) (hlt6 : w.heap.size < N6) (hm9 : MapAt w9 x.kb []) (hk9 : KeptBut (fun k => k = x.kb) wc w9) (n2 : N6 ≠ x.rb) (hltB : ∀ k, BookF bk bm ixs k → k < w.heap.size) :
    AskMid2 w bk b bm ixs m rows gone N6 ((w9.setCell ⟨x.rb, 1, none⟩ (.int .i64 0)).setCell ⟨x.rb, 2, none⟩ (.int .i64 gone)).drew := by
  have hmx : x ∈ l1 ++ x :: l2 := by simp
  have hI := hB2.ix x hmx
  have hrb9 : w9.heap[x.rb]? = some (.cells #[.map (some x.kb), .int .i64 (x.took.length : Int), .int .i64 x.gone] 171 (0, 0)) := (hk9.block _ (hI.lt _ (.inl rfl)) hI.ne).trans hI.hr
  obtain ⟨s1, _, _, s4⟩ := cells_set (n := 1) (pre := [.map (some x.kb)]) (post := [.int .i64 x.gone]) (v := .int .i64 0) rfl hrb9
  obtain ⟨t1, _, _, t4⟩ := cells_set (W := w9.setCell ⟨x.rb, 1, none⟩ (.int .i64 0)) (n := 2) (pre := [.map (some x.kb), .int .i64 0]) (post := []) (v := .int .i64 gone) rfl (by rw [s1]; rfl)
  have hd : ((w9.setCell ⟨x.rb, 1, none⟩ (.int .i64 0)).setCell ⟨x.rb, 2, none⟩ (.int .i64 gone)).drew.heap = ((w9.setCell ⟨x.rb, 1, none⟩ (.int .i64 0)).setCell ⟨x.rb, 2, none⟩ (.int .i64 gone)).heap := rfl
  have hk : KeptBut (fun k => k = x.kb ∨ k = x.rb) wc ((w9.setCell ⟨x.rb, 1, none⟩ (.int .i64 0)).setCell ⟨x.rb, 2, none⟩ (.int .i64 gone)).drew := by
    have h1 := ((hk9.mono (M' := fun k => k = x.kb ∨ k = x.rb) fun k hk => .inl hk).trans s4 fun k hk => .inr (.inr hk)).trans t4 fun k hk => .inr (.inr hk)
    exact ⟨h1.os, h1.tape, h1.output, h1.size, h1.block⟩
  have hrb : ((w9.setCell ⟨x.rb, 1, none⟩ (.int .i64 0)).setCell ⟨x.rb, 2, none⟩ (.int .i64 gone)).drew.heap[x.rb]? = some (.cells #[.map (some x.kb), .int .i64 0, .int .i64 gone] 171 (0, 0)) := t1
  have hkb : ((w9.setCell ⟨x.rb, 1, none⟩ (.int .i64 0)).setCell ⟨x.rb, 2, none⟩ (.int .i64 gone)).drew.heap[x.kb]? = w9.heap[x.kb]? := by
    rw [hd, t4.block _ (by have := hm9.lt; have := s4.size; omega) (Ne.symm hI.ne), s4.block _ hm9.lt (Ne.symm hI.ne)]
  generalize ((w9.setCell ⟨x.rb, 1, none⟩ (.int .i64 0)).setCell ⟨x.rb, 2, none⟩ (.int .i64 gone)).drew = w' at *
  clear s1 s4 t1 t4 hd
  have hxI : IxAt w' { x with took := [], gone := gone } 0 :=
    { hr := hrb
      hk := hm9.frame hkb
      hs := fun q hq => (by cases hq)
      ok := fun p hp => (by cases hp)
      ne := hI.ne
      nr := fun q hq => (by cases hq)
      nn := fun q hq => (by cases hq) }
  have hxF : ∀ k, IxF { x with took := [], gone := gone } k → IxF x k := by
    rintro k (hk | hk | ⟨q, hq, hk⟩)
    · exact .inl hk
    · exact .inr (.inl hk)
    · cases hq
  obtain ⟨g1, g2, g3⟩ := hB2.turn (x' := { x with took := [], gone := gone }) rfl rfl hxI (hk.mono fun k hk => hk.elim (fun e => .inr (.inl e)) (fun e => .inl e)) fun k hk => .inl (hxF k hk)
  have hno : ∀ k, BookF bk bm (l1 ++ x :: l2) k → k ≠ w.heap.size ∧ k ≠ N6 := fun k hk => by
    rcases hF2 k hk with h | h
    · have := hltB k h; omega
    · exact ⟨by omega, h.2⟩
  have hkN : ∀ k, k ≠ x.kb → k ≠ x.rb → k < wc.heap.size → w'.heap[k]? = wc.heap[k]? := fun k h1 h2 h3 => hk.block k h3 fun h => h.elim h1 h2
  have hxr := hno x.rb (.inr (.inr ⟨x, hmx, .inl rfl⟩))
  have hxk := hno x.kb (.inr (.inr ⟨x, hmx, .inr (.inl rfl)⟩))
  refine ⟨l1, { x with took := [], gone := gone }, l2, g1, hxm, (hkN _ (Ne.symm hxk.1) (Ne.symm hxr.1) (Array.getElem?_eq_some_iff.1 hN3).1).trans hN3, (hkN _ (Ne.symm hxk.2) (Ne.symm hxr.2) (Array.getElem?_eq_some_iff.1 hN6).1).trans hN6, hK2.trans g2 fun k hk => ?_, fun k hk => ?_, hA2, rfl, rfl, hlt6⟩
  · rcases hF2 k hk with h | h
    · exact .inr h
    · exact .inl (by omega)
  · have : BookF bk bm (l1 ++ x :: l2) k := by
      rcases hk with hk | hk | ⟨y, hy, hk⟩
      · exact .inl hk
      · exact .inr (.inl hk)
      · rw [List.mem_append, List.mem_cons] at hy
        rcases hy with hy | rfl | hy
        · exact .inr (.inr ⟨y, by simp [hy], hk⟩)
        · exact .inr (.inr ⟨x, hmx, hxF k hk⟩)
        · exact .inr (.inr ⟨y, by simp [hy], hk⟩)
    exact hF2 k this
def AskA (ixs : List Ix) (m : Nat) (w4 : World) (ok : Bool) (wx : World) : Prop :=
  (∃ l1 x l2, ixs = l1 ++ x :: l2 ∧ x.m = m ∧ ok = true ∧ wx = (w4.alloc (.cells #[.pointer (some ⟨x.rb, 0, none⟩)] 165)).drew) ∨
  (m ∉ ixs.map (·.m) ∧ ok = false ∧ wx = (w4.alloc (.cells #[.pointer none] 165)).drew)
end Go.Proofs.Ytiomojlcnemnhaa

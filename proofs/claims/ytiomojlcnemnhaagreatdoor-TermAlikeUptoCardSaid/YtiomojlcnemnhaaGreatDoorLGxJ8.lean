import Derived.Test.YtiomojlcnemnhaaGreatDoorLGxJ7
import Derived.Deep.RegionWith
import Derived.Test.YtiomojlcnemnhaaGreatDoorLGxJ3
import Derived.Test.YtiomojlcnemnhaaGreatDoorLGxX11
import Derived.Test.YtiomojlcnemnhaaGreatDoorLGxY3
namespace Go.Proofs.YtiomojlcnemnhaaGreatDoor
open Go.Fx Go.RowKit Go.Ped
theorem ownsRow_mid {w : World} {base : Nat} {e : TypeId} {size : Nat} {v : Value} {n : Nat} {A mid C : List Value} (hne : mid ≠ []) (h : w.ownsRow base e size v n (A ++ mid ++ C)) :
    ∃ g cap room, v = .slice (some ⟨g, 0, none⟩) n cap ∧ n ≤ cap ∧ cap ≤ maxLen ∧ base ≤ g ∧ g ∈ svB v ∧ w.heap[g]? = some (.cells (A ++ mid ++ (C ++ room)).toArray e (0, 0)) ∧
      ∀ (w' : World) (mid' : List Value), mid'.length = mid.length → w'.heap[g]? = some (.cells (A ++ mid' ++ (C ++ room)).toArray e (0, 0)) → w'.ownsRow base e size v n (A ++ mid' ++ C) := by
  obtain ⟨hl, ⟨_, h0⟩ | ⟨g, cap, cur, rfl, hbase, hcur, hn, hm, hsz, htk⟩⟩ := h
  · rw [h0, Nat.zero_mul] at hl
    simp only [List.length_append] at hl
    exact absurd (List.length_eq_zero_iff.1 (by omega)) hne
  obtain ⟨room, hroom⟩ : ∃ room, cur.toList = A ++ mid ++ (C ++ room) := by
    refine ⟨cur.toList.drop (n * size), ?_⟩
    rw [← List.append_assoc, ← htk, List.take_append_drop]
  refine ⟨g, cap, room, rfl, hn, hm, hbase, svB_mem.2 rfl, by rw [hcur, ← hroom], fun w' mid' hml hw' => ?_⟩
  have hl' : (A ++ mid' ++ C).length = n * size := by
    simp only [List.length_append] at hl ⊢; omega
  have hsz' : (A ++ mid ++ C).length + room.length = cap * size := by
    have h1 : cur.toList.length = cap * size := by rw [Array.length_toList, hsz]
    rw [hroom] at h1
    simp only [List.length_append] at h1 ⊢
    omega
  refine ⟨hl', .inr ⟨g, cap, _, rfl, hbase, hw', hn, hm, ?_, ?_⟩⟩
  · rw [← List.append_assoc]
    simp only [List.size_toArray]
    rw [List.length_append, hl']
    rw [hl] at hsz'
    exact hsz'
  · rw [← List.append_assoc]
    simp only [List.take_left' hl']
theorem six_set {W : World} {b : Nat} {ty : TypeId} {pre post : List Value} {x0 x1 x2 x3 x4 x5 : Value} (v0 v1 v2 v3 v4 v5 : Value) (n : Nat) (hn : n = pre.length) (hb : W.heap[b]? = some (.cells (pre ++ [x0, x1, x2, x3, x4, x5] ++ post).toArray ty (0, 0))) :
    ∃ A1 A2 A3 A4 A5 A6, W.setCell ⟨b, n, none⟩ v0 = A1 ∧ A1.setCell ⟨b, n + 1, none⟩ v1 = A2 ∧ A2.setCell ⟨b, n + 2, none⟩ v2 = A3 ∧ A3.setCell ⟨b, n + 3, none⟩ v3 = A4 ∧ A4.setCell ⟨b, n + 4, none⟩ v4 = A5 ∧ A5.setCell ⟨b, n + 5, none⟩ v5 = A6 ∧
      W.cell? ⟨b, n, none⟩ = some x0 ∧ W.frozen? ⟨b, n, none⟩ = false ∧ A1.cell? ⟨b, n + 1, none⟩ = some x1 ∧ A1.frozen? ⟨b, n + 1, none⟩ = false ∧
      A2.cell? ⟨b, n + 2, none⟩ = some x2 ∧ A2.frozen? ⟨b, n + 2, none⟩ = false ∧ A3.cell? ⟨b, n + 3, none⟩ = some x3 ∧ A3.frozen? ⟨b, n + 3, none⟩ = false ∧
      A4.cell? ⟨b, n + 4, none⟩ = some x4 ∧ A4.frozen? ⟨b, n + 4, none⟩ = false ∧ A5.cell? ⟨b, n + 5, none⟩ = some x5 ∧ A5.frozen? ⟨b, n + 5, none⟩ = false ∧
      A6.heap[b]? = some (.cells (pre ++ [v0, v1, v2, v3, v4, v5] ++ post).toArray ty (0, 0)) ∧ KeptBut (fun c => c = b) W A6 := by
  subst hn
  have hb0 : W.heap[b]? = some (.cells (pre ++ x0 :: (x1 :: x2 :: x3 :: x4 :: x5 :: post)).toArray ty (0, 0)) := by rw [hb, List.append_assoc]; rfl
  obtain ⟨h1, c1, f1, k1⟩ := cells_set (v := v0) rfl hb0
  generalize hA1 : W.setCell ⟨b, pre.length, none⟩ v0 = A1 at *
  have hb1 : A1.heap[b]? = some (.cells ((pre ++ [v0]) ++ x1 :: (x2 :: x3 :: x4 :: x5 :: post)).toArray ty (0, 0)) := by rw [h1]; simp
  obtain ⟨h2, c2, f2, k2⟩ := cells_set (n := pre.length + 1) (v := v1) (by simp) hb1
  generalize hA2 : A1.setCell ⟨b, pre.length + 1, none⟩ v1 = A2 at *
  have hb2 : A2.heap[b]? = some (.cells ((pre ++ [v0, v1]) ++ x2 :: (x3 :: x4 :: x5 :: post)).toArray ty (0, 0)) := by rw [h2]; simp
  obtain ⟨h3, c3, f3, k3⟩ := cells_set (n := pre.length + 2) (v := v2) (by simp) hb2
  generalize hA3 : A2.setCell ⟨b, pre.length + 2, none⟩ v2 = A3 at *
  have hb3 : A3.heap[b]? = some (.cells ((pre ++ [v0, v1, v2]) ++ x3 :: (x4 :: x5 :: post)).toArray ty (0, 0)) := by rw [h3]; simp
  obtain ⟨h4, c4, f4, k4⟩ := cells_set (n := pre.length + 3) (v := v3) (by simp) hb3
  generalize hA4 : A3.setCell ⟨b, pre.length + 3, none⟩ v3 = A4 at *
  have hb4 : A4.heap[b]? = some (.cells ((pre ++ [v0, v1, v2, v3]) ++ x4 :: (x5 :: post)).toArray ty (0, 0)) := by rw [h4]; simp
  obtain ⟨h5, c5, f5, k5⟩ := cells_set (n := pre.length + 4) (v := v4) (by simp) hb4
  generalize hA5 : A4.setCell ⟨b, pre.length + 4, none⟩ v4 = A5 at *
  have hb5 : A5.heap[b]? = some (.cells ((pre ++ [v0, v1, v2, v3, v4]) ++ x5 :: post).toArray ty (0, 0)) := by rw [h5]; simp
  obtain ⟨h6, c6, f6, k6⟩ := cells_set (n := pre.length + 5) (v := v5) (by simp) hb5
  refine ⟨A1, A2, A3, A4, A5, _, rfl, hA2, hA3, hA4, hA5, rfl, c1, f1, c2, f2, c3, f3, c4, f4, c5, f5, c6, f6, ?_, kept_same (kept_same (kept_same (kept_same (kept_same k1 k2) k3) k4) k5) k6⟩
  rw [h6]; simp
theorem twelve_set {W : World} {b : Nat} {ty : TypeId} {pre post : List Value} {x0 x1 x2 x3 x4 x5 y0 y1 y2 y3 y4 y5 : Value} (v0 v1 v2 v3 v4 v5 u0 u1 u2 u3 u4 u5 : Value) (n k : Nat) (hn : n = pre.length) (hk : k = pre.length + 6) (hb : W.heap[b]? = some (.cells (pre ++ [x0, x1, x2, x3, x4, x5] ++ ([y0, y1, y2, y3, y4, y5] ++ post)).toArray ty (0, 0))) :
    ∃ A1 A2 A3 A4 A5 A6 B1 B2 B3 B4 B5 B6, W.setCell ⟨b, n, none⟩ v0 = A1 ∧ A1.setCell ⟨b, n + 1, none⟩ v1 = A2 ∧ A2.setCell ⟨b, n + 2, none⟩ v2 = A3 ∧ A3.setCell ⟨b, n + 3, none⟩ v3 = A4 ∧ A4.setCell ⟨b, n + 4, none⟩ v4 = A5 ∧ A5.setCell ⟨b, n + 5, none⟩ v5 = A6 ∧
      A6.setCell ⟨b, k, none⟩ u0 = B1 ∧ B1.setCell ⟨b, k + 1, none⟩ u1 = B2 ∧ B2.setCell ⟨b, k + 2, none⟩ u2 = B3 ∧ B3.setCell ⟨b, k + 3, none⟩ u3 = B4 ∧ B4.setCell ⟨b, k + 4, none⟩ u4 = B5 ∧ B5.setCell ⟨b, k + 5, none⟩ u5 = B6 ∧
      W.cell? ⟨b, n, none⟩ = some x0 ∧ W.frozen? ⟨b, n, none⟩ = false ∧ A1.cell? ⟨b, n + 1, none⟩ = some x1 ∧ A1.frozen? ⟨b, n + 1, none⟩ = false ∧
      A2.cell? ⟨b, n + 2, none⟩ = some x2 ∧ A2.frozen? ⟨b, n + 2, none⟩ = false ∧ A3.cell? ⟨b, n + 3, none⟩ = some x3 ∧ A3.frozen? ⟨b, n + 3, none⟩ = false ∧
      A4.cell? ⟨b, n + 4, none⟩ = some x4 ∧ A4.frozen? ⟨b, n + 4, none⟩ = false ∧ A5.cell? ⟨b, n + 5, none⟩ = some x5 ∧ A5.frozen? ⟨b, n + 5, none⟩ = false ∧
      A6.cell? ⟨b, k, none⟩ = some y0 ∧ A6.frozen? ⟨b, k, none⟩ = false ∧ B1.cell? ⟨b, k + 1, none⟩ = some y1 ∧ B1.frozen? ⟨b, k + 1, none⟩ = false ∧
      B2.cell? ⟨b, k + 2, none⟩ = some y2 ∧ B2.frozen? ⟨b, k + 2, none⟩ = false ∧ B3.cell? ⟨b, k + 3, none⟩ = some y3 ∧ B3.frozen? ⟨b, k + 3, none⟩ = false ∧
      B4.cell? ⟨b, k + 4, none⟩ = some y4 ∧ B4.frozen? ⟨b, k + 4, none⟩ = false ∧ B5.cell? ⟨b, k + 5, none⟩ = some y5 ∧ B5.frozen? ⟨b, k + 5, none⟩ = false ∧
      B6.heap[b]? = some (.cells (pre ++ [v0, v1, v2, v3, v4, v5] ++ ([u0, u1, u2, u3, u4, u5] ++ post)).toArray ty (0, 0)) ∧ KeptBut (fun c => c = b) W B6 := by
  obtain ⟨A1, A2, A3, A4, A5, A6, a1, a2, a3, a4, a5, a6, c1, c2, c3, c4, c5, c6, c7, c8, c9, c10, c11, c12, h1, k1⟩ := six_set v0 v1 v2 v3 v4 v5 n hn hb
  obtain ⟨B1, B2, B3, B4, B5, B6, b1, b2, b3, b4, b5, b6, d1, d2, d3, d4, d5, d6, d7, d8, d9, d10, d11, d12, h2, k2⟩ := six_set (W := A6) (ty := ty) (x0 := y0) (x1 := y1) (x2 := y2) (x3 := y3) (x4 := y4) (x5 := y5) (pre := pre ++ [v0, v1, v2, v3, v4, v5]) (post := post) u0 u1 u2 u3 u4 u5 k (by simp [hk]) (by rw [h1]; simp)
  exact ⟨A1, A2, A3, A4, A5, A6, B1, B2, B3, B4, B5, B6, a1, a2, a3, a4, a5, a6, b1, b2, b3, b4, b5, b6, c1, c2, c3, c4, c5, c6, c7, c8, c9, c10, c11, c12, d1, d2, d3, d4, d5, d6, d7, d8, d9, d10, d11, d12, by rw [h2]; simp, kept_same k1 k2⟩
def Lit.bareL (x : Lit) : Lit := { x with sp := [], left := x.left.bare, right := x.right.bare }
def Rule.bareR (r : Rule) : Rule := ⟨r.p, r.head, [], r.body.map Lit.bareL, []⟩
structure CopyAt (r : Rule) (xs : List Value) (hv bv : Value) (w0 w : World) (N : Nat) (done : List LitM) : Prop where
  n0 : w.heap[N]? = some (.cells #[.string (bs r.p), hv, bv] 29 (0, 0))
  n1 : w.heap[N + 1]? = some (.cells #[.string ⟨#[]⟩, .slice none 0 0, .slice none 0 0] 29 (0, 0))
  head : w.ownsRow (N + 2) 137 5 hv r.head.length (r.head.flatMap argCells)
  lits : done.map LitM.lit = (r.body.take done.length).map Lit.bareL
  le : done.length ≤ r.body.length
  body : w.ownsRow (N + 2) 107 16 bv r.body.length (done.flatMap LitM.cells ++ xs.drop (done.length * 16))
  ins : ∀ x ∈ done, x.In w
  nd : (svB hv ++ (svB bv ++ done.flatMap LitM.blks)).Nodup
  lo : ∀ b ∈ done.flatMap LitM.blks, N + 2 ≤ b
  below : Below N w0 w
theorem copy_step {r : Rule} {xs : List Value} {hv bv : Value} {w0 wr w5 : World} {N : Nat} {done : List LitM} (h : CopyAt r xs hv bv w0 wr N done) (hlt : done.length < r.body.length) (hsz : N + 2 ≤ wr.heap.size) {d : LitM} (hd : d.lit = r.body[done.length].bareL) (hin : d.In w5) (hnd : d.blks.Nodup) (hlo : ∀ b ∈ d.blks, wr.heap.size ≤ b)
    (hbody : w5.ownsRow (N + 2) 107 16 bv r.body.length (done.flatMap LitM.cells ++ d.cells ++ xs.drop ((done.length + 1) * 16))) (hk : KeptBut (fun c => c ∈ svB bv) wr w5) : CopyAt r xs hv bv w0 w5 N (done ++ [d]) := by
  have hb1 : ∀ b ∈ svB bv, N + 2 ≤ b ∧ b < wr.heap.size := fun b hb => ownsRow_block h.body b (svB_mem.1 hb)
  have hh1 : ∀ b ∈ svB hv, N + 2 ≤ b ∧ b < wr.heap.size := fun b hb => ownsRow_block h.head b (svB_mem.1 hb)
  have hd1 : ∀ b ∈ done.flatMap LitM.blks, b < wr.heap.size := fun b hb => by
    obtain ⟨x, hx, hb⟩ := List.mem_flatMap.1 hb
    exact (h.ins x hx).lt b hb
  have nd := h.nd
  rw [List.nodup_append] at nd
  obtain ⟨nd1, nd2, nd3⟩ := nd
  rw [List.nodup_append] at nd2
  obtain ⟨nd2, nd4, nd5⟩ := nd2
  have hflb : (done ++ [d]).flatMap LitM.blks = done.flatMap LitM.blks ++ d.blks := by simp [List.flatMap_append]
  refine ⟨?_, ?_, ?_, ?_, ?_, ?_, ?_, ?_, ?_, ?_⟩
  · rw [hk.block N (by omega) fun hc => by have := hb1 N hc; omega]; exact h.n0
  · rw [hk.block (N + 1) (by omega) fun hc => by have := hb1 _ hc; omega]; exact h.n1
  · exact ownsRow_frame' h.head (Nat.le_refl _) fun g hg => hk.block g (hh1 g hg).2 fun hc => nd3 g hg g (List.mem_append_left _ hc) rfl
  · rw [List.map_append, h.lits, List.length_append, List.length_singleton, List.take_succ_eq_append_getElem hlt, List.map_append, List.map_singleton, List.map_singleton, hd]
  · rw [List.length_append, List.length_singleton]; omega
  · rw [List.flatMap_append, List.length_append, List.length_singleton, List.flatMap_singleton]
    exact hbody
  · intro x hx
    rcases List.mem_append.1 hx with hx | hx
    · exact (h.ins x hx).frame fun b hb => hk.block b ((h.ins x hx).lt b hb) fun hc => nd5 b hc b (List.mem_flatMap.2 ⟨x, hx, hb⟩) rfl
    · obtain rfl : x = d := by simpa using hx
      exact hin
  · rw [hflb, List.nodup_append]
    refine ⟨nd1, ?_, fun a ha b hb e => ?_⟩
    · rw [List.nodup_append]
      refine ⟨nd2, ?_, fun a ha b hb e => ?_⟩
      · rw [List.nodup_append]
        refine ⟨nd4, hnd, fun a ha b hb e => ?_⟩
        have := hd1 a ha
        have := hlo b hb
        omega
      · rcases List.mem_append.1 hb with hb | hb
        · exact nd5 a ha b hb e
        · have := hb1 a ha
          have := hlo b hb
          omega
    · rcases List.mem_append.1 hb with hb | hb
      · exact nd3 a ha b (List.mem_append_left _ hb) e
      · rcases List.mem_append.1 hb with hb | hb
        · exact nd3 a ha b (List.mem_append_right _ hb) e
        · have := hh1 a ha
          have := hlo b hb
          omega
  · intro b hb
    rw [hflb] at hb
    rcases List.mem_append.1 hb with hb | hb
    · exact h.lo b hb
    · have := hlo b hb; omega
  · exact ⟨by rw [hk.os, h.below.os], by rw [hk.tape, h.below.tape], by rw [hk.output, h.below.output], Nat.le_trans h.below.size hk.size, fun i hi => by rw [hk.block i (by omega) fun hc => by have := hb1 i hc; omega, h.below.block i hi]⟩
theorem clone_six (e : Ex) (hs : e.small 1048576) (w : World) (V : Nat → Nat → Prop) (ad : Option Addr) (k c : Nat) (hV : ∀ b o, V b o → b < w.heap.size) (h : KidsRep V w e (.slice ad k c)) :
    Calls Tryz.prog 256 #[.agg #[.int .i8 e.op, .string (bs e.t.v), .int .i8 e.t.x.k, .int .i64 e.t.x.n, .string (bs e.t.x.s), .slice ad k c]] w fun r w' => ∃ (n : Nd) (na : Option Addr) (nk nc : Nat), r = .returned (.agg #[.int .i8 n.op, .string (bs n.t.v), .int .i8 n.t.x.k, .int .i64 n.t.x.n, .string (bs n.t.x.s), .slice na nk nc]) ∧
      n.cells = [.int .i8 n.op, .string (bs n.t.v), .int .i8 n.t.x.k, .int .i64 n.t.x.n, .string (bs n.t.x.s), .slice na nk nc] ∧ n.ex = e.bare ∧ n.In w' ∧ n.blks.Nodup ∧ (∀ b ∈ n.blks, w.heap.size ≤ b) ∧ Below w.heap.size w w' := by
  refine (clone_calls e hs w V _ hV h).mono ?_
  rintro r w' ⟨n, rfl, h1, h2⟩
  obtain ⟨nad, nn, ncap, hsl⟩ : ∃ a m c, n.sl = .slice a m c := by
    obtain ⟨_, _, b, c, ks⟩ := n
    show ∃ a m c', slV b c ks.length = .slice a m c'
    unfold slV
    split
    · exact ⟨_, _, _, rfl⟩
    · exact ⟨_, _, _, rfl⟩
  have hnc : n.cells = [.int .i8 n.op, .string (bs n.t.v), .int .i8 n.t.x.k, .int .i64 n.t.x.n, .string (bs n.t.x.s), .slice nad nn ncap] := by rw [nd_cells_eq, hsl]
  exact ⟨n, nad, nn, ncap, by rw [hnc], hnc, h1, h2⟩
theorem below_drew (w : World) : Below w.heap.size w w.drew := ⟨rfl, rfl, rfl, Nat.le_refl _, fun _ _ => rfl⟩
set_option maxRecDepth 100000 in
set_option maxHeartbeats 4000000 in
theorem cloneR (r : Rule) (hs : r.small 1048576) (w : World) (V : Nat → Nat → Prop) (v1 v2 : Value) (hV : ∀ b o, V b o → b < w.heap.size) (h1 : RepC V w (.sl (r.head.map Arg.row) r.hsp) v1) (h2 : RepC V w (.sl (r.body.map Lit.row) r.bsp) v2) :
    Calls Tryz.prog 178 #[.agg #[.string (bs r.p), v1, v2]] w fun e w' => ∃ rm : RuleM, e = .returned (.agg rm.cells.toArray) ∧ rm.rule = r.bareR ∧ rm.In w' ∧ (∀ b ∈ rm.blks, w.heap.size ≤ b) ∧ Below w.heap.size w w' := by
  obtain ⟨hs1, hs2, hs3⟩ := hs
  have o1 := h1.oneCell
  have o2 := h2.oneCell
  have k2 : Below w.heap.size w ((w.alloc (.cells #[.string (bs r.p), v1, v2] 29)).alloc (.cells #[.string ⟨#[]⟩, .slice none 0 0, .slice none 0 0] 29)) := Below.alloc (Below.alloc (Below.refl _ _) (Nat.le_refl _) _) (by rw [alloc_size]; omega) _
  go_enter Tryz.func178, Tryz.ntmps178
  go_wp2_with fail
  have hN0 : ((w.alloc (.cells #[.string (bs r.p), v1, v2] 29)).alloc (.cells #[.string ⟨#[]⟩, .slice none 0 0, .slice none 0 0] 29)).heap[w.heap.size]? = some (.cells #[.string (bs r.p), v1, v2] 29 (0, 0)) := by
    rw [alloc_heap, if_neg (by rw [alloc_size]; omega), alloc_heap, if_pos rfl]
  have hN1 : ((w.alloc (.cells #[.string (bs r.p), v1, v2] 29)).alloc (.cells #[.string ⟨#[]⟩, .slice none 0 0, .slice none 0 0] 29)).heap[w.heap.size + 1]? = some (.cells #[.string ⟨#[]⟩, .slice none 0 0, .slice none 0 0] 29 (0, 0)) := by
    rw [alloc_heap, if_pos (by rw [alloc_size])]
  have hNs : ((w.alloc (.cells #[.string (bs r.p), v1, v2] 29)).alloc (.cells #[.string ⟨#[]⟩, .slice none 0 0, .slice none 0 0] 29)).heap.size = w.heap.size + 2 := by
    rw [alloc_size, alloc_size]
  generalize (w.alloc (.cells #[.string (bs r.p), v1, v2] 29)).alloc (.cells #[.string ⟨#[]⟩, .slice none 0 0, .slice none 0 0] 29) = wa at *
  refine (clone197 r.head r.hsp hs1 (RepC.mono (fun _ _ h => h) (fun b o h => below_cell k2 (hV b o h) o) h1)).mono ?_
  rintro e wb ⟨hv, xh, rfl, hhead, hxh, kb⟩
  obtain rfl := args_cells_of hxh
  rw [hNs] at hhead kb
  have hbN : wb.heap[w.heap.size]? = some (.cells ([Value.string (bs r.p)] ++ v1 :: [v2]).toArray 29 (0, 0)) := by rw [kb.block _ (by omega), hN0]; rfl
  obtain ⟨g1, g2, g3, g4⟩ := cells_set (n := 1) (v := hv) rfl hbN
  have hvo := (ownsRow_len hhead)
  obtain ⟨hva, hvc, rfl, _⟩ := hvo
  obtain ⟨wb1, hWb⟩ : ∃ x, wb.setCell ⟨w.heap.size, 1, none⟩ (.slice hva r.head.length hvc) = x := ⟨_, rfl⟩
  rw [hWb] at g1 g4
  have hsz1 : w.heap.size + 2 ≤ wb1.heap.size := by have := kb.size; have := g4.size; omega
  have kb1 : Below w.heap.size w wb1 := ⟨by rw [g4.os, kb.os, k2.os], by rw [g4.tape, kb.tape, k2.tape], by rw [g4.output, kb.output, k2.output], by omega, fun i hi => by rw [g4.block i (by have := kb.size; omega) (by omega), kb.block i (by omega), k2.block i hi]⟩
  have hc2 : wb1.cell? ⟨w.heap.size, 2, none⟩ = some v2 := by simp [World.cell?, g1]
  have hhead1 : wb1.ownsRow (w.heap.size + 2) 137 5 (.slice hva r.head.length hvc) r.head.length (r.head.flatMap argCells) := ownsRow_frame' hhead (Nat.le_refl _) fun g hg => g4.block g (ownsRow_block hhead g (svB_mem.1 hg)).2 (by have := (ownsRow_block hhead g (svB_mem.1 hg)).1; omega)
  have hn1 : wb1.heap[w.heap.size + 1]? = some (.cells #[.string ⟨#[]⟩, .slice none 0 0, .slice none 0 0] 29 (0, 0)) := by
    rw [g4.block _ (by have := kb.size; omega) (by omega), kb.block _ (by omega), hN1]
  go_wp2_with fail
  clear hWb g2 g3 g4 hbN hhead kb hxh hN0 hN1 k2
  clear hNs
  refine (clone193 r.body r.bsp hs2 (RepC.mono (fun _ _ h => h) (fun b o h => below_cell kb1 (hV b o h) o) h2)).mono ?_
  rintro e wc ⟨bv, xs, rfl, hbody, hxs, kc⟩
  have hcN : wc.heap[w.heap.size]? = some (.cells ([Value.string (bs r.p), .slice hva r.head.length hvc] ++ v2 :: []).toArray 29 (0, 0)) := by rw [kc.block _ (by omega), g1]; rfl
  obtain ⟨g1', g2, g3, g4⟩ := cells_set (n := 2) (v := bv) rfl hcN
  obtain ⟨bva, bvc, rfl, _⟩ := ownsRow_len hbody
  obtain ⟨wd, hWd⟩ : ∃ x, wc.setCell ⟨w.heap.size, 2, none⟩ (.slice bva r.body.length bvc) = x := ⟨_, rfl⟩
  rw [hWd] at g1' g4
  have hc3 : ∀ w' : World, w'.heap[w.heap.size]? = wd.heap[w.heap.size]? → w'.cell? ⟨w.heap.size, 2, none⟩ = some (.slice bva r.body.length bvc) := fun w' h => by simp [World.cell?, h, g1']
  have hc3d := hc3 wd rfl
  have hxs0 : All2 (RepC V w) (r.body.map Lit.row).flatten xs := hxs.imp fun c u _ h => RepC.mono (fun _ _ h => h) (fun b o h => (below_cell kb1 (hV b o h) o).symm) h
  have hrel0 : CopyAt r xs (.slice hva r.head.length hvc) (.slice bva r.body.length bvc) w wd w.heap.size [] := by
    have hoffd : ∀ i, i < wc.heap.size → i ≠ w.heap.size → wd.heap[i]? = wc.heap[i]? := fun i hi hne => g4.block i hi hne
    refine ⟨g1', ?_, ?_, rfl, Nat.zero_le _, ?_, by simp, ?_, by simp, ?_⟩
    · rw [hoffd _ (by have := kc.size; omega) (by omega), kc.block _ (by omega), hn1]
    · exact ownsRow_frame' hhead1 (Nat.le_refl _) fun g hg => by
        have := ownsRow_block hhead1 g (svB_mem.1 hg)
        rw [hoffd g (by have := kc.size; omega) (by omega), kc.block g this.2]
    · simp only [List.flatMap_nil, List.nil_append, List.length_nil, Nat.zero_mul, List.drop_zero]
      exact ownsRow_frame' hbody (by omega) fun g hg => by
        have := ownsRow_block hbody g (svB_mem.1 hg)
        exact hoffd g this.2 (by omega)
    · simp only [List.flatMap_nil, List.append_nil]
      rw [List.nodup_append]
      refine ⟨by unfold svB; cases (Value.slice hva r.head.length hvc).ownBlock <;> simp, by unfold svB; cases (Value.slice bva r.body.length bvc).ownBlock <;> simp, fun a ha b hb e => ?_⟩
      have e1 := ownsRow_block hhead1 a (svB_mem.1 ha)
      have e2 := ownsRow_block hbody b (svB_mem.1 hb)
      omega
    · exact ⟨by rw [g4.os, kc.os, kb1.os], by rw [g4.tape, kc.tape, kb1.tape], by rw [g4.output, kc.output, kb1.output], by have := kc.size; have := g4.size; omega, fun i hi => by rw [hoffd i (by have := kc.size; omega) (by omega), kc.block i (by omega), kb1.block i hi]⟩
  go_wp2_with fail
  clear hWd g2 g3 g4 hcN hbody kc hxs hhead1 hn1 g1
  go_loopw [16] (fun n w' => ∃ done : List LitM, n = .int .i64 (done.length : Int) ∧ CopyAt r xs (.slice hva r.head.length hvc) (.slice bva r.body.length bvc) w w' w.heap.size done) (fun n _ => match n with | .int _ k => r.body.length - k.toNat | _ => 0)
  case atStart => exact ⟨[], rfl, hrel0⟩
  case round =>
    obtain ⟨done, rfl, hrel⟩ := hrel
    have hc3r := hc3 wr (by rw [hrel.n0, g1']; rfl)
    by_cases hlt : done.length < r.body.length
    · have hlt' : (done.length : Int) < (r.body.length : Int) := by omega
      generalize hx : r.body[done.length] = x
      have hxm : x ∈ r.body := hx ▸ List.getElem_mem hlt
      obtain ⟨hsl, hsleft, hsright⟩ := hs3 x hxm
      have hszr : w.heap.size + 2 ≤ wr.heap.size := by
        have := (Array.getElem?_eq_some_iff.1 hrel.n1).1
        omega
      obtain ⟨m3, u, vl, vr, hdrop, hdrop2, hru, hrl, hrr⟩ : ∃ m3 u vl vr, xs.drop (done.length * 16) = (.int .i8 x.kind :: .string (bs x.p) :: u :: .int .i8 x.rel :: (exCells x.left vl ++ exCells x.right vr)) ++ m3 ∧ xs.drop ((done.length + 1) * 16) = m3 ∧ RepC V w (.sl (x.l.map Tm.row) x.sp) u ∧ KidsRep V w x.left vl ∧ KidsRep V w x.right vr := by
        have hsp : (r.body.map Lit.row).flatten = ((r.body.take done.length).map Lit.row).flatten ++ (x.row ++ ((r.body.drop (done.length + 1)).map Lit.row).flatten) := by
          conv => lhs; rw [← List.take_append_drop done.length r.body, List.drop_eq_getElem_cons hlt, hx, List.map_append, List.map_cons, List.flatten_append, List.flatten_cons]
        rw [hsp] at hxs0
        obtain ⟨m1, m23, rfl, a1, a2⟩ := all2_split hxs0
        obtain ⟨m2, m3, rfl, a3, _⟩ := all2_split a2
        have hl1 : m1.length = done.length * 16 := by
          rw [← a1.1, length_flatten (s := 16) _ (fun q hq => by obtain ⟨y, _, rfl⟩ := List.mem_map.1 hq; exact Lit.row_length _), List.length_map, List.length_take, Nat.min_eq_left (Nat.le_of_lt hlt)]
        have hl2 : m2.length = 16 := by rw [← a3.1, Lit.row_length]
        obtain ⟨u, vl, vr, rfl, b1, b2, b3⟩ := lit_cells_of a3
        refine ⟨m3, u, vl, vr, ?_, ?_, b1, b2, b3⟩
        · rw [List.drop_left' hl1]
        · rw [Nat.add_mul, Nat.one_mul, ← List.append_assoc, List.drop_left' (by rw [List.length_append, hl1, hl2])]
      obtain ⟨lad, lk, lc, rfl⟩ : ∃ a k c, vl = .slice a k c := by obtain ⟨a, c, h⟩ := kids_slice hrl; exact ⟨a, _, c, h⟩
      obtain ⟨rad, rk, rc, rfl⟩ : ∃ a k c, vr = .slice a k c := by obtain ⟨a, c, h⟩ := kids_slice hrr; exact ⟨a, _, c, h⟩
      have hbody := hrel.body
      rw [hdrop, ← List.append_assoc] at hbody
      obtain ⟨g, cap, room, hbv, hcap1, hcap2, hg1, hg2, hgw, hback⟩ := ownsRow_mid (by simp) hbody
      injection hbv with e1 e2 e3
      subst e1 e3
      have hpre : (done.flatMap LitM.cells).length = done.length * 16 := lit_cells_flat _
      have hglt : g < wr.heap.size := (Array.getElem?_eq_some_iff.1 hgw).1
      have hcu : wr.cell? ⟨g, done.length * 16 + 2, none⟩ = some u := by
        simp [World.cell?, hgw, hpre]
      have hou := hru.oneCell
      go_wp2_with fail
      refine (clone125 x.l x.sp hsl (RepC.mono (fun _ _ h => h) (fun b o h => below_cell hrel.below (hV b o h) o) hru)).mono ?_
      rintro e we ⟨sv, ts, rfl, hrow, hts, ke⟩
      obtain rfl := tms_cells_of hts
      obtain ⟨sva, svc, rfl, _⟩ := ownsRow_len hrow
      have hge : we.heap[g]? = some (.cells ((done.flatMap LitM.cells ++ [Value.int .i8 x.kind, .string (bs x.p)]) ++ u :: (Value.int .i8 x.rel :: (exCells x.left (.slice lad lk lc) ++ exCells x.right (.slice rad rk rc)) ++ (m3 ++ room))).toArray 107 (0, 0)) := by
        rw [ke.block g hglt, hgw]; simp
      obtain ⟨g1, g2, g3, g4⟩ := cells_set (n := done.length * 16 + 2) (v := .slice sva x.l.length svc) (by rw [List.length_append, hpre]; rfl) hge
      obtain ⟨wf, hWf⟩ : ∃ y, we.setCell ⟨g, done.length * 16 + 2, none⟩ (.slice sva x.l.length svc) = y := ⟨_, rfl⟩
      rw [hWf] at g1 g4
      have hgf : g < wf.heap.size := (Array.getElem?_eq_some_iff.1 g1).1
      have hVf : ∀ b o, V b o → b < wf.heap.size := fun b o h => by have := hV b o h; have := ke.size; have := g4.size; omega
      have hfcell : ∀ b o, V b o → ∀ w', Below wf.heap.size wf w' → w'.cell? ⟨b, o, none⟩ = w.cell? ⟨b, o, none⟩ := fun b o h w' hw' => by
        have hb := hV b o h
        have e1 := below_cell hw' (hVf b o h) o
        have e2 : wf.cell? ⟨b, o, none⟩ = we.cell? ⟨b, o, none⟩ := by
          simp only [World.cell?, g4.block b (by have := ke.size; omega) (by omega)]
        have e3 := below_cell ke (show b < wr.heap.size by omega) o
        have e4 := below_cell hrel.below hb o
        rw [e1, e2, e3, e4]
      have hcallL := fun (w' : World) (hw' : Below wf.heap.size wf w') => clone_six x.left hsleft w' V lad lk lc (fun b o h => Nat.lt_of_lt_of_le (hVf b o h) hw'.size) (RepC.mono (fun _ _ h => h) (fun b o h => hfcell b o h w' hw') hrl)
      have hcallR := fun (w' : World) (hw' : Below wf.heap.size wf w') => clone_six x.right hsright w' V rad rk rc (fun b o h => Nat.lt_of_lt_of_le (hVf b o h) hw'.size) (RepC.mono (fun _ _ h => h) (fun b o h => hfcell b o h w' hw') hrr)
      have hgx : wf.heap[g]? = some (.cells ((done.flatMap LitM.cells ++ [Value.int .i8 x.kind, .string (bs x.p), .slice sva x.l.length svc, .int .i8 x.rel]) ++ [Value.int .i8 x.left.op, .string (bs x.left.t.v), .int .i8 x.left.t.x.k, .int .i64 x.left.t.x.n, .string (bs x.left.t.x.s), .slice lad lk lc] ++ ([Value.int .i8 x.right.op, .string (bs x.right.t.v), .int .i8 x.right.t.x.k, .int .i64 x.right.t.x.n, .string (bs x.right.t.x.s), .slice rad rk rc] ++ (m3 ++ room))).toArray 107 (0, 0)) := by
        rw [g1]; simp [exCells, tmCells]
      have hcells : ∀ w', Below wf.heap.size wf w' →
          w'.cell? ⟨g, done.length * 16 + 4, none⟩ = some (.int .i8 x.left.op) ∧ w'.cell? ⟨g, done.length * 16 + 4 + 1, none⟩ = some (.string (bs x.left.t.v)) ∧ w'.cell? ⟨g, done.length * 16 + 4 + 2, none⟩ = some (.int .i8 x.left.t.x.k) ∧ w'.cell? ⟨g, done.length * 16 + 4 + 3, none⟩ = some (.int .i64 x.left.t.x.n) ∧ w'.cell? ⟨g, done.length * 16 + 4 + 4, none⟩ = some (.string (bs x.left.t.x.s)) ∧ w'.cell? ⟨g, done.length * 16 + 4 + 5, none⟩ = some (.slice lad lk lc) ∧
          w'.cell? ⟨g, done.length * 16 + 10, none⟩ = some (.int .i8 x.right.op) ∧ w'.cell? ⟨g, done.length * 16 + 10 + 1, none⟩ = some (.string (bs x.right.t.v)) ∧ w'.cell? ⟨g, done.length * 16 + 10 + 2, none⟩ = some (.int .i8 x.right.t.x.k) ∧ w'.cell? ⟨g, done.length * 16 + 10 + 3, none⟩ = some (.int .i64 x.right.t.x.n) ∧ w'.cell? ⟨g, done.length * 16 + 10 + 4, none⟩ = some (.string (bs x.right.t.x.s)) ∧ w'.cell? ⟨g, done.length * 16 + 10 + 5, none⟩ = some (.slice rad rk rc) := fun w' hw' => by
        have hg' : w'.heap[g]? = wf.heap[g]? := hw'.block g hgf
        refine ⟨?_, ?_, ?_, ?_, ?_, ?_, ?_, ?_, ?_, ?_, ?_, ?_⟩ <;> simp [World.cell?, hg', hgx, List.getElem?_append_right, hpre, Nat.add_assoc] <;> rfl
      obtain ⟨p4, p5, p6, p7, p8, p9, p10, p11, p12, p13, p14, p15⟩ := hcells wf.drew (below_drew wf)
      have hset := fun (w4 : World) (h4 : Below wf.heap.size wf w4) (a0 a1 a2 a3 a4 a5 b0 b1 b2 b3 b4 b5 : Value) => twelve_set (W := w4) a0 a1 a2 a3 a4 a5 b0 b1 b2 b3 b4 b5 (done.length * 16 + 4) (done.length * 16 + 10) (by simp [hpre]) (by simp [hpre]) ((h4.block g hgf).trans hgx)
      have hend : ∀ (w3 w4 w5 : World) (nl nr : Nd), Below wf.heap.size wf w3 → Below w3.heap.size w3 w4 → nl.ex = x.left.bare → nl.In w3 → nl.blks.Nodup → (∀ b ∈ nl.blks, wf.heap.size ≤ b) → nr.ex = x.right.bare → nr.In w4 → nr.blks.Nodup → (∀ b ∈ nr.blks, w3.heap.size ≤ b) →
          w5.heap[g]? = some (.cells ((done.flatMap LitM.cells ++ [Value.int .i8 x.kind, .string (bs x.p), .slice sva x.l.length svc, .int .i8 x.rel]) ++ nl.cells ++ (nr.cells ++ (m3 ++ room))).toArray 107 (0, 0)) → KeptBut (fun c => c = g) w4 w5 →
          CopyAt r xs (.slice hva r.head.length hvc) (.slice (some ⟨g, 0, none⟩) r.body.length bvc) w w5 w.heap.size (done ++ [⟨x.kind, x.p, .slice sva x.l.length svc, x.l, x.rel, nl, nr⟩]) := by
        intro w3 w4 w5 nl nr hB3 hB4 e1 i1 n1 l1 e2 i2 n2 l2 hfin hkfin
        have s1 := ke.size
        have s2 := g4.size
        have s3 := hB3.size
        have s4 := hB4.size
        have s5 := hkfin.size
        have hall : KeptBut (fun c => c ∈ svB (.slice (some ⟨g, 0, none⟩) r.body.length bvc)) wr w5 := by
          refine ⟨by rw [hkfin.os, hB4.os, hB3.os, g4.os, ke.os], by rw [hkfin.tape, hB4.tape, hB3.tape, g4.tape, ke.tape], by rw [hkfin.output, hB4.output, hB3.output, g4.output, ke.output], by omega, fun i hi hne => ?_⟩
          have hig : i ≠ g := fun e => hne (e ▸ hg2)
          rw [hkfin.block i (by omega) hig, hB4.block i (by omega), hB3.block i (by omega), g4.block i (by omega) hig, ke.block i hi]
        refine copy_step hrel hlt hszr ?_ ⟨?_, ?_, ?_⟩ ?_ ?_ ?_ hall
        · rw [hx]
          show (⟨x.kind, x.p, x.l, [], x.rel, nl.ex, nr.ex⟩ : Lit) = _
          rw [e1, e2]
          rfl
        · exact ownsRow_frame' hrow (Nat.zero_le _) fun c hc => by
            have h1 := ownsRow_block hrow c (svB_mem.1 hc)
            rw [hkfin.block c (by omega) (by omega), hB4.block c (by omega), hB3.block c (by omega), g4.block c (by omega) (by omega)]
        · exact i1.frame _ fun c hc => by
            have h1 := l1 c hc
            have h2 := i1.lt _ c hc
            rw [hkfin.block c (by omega) (by omega), hB4.block c (by omega)]
        · exact i2.frame _ fun c hc => by
            have h1 := l2 c hc
            have h2 := i2.lt _ c hc
            rw [hkfin.block c (by omega) (by omega)]
        · show (svB (.slice sva x.l.length svc) ++ (nl.blks ++ nr.blks)).Nodup
          rw [List.nodup_append]
          refine ⟨by unfold svB; cases (Value.slice sva x.l.length svc).ownBlock <;> simp, ?_, fun a ha b hb e => ?_⟩
          · rw [List.nodup_append]
            refine ⟨n1, n2, fun a ha b hb e => ?_⟩
            have h1 := i1.lt _ a ha
            have h2 := l2 b hb
            omega
          · have h0 := ownsRow_block hrow a (svB_mem.1 ha)
            rcases List.mem_append.1 hb with hb | hb
            · have := l1 b hb; omega
            · have := l2 b hb; omega
        · intro b hb
          rcases List.mem_append.1 (show b ∈ svB (.slice sva x.l.length svc) ++ (nl.blks ++ nr.blks) from hb) with hb | hb
          · exact (ownsRow_block hrow b (svB_mem.1 hb)).1
          · rcases List.mem_append.1 hb with hb | hb
            · have := l1 b hb; omega
            · have := l2 b hb; omega
        · rw [hdrop2]
          refine hback w5 _ (by simp [LitM.cells]; rfl) ?_
          rw [hfin]
          simp [LitM.cells]
      go_wp2_with fail
      go_region_with (first
        | (go_at_call_of 256 (Value.int IntKind.i8 x.left.op); refine (hcallL _ ?_).mono ?_; exact below_drew wf; rintro e w3 ⟨nl, nla, nlk, nlc, rfl, hnl1, hnl2, hnl3, hnl4, hnl5, hb3⟩; have hB3 : Below wf.heap.size wf w3 := (below_drew wf).trans (hb3.mono (Nat.le_refl _)); obtain ⟨p4, p5, p6, p7, p8, p9, p10, p11, p12, p13, p14, p15⟩ := hcells w3 hB3)
        | (go_at_call_of 256 (Value.int IntKind.i8 x.right.op); refine (hcallR _ ?_).mono ?_; exact hB3; rintro e w4 ⟨nr, nra, nrk, nrc, rfl, hnr1, hnr2, hnr3, hnr4, hnr5, hb4⟩; have hB4 : Below wf.heap.size wf w4 := hB3.trans (hb4.mono hB3.size);
            obtain ⟨A1, A2, A3, A4, A5, A6, B1, B2, B3, B4, B5, B6, a1, a2, a3, a4, a5, a6, b1, b2, b3, b4, b5, b6, c1, c2, c3, c4, c5, c6, c7, c8, c9, c10, c11, c12, d1, d2, d3, d4, d5, d6, d7, d8, d9, d10, d11, d12, hfin, hkfin⟩ := hset w4 hB4 (.int .i8 nl.op) (.string (bs nl.t.v)) (.int .i8 nl.t.x.k) (.int .i64 nl.t.x.n) (.string (bs nl.t.x.s)) (.slice nla nlk nlc) (.int .i8 nr.op) (.string (bs nr.t.v)) (.int .i8 nr.t.x.k) (.int .i64 nr.t.x.n) (.string (bs nr.t.x.s)) (.slice nra nrk nrc)))
      all_goals
        go_wp2_with fail
        have hfin2 := hend w3 w4 _ nl nr hB3 hb4 hnl2 hnl3 hnl4 hnl5 hnr2 hnr3 hnr4 hnr5 (by rw [hnl1, hnr1]; exact hfin) hkfin
        refine ⟨⟨_, ?_, hfin2⟩, ?_⟩
        · rw [List.length_append, List.length_singleton]; exact congrArg (Value.int .i64) (by omega)
        · show r.body.length - ((done.length : Int) + 1).toNat < r.body.length - (done.length : Int).toNat
          omega
    · have hdl : done.length = r.body.length := by have := hrel.le; omega
      have hgt : ¬ (done.length : Int) < (r.body.length : Int) := by omega
      have hn0 := hrel.n0
      have hn1 := hrel.n1
      have q0 : wr.cell? ⟨w.heap.size, 0, none⟩ = some (.string (bs r.p)) := by simp [World.cell?, hn0]
      have q1 : wr.cell? ⟨w.heap.size, 1, none⟩ = some (.slice hva r.head.length hvc) := by simp [World.cell?, hn0]
      have q2 : wr.cell? ⟨w.heap.size, 2, none⟩ = some (.slice bva r.body.length bvc) := by simp [World.cell?, hn0]
      obtain ⟨s1, t1, t2, t3⟩ := cells_set (n := 0) (pre := []) (post := [.slice none 0 0, .slice none 0 0]) (v := .string (bs r.p)) rfl hn1
      obtain ⟨wx, hWx⟩ : ∃ y, wr.setCell ⟨w.heap.size + 1, 0, none⟩ (.string (bs r.p)) = y := ⟨_, rfl⟩
      rw [hWx] at s1 t3
      obtain ⟨s2, t4, t5, t6⟩ := cells_set (W := wx) (n := 1) (pre := [.string (bs r.p)]) (post := [.slice none 0 0]) (v := .slice hva r.head.length hvc) rfl s1
      obtain ⟨wy, hWy⟩ : ∃ y, wx.setCell ⟨w.heap.size + 1, 1, none⟩ (.slice hva r.head.length hvc) = y := ⟨_, rfl⟩
      rw [hWy] at s2 t6
      obtain ⟨s3, t7, t8, t9⟩ := cells_set (W := wy) (n := 2) (pre := [.string (bs r.p), .slice hva r.head.length hvc]) (post := []) (v := .slice bva r.body.length bvc) rfl s2
      obtain ⟨wz, hWz⟩ : ∃ y, wy.setCell ⟨w.heap.size + 1, 2, none⟩ (.slice bva r.body.length bvc) = y := ⟨_, rfl⟩
      rw [hWz] at s3 t9
      have q3 : wz.cell? ⟨w.heap.size + 1, 0, none⟩ = some (.string (bs r.p)) := by simp [World.cell?, s3]
      have q4 : wz.cell? ⟨w.heap.size + 1, 1, none⟩ = some (.slice hva r.head.length hvc) := by simp [World.cell?, s3]
      have q5 : wz.cell? ⟨w.heap.size + 1, 2, none⟩ = some (.slice bva r.body.length bvc) := by simp [World.cell?, s3]
      go_wp2_with fail
      have hkz : KeptBut (fun c => c = w.heap.size + 1) wr wz := kept_same (kept_same t3 t6) t9
      have hszr : w.heap.size + 2 ≤ wr.heap.size := by
        have := (Array.getElem?_eq_some_iff.1 hn1).1
        omega
      have hlits := hrel.lits
      rw [hdl, List.take_length] at hlits
      have hbody := hrel.body
      have hxl : xs.length = r.body.length * 16 := by rw [← hxs0.1, length_flatten (s := 16) _ (fun q hq => by obtain ⟨y, _, rfl⟩ := List.mem_map.1 hq; exact Lit.row_length _), List.length_map]
      rw [hdl, ← hxl, List.drop_length, List.append_nil] at hbody
      simp [bodyPost, results, go_sem, q3, q4, q5]
      refine ⟨⟨r.p, .slice hva r.head.length hvc, r.head, .slice bva r.body.length bvc, done⟩, rfl, ?_, RuleM.In.frame (w := wr) ⟨ownsRow_frame' hrel.head (Nat.zero_le _) fun _ _ => rfl, ?_, hrel.ins, hrel.nd⟩ fun b hb => ?_, fun b hb => ?_, ?_⟩
      · show (⟨r.p, r.head, [], done.map LitM.lit, []⟩ : Rule) = _
        rw [hlits]
        rfl
      · show wr.ownsRow 0 107 16 _ done.length _
        rw [hdl]
        exact ownsRow_frame' hbody (Nat.zero_le _) fun _ _ => rfl
      · have hb' : w.heap.size + 2 ≤ b ∧ b < wr.heap.size := by
          rcases List.mem_append.1 hb with hb | hb
          · exact ownsRow_block hrel.head b (svB_mem.1 hb)
          · rcases List.mem_append.1 hb with hb | hb
            · exact ownsRow_block hrel.body b (svB_mem.1 hb)
            · obtain ⟨x, hx, hb2⟩ := List.mem_flatMap.1 hb
              exact ⟨hrel.lo b hb, (hrel.ins x hx).lt b hb2⟩
        exact hkz.block b hb'.2 (by omega)
      · rcases List.mem_append.1 hb with hb | hb
        · have := (ownsRow_block hrel.head b (svB_mem.1 hb)).1; omega
        · rcases List.mem_append.1 hb with hb | hb
          · have := (ownsRow_block hrel.body b (svB_mem.1 hb)).1; omega
          · have := hrel.lo b hb; omega
      · exact ⟨by rw [hkz.os, hrel.below.os], by rw [hkz.tape, hrel.below.tape], by rw [hkz.output, hrel.below.output], Nat.le_trans hrel.below.size hkz.size, fun i hi => by rw [hkz.block i (by omega) (by omega), hrel.below.block i hi]⟩
end Go.Proofs.YtiomojlcnemnhaaGreatDoor

namespace Go.Proofs.YtiomojlcnemnhaaGreatDoor
open Go.Fx Go.RowKit Go.Ped
variable {G : World → Prop}
theorem nx_ren2 (r : Nat → Nat) : renL r ∘ nxRow = nxRow := funext fun p => by simp [nxRow]
end Go.Proofs.YtiomojlcnemnhaaGreatDoor

namespace Go.Fx
open Go.RowKit
section
variable {P : Program} {G : World → Prop}
theorem MeetsH.of_reader {f : FuncId} {args : List X} {res : CR} {h : Hp} (hcl : callable P f = true) (hx : ∀ x ∈ args, x.only (fun _ => True) (fun k => h.toks k ≠ none)) (ho : h.only (fun _ => True) (fun k => h.toks k ≠ none))
    (hm : ∀ (w : World) (env : Env) (F : Nat → Prop) (vs : List Value), HeldM G (Owned env h F) w → HMem env h F w → All2 (RepX env h.toks w) args vs →
      Calls P f vs.toArray w fun e w' => ∃ v, e = .returned v ∧ RepCR (fun b o => env.V b o ∨ w.heap.size ≤ b) w' res v ∧ Below w.heap.size w w') : MeetsH P G f args h res.open h := by
  refine ⟨hcl, hx, ho, fun w env F vs hG hmem hfr ha => ?_⟩
  refine (hm w env F vs hG hmem ha).mono ?_
  rintro e w' ⟨v, rfl, hr, hb⟩
  have hcell : ∀ b o, env.V b o → w'.cell? ⟨b, o, none⟩ = w.cell? ⟨b, o, none⟩ := fun b o hv => hb.cell (p := ⟨b, o, none⟩) (hmem.vlt b o hv)
  let env' : Env := { env with V := fun b o => env.V b o ∨ (w.heap.size ≤ b ∧ b < w'.heap.size) }
  have hle : env.Le env' h.toks h.toks w w' := ⟨fun _ _ x => .inl x, hcell, fun _ _ x => x, fun _ t x => ⟨t, x, rfl, Nat.le_refl _, fun _ => rfl⟩⟩
  have hV : ∀ b o, b < w.heap.size → env'.V b o → env.V b o := fun b o hlt hv => hv.elim id fun h => absurd hlt (Nat.not_lt.mpr h.1)
  refine ⟨v, env', F, rfl, openR_rep (fun b o h => h.1.elim .inl fun hh => .inr ⟨hh, h.2⟩) hr.bound, {
    mem := {
      vlt := fun b o hv => hv.elim (fun h => Nat.lt_of_lt_of_le (hmem.vlt b o h) hb.size) fun h => h.2
      ρlt := fun k b s hk => Nat.lt_of_lt_of_le (hmem.ρlt k b s hk) hb.size
      τlt := fun k v b hk hv => Nat.lt_of_lt_of_le (hmem.τlt k v b hk hv) hb.size
      objs := fun k x hk => by
        obtain ⟨b, us, g1, g2, g3, g4, g5⟩ := hmem.objs k x hk
        exact ⟨b, us, g1, g2.of (hb.block b g2.lt), g3.imp fun _ _ _ => RepA.mono hle, g4, fun o hv => g5 o (hV b o g2.lt hv)⟩
      inj := hmem.inj
      toks := fun k t hk => by
        obtain ⟨v, xs, g1, g2, g3⟩ := hmem.toks k t hk
        exact ⟨v, xs, g1, ownsRow_of_block g2 fun b hv => hb.block b (g2.lt b hv).2, fun b hv => ⟨fun o ho hh => (g3 b hv).1 o ho (hV b o (g2.lt b hv).2 hh), (g3 b hv).2⟩⟩
      tinj := hmem.tinj
      sep := hmem.sep
      ext := h.ext.mono (w := w) (fun _ _ x => .inl x) hcell (fun b hF => hb.block b (hmem.flt b hF).1) hmem.ext
      flt := fun b hF => by
        obtain ⟨g1, g2, g3, g4⟩ := hmem.flt b hF
        exact ⟨Nat.lt_of_lt_of_le g1 hb.size, fun o hv => g2 o (hV b o g1 hv), g3, g4⟩ }
    kept := KeptBut.of_below hb
    owned := fun b hb => .inr hb
    vold := fun b o hv => .inl hv
    vcell := hcell
    vnew := fun b o hv => hv.imp id fun h => .inl h.1
    ρold := fun _ _ x => x
    ρnew := fun _ _ x => .inl x
    τold := fun _ _ _ => rfl
    τnew := fun k v hk => .inl (by rw [show env.τ k = some v from hk]; simp)
    tok := fun k t t' h1 h2 => by rw [h1] at h2; injection h2 with h2; subst h2; exact ⟨rfl, Nat.le_refl _, fun _ => rfl⟩ }⟩
end
end Go.Fx

namespace Go.Proofs.YtiomojlcnemnhaaGreatDoor
open Go.Fx Go.RowKit Go.Ped
variable {G : World → Prop}
def Lit.mapT (f : Tm → Tm) (x : Lit) : Lit := ⟨x.kind, x.p, x.l.map f, [], x.rel, x.left.mapT f, x.right.mapT f⟩
def Arg.mapT (f : Tm → Tm) (a : Arg) : Arg := { a with t := f a.t }
def Rule.mapT (f : Tm → Tm) (r : Rule) : Rule := ⟨r.p, r.head.map (Arg.mapT f), [], r.body.map (Lit.mapT f), []⟩
theorem Ex.mapT_bare (f : Tm → Tm) : ∀ e : Ex, e.bare.mapT f = e.mapT f := by
  refine Ex.ind fun op t kids sp ih => ?_
  rw [Ex.bare_mk, Ex.mapT_mk, Ex.mapT_mk, List.map_map]
  congr 1
  exact List.map_congr_left ih
theorem LitM.put_lit (m : List Pr) (x : LitM) : (x.put m).lit = x.lit.mapT (putP m) := by
  unfold LitM.put LitM.lit Lit.mapT
  simp only [Nd.put_ex]
theorem Lit.mapT_bareL (f : Tm → Tm) (x : Lit) : x.bareL.mapT f = x.mapT f := by
  unfold Lit.bareL Lit.mapT
  simp only [Ex.mapT_bare]
theorem RuleM.put_rule (m : List Pr) (r : RuleM) : (r.put m).rule = r.rule.mapT (putP m) := by
  unfold RuleM.put RuleM.rule Rule.mapT
  simp only [List.map_map]
  congr 1
  exact List.map_congr_left fun x _ => LitM.put_lit m x
theorem Rule.mapT_bareR (f : Tm → Tm) (r : Rule) : r.bareR.mapT f = r.mapT f := by
  unfold Rule.bareR Rule.mapT
  simp only [List.map_map]
  congr 1
  exact List.map_congr_left fun x _ => Lit.mapT_bareL f x
theorem Ex.mapT_terms (f : Tm → Tm) : ∀ e : Ex, (e.mapT f).terms = e.terms.map f := by
  refine Ex.ind fun op t kids sp ih => ?_
  rw [Ex.mapT_mk, Ex.terms_mk, Ex.terms_mk, List.map_cons, List.flatMap_map, List.map_flatMap]
  congr 1
  rw [List.flatMap_def, List.flatMap_def, List.map_congr_left ih]
theorem Ex.mapT_small (f : Tm → Tm) {N : Nat} : ∀ e : Ex, e.small N → (e.mapT f).small N := by
  refine Ex.ind fun op t kids sp ih h => ?_
  obtain ⟨h1, h2⟩ := Ex.small_mk.1 h
  rw [Ex.mapT_mk]
  refine Ex.small_mk.2 ⟨by rw [List.length_map]; exact h1, fun k hk => ?_⟩
  obtain ⟨y, hy, rfl⟩ := List.mem_map.1 hk
  exact ih y hy (h2 y hy)
theorem Lit.mapT_terms (f : Tm → Tm) (x : Lit) : (x.mapT f).terms = x.terms.map f := by
  unfold Lit.mapT Lit.terms
  simp only [Ex.mapT_terms, List.map_append]
theorem Rule.mapT_terms (f : Tm → Tm) (r : Rule) : (r.mapT f).terms = r.terms.map f := by
  unfold Rule.mapT Rule.terms
  simp only [List.map_append, List.map_map, List.flatMap_map, List.map_flatMap]
  congr 1
  rw [List.flatMap_def, List.flatMap_def]
  congr 1
  exact List.map_congr_left fun x _ => Lit.mapT_terms f x
theorem Rule.mapT_small (f : Tm → Tm) {N : Nat} {r : Rule} (h : r.small N) : (r.mapT f).small N := by
  obtain ⟨h1, h2, h3⟩ := h
  refine ⟨by simpa [Rule.mapT] using h1, by simpa [Rule.mapT] using h2, fun x hx => ?_⟩
  obtain ⟨y, hy, rfl⟩ := List.mem_map.1 (show x ∈ r.body.map (Lit.mapT f) from hx)
  obtain ⟨a, b, c⟩ := h3 y hy
  exact ⟨by simpa [Lit.mapT] using a, Ex.mapT_small f _ b, Ex.mapT_small f _ c⟩
abbrev zeroRule : List C := [cS (bs []), .sl [] [], .sl [] []]
theorem three_set {W : World} {b : Nat} {ty : TypeId} {x0 x1 x2 : Value} (v0 v1 v2 : Value) (hb : W.heap[b]? = some (.cells [x0, x1, x2].toArray ty (0, 0))) :
    ∃ A1 A2 A3, W.setCell ⟨b, 0, none⟩ v0 = A1 ∧ A1.setCell ⟨b, 1, none⟩ v1 = A2 ∧ A2.setCell ⟨b, 2, none⟩ v2 = A3 ∧
      W.cell? ⟨b, 0, none⟩ = some x0 ∧ W.frozen? ⟨b, 0, none⟩ = false ∧ A1.cell? ⟨b, 1, none⟩ = some x1 ∧ A1.frozen? ⟨b, 1, none⟩ = false ∧ A2.cell? ⟨b, 2, none⟩ = some x2 ∧ A2.frozen? ⟨b, 2, none⟩ = false ∧
      A3.cell? ⟨b, 0, none⟩ = some v0 ∧ A3.cell? ⟨b, 1, none⟩ = some v1 ∧ A3.cell? ⟨b, 2, none⟩ = some v2 ∧
      A3.heap[b]? = some (.cells [v0, v1, v2].toArray ty (0, 0)) ∧ KeptBut (fun c => c = b) W A3 := by
  obtain ⟨h1, c1, f1, k1⟩ := cells_set (W := W) (n := 0) (pre := []) (post := [x1, x2]) (v := v0) rfl hb
  obtain ⟨h2, c2, f2, k2⟩ := cells_set (n := 1) (pre := [v0]) (post := [x2]) (v := v1) rfl h1
  obtain ⟨h3, c3, f3, k3⟩ := cells_set (n := 2) (pre := [v0, v1]) (post := []) (v := v2) rfl h2
  exact ⟨_, _, _, rfl, rfl, rfl, c1, f1, c2, f2, c3, f3, by simp [World.cell?, h3], by simp [World.cell?, h3], by simp [World.cell?, h3], h3, kept_same (kept_same k1 k2) k3⟩
theorem kept_below {N b : Nat} {w w1 w2 : World} (h : Below N w w1) (hN : N ≤ b) (hN2 : N ≤ w1.heap.size) (k : KeptBut (fun c => c = b) w1 w2) : Below N w w2 :=
  ⟨by rw [k.os, h.os], by rw [k.tape, h.tape], by rw [k.output, h.output], Nat.le_trans h.size k.size, fun i hi => by rw [k.block i (by omega) (by omega), h.block i hi]⟩
theorem zero_rule_rep {V : Nat → Nat → Prop} {w : World} (n : Int) : RepCR V w (.tup [.agg zeroRule, .one (cI .i64 n)]) (.tuple #[.agg #[.string ⟨#[]⟩, .slice none 0 0, .slice none 0 0], .int .i64 n]) :=
  ⟨[.agg #[.string ⟨#[]⟩, .slice none 0 0, .slice none 0 0], .int .i64 n], rfl, .cons ⟨[.string ⟨#[]⟩, .slice none 0 0, .slice none 0 0], rfl, .cons (.v _ rfl) (.cons (.nil 0) (.cons (.nil 0) .nil))⟩ (.cons (.v _ rfl) .nil)⟩
def applyR (f : Tm → Tm) (r : Rule) : CR :=
  if ruleOk r = true ∧ ruleOk (r.mapT f) = true then .tup [.agg (r.mapT f).row, .one (cI .i64 0)] else .tup [.agg zeroRule, .one (cI .i64 40)]
set_option maxRecDepth 100000 in
set_option maxHeartbeats 4000000 in
theorem apply_calls (m : List Pr) (r : Rule) (hs : r.small 1048576) (hle : r.terms.length ≤ 2000000) (w : World) (V : Nat → Nat → Prop) (mb : Nat) (v1 v2 : Value) (hG : Held G w) (hV : ∀ b o, V b o → b < w.heap.size) (hm : MapAt w mb m)
    (h1 : RepC V w (.sl (r.head.map Arg.row) r.hsp) v1) (h2 : RepC V w (.sl (r.body.map Lit.row) r.bsp) v2) :
    Calls Tryz.prog 83 #[.map (some mb), .agg #[.string (bs r.p), v1, v2]] w fun e w' => ∃ v, e = .returned v ∧ RepCR (fun b o => V b o ∨ w.heap.size ≤ b) w' (applyR (putP m) r) v ∧ Below w.heap.size w w' := by
  have o1 := h1.oneCell
  have o2 := h2.oneCell
  have k2 : Below w.heap.size w ((w.alloc (.cells #[.string (bs r.p), v1, v2] 29)).alloc (.cells #[.string ⟨#[]⟩, .slice none 0 0, .slice none 0 0] 29)) := Below.alloc (Below.alloc (Below.refl _ _) (Nat.le_refl _) _) (by rw [alloc_size]; omega) _
  have hcheck : ∀ (w1 : World) (u1 u2 : Value) (V1 : Nat → Nat → Prop) (r1 : Rule), r1.small 1048576 → r1.terms.length ≤ 2000000 → Below w.heap.size w w1 → (∀ b o, V1 b o → b < w1.heap.size) → All2 (RepC V1 w1) r1.row [.string (bs r1.p), u1, u2] →
      Calls Tryz.prog 93 #[.agg #[.string (bs r1.p), u1, u2]] w1 fun e w' => e = .returned (.int .i64 (if ruleOk r1 then 0 else 40)) ∧ Below w1.heap.size w1 w' := fun w1 u1 u2 V1 r1 q1 q2 q3 q4 q5 => by
    refine ((m66 (G := G) r1 q1 q2).2 w1 V1 [.agg #[.string (bs r1.p), u1, u2]] (hG.later q3) q4 (.cons ⟨_, rfl, q5⟩ .nil)).mono ?_
    rintro e w' ⟨v, rfl, hv, hb⟩
    refine ⟨?_, hb⟩
    have hv' : RepC _ w' (.v _) v := hv
    cases hv'
    rfl
  go_enter Tryz.func83, Tryz.ntmps83
  go_wp2_with fail
  have hN0 : ((w.alloc (.cells #[.string (bs r.p), v1, v2] 29)).alloc (.cells #[.string ⟨#[]⟩, .slice none 0 0, .slice none 0 0] 29)).heap[w.heap.size]? = some (.cells [.string (bs r.p), v1, v2].toArray 29 (0, 0)) := by
    rw [alloc_heap, if_neg (by rw [alloc_size]; omega), alloc_heap, if_pos rfl]
  have hN1 : ((w.alloc (.cells #[.string (bs r.p), v1, v2] 29)).alloc (.cells #[.string ⟨#[]⟩, .slice none 0 0, .slice none 0 0] 29)).heap[w.heap.size + 1]? = some (.cells [.string ⟨#[]⟩, .slice none 0 0, .slice none 0 0].toArray 29 (0, 0)) := by
    rw [alloc_heap, if_pos (by rw [alloc_size])]
  have hNs : ((w.alloc (.cells #[.string (bs r.p), v1, v2] 29)).alloc (.cells #[.string ⟨#[]⟩, .slice none 0 0, .slice none 0 0] 29)).heap.size = w.heap.size + 2 := by
    rw [alloc_size, alloc_size]
  generalize (w.alloc (.cells #[.string (bs r.p), v1, v2] 29)).alloc (.cells #[.string ⟨#[]⟩, .slice none 0 0, .slice none 0 0] 29) = wa at *
  refine (hcheck wa v1 v2 V r hs hle k2 (fun b o h => by have := hV b o h; omega) (.cons (.v _ rfl) (.cons (RepC.mono (fun _ _ h => h) (fun b o h => below_cell k2 (hV b o h) o) h1) (.cons (RepC.mono (fun _ _ h => h) (fun b o h => below_cell k2 (hV b o h) o) h2) .nil)))).mono ?_
  rintro e wb ⟨rfl, kb⟩
  rw [hNs] at kb
  have kwb : Below w.heap.size w wb := k2.trans (kb.mono (by omega))
  have szb : w.heap.size + 2 ≤ wb.heap.size := by have := kb.size; omega
  have hb0 : wb.heap[w.heap.size]? = some (.cells [.string (bs r.p), v1, v2].toArray 29 (0, 0)) := by rw [kb.block _ (by omega)]; exact hN0
  have hb1 : wb.heap[w.heap.size + 1]? = some (.cells [.string ⟨#[]⟩, .slice none 0 0, .slice none 0 0].toArray 29 (0, 0)) := by rw [kb.block _ (by omega)]; exact hN1
  clear hN0 hN1 hNs kb k2
  by_cases hok : ruleOk r = true
  · rw [if_pos hok]
    have p0 : wb.cell? ⟨w.heap.size, 0, none⟩ = some (.string (bs r.p)) := by simp [World.cell?, hb0]
    have p1 : wb.cell? ⟨w.heap.size, 1, none⟩ = some v1 := by simp [World.cell?, hb0]
    have p2 : wb.cell? ⟨w.heap.size, 2, none⟩ = some v2 := by simp [World.cell?, hb0]
    go_wp2_with fail
    refine (cloneR r hs wb V v1 v2 (fun b o h => by have := hV b o h; omega) (RepC.mono (fun _ _ h => h) (fun b o h => below_cell kwb (hV b o h) o) h1) (RepC.mono (fun _ _ h => h) (fun b o h => below_cell kwb (hV b o h) o) h2)).mono ?_
    rintro e wc ⟨rm, rfl, hrm, hin, hlo, kc⟩
    have szc := kc.size
    obtain ⟨ha, hcp, hhv, _⟩ := ownsRow_len hin.head
    obtain ⟨ba, bcp, hbv, _⟩ := ownsRow_len hin.body
    have hrp : rm.p = r.p := congrArg Rule.p hrm
    have hcellsR : rm.cells.toArray = #[.string (bs r.p), .slice ha rm.hs.length hcp, .slice ba rm.ls.length bcp] := by
      unfold RuleM.cells; rw [hrp, hhv, hbv]
    obtain ⟨A1, A2, A3, e1, e2, e3, c1, f1, c2, f2, c3, f3, c4, c5, c6, hA, kA⟩ := three_set (W := wc) (b := w.heap.size) (ty := 29) (.string (bs r.p)) (.slice ha rm.hs.length hcp) (.slice ba rm.ls.length bcp) ((kc.block _ (by omega)).trans hb0)
    have hkA : Below w.heap.size w A3 := kept_below (kwb.trans (kc.mono (by omega))) (Nat.le_refl _) (by omega) kA
    have hA1 : A3.heap[w.heap.size + 1]? = some (.cells [.string ⟨#[]⟩, .slice none 0 0, .slice none 0 0].toArray 29 (0, 0)) := by rw [kA.block _ (by omega) (by omega), kc.block _ (by omega)]; exact hb1
    rw [hcellsR]
    go_wp2_with fail
    have hinA : rm.In A3 := hin.frame fun b hb => kA.block b (by
        rcases List.mem_append.1 hb with hb | hb
        · exact (ownsRow_block hin.head b (svB_mem.1 hb)).2
        · rcases List.mem_append.1 hb with hb | hb
          · exact (ownsRow_block hin.body b (svB_mem.1 hb)).2
          · obtain ⟨x, hx, hb2⟩ := List.mem_flatMap.1 hb
            exact (hin.lits x hx).lt b hb2) (by have := hlo b hb; omega)
    have hwalk := walkR m mb rm A3 w.heap.size (hm.frame (hkA.block mb hm.lt)) (by have := hm.lt; omega) (fun h => by have := hlo mb h; have := hm.lt; omega) (by rw [hA, hcellsR]) hinA (fun h => by have := hlo _ h; omega)
    refine hwalk.mono ?_
    rintro e wd ⟨rfl, hd0, hind, kd⟩
    have hkd : Below w.heap.size w wd := ⟨by rw [kd.os, hkA.os], by rw [kd.tape, hkA.tape], by rw [kd.output, hkA.output], Nat.le_trans hkA.size kd.size, fun i hi => by rw [kd.block i (by have := hkA.size; omega) fun h => by have := hlo i h; omega, hkA.block i hi]⟩
    have szA := kA.size
    have szd := kd.size
    have hd1 : wd.heap[w.heap.size + 1]? = some (.cells [.string ⟨#[]⟩, .slice none 0 0, .slice none 0 0].toArray 29 (0, 0)) := by rw [kd.block _ (by omega) fun h => by have := hlo _ h; omega]; exact hA1
    rw [hA] at hd0
    have p0' : wd.cell? ⟨w.heap.size, 0, none⟩ = some (.string (bs r.p)) := by simp [World.cell?, hd0]
    have p1' : wd.cell? ⟨w.heap.size, 1, none⟩ = some (.slice ha rm.hs.length hcp) := by simp [World.cell?, hd0]
    have p2' : wd.cell? ⟨w.heap.size, 2, none⟩ = some (.slice ba rm.ls.length bcp) := by simp [World.cell?, hd0]
    go_wp2_with fail
    have hrule : (rm.put m).rule = r.mapT (putP m) := by rw [RuleM.put_rule, hrm, Rule.mapT_bareR]
    have hrepd : All2 (RepC (fun b _ => b ∈ rm.blks) wd) (r.mapT (putP m)).row [.string (bs r.p), .slice ha rm.hs.length hcp, .slice ba rm.ls.length bcp] := by
      have h := RuleM.rep (V := fun b _ => b ∈ rm.blks) hind (fun b hb _ => by rw [RuleM.put_blks] at hb; exact hb)
      rw [hrule] at h
      have hc : (rm.put m).cells = [.string (bs r.p), .slice ha rm.hs.length hcp, .slice ba rm.ls.length bcp] := by
        show [Value.string (bs rm.p), rm.hv, rm.bv] = _
        rw [hrp, hhv, hbv]
      rwa [hc] at h
    have hblt : ∀ b ∈ rm.blks, b < wd.heap.size := fun b hb => by
      have : b < wc.heap.size := by
        rcases List.mem_append.1 hb with hb | hb
        · exact (ownsRow_block hin.head b (svB_mem.1 hb)).2
        · rcases List.mem_append.1 hb with hb | hb
          · exact (ownsRow_block hin.body b (svB_mem.1 hb)).2
          · obtain ⟨x, hx, hb2⟩ := List.mem_flatMap.1 hb
            exact (hin.lits x hx).lt b hb2
      omega
    refine (hcheck wd _ _ (fun b _ => b ∈ rm.blks) (r.mapT (putP m)) (Rule.mapT_small _ hs) (by rw [Rule.mapT_terms, List.length_map]; exact hle) hkd (fun b o h => hblt b h) hrepd).mono ?_
    rintro e we ⟨rfl, ke⟩
    have hke : Below w.heap.size w we := hkd.trans (ke.mono hkd.size)
    have sze := ke.size
    have he1 : we.heap[w.heap.size + 1]? = some (.cells [.string ⟨#[]⟩, .slice none 0 0, .slice none 0 0].toArray 29 (0, 0)) := by rw [ke.block _ (by omega)]; exact hd1
    have he0 : we.heap[w.heap.size]? = some (.cells [.string (bs r.p), .slice ha rm.hs.length hcp, .slice ba rm.ls.length bcp].toArray 29 (0, 0)) := by rw [ke.block _ (by omega)]; exact hd0
    by_cases hok2 : ruleOk (r.mapT (putP m)) = true
    · rw [if_pos hok2]
      have p0'' : we.cell? ⟨w.heap.size, 0, none⟩ = some (.string (bs r.p)) := by simp [World.cell?, he0]
      have p1'' : we.cell? ⟨w.heap.size, 1, none⟩ = some (.slice ha rm.hs.length hcp) := by simp [World.cell?, he0]
      have p2'' : we.cell? ⟨w.heap.size, 2, none⟩ = some (.slice ba rm.ls.length bcp) := by simp [World.cell?, he0]
      obtain ⟨B1, B2, B3, e1, e2, e3, c1, f1, c2, f2, c3, f3, c4, c5, c6, hB, kB⟩ := three_set (.string (bs r.p)) (.slice ha rm.hs.length hcp) (.slice ba rm.ls.length bcp) he1
      have hkB : Below w.heap.size w B3 := kept_below hke (by omega) (by omega) kB
      go_wp2_with fail
      have happ : applyR (putP m) r = .tup [.agg (r.mapT (putP m)).row, .one (cI .i64 0)] := by unfold applyR; rw [if_pos ⟨hok, hok2⟩]
      simp [bodyPost, results, Tryz.results138, go_sem, c4, c5, c6]
      rw [happ]
      refine ⟨⟨[.agg #[.string (bs r.p), .slice ha rm.hs.length hcp, .slice ba rm.ls.length bcp], .int .i64 0], rfl, .cons ⟨_, rfl, hrepd.imp fun c u _ h => RepC.mono (fun b o h => .inr (by have := hlo b h; omega)) (fun b o h => ?_) h⟩ (.cons (.v _ rfl) .nil)⟩, hkB⟩
      have hb := hblt b h
      have hh : B3.heap[b]? = wd.heap[b]? := (kB.block b (by omega) (by have := hlo b h; omega)).trans (ke.block b hb)
      simp only [World.cell?, hh]
    · rw [if_neg hok2]
      obtain ⟨B1, B2, B3, e1, e2, e3, c1, f1, c2, f2, c3, f3, c4, c5, c6, hB, kB⟩ := three_set (.string ⟨#[]⟩) (.slice none 0 0) (.slice none 0 0) he1
      have hkB : Below w.heap.size w B3 := kept_below hke (by omega) (by omega) kB
      go_wp2_with fail
      have happ : applyR (putP m) r = .tup [.agg zeroRule, .one (cI .i64 40)] := by unfold applyR; rw [if_neg fun h => hok2 h.2]
      simp [bodyPost, results, Tryz.results138, go_sem, c4, c5, c6]
      rw [happ]
      exact ⟨zero_rule_rep 40, hkB⟩
  · rw [if_neg hok]
    obtain ⟨B1, B2, B3, e1, e2, e3, c1, f1, c2, f2, c3, f3, c4, c5, c6, hB, kB⟩ := three_set (.string ⟨#[]⟩) (.slice none 0 0) (.slice none 0 0) hb1
    have hkB : Below w.heap.size w B3 := kept_below kwb (by omega) (by omega) kB
    go_wp2_with fail
    have happ : applyR (putP m) r = .tup [.agg zeroRule, .one (cI .i64 40)] := by unfold applyR; rw [if_neg fun h => hok h.1]
    simp [bodyPost, results, Tryz.results138, go_sem, c4, c5, c6]
    rw [happ]
    exact ⟨zero_rule_rep 40, hkB⟩
theorem m138 (m : List Pr) (r : Rule) (hs : r.small 1048576) (hle : r.terms.length ≤ 2000000) : MeetsH Tryz.prog G 83 [.one (.mapr 10008), .agg (r.row.map A.c)] (hp (OP 10008 m) [] F0) (applyR (putP m) r).open (hp (OP 10008 m) [] F0) := by
  refine MeetsH.of_reader (by kernel_rfl) ?_ ?_ ?_
  · intro x hx
    simp only [List.mem_cons, List.not_mem_nil, or_false] at hx
    rcases hx with rfl | rfl
    · trivial
    · exact onlyL_c _
  · intro k b hb rr hrr
    rw [hp_objs0] at hb
    simp only [OP, lookO_cons, lookO_nil] at hb
    split at hb
    · injection hb with hb
      subst hb
      exact onlyN rr hrr
    · cases hb
  · intro w env F vs hG hmem ha
    obtain ⟨v0, vs', rfl, hv0, ha⟩ := ha.head
    obtain ⟨v1, vs'', rfl, hv1, ha⟩ := ha.head
    obtain rfl := ha.nil_left
    obtain ⟨mb, s, hρ, rfl⟩ := (show ∃ b s, env.ρ 10008 = some (b, s) ∧ v0 = .map (some b) from hv0)
    obtain ⟨us, rfl, hus⟩ := hv1
    obtain ⟨b, us', g1, g2, g3, g4, g5⟩ := hmem.objs 10008 ⟨0, 5, m.map nxRow, some (.string, false)⟩ (by rw [hp_objs0]; simp)
    rw [g1] at hρ
    injection hρ with hρ
    injection hρ with e1 e2
    subst e1
    have hm := mapAt_of g2 g3
    have hrow : All2 (RepC env.V w) r.row us := All2.of_map_left (f := A.c) hus
    obtain ⟨u0, us, rfl, q0, hrow⟩ := hrow.head
    obtain ⟨u1, us, rfl, q1, hrow⟩ := hrow.head
    obtain ⟨u2, us, rfl, q2, hrow⟩ := hrow.head
    obtain rfl := hrow.nil_left
    cases q0
    exact apply_calls m r hs hle w env.V b u1 u2 (fun w' hb => hG w' (KeptBut.of_below hb)) hmem.vlt hm q1 q2
end Go.Proofs.YtiomojlcnemnhaaGreatDoor

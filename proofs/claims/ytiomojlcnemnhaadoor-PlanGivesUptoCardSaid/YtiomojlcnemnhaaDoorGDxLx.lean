import Derived.Test.YtiomojlcnemnhaaDoorGDxLd
import Derived.Deep.RegionWith
import Derived.Test.YtiomojlcnemnhaaDoorGDxJ3
import Derived.Test.YtiomojlcnemnhaaDoorGDxLu
namespace Go.Proofs.YtiomojlcnemnhaaDoor
open Go.Fx Go.RowKit Go.Ped
mutual
def Nd.put (m : List Pr) : Nd → Nd
  | .mk op t b c kids => .mk op (putP m t) b c (ndsPut m kids)
def ndsPut (m : List Pr) : List Nd → List Nd
  | [] => []
  | k :: l => k.put m :: ndsPut m l
end
end Go.Proofs.YtiomojlcnemnhaaDoor

namespace Go.Proofs.YtiomojlcnemnhaaDoor
open Go.Fx Go.RowKit Go.Ped
theorem ownsRow_len {w : World} {base : Nat} {e : TypeId} {size : Nat} {v : Value} {n : Nat} {xs : List Value} (h : w.ownsRow base e size v n xs) : ∃ ad cap, v = .slice ad n cap ∧ n ≤ maxLen := by
  obtain ⟨_, ⟨rfl, h0⟩ | ⟨g, cap, cur, rfl, _, _, hn, hm, _⟩⟩ := h
  · exact ⟨_, _, by rw [h0], by rw [h0]; exact Nat.zero_le _⟩
  · exact ⟨_, _, rfl, Nat.le_trans hn hm⟩
def LitM.put (m : List Pr) (x : LitM) : LitM := { x with l := x.l.map (putP m), left := x.left.put m, right := x.right.put m }
def argPut (m : List Pr) (a : Arg) : Arg := { a with t := putP m a.t }
def RuleM.put (m : List Pr) (r : RuleM) : RuleM := { r with hs := r.hs.map (argPut m), ls := r.ls.map (LitM.put m) }
end Go.Proofs.YtiomojlcnemnhaaDoor

namespace Go.Proofs.YtiomojlcnemnhaaDoor
open Go.Fx Go.RowKit Go.Ped
theorem ownsRow_mid {w : World} {base : Nat} {e : TypeId} {size : Nat} {v : Value} {n : Nat} {A mid C : List Value} (hne : mid ≠ []) (h : w.ownsRow base e size v n (A ++ mid ++ C)) :
    ∃ g cap room, v = .slice (some ⟨g, 0, none⟩) n cap ∧ n ≤ cap ∧ cap ≤ maxLen ∧ base ≤ g ∧ g ∈ svB v ∧ w.heap[g]? = some (.cells (A ++ mid ++ (C ++ room)).toArray e (0, 0)) ∧
      ∀ (w' : World) (mid' : List Value), mid'.length = mid.length → w'.heap[g]? = some (.cells (A ++ mid' ++ (C ++ room)).toArray e (0, 0)) → w'.ownsRow base e size v n (A ++ mid' ++ C) := by
  obtain ⟨hl, ⟨_, h0⟩ | ⟨g, cap, cur, rfl, hbase, hcur, hn, hm, hsz, htk⟩⟩ := h
  · rw [h0, Nat.zero_mul] at hl
    simp only [List.length_append] at hl
    exact absurd (List.length_eq_zero_iff.1 (by omega)) hne
  obtain ⟨room, hroom⟩ : ∃ room, cur.toList = A ++ mid ++ (C ++ room) := by
    refine ⟨cur.toList.drop (n * size), ?_⟩
    rw [← List.append_assoc, ← htk, List.take_append_drop]
  refine ⟨g, cap, room, rfl, hn, hm, hbase, svB_mem.2 rfl, by rw [hcur, ← hroom], fun w' mid' hml hw' => ?_⟩
  have hl' : (A ++ mid' ++ C).length = n * size := by
    simp only [List.length_append] at hl ⊢; omega
  have hsz' : (A ++ mid ++ C).length + room.length = cap * size := by
    have h1 : cur.toList.length = cap * size := by rw [Array.length_toList, hsz]
    rw [hroom] at h1
    simp only [List.length_append] at h1 ⊢
    omega
  refine ⟨hl', .inr ⟨g, cap, _, rfl, hbase, hw', hn, hm, ?_, ?_⟩⟩
  · rw [← List.append_assoc]
    simp only [List.size_toArray]
    rw [List.length_append, hl']
    rw [hl] at hsz'
    exact hsz'
  · rw [← List.append_assoc]
    simp only [List.take_left' hl']
theorem six_set {W : World} {b : Nat} {ty : TypeId} {pre post : List Value} {x0 x1 x2 x3 x4 x5 : Value} (v0 v1 v2 v3 v4 v5 : Value) (n : Nat) (hn : n = pre.length) (hb : W.heap[b]? = some (.cells (pre ++ [x0, x1, x2, x3, x4, x5] ++ post).toArray ty (0, 0))) :
    ∃ A1 A2 A3 A4 A5 A6, W.setCell ⟨b, n, none⟩ v0 = A1 ∧ A1.setCell ⟨b, n + 1, none⟩ v1 = A2 ∧ A2.setCell ⟨b, n + 2, none⟩ v2 = A3 ∧ A3.setCell ⟨b, n + 3, none⟩ v3 = A4 ∧ A4.setCell ⟨b, n + 4, none⟩ v4 = A5 ∧ A5.setCell ⟨b, n + 5, none⟩ v5 = A6 ∧
      W.cell? ⟨b, n, none⟩ = some x0 ∧ W.frozen? ⟨b, n, none⟩ = false ∧ A1.cell? ⟨b, n + 1, none⟩ = some x1 ∧ A1.frozen? ⟨b, n + 1, none⟩ = false ∧
      A2.cell? ⟨b, n + 2, none⟩ = some x2 ∧ A2.frozen? ⟨b, n + 2, none⟩ = false ∧ A3.cell? ⟨b, n + 3, none⟩ = some x3 ∧ A3.frozen? ⟨b, n + 3, none⟩ = false ∧
      A4.cell? ⟨b, n + 4, none⟩ = some x4 ∧ A4.frozen? ⟨b, n + 4, none⟩ = false ∧ A5.cell? ⟨b, n + 5, none⟩ = some x5 ∧ A5.frozen? ⟨b, n + 5, none⟩ = false ∧
      A6.heap[b]? = some (.cells (pre ++ [v0, v1, v2, v3, v4, v5] ++ post).toArray ty (0, 0)) ∧ KeptBut (fun c => c = b) W A6 := by
  subst hn
  have hb0 : W.heap[b]? = some (.cells (pre ++ x0 :: (x1 :: x2 :: x3 :: x4 :: x5 :: post)).toArray ty (0, 0)) := by rw [hb, List.append_assoc]; rfl
  obtain ⟨h1, c1, f1, k1⟩ := cells_set (v := v0) rfl hb0
  generalize hA1 : W.setCell ⟨b, pre.length, none⟩ v0 = A1 at *
  have hb1 : A1.heap[b]? = some (.cells ((pre ++ [v0]) ++ x1 :: (x2 :: x3 :: x4 :: x5 :: post)).toArray ty (0, 0)) := by rw [h1]; simp
  obtain ⟨h2, c2, f2, k2⟩ := cells_set (n := pre.length + 1) (v := v1) (by simp) hb1
  generalize hA2 : A1.setCell ⟨b, pre.length + 1, none⟩ v1 = A2 at *
  have hb2 : A2.heap[b]? = some (.cells ((pre ++ [v0, v1]) ++ x2 :: (x3 :: x4 :: x5 :: post)).toArray ty (0, 0)) := by rw [h2]; simp
  obtain ⟨h3, c3, f3, k3⟩ := cells_set (n := pre.length + 2) (v := v2) (by simp) hb2
  generalize hA3 : A2.setCell ⟨b, pre.length + 2, none⟩ v2 = A3 at *
  have hb3 : A3.heap[b]? = some (.cells ((pre ++ [v0, v1, v2]) ++ x3 :: (x4 :: x5 :: post)).toArray ty (0, 0)) := by rw [h3]; simp
  obtain ⟨h4, c4, f4, k4⟩ := cells_set (n := pre.length + 3) (v := v3) (by simp) hb3
  generalize hA4 : A3.setCell ⟨b, pre.length + 3, none⟩ v3 = A4 at *
  have hb4 : A4.heap[b]? = some (.cells ((pre ++ [v0, v1, v2, v3]) ++ x4 :: (x5 :: post)).toArray ty (0, 0)) := by rw [h4]; simp
  obtain ⟨h5, c5, f5, k5⟩ := cells_set (n := pre.length + 4) (v := v4) (by simp) hb4
  generalize hA5 : A4.setCell ⟨b, pre.length + 4, none⟩ v4 = A5 at *
  have hb5 : A5.heap[b]? = some (.cells ((pre ++ [v0, v1, v2, v3, v4]) ++ x5 :: post).toArray ty (0, 0)) := by rw [h5]; simp
  obtain ⟨h6, c6, f6, k6⟩ := cells_set (n := pre.length + 5) (v := v5) (by simp) hb5
  refine ⟨A1, A2, A3, A4, A5, _, rfl, hA2, hA3, hA4, hA5, rfl, c1, f1, c2, f2, c3, f3, c4, f4, c5, f5, c6, f6, ?_, kept_same (kept_same (kept_same (kept_same (kept_same k1 k2) k3) k4) k5) k6⟩
  rw [h6]; simp
theorem twelve_set {W : World} {b : Nat} {ty : TypeId} {pre post : List Value} {x0 x1 x2 x3 x4 x5 y0 y1 y2 y3 y4 y5 : Value} (v0 v1 v2 v3 v4 v5 u0 u1 u2 u3 u4 u5 : Value) (n k : Nat) (hn : n = pre.length) (hk : k = pre.length + 6) (hb : W.heap[b]? = some (.cells (pre ++ [x0, x1, x2, x3, x4, x5] ++ ([y0, y1, y2, y3, y4, y5] ++ post)).toArray ty (0, 0))) :
    ∃ A1 A2 A3 A4 A5 A6 B1 B2 B3 B4 B5 B6, W.setCell ⟨b, n, none⟩ v0 = A1 ∧ A1.setCell ⟨b, n + 1, none⟩ v1 = A2 ∧ A2.setCell ⟨b, n + 2, none⟩ v2 = A3 ∧ A3.setCell ⟨b, n + 3, none⟩ v3 = A4 ∧ A4.setCell ⟨b, n + 4, none⟩ v4 = A5 ∧ A5.setCell ⟨b, n + 5, none⟩ v5 = A6 ∧
      A6.setCell ⟨b, k, none⟩ u0 = B1 ∧ B1.setCell ⟨b, k + 1, none⟩ u1 = B2 ∧ B2.setCell ⟨b, k + 2, none⟩ u2 = B3 ∧ B3.setCell ⟨b, k + 3, none⟩ u3 = B4 ∧ B4.setCell ⟨b, k + 4, none⟩ u4 = B5 ∧ B5.setCell ⟨b, k + 5, none⟩ u5 = B6 ∧
      W.cell? ⟨b, n, none⟩ = some x0 ∧ W.frozen? ⟨b, n, none⟩ = false ∧ A1.cell? ⟨b, n + 1, none⟩ = some x1 ∧ A1.frozen? ⟨b, n + 1, none⟩ = false ∧
      A2.cell? ⟨b, n + 2, none⟩ = some x2 ∧ A2.frozen? ⟨b, n + 2, none⟩ = false ∧ A3.cell? ⟨b, n + 3, none⟩ = some x3 ∧ A3.frozen? ⟨b, n + 3, none⟩ = false ∧
      A4.cell? ⟨b, n + 4, none⟩ = some x4 ∧ A4.frozen? ⟨b, n + 4, none⟩ = false ∧ A5.cell? ⟨b, n + 5, none⟩ = some x5 ∧ A5.frozen? ⟨b, n + 5, none⟩ = false ∧
      A6.cell? ⟨b, k, none⟩ = some y0 ∧ A6.frozen? ⟨b, k, none⟩ = false ∧ B1.cell? ⟨b, k + 1, none⟩ = some y1 ∧ B1.frozen? ⟨b, k + 1, none⟩ = false ∧
      B2.cell? ⟨b, k + 2, none⟩ = some y2 ∧ B2.frozen? ⟨b, k + 2, none⟩ = false ∧ B3.cell? ⟨b, k + 3, none⟩ = some y3 ∧ B3.frozen? ⟨b, k + 3, none⟩ = false ∧
      B4.cell? ⟨b, k + 4, none⟩ = some y4 ∧ B4.frozen? ⟨b, k + 4, none⟩ = false ∧ B5.cell? ⟨b, k + 5, none⟩ = some y5 ∧ B5.frozen? ⟨b, k + 5, none⟩ = false ∧
      B6.heap[b]? = some (.cells (pre ++ [v0, v1, v2, v3, v4, v5] ++ ([u0, u1, u2, u3, u4, u5] ++ post)).toArray ty (0, 0)) ∧ KeptBut (fun c => c = b) W B6 := by
  obtain ⟨A1, A2, A3, A4, A5, A6, a1, a2, a3, a4, a5, a6, c1, c2, c3, c4, c5, c6, c7, c8, c9, c10, c11, c12, h1, k1⟩ := six_set v0 v1 v2 v3 v4 v5 n hn hb
  obtain ⟨B1, B2, B3, B4, B5, B6, b1, b2, b3, b4, b5, b6, d1, d2, d3, d4, d5, d6, d7, d8, d9, d10, d11, d12, h2, k2⟩ := six_set (W := A6) (ty := ty) (x0 := y0) (x1 := y1) (x2 := y2) (x3 := y3) (x4 := y4) (x5 := y5) (pre := pre ++ [v0, v1, v2, v3, v4, v5]) (post := post) u0 u1 u2 u3 u4 u5 k (by simp [hk]) (by rw [h1]; simp)
  exact ⟨A1, A2, A3, A4, A5, A6, B1, B2, B3, B4, B5, B6, a1, a2, a3, a4, a5, a6, b1, b2, b3, b4, b5, b6, c1, c2, c3, c4, c5, c6, c7, c8, c9, c10, c11, c12, d1, d2, d3, d4, d5, d6, d7, d8, d9, d10, d11, d12, by rw [h2]; simp, kept_same k1 k2⟩
def Lit.bareL (x : Lit) : Lit := { x with sp := [], left := x.left.bare, right := x.right.bare }
def Rule.bareR (r : Rule) : Rule := ⟨r.p, r.head, [], r.body.map Lit.bareL, []⟩
theorem below_drew (w : World) : Below w.heap.size w w.drew := ⟨rfl, rfl, rfl, Nat.le_refl _, fun _ _ => rfl⟩
end Go.Proofs.YtiomojlcnemnhaaDoor

namespace Go.Proofs.YtiomojlcnemnhaaDoor
open Go.Fx Go.RowKit Go.Ped
theorem Ex.small_put {N : Nat} (s : List Pr) : ∀ e : Ex, e.small N → (e.put s).small N := by
  refine Ex.ind fun op t kids sp ih h => ?_
  obtain ⟨h1, h2⟩ := Ex.small_mk.1 h
  rw [Ex.put_mk]
  refine Ex.small_mk.2 ⟨by simpa using h1, fun k hk => ?_⟩
  obtain ⟨k', hk', rfl⟩ := List.mem_map.1 hk
  exact ih k' hk' (h2 k' hk')
end Go.Proofs.YtiomojlcnemnhaaDoor

namespace Go.Proofs.YtiomojlcnemnhaaDoor
open Go.Fx Go.RowKit Go.Ped
def pickL (body : List Lit) (first : Int) (m : Nat) (ns : List Name) : Int := if first < 0 ∨ m.testBit first.toNat = false then nextL body ns m else first
def makeOn (body : List Lit) (first : Int) : Nat → Nat → List Name → Option (List Stp)
  | 0, m, _ => if m = 0 then some [] else none
  | f + 1, m, ns =>
    if m = 0 then some [] else
    if pickL body first m ns < 0 then none else
    match body[(pickL body first m ns).toNat]? with
    | none => none
    | some x => (makeOn body first f (clr m (pickL body first m ns).toNat) (learnOn ns (stepOf ns x (pickL body first m ns).toNat).1.gives)).map ((stepOf ns x (pickL body first m ns).toNat).1 :: ·)
theorem makeOn_len {body : List Lit} {first : Int} : ∀ (f m : Nat) (ns : List Name) (l : List Stp), makeOn body first f m ns = some l → l.length ≤ f
  | 0, m, ns, l, h => by
    rw [makeOn] at h
    split at h
    · cases h; exact Nat.le_refl _
    · cases h
  | f + 1, m, ns, l, h => by
    rw [makeOn] at h
    split at h
    · cases h; exact Nat.zero_le _
    · split at h
      · cases h
      · split at h
        · cases h
        · obtain ⟨l', h', rfl⟩ := Option.map_eq_some_iff.1 h
          have := makeOn_len f _ _ l' h'
          rw [List.length_cons]; omega
theorem flatMap_same {α β : Type} {f g : α → List β} : ∀ {l : List α}, (∀ x ∈ l, f x = g x) → l.flatMap f = l.flatMap g
  | [], _ => rfl
  | x :: l, h => by rw [List.flatMap_cons, List.flatMap_cons, h x (List.mem_cons_self ..), flatMap_same fun y hy => h y (List.mem_cons_of_mem _ hy)]
theorem terms_bare : ∀ e : Ex, e.bare.terms = e.terms := by
  refine Ex.ind fun op t kids sp ih => ?_
  rw [Ex.bare_mk, Ex.terms_mk, Ex.terms_mk, List.flatMap_map]
  congr 1
  exact flatMap_same fun k hk => ih k hk
theorem small_bare {N : Nat} (e : Ex) (h : e.small N) : e.bare.small N := Ex.small_put [] e h
theorem bareL_terms (x : Lit) : x.bareL.terms = x.terms := by
  unfold Lit.terms Lit.bareL
  simp only [terms_bare]
theorem bareL_small {N : Nat} {x : Lit} (h : x.small N) : x.bareL.small N := ⟨h.1, small_bare _ h.2.1, small_bare _ h.2.2⟩
theorem isLone_bare (e o : Ex) (v : Name) : isLone e.bare o.bare v = isLone e o v := by
  unfold isLone
  have h1 : e.bare.op = e.op := by cases e; rw [Ex.bare_mk]; rfl
  have h2 : e.bare.t = e.t := by cases e; rw [Ex.bare_mk]; rfl
  rw [h1, h2, terms_bare]
theorem openOf_bare (ns : List Name) (x : Lit) : openOf ns x.bareL = openOf ns x := by
  show unk ns (tmVars x.bareL.terms) = _
  rw [bareL_terms]
theorem stepOf_bare (ns : List Name) (x : Lit) (i : Nat) : stepOf ns x.bareL i = stepOf ns x i := by
  unfold stepOf
  rw [openOf_bare]
  simp only [show x.bareL.kind = x.kind from rfl, show x.bareL.l = x.l from rfl, show x.bareL.rel = x.rel from rfl, show x.bareL.left = x.left.bare from rfl, show x.bareL.right = x.right.bare from rfl, isLone_bare]
theorem runOn_bare (body : List Lit) (ns : List Name) : ∀ (l : List Nat) (pos : Int), runOn (body.map Lit.bareL) ns l pos = runOn body ns l pos
  | [], pos => rfl
  | i :: l, pos => by
    rw [runOn, runOn, List.getElem?_map]
    cases body[i]? with
    | none => rfl
    | some x =>
      simp only [Option.map_some, stepOf_bare, show x.bareL.kind = x.kind from rfl]
      split
      · exact runOn_bare body ns l _
      · split
        · rfl
        · exact runOn_bare body ns l _
theorem nextL_bare (body : List Lit) (ns : List Name) (m : Nat) : nextL (body.map Lit.bareL) ns m = nextL body ns m := by
  unfold nextL
  rw [runOn_bare]
theorem bareR_fit {r : Rule} (hs : r.small 1048576) (hle : r.terms.length ≤ 1048576) (hok : ruleOk r = true) : BodyFit (r.body.map Lit.bareL) := fun x hx => by
  obtain ⟨y, hy, rfl⟩ := List.mem_map.1 hx
  refine ⟨bareL_small (hs.2.2 y hy), ?_, show y.l.length ≤ 24 from lit_args ((rule_body24 hok).2 y hy)⟩
  rw [bareL_terms]
  exact Nat.le_trans (lit_terms_le hy) hle
end Go.Proofs.YtiomojlcnemnhaaDoor

namespace Go.Proofs
def Tryd.lays219_ren : Go.Shelf.Ren := ⟨fun | 41 => 219 | n => n, fun | 22 => 45 | 23 => 47 | 4 => 4 | n => n, fun | n => n⟩
theorem Tryd.lays219 : Go.Proofs.SlLaysE0.n41 Tryd.prog Tryd.lays219_ren := {
  mixed := by kernel_rfl
  f41 := ⟨Tryd.f219.name, by decide, Tryd.func219.trans (congrArg some (by kernel_rfl))⟩
  t4 := Tryd.underlying4
  a4 := Tryd.isAgg4
  z4 := Tryd.sizeOf4
  v4 := Tryd.zeroValue4
  t22 := Tryd.underlying45
  a22 := Tryd.isAgg45
  z22 := Tryd.sizeOf45
  v22 := Tryd.zeroValue45 }
end Go.Proofs
namespace Go.Proofs.YtiomojlcnemnhaaDoor
open Go.Fx Go.RowKit Go.Ped
theorem clone219 (l : List Ex) (sp : Sp) (hl : l.length ≤ 1048576) {V : Nat → Nat → Prop} {w : World} {v : Value} (hv : RepC V w (.sl (l.map Ex.row) sp) v) :
    Calls Tryd.prog 219 #[v] w fun e w' => ∃ v' xs, e = .returned v' ∧ w'.ownsRow w.heap.size 47 6 v' l.length xs ∧ All2 (RepC V w) (l.map Ex.row).flatten xs ∧ Below w.heap.size w w' := by
  obtain ⟨i0, z, hi, hz0, hz1, hz2, hzs⟩ := info_of 47 6 80 (by kernel_rfl) (by kernel_rfl) (by kernel_rfl)
  have h := clone_any Tryd.lays219 i0 z 6 80 hi hz0 hz1 hz2 hzs (by decide) (fun w => Tryd.sizeOf47 w) (l.map Ex.row) sp (fun r hr => by obtain ⟨t, _, rfl⟩ := List.mem_map.1 hr; exact Ex.row_length _) (by rw [List.length_map]; omega) hv
  rw [List.length_map] at h
  exact h
def NewV (N : Nat) (v : Value) (w : World) : Nat → Nat → Prop := fun b _ => N ≤ b ∧ b ∉ svB v ∧ b < w.heap.size
structure OwnAt (X0 X1 : Obj) (kids : List Ex) (xs : List Value) (kv : Value) (w0 w : World) (N i : Nat) (ys : List Value) : Prop where
  le : i ≤ kids.length
  n0 : w.heap[N]? = some X0
  n1 : w.heap[N + 1]? = some X1
  row : w.ownsRow (N + 2) 47 6 kv kids.length (ys ++ xs.drop (i * 6))
  rep : All2 (RepC (NewV (N + 2) kv w) w) ((kids.take i).map fun k => k.bare.row).flatten ys
  below : Below N w0 w
theorem OwnAt.len {X0 X1 : Obj} {kids : List Ex} {xs : List Value} {kv : Value} {w0 w : World} {N i : Nat} {ys : List Value} (h : OwnAt X0 X1 kids xs kv w0 w N i ys) : ys.length = i * 6 := by
  rw [← h.rep.1, length_flatten (s := 6) _ (fun q hq => by obtain ⟨y, _, rfl⟩ := List.mem_map.1 hq; exact Ex.row_length _), List.length_map, List.length_take, Nat.min_eq_left h.le]
theorem own_step {X0 X1 : Obj} {kids : List Ex} {xs : List Value} {kv : Value} {w0 wr w4 w5 : World} {N i : Nat} {ys us : List Value} {g : Nat} (h : OwnAt X0 X1 kids xs kv w0 wr N i ys) (hlt : i < kids.length) (hg : g ∈ svB kv) (hg2 : ∀ c ∈ svB kv, c = g)
    (h4 : Below wr.heap.size wr w4) (hu : All2 (RepC (fun b _ => wr.heap.size ≤ b ∧ b < w4.heap.size) w4) kids[i].bare.row us) (h5 : KeptBut (fun c => c = g) w4 w5) (hrow : w5.ownsRow (N + 2) 47 6 kv kids.length (ys ++ us ++ xs.drop ((i + 1) * 6))) : OwnAt X0 X1 kids xs kv w0 w5 N (i + 1) (ys ++ us) := by
  have hgb : N + 2 ≤ g ∧ g < wr.heap.size := ownsRow_block h.row g (svB_mem.1 hg)
  have s4 := h4.size
  have s5 := h5.size
  have hk : ∀ b, b < wr.heap.size → b ≠ g → w5.heap[b]? = wr.heap[b]? := fun b hb hne => by rw [h5.block b (by omega) hne, h4.block b hb]
  refine ⟨hlt, ?_, ?_, hrow, ?_, ?_⟩
  · rw [hk N (by omega) (by omega)]; exact h.n0
  · rw [hk (N + 1) (by omega) (by omega)]; exact h.n1
  · rw [List.take_succ_eq_append_getElem hlt, List.map_append, List.flatten_append]
    refine All2.append (h.rep.imp fun c u _ hc => RepC.mono (fun b o hb => ⟨hb.1, hb.2.1, by have := hb.2.2; omega⟩) (fun b o hb => ?_) hc) ?_
    · simp only [World.cell?, hk b hb.2.2 (fun e => hb.2.1 (e ▸ hg))]
    · rw [List.map_singleton, List.flatten_singleton]
      refine hu.imp fun c u _ hc => RepC.mono (fun b o hb => ⟨by omega, fun hm => ?_, by omega⟩) (fun b o hb => ?_) hc
      · simp only [World.cell?, h5.block b hb.2 (by omega)]
      · have := hg2 b hm; omega
  · exact ⟨by rw [h5.os, h4.os, h.below.os], by rw [h5.tape, h4.tape, h.below.tape], by rw [h5.output, h4.output, h.below.output], by have := h.below.size; omega, fun b hb => by rw [hk b (by omega) (by omega), h.below.block b hb]⟩
theorem svB_sl {ad : Option Addr} {n c g : Nat} (h : g ∈ svB (.slice ad n c)) : ∀ b ∈ svB (.slice ad n c), b = g := by
  intro b hb
  have h1 := svB_mem.1 h
  have h2 := svB_mem.1 hb
  rw [h1] at h2
  exact (Option.some.inj h2).symm
theorem ex_cells_of {V : Nat → Nat → Prop} {w : World} {e : Ex} {us : List Value} (h : All2 (RepC V w) e.row us) : ∃ v, us = exCells e v ∧ KidsRep V w e v := by
  rw [Ex.row_eq] at h
  obtain ⟨_, _, rfl, b1, h⟩ := h.head
  obtain ⟨_, _, rfl, b2, h⟩ := h.head
  obtain ⟨_, _, rfl, b3, h⟩ := h.head
  obtain ⟨_, _, rfl, b4, h⟩ := h.head
  obtain ⟨_, _, rfl, b5, h⟩ := h.head
  obtain ⟨v, _, rfl, b6, h⟩ := h.head
  obtain rfl := h.nil_left
  cases b1; cases b2; cases b3; cases b4; cases b5
  exact ⟨v, rfl, b6⟩
theorem ex_cells_rep {V : Nat → Nat → Prop} {w : World} {e : Ex} {v : Value} (h : KidsRep V w e v) : All2 (RepC V w) e.row (exCells e v) := by
  rw [Ex.row_eq]
  exact .cons (.v _ rfl) (.cons (.v _ rfl) (.cons (.v _ rfl) (.cons (.v _ rfl) (.cons (.v _ rfl) (.cons h .nil)))))
theorem bare_op (e : Ex) : e.bare.op = e.op := by cases e; rw [Ex.bare_mk]; rfl
theorem bare_t (e : Ex) : e.bare.t = e.t := by cases e; rw [Ex.bare_mk]; rfl
theorem bare_kids (e : Ex) : e.bare.kids = e.kids.map Ex.bare := by cases e; rw [Ex.bare_mk]; rfl
theorem bare_sp (e : Ex) : e.bare.sp = [] := by cases e; rw [Ex.bare_mk]; rfl
theorem exCells_bare (e : Ex) (v : Value) : exCells e.bare v = exCells e v := by unfold exCells; rw [bare_op, bare_t]
def OwnAns (w : World) (e : Ex) (r : Ending) (w' : World) : Prop := ∃ ad k c, r = .returned (.agg #[.int .i8 e.op, .string (bs e.t.v), .int .i8 e.t.x.k, .int .i64 e.t.x.n, .string (bs e.t.x.s), .slice ad k c]) ∧ KidsRep (fun b _ => w.heap.size ≤ b ∧ b < w'.heap.size) w' e.bare (.slice ad k c) ∧ Below w.heap.size w w'
set_option maxRecDepth 100000 in
set_option maxHeartbeats 4000000 in
theorem own_calls : ∀ (e : Ex), e.small 1048576 → ∀ (w : World) (V : Nat → Nat → Prop) (ad : Option Addr) (k c : Nat), (∀ b o, V b o → b < w.heap.size) → KidsRep V w e (.slice ad k c) →
    Calls Tryd.prog 198 #[.agg #[.int .i8 e.op, .string (bs e.t.v), .int .i8 e.t.x.k, .int .i64 e.t.x.n, .string (bs e.t.x.s), .slice ad k c]] w (OwnAns w e) := by
  refine Ex.ind fun op t kids sp ih hsm w V ad k cap hV hrep => ?_
  obtain ⟨hkl, hks⟩ := Ex.small_mk.1 hsm
  obtain rfl : k = kids.length := by
    obtain ⟨_, _, he⟩ := kids_slice hrep
    injection he
  have o1 : (Value.slice ad kids.length cap).oneCell' = true := rfl
  have k2 : Below w.heap.size w ((w.alloc (.cells #[.int .i8 op, .string (bs t.v), .int .i8 t.x.k, .int .i64 t.x.n, .string (bs t.x.s), .slice ad kids.length cap] 47)).alloc (.cells #[Value.int IntKind.i8 0, Value.string { data := #[] }, Value.int IntKind.i8 0, Value.int IntKind.i64 0, Value.string { data := #[] }, Value.slice none 0 0] 47)) := Below.alloc (Below.alloc (Below.refl _ _) (Nat.le_refl _) _) (by rw [alloc_size]; omega) _
  show Calls Tryd.prog 198 #[.agg #[.int .i8 op, .string (bs t.v), .int .i8 t.x.k, .int .i64 t.x.n, .string (bs t.x.s), .slice ad kids.length cap]] w _
  go_enter Tryd.func198, Tryd.ntmps198
  go_wp2_with fail
  have hN0 : ((w.alloc (.cells #[.int .i8 op, .string (bs t.v), .int .i8 t.x.k, .int .i64 t.x.n, .string (bs t.x.s), .slice ad kids.length cap] 47)).alloc (.cells #[Value.int IntKind.i8 0, Value.string { data := #[] }, Value.int IntKind.i8 0, Value.int IntKind.i64 0, Value.string { data := #[] }, Value.slice none 0 0] 47)).heap[w.heap.size]? = some (.cells #[.int .i8 op, .string (bs t.v), .int .i8 t.x.k, .int .i64 t.x.n, .string (bs t.x.s), .slice ad kids.length cap] 47 (0, 0)) := by
    rw [alloc_heap, if_neg (by rw [alloc_size]; omega), alloc_heap, if_pos rfl]
  have hN1 : ((w.alloc (.cells #[.int .i8 op, .string (bs t.v), .int .i8 t.x.k, .int .i64 t.x.n, .string (bs t.x.s), .slice ad kids.length cap] 47)).alloc (.cells #[Value.int IntKind.i8 0, Value.string { data := #[] }, Value.int IntKind.i8 0, Value.int IntKind.i64 0, Value.string { data := #[] }, Value.slice none 0 0] 47)).heap[w.heap.size + 1]? = some (.cells #[Value.int IntKind.i8 0, Value.string { data := #[] }, Value.int IntKind.i8 0, Value.int IntKind.i64 0, Value.string { data := #[] }, Value.slice none 0 0] 47 (0, 0)) := by
    rw [alloc_heap, if_pos (by rw [alloc_size])]
  have hNs : ((w.alloc (.cells #[.int .i8 op, .string (bs t.v), .int .i8 t.x.k, .int .i64 t.x.n, .string (bs t.x.s), .slice ad kids.length cap] 47)).alloc (.cells #[Value.int IntKind.i8 0, Value.string { data := #[] }, Value.int IntKind.i8 0, Value.int IntKind.i64 0, Value.string { data := #[] }, Value.slice none 0 0] 47)).heap.size = w.heap.size + 2 := by
    rw [alloc_size, alloc_size]
  generalize (w.alloc (.cells #[.int .i8 op, .string (bs t.v), .int .i8 t.x.k, .int .i64 t.x.n, .string (bs t.x.s), .slice ad kids.length cap] 47)).alloc (.cells #[Value.int IntKind.i8 0, Value.string { data := #[] }, Value.int IntKind.i8 0, Value.int IntKind.i64 0, Value.string { data := #[] }, Value.slice none 0 0] 47) = wa at *
  have hrep' : RepC V w (.sl (kids.map Ex.row) sp) (.slice ad kids.length cap) := hrep
  refine (clone219 kids sp hkl (RepC.mono (fun _ _ h => h) (fun b o h => below_cell k2 (hV b o h) o) hrep')).mono ?_
  rintro e wb ⟨kv, xs, rfl, hrow, hxs, kb⟩
  rw [hNs] at hrow kb
  obtain ⟨kva, kvc, rfl, _⟩ := ownsRow_len hrow
  have hbN : wb.heap[w.heap.size]? = some (.cells ([Value.int .i8 op, .string (bs t.v), .int .i8 t.x.k, .int .i64 t.x.n, .string (bs t.x.s)] ++ Value.slice ad kids.length cap :: []).toArray 47 (0, 0)) := by rw [kb.block _ (by omega), hN0]; rfl
  obtain ⟨g1, g2, g3, g4⟩ := cells_set (n := 5) (v := .slice kva kids.length kvc) rfl hbN
  obtain ⟨wd, hWd⟩ : ∃ x, wb.setCell ⟨w.heap.size, 5, none⟩ (.slice kva kids.length kvc) = x := ⟨_, rfl⟩
  rw [hWd] at g1 g4
  have hc5 : ∀ w' : World, w'.heap[w.heap.size]? = wd.heap[w.heap.size]? → w'.cell? ⟨w.heap.size, 5, none⟩ = some (.slice kva kids.length kvc) := fun w' h => by simp [World.cell?, h, g1]
  have hc5d := hc5 wd rfl
  have hxs0 : All2 (RepC V w) (kids.map Ex.row).flatten xs := hxs.imp fun c u _ h => RepC.mono (fun _ _ h => h) (fun b o h => (below_cell k2 (hV b o h) o).symm) h
  have hoffd : ∀ i, i < wb.heap.size → i ≠ w.heap.size → wd.heap[i]? = wb.heap[i]? := fun i hi hne => g4.block i hi hne
  obtain ⟨X0, hX0⟩ : ∃ X, Obj.cells ([Value.int .i8 op, .string (bs t.v), .int .i8 t.x.k, .int .i64 t.x.n, .string (bs t.x.s)] ++ Value.slice kva kids.length kvc :: []).toArray 47 (0, 0) = X := ⟨_, rfl⟩
  rw [hX0] at g1
  obtain ⟨X1, hX1⟩ : ∃ X, Obj.cells #[Value.int IntKind.i8 0, Value.string { data := #[] }, Value.int IntKind.i8 0, Value.int IntKind.i64 0, Value.string { data := #[] }, Value.slice none 0 0] 47 (0, 0) = X := ⟨_, rfl⟩
  rw [hX1] at hN1
  have hrel0 : OwnAt X0 X1 kids xs (.slice kva kids.length kvc) w wd w.heap.size 0 [] := by
    refine ⟨Nat.zero_le _, g1, ?_, ?_, .nil, ?_⟩
    · rw [hoffd _ (by have := kb.size; omega) (by omega), kb.block _ (by omega), hN1]
    · simp only [List.nil_append, Nat.zero_mul, List.drop_zero]
      exact ownsRow_frame' hrow (by omega) fun g hg => by
        have := ownsRow_block hrow g (svB_mem.1 hg)
        exact hoffd g this.2 (by omega)
    · exact ⟨by rw [g4.os, kb.os, k2.os], by rw [g4.tape, kb.tape, k2.tape], by rw [g4.output, kb.output, k2.output], by have := kb.size; have := g4.size; omega, fun i hi => by rw [hoffd i (by have := kb.size; omega) (by omega), kb.block i (by omega), k2.block i hi]⟩
  go_wp2_with fail
  clear hWd g2 g3 g4 hbN hrow kb hxs hN0 k2 hrep hrep'
  go_loopw [11] (fun n w' => ∃ (i : Nat) (ys : List Value), n = .int .i64 (i : Int) ∧ OwnAt X0 X1 kids xs (.slice kva kids.length kvc) w w' w.heap.size i ys) (fun n _ => match n with | .int _ k => kids.length - k.toNat | _ => 0)
  case atStart => exact ⟨0, [], rfl, hrel0⟩
  case round =>
    obtain ⟨i, ys, rfl, hrel⟩ := hrel
    have hc5r := hc5 wr (by rw [hrel.n0, g1])
    by_cases hlt : i < kids.length
    · have hlt' : (i : Int) < (kids.length : Int) := by omega
      have hsp : (kids.map Ex.row).flatten = ((kids.take i).map Ex.row).flatten ++ (kids[i].row ++ ((kids.drop (i + 1)).map Ex.row).flatten) := by
        conv => lhs; rw [← List.take_append_drop i kids, List.drop_eq_getElem_cons hlt, List.map_append, List.map_cons, List.flatten_append, List.flatten_cons]
      obtain ⟨m3, vk, hdrop, hdrop2, hrk⟩ : ∃ m3 vk, xs.drop (i * 6) = exCells kids[i] vk ++ m3 ∧ xs.drop ((i + 1) * 6) = m3 ∧ KidsRep V w kids[i] vk := by
        rw [hsp] at hxs0
        obtain ⟨m1, m23, rfl, a1, a2⟩ := all2_split hxs0
        obtain ⟨m2, m3, rfl, a3, _⟩ := all2_split a2
        have hl1 : m1.length = i * 6 := by
          rw [← a1.1, length_flatten (s := 6) _ (fun q hq => by obtain ⟨y, _, rfl⟩ := List.mem_map.1 hq; exact Ex.row_length _), List.length_map, List.length_take, Nat.min_eq_left (Nat.le_of_lt hlt)]
        have hl2 : m2.length = 6 := by rw [← a3.1, Ex.row_length]
        obtain ⟨vk, rfl, b1⟩ := ex_cells_of a3
        refine ⟨m3, vk, ?_, ?_, b1⟩
        · rw [List.drop_left' hl1]
        · rw [Nat.add_mul, Nat.one_mul, ← List.append_assoc, List.drop_left' (by rw [List.length_append, hl1, hl2])]
      have hkm : kids[i] ∈ kids := List.getElem_mem hlt
      have hks' := hks _ hkm
      have ihk := ih _ hkm hks'
      generalize hx : kids[i] = x at *
      obtain ⟨vad, vk1, vcp, rfl⟩ : ∃ a k c, vk = .slice a k c := by obtain ⟨a, c, h⟩ := kids_slice hrk; exact ⟨a, _, c, h⟩
      have hylen := hrel.len
      have hrow := hrel.row
      rw [hdrop, ← List.append_assoc] at hrow
      obtain ⟨g, cp, room, hkv, hcap1, hcap2, hg1, hg2, hgw, hback⟩ := ownsRow_mid (by simp [exCells]) hrow
      injection hkv with e1 e2 e3
      subst e1 e3
      have hglt : g < wr.heap.size := (Array.getElem?_eq_some_iff.1 hgw).1
      have hgx : wr.heap[g]? = some (.cells (ys ++ [Value.int .i8 x.op, .string (bs x.t.v), .int .i8 x.t.x.k, .int .i64 x.t.x.n, .string (bs x.t.x.s), .slice vad vk1 vcp] ++ (m3 ++ room)).toArray 47 (0, 0)) := by
        rw [hgw]; rfl
      have hcells : ∀ w', Below wr.heap.size wr w' → w'.cell? ⟨w.heap.size, 5, none⟩ = some (.slice (some ⟨g, 0, none⟩) kids.length kvc) ∧
          w'.cell? ⟨g, i * 6, none⟩ = some (.int .i8 x.op) ∧ w'.cell? ⟨g, i * 6 + 1, none⟩ = some (.string (bs x.t.v)) ∧ w'.cell? ⟨g, i * 6 + 2, none⟩ = some (.int .i8 x.t.x.k) ∧ w'.cell? ⟨g, i * 6 + 3, none⟩ = some (.int .i64 x.t.x.n) ∧ w'.cell? ⟨g, i * 6 + 4, none⟩ = some (.string (bs x.t.x.s)) ∧ w'.cell? ⟨g, i * 6 + 5, none⟩ = some (.slice vad vk1 vcp) := fun w' hw' => by
        have hg' : w'.heap[g]? = wr.heap[g]? := hw'.block g hglt
        have hN' : w'.heap[w.heap.size]? = wd.heap[w.heap.size]? := by rw [hw'.block _ (Array.getElem?_eq_some_iff.1 hrel.n0).1, hrel.n0, g1]
        refine ⟨hc5 w' hN', ?_, ?_, ?_, ?_, ?_, ?_⟩ <;> simp [World.cell?, hg', hgx, List.getElem?_append_right, hylen] <;> rfl
      have hVr : ∀ b o, V b o → ∀ w', Below wr.heap.size wr w' → b < w'.heap.size := fun b o h w' hw' => by have := hV b o h; have := hrel.below.size; have := hw'.size; omega
      have hcall := fun (w' : World) (hw' : Below wr.heap.size wr w') => ihk w' V vad vk1 vcp (fun b o h => hVr b o h w' hw') (RepC.mono (fun _ _ h => h) (fun b o h => by
        have hb := hV b o h
        have := hrel.below.size
        rw [below_cell hw' (show b < wr.heap.size by omega) o, below_cell hrel.below hb o]) hrk)
      have hset := fun (w4 : World) (h4 : Below wr.heap.size wr w4) (a0 a1 a2 a3 a4 a5 : Value) => six_set (W := w4) a0 a1 a2 a3 a4 a5 (i * 6) hylen.symm ((h4.block g hglt).trans hgx)
      obtain ⟨p5, q0, q1, q2, q3, q4, q5⟩ := hcells wr.drew (below_drew wr)
      go_wp2_with fail
      go_region_with (first
        | (go_at_call_of 198 (Value.int IntKind.i8 x.op); refine (hcall _ ?_).mono ?_; exact below_drew wr; rintro e w4 ⟨nad, nk, nc, rfl, hrk4, hb4⟩; have hB4 : Below wr.heap.size wr w4 := (below_drew wr).trans (hb4.mono (Nat.le_refl _)); obtain ⟨p5, q0, q1, q2, q3, q4, q5⟩ := hcells w4 hB4;
            obtain ⟨A1, A2, A3, A4, A5, A6, a1, a2, a3, a4, a5, a6, c1, c2, c3, c4, c5, c6, c7, c8, c9, c10, c11, c12, hfin, hkfin⟩ := hset w4 hB4 (.int .i8 x.op) (.string (bs x.t.v)) (.int .i8 x.t.x.k) (.int .i64 x.t.x.n) (.string (bs x.t.x.s)) (.slice nad nk nc)))
      all_goals
        go_wp2_with fail
        have hstep := own_step (w4 := w4) (us := [.int .i8 x.op, .string (bs x.t.v), .int .i8 x.t.x.k, .int .i64 x.t.x.n, .string (bs x.t.x.s), .slice nad nk nc]) hrel hlt hg2 (svB_sl hg2) hB4 (by rw [hx]; have := ex_cells_rep hrk4; rw [exCells_bare] at this; exact this) hkfin (by rw [hdrop2]; refine hback _ _ rfl ?_; rw [hfin])
        refine ⟨⟨_, _, ?_, hstep⟩, ?_⟩
        · exact congrArg (Value.int .i64) (by omega)
        · show kids.length - ((i : Int) + 1).toNat < kids.length - (i : Int).toNat
          omega
    · obtain rfl : i = kids.length := by have := hrel.le; omega
      have hgt : ¬ (kids.length : Int) < (kids.length : Int) := by omega
      have hn0 := hrel.n0
      have hn1 := hrel.n1
      rw [← hX0] at hn0
      rw [← hX1] at hn1
      have q0 : wr.cell? ⟨w.heap.size, 0, none⟩ = some (.int .i8 op) := by simp [World.cell?, hn0]
      have q1 : wr.cell? ⟨w.heap.size, 1, none⟩ = some (.string (bs t.v)) := by simp [World.cell?, hn0]
      have q2 : wr.cell? ⟨w.heap.size, 2, none⟩ = some (.int .i8 t.x.k) := by simp [World.cell?, hn0]
      have q3 : wr.cell? ⟨w.heap.size, 3, none⟩ = some (.int .i64 t.x.n) := by simp [World.cell?, hn0]
      have q4 : wr.cell? ⟨w.heap.size, 4, none⟩ = some (.string (bs t.x.s)) := by simp [World.cell?, hn0]
      have q5 : wr.cell? ⟨w.heap.size, 5, none⟩ = some (.slice kva kids.length kvc) := by simp [World.cell?, hn0]
      obtain ⟨A1, A2, A3, A4, A5, A6, a1, a2, a3, a4, a5, a6, c1, c2, c3, c4, c5, c6, c7, c8, c9, c10, c11, c12, hfin, hkfin⟩ := six_set (W := wr) (ty := 47) (pre := []) (post := []) (.int .i8 op) (.string (bs t.v)) (.int .i8 t.x.k) (.int .i64 t.x.n) (.string (bs t.x.s)) (.slice kva kids.length kvc) 0 rfl hn1
      simp only [Nat.zero_add] at a2 a3 a4 a5 a6 c3 c4 c5 c6 c7 c8 c9 c10 c11 c12
      have r0 : A6.cell? ⟨w.heap.size + 1, 0, none⟩ = some (.int .i8 op) := by simp [World.cell?, hfin]
      have r1 : A6.cell? ⟨w.heap.size + 1, 1, none⟩ = some (.string (bs t.v)) := by simp [World.cell?, hfin]
      have r2 : A6.cell? ⟨w.heap.size + 1, 2, none⟩ = some (.int .i8 t.x.k) := by simp [World.cell?, hfin]
      have r3 : A6.cell? ⟨w.heap.size + 1, 3, none⟩ = some (.int .i64 t.x.n) := by simp [World.cell?, hfin]
      have r4 : A6.cell? ⟨w.heap.size + 1, 4, none⟩ = some (.string (bs t.x.s)) := by simp [World.cell?, hfin]
      have r5 : A6.cell? ⟨w.heap.size + 1, 5, none⟩ = some (.slice kva kids.length kvc) := by simp [World.cell?, hfin]
      go_wp2_with fail
      simp [bodyPost, results, Tryd.results198, r0, r1, r2, r3, r4, r5, go_sem]
      have hxl : xs.length = kids.length * 6 := by rw [← hxs0.1, length_flatten (s := 6) _ (fun q hq => by obtain ⟨y, _, rfl⟩ := List.mem_map.1 hq; exact Ex.row_length _), List.length_map]
      have hrow := hrel.row
      rw [← hxl, List.drop_length, List.append_nil] at hrow
      have hrep := hrel.rep
      rw [List.take_length] at hrep
      have hsz := hkfin.size
      refine ⟨kva, kids.length, kvc, rfl, ?_, ⟨by rw [hkfin.os, hrel.below.os], by rw [hkfin.tape, hrel.below.tape], by rw [hkfin.output, hrel.below.output], Nat.le_trans hrel.below.size hkfin.size, fun i hi => by rw [hkfin.block i (by have := hrel.below.size; omega) (by omega), hrel.below.block i hi]⟩⟩
      show RepC _ A6 (.sl ((Ex.mk op t kids sp).bare.kids.map Ex.row) (Ex.mk op t kids sp).bare.sp) _
      rw [bare_kids, bare_sp, List.map_map]
      have hlen : (kids.map (Ex.row ∘ Ex.bare)).length = kids.length := List.length_map ..
      refine ownsRow_rep (rows := kids.map (Ex.row ∘ Ex.bare)) (by rw [hlen]; exact ownsRow_frame' hrow (Nat.le_refl _) fun g hg => hkfin.block g (ownsRow_block hrow g (svB_mem.1 hg)).2 (by have := (ownsRow_block hrow g (svB_mem.1 hg)).1; omega)) (fun r hr => by obtain ⟨y, _, rfl⟩ := List.mem_map.1 hr; exact Ex.row_length _) ?_ (fun b hb o => ?_)
      · refine All2.imp hrep fun c u _ hc => RepC.mono (fun b o hb => ⟨by have := hb.1; omega, by have := hb.2.2; omega⟩) (fun b o hb => ?_) hc
        simp only [World.cell?, hkfin.block b hb.2.2 (by have := hb.1; omega)]
      · have := ownsRow_block hrow b hb
        exact ⟨by omega, by omega⟩
end Go.Proofs.YtiomojlcnemnhaaDoor

import Derived.Test.YtckhkfchgcdajaaGreatDoorYFxWk
import Derived.Maps.AppendAt
import Derived.WalkSpells
import Derived.Deep.WholeRow
import Derived.Deep.MidRow
import Derived.Lib.Hide
namespace Go.Fx
open Go.RowKit
theorem run_append_apart {P : Program} (w : World) (t ty e : TypeId) (i : TypeInfo) (z : Value) (size bytes : Nat) (ht : P.underlying t = some (.slice e)) (hi : P.info? e = some i) (hz : i.zero = some z)
    (hsize : i.size = size) (hby : i.bytes = bytes) (hzs : z.cells.size = size) (hsz : 0 < size)
    (v : Value) (n : Nat) (xs : List Value) (hown : w.ownsRow 0 e size v n xs)
    (a : Addr) (m c : Nat) (news : List Value) (hl : news.length = m * size) (hnews : ∀ j u, news[j]? = some u → w.cell? (a.add j) = some u) (h1 : ∀ u ∈ news, u.oneCell' = true)
    (h63 : n + m ≤ maxLen) (hbytes : (n + m) * bytes ≤ 140737488355328) :
    ∃ v' w', (Builtin.append_ #[t, t] ty #[v, .slice (some a) m c]).run P w = .ok v' w' ∧ w'.ownsRow 0 e size v' (n + m) (xs ++ news) ∧ w.grownBy w' v.ownBlock ∧ (v'.ownBlock = v.ownBlock ∨ (v'.ownBlock = some w.heap.size ∧ Below w.heap.size w w')) := by
  obtain ⟨v', w', hr, h2, h3, _, h5⟩ := run_append_own_at (P := P) w 0 t ty e i z size bytes ht hi hz hsize hby hzs hsz v n xs hown a m c news hl hnews h1 h63 hbytes (Nat.zero_le _)
  refine ⟨v', w', hr, h2, h3, ?_⟩
  rcases h5 with h5 | h5
  · exact .inl h5
  · rcases hown.2 with ⟨rfl, rfl⟩ | ⟨g, cap, cur, rfl, hbg, hg, hnc, hcm, hcs, htake⟩
    · exact .inr ⟨h5, h3.os, h3.tape, h3.output, h3.size, fun k hk => h3.block k hk (by simp [Value.ownBlock])⟩
    · have hgl := (Array.getElem?_eq_some_iff.1 hg).1
      subst hsize
      subst hby
      by_cases hroom : n + m ≤ cap
      · have hfit : n * i.size + news.length ≤ cur.size := by rw [hl, hcs, ← Nat.add_mul]; exact Nat.mul_le_mul_right _ hroom
        rw [run_append_room (P := P) w t ty e i ht hi g n cap cur hg a m c news hl hnews h1 hroom hfit] at hr
        injection hr with hv _
        exact .inl (by rw [← hv]; rfl)
      · have holds : ∀ j u, xs[j]? = some u → w.cell? ((⟨g, 0, none⟩ : Addr).add j) = some u := hown.cells (g := g) rfl
        have hsmall : n + m ≤ 9223372036854775807 := by simp only [maxLen] at h63; omega
        rw [run_append_grow (P := P) w t ty e i z ht hi hz ⟨g, 0, none⟩ n cap xs hown.1 holds a m c news hl hnews (by omega) (by omega) (growslice_fits (by omega) hbytes)] at hr
        injection hr with _ hw
        refine .inr ⟨h5, ?_⟩
        rw [← hw]
        exact ((Below.refl _ w).drew).alloc (Nat.le_refl _) _
theorem wpList_append_apart {P : Program} {w : World} {ops : Array Oper} {rest : List Oper} {o : Oper} {a : Act} {Q : Exit → Act → World → Prop} (hgd : o.guard = none) (s x : Operand) (t : TypeId)
    (ho : o.op = .call { callee := .builtin .append, args := #[s, x], argTypes := #[t, t] })
    (e : TypeId) (i : TypeInfo) (z : Value) (size bytes : Nat) (ht : P.underlying t = some (.slice e)) (hi : P.info? e = some i) (hz : i.zero = some z)
    (hsize : i.size = size) (hby : i.bytes = bytes) (hzs : z.cells.size = size) (hsz : 0 < size)
    (v : Value) (n : Nat) (xs : List Value) (hs : a.eval s = v) (hown : w.ownsRow 0 e size v n xs)
    (ad : Addr) (m c : Nat) (news : List Value) (hx : a.eval x = .slice (some ad) m c) (hl : news.length = m * size) (hnews : ∀ j u, news[j]? = some u → w.cell? (ad.add j) = some u) (h1 : ∀ u ∈ news, u.oneCell' = true)
    (h63 : n + m ≤ maxLen) (hbytes : (n + m) * bytes ≤ 140737488355328)
    (h : ∀ v' w', w'.ownsRow 0 e size v' (n + m) (xs ++ news) → w.grownBy w' v.ownBlock → (v'.ownBlock = v.ownBlock ∨ (v'.ownBlock = some w.heap.size ∧ Below w.heap.size w w')) → wpList P ops Q rest (a.put o.dst v') w') :
    wpList P ops Q (o :: rest) a w := by
  refine wpList_plain hgd fun K hK => ?_
  obtain ⟨v', w', hr, h2, h3, h4⟩ := run_append_apart (P := P) w t o.type e i z size bytes ht hi hz hsize hby hzs hsz v n xs hown ad m c news hl hnews h1 h63 hbytes
  unfold Oper.wp execOp
  simp only [ho, resolve, invoke, builtin, Sem.run_bind, Sem.run_pure, Result.andThen_ok, List.map_toArray, List.map_cons, List.map_nil, hs, hx, hr]
  exact hK _ _ (h v' w' h2 h3 h4)
theorem addr_add0 (g j : Nat) : (⟨g, 0, none⟩ : Addr).add j = ⟨g, j, none⟩ := by unfold Addr.add; split <;> simp_all
def rep (n : Nat) (mk : List Value) : List Value := (List.replicate n mk).flatten
theorem rep_succ (n : Nat) (mk : List Value) : rep (n + 1) mk = rep n mk ++ mk := by
  unfold rep
  rw [List.replicate_succ', List.flatten_append]
  simp
theorem rep_len (n : Nat) (mk : List Value) : (rep n mk).length = n * mk.length := by
  unfold rep
  simp [List.length_flatten]
theorem rep_add (m n : Nat) (mk : List Value) : rep (m + n) mk = rep m mk ++ rep n mk := by
  unfold rep
  rw [← List.replicate_append_replicate, List.flatten_append]
theorem rep_set1 {j : Nat} {x : Value} {xs : List Value} (hj : j < xs.length) : (rep j [x] ++ xs.drop j).set j x = rep (j + 1) [x] ++ xs.drop (j + 1) := by
  have hl : (rep j [x]).length = j := by rw [rep_len]; simp
  rw [List.set_append_right _ _ (by omega), hl, Nat.sub_self, List.drop_eq_getElem_cons hj, List.set_cons_zero, rep_succ, List.append_assoc, List.singleton_append]
theorem rep_get1 {j n : Nat} {x : Value} (hj : j < n) : (rep n [x])[j]? = some x := by
  have : rep n [x] = List.replicate n x := by
    induction n with
    | zero => rfl
    | succ n ih =>
      rw [rep_succ, List.replicate_succ']
      by_cases h : j < n
      · rw [ih h]
      · have : ∀ n, rep n [x] = List.replicate n x := fun n => by
          induction n with
          | zero => rfl
          | succ n ih => rw [rep_succ, List.replicate_succ', ih]
        rw [this]
  rw [this, List.getElem?_replicate, if_pos hj]
def ReadsAt (w : World) (size : Nat) (v : Value) (m : Nat) (xs : List Value) : Prop :=
  xs.length = m * size ∧ ((v = .slice none 0 0 ∧ m = 0) ∨ ∃ g c, v = .slice (some ⟨g, 0, none⟩) m c ∧ g < w.heap.size ∧ ∀ j u, xs[j]? = some u → w.cell? ⟨g, j, none⟩ = some u)
theorem ReadsAt.of_own {w : World} {e : TypeId} {size m : Nat} {v : Value} {xs : List Value} (h : w.ownsRow 0 e size v m xs) : ReadsAt w size v m xs := by
  refine ⟨h.1, ?_⟩
  rcases h.2 with h2 | ⟨g, cap, cur, rfl, _, hg, h3, h4, h5, h6⟩
  · exact .inl h2
  · refine .inr ⟨g, cap, rfl, (Array.getElem?_eq_some_iff.1 hg).1, fun j u hj => ?_⟩
    have := h.cells (g := g) rfl j u hj
    rw [addr_add0] at this
    exact this
theorem ReadsAt.frame {w w' : World} {size m : Nat} {v : Value} {xs : List Value} (h : ReadsAt w size v m xs) (hk : ∀ k, v.ownBlock = some k → w'.heap[k]? = w.heap[k]?) : ReadsAt w' size v m xs := by
  refine ⟨h.1, h.2.imp_right ?_⟩
  rintro ⟨g, c, rfl, hg, h2⟩
  have hb := hk g rfl
  refine ⟨g, c, rfl, ?_, fun j u hj => (World.cell?_of_block (a := ⟨g, j, none⟩) hb).trans (h2 j u hj)⟩
  have : w'.heap[g]? ≠ none := by rw [hb, ne_eq, Array.getElem?_eq_none_iff]; omega
  rw [ne_eq, Array.getElem?_eq_none_iff] at this
  omega
def grownT (ty : TypeId) (size : Nat) (v : Value) (m : Nat) (xs : List Value) (long : Value) (n : Nat) (ys : List Value) : Thing where
  at_ w F := ReadsAt w size v m xs ∧ w.ownsRow 0 ty size long n ys ∧ F = fun k => v.ownBlock = some k ∨ long.ownBlock = some k
  lt := by
    rintro w F ⟨h, h2, rfl⟩ k (hk | hk)
    · rcases h.2 with ⟨rfl, _⟩ | ⟨g, c, rfl, hg, _⟩
      · cases hk
      · simp only [Value.ownBlock, Option.some.injEq] at hk
        omega
    · exact (h2.lt k hk).2
  frame := by
    rintro w w' F ⟨h, h2, rfl⟩ hk
    refine ⟨h.frame fun k h => hk k (.inl h), ((ownT ty size long n ys).frame (F := fun k => long.ownBlock = some k) ⟨h2, rfl⟩ fun k h => hk k (.inr h)).1, rfl⟩
theorem Mid.grown0 {w0 w : World} {F0 : Nat → Prop} {l : List Thing} {ty : TypeId} {size : Nat} {v : Value} {n : Nat} {xs : List Value} (h : Mid w0 F0 (ownT ty size v n xs :: l) w) : Mid w0 F0 (grownT ty size v n xs v n xs :: l) w := by
  refine h.weaken ?_
  rintro F ⟨h, rfl⟩
  exact ⟨ReadsAt.of_own h, h, by funext k; exact propext (or_self_iff).symm⟩
theorem Mid.grow {w0 w w2 : World} {F0 : Nat → Prop} {l : List Thing} {ty : TypeId} {size : Nat} {v long long' : Value} {m n n' : Nat} {xs ys news : List Value} (h : Mid w0 F0 (grownT ty size v m xs long n (xs ++ ys) :: l) w)
    (h2 : w2.ownsRow 0 ty size long' n' (xs ++ ys ++ news)) (hg : w.grownBy w2 long.ownBlock) (ha : long'.ownBlock = long.ownBlock ∨ (long'.ownBlock = some w.heap.size ∧ Below w.heap.size w w2)) :
    Mid w0 F0 (grownT ty size v m xs long' n' (xs ++ ys ++ news) :: l) w2 := by
  obtain ⟨F, ⟨g1, g2, rfl⟩, hT⟩ := h.turn1
  refine hT ⟨?_, h2, rfl⟩ ⟨⟨hg.os, hg.tape, hg.output, hg.size, fun k hk hn => hg.block k hk fun e => hn (.inr e.symm)⟩, ?_⟩
  · rcases ha with ha | ⟨_, hb⟩
    · by_cases hv : v.ownBlock = long.ownBlock
      · refine ⟨g1.1, g1.2.imp_right ?_⟩
        rintro ⟨g, c, rfl, hgl, h3⟩
        refine ⟨g, c, rfl, by have := hg.size; omega, fun j u hj => ?_⟩
        rw [← ha] at hv
        have hj2 : (xs ++ ys ++ news)[j]? = some u := by
          have := (List.getElem?_eq_some_iff.1 hj).1
          rw [List.append_assoc, List.getElem?_append_left this]
          exact hj
        rcases h2.2 with ⟨rfl, _⟩ | ⟨g', cap, cur, rfl, _⟩
        · cases hv
        · simp only [Value.ownBlock, Option.some.injEq] at hv
          have := h2.cells (g := g') rfl j u hj2
          rw [hv]
          rw [addr_add0] at this
          exact this
      · refine g1.frame fun k hk => hg.block k ?_ fun e => hv (hk.trans e)
        rcases g1.2 with ⟨rfl, _⟩ | ⟨g, c, rfl, hgl, _⟩
        · cases hk
        · simp only [Value.ownBlock, Option.some.injEq] at hk
          omega
    · refine g1.frame fun k hk => hb.block k ?_
      rcases g1.2 with ⟨rfl, _⟩ | ⟨g, c, rfl, hgl, _⟩
      · cases hk
      · simp only [Value.ownBlock, Option.some.injEq] at hk
        omega
  · rintro k (hk | hk)
    · exact .inl (.inl hk)
    · rcases ha with ha | ⟨ha, _⟩
      · exact .inl (.inr (ha ▸ hk))
      · rw [ha] at hk
        injection hk with hk
        exact .inr (Nat.le_of_eq hk)
theorem Mid.appended {w0 w w2 : World} {F0 : Nat → Prop} {l : List Thing} {ty : TypeId} {size : Nat} {v v' : Value} {n n' : Nat} {xs ys : List Value} (h : Mid w0 F0 (ownT ty size v n xs :: l) w)
    (h2 : w2.ownsRow 0 ty size v' n' ys) (hg : w.grownBy w2 v.ownBlock) (ha : v'.ownBlock = v.ownBlock ∨ v'.ownBlock = some w.heap.size) : Mid w0 F0 (ownT ty size v' n' ys :: l) w2 := by
  obtain ⟨F, ⟨g1, rfl⟩, hT⟩ := h.turn1
  refine hT (t' := ownT ty size v' n' ys) ⟨h2, rfl⟩ ⟨⟨hg.os, hg.tape, hg.output, hg.size, fun k hk hn => hg.block k hk fun e => hn e.symm⟩, fun k hk => ?_⟩
  rcases ha with ha | ha
  · exact .inl (ha ▸ hk)
  · rw [ha] at hk
    injection hk with hk
    exact .inr (Nat.le_of_eq hk)
theorem Mid.setOwn {w0 w : World} {F0 : Nat → Prop} {l : List Thing} {ty : TypeId} {g n cap k : Nat} {xs : List Value} (h : Mid w0 F0 (ownT ty 1 (.slice (some ⟨g, 0, none⟩) n cap) n xs :: l) w) (hk : k < n) (x : Value) :
    Mid w0 F0 (ownT ty 1 (.slice (some ⟨g, 0, none⟩) n cap) n (xs.set k x) :: l) (w.setCell ⟨g, k, none⟩ x) := by
  obtain ⟨F, ⟨h1, rfl⟩, hT⟩ := h.turn1
  obtain ⟨hl, ⟨e, _⟩ | ⟨g', cap', cur, e, _, hg, h3, h4, h5, h6⟩⟩ := h1
  · cases e
  injection e with e1 _ e2
  injection e1 with e1
  injection e1 with e1
  subst e1; subst e2
  have hb := heap_setCell_same w g k cur ty x hg
  refine hT ⟨⟨by rw [List.length_set]; exact hl, .inr ⟨g, cap, _, rfl, Nat.zero_le _, hb, h3, h4, by rw [Array.size_setIfInBounds]; exact h5, ?_⟩⟩, rfl⟩ ⟨⟨rfl, rfl, rfl, by simp [World.setCell], fun j _ hj => Below.heap_setCell _ _ _ _ fun e => hj (by rw [e]; rfl)⟩, fun k hk => .inl hk⟩
  rw [Array.toList_setIfInBounds, List.take_set, h6]
theorem Mid.setOwnS {w0 w : World} {F0 : Nat → Prop} {l : List Thing} {ty : TypeId} {size g n cap k : Nat} {xs : List Value} (h : Mid w0 F0 (ownT ty size (.slice (some ⟨g, 0, none⟩) n cap) n xs :: l) w) (x : Value) :
    Mid w0 F0 (ownT ty size (.slice (some ⟨g, 0, none⟩) n cap) n (xs.set k x) :: l) (w.setCell ⟨g, k, none⟩ x) := by
  obtain ⟨F, ⟨h1, rfl⟩, hT⟩ := h.turn1
  obtain ⟨hl, ⟨e, _⟩ | ⟨g', cap', cur, e, _, hg, h3, h4, h5, h6⟩⟩ := h1
  · cases e
  injection e with e1 _ e2
  injection e1 with e1
  injection e1 with e1
  subst e1; subst e2
  have hb := heap_setCell_same w g k cur ty x hg
  refine hT ⟨⟨by rw [List.length_set]; exact hl, .inr ⟨g, cap, _, rfl, Nat.zero_le _, hb, h3, h4, by rw [Array.size_setIfInBounds]; exact h5, ?_⟩⟩, rfl⟩ ⟨⟨rfl, rfl, rfl, by simp [World.setCell], fun j _ hj => Below.heap_setCell _ _ _ _ fun e => hj (by rw [e]; rfl)⟩, fun k hk => .inl hk⟩
  rw [Array.toList_setIfInBounds, List.take_set, h6]
theorem Mid.ownCell {w0 w : World} {F0 : Nat → Prop} {l : List Thing} {ty : TypeId} {size g n cap k : Nat} {xs : List Value} {x : Value} (h : Mid w0 F0 l w) (hm : ownT ty size (.slice (some ⟨g, 0, none⟩) n cap) n xs ∈ l) (hk : xs[k]? = some x) : w.cell? ⟨g, k, none⟩ = some x ∧ w.frozen? ⟨g, k, none⟩ = false := by
  have h1 := h.own hm
  have h2 := h1.cells (g := g) rfl k x hk
  rw [addr_add0] at h2
  obtain ⟨hl, ⟨e, _⟩ | ⟨g', cap', cur, e, _, hg, h3, h4, h5, h6⟩⟩ := h1
  · cases e
  injection e with e1 _ e2
  injection e1 with e1
  injection e1 with e1
  subst e1
  exact ⟨h2, by simp [World.frozen?, hg]⟩
theorem Mid.setCells {w0 w : World} {F0 : Nat → Prop} {l : List Thing} {g k : Nat} {cs : List Value} {ty : TypeId} (h : Mid w0 F0 (cellsT g cs ty :: l) w) (x : Value) : Mid w0 F0 (cellsT g (cs.set k x) ty :: l) (w.setCell ⟨g, k, none⟩ x) := by
  obtain ⟨F, ⟨h1, rfl⟩, hT⟩ := h.turn1
  have hb := heap_setCell_same w g k cs.toArray ty x h1
  refine hT ⟨?_, rfl⟩ ⟨⟨rfl, rfl, rfl, by simp [World.setCell], fun j _ hj => Below.heap_setCell _ _ _ _ hj⟩, fun k hk => .inl hk⟩
  rw [hb, List.setIfInBounds_toArray]
theorem Mid.setRow {w0 w : World} {F0 : Nat → Prop} {l : List Thing} {g : Nat} {cs : List Value} {ty : TypeId} (h : Mid w0 F0 (cellsT g cs ty :: l) w) (cs' : List Value) : Mid w0 F0 (cellsT g cs' ty :: l) (w.setRow g cs'.toArray) := by
  obtain ⟨F, ⟨h1, rfl⟩, hT⟩ := h.turn1
  have hb := setRow_heap w g cs.toArray cs'.toArray ty (0, 0) h1
  exact hT ⟨hb, rfl⟩ ⟨⟨rfl, rfl, rfl, by simp, fun j _ hj => setRow_other w g j _ hj⟩, fun k hk => .inl hk⟩
def exT {ι : Type} (f : ι → Thing) : Thing where
  at_ w F := ∃ i, (f i).at_ w F
  lt := fun ⟨i, h⟩ => (f i).lt h
  frame := fun ⟨i, h⟩ hk => ⟨i, (f i).frame h hk⟩
theorem Mid.exElim {ι : Type} {f : ι → Thing} {w0 w : World} {F0 : Nat → Prop} {l : List Thing} (h : Mid w0 F0 (exT f :: l) w) : ∃ i, Mid w0 F0 (f i :: l) w := by
  obtain ⟨M, ⟨F, G, ⟨i, g1⟩, g2, g3, rfl⟩, h2⟩ := h
  exact ⟨i, _, ⟨F, G, g1, g2, g3, rfl⟩, h2⟩
theorem Mid.exIntro {ι : Type} {f : ι → Thing} (i : ι) {w0 w : World} {F0 : Nat → Prop} {l : List Thing} (h : Mid w0 F0 (f i :: l) w) : Mid w0 F0 (exT f :: l) w := h.weaken fun h => ⟨i, h⟩
def mixed {α : Type} (T T' : α → Thing) (L : List α) (i : Nat) (R : List Thing) : List Thing := (L.take i).map T' ++ ((L.drop i).map T ++ R)
def mixedBut {α : Type} (T T' : α → Thing) (L : List α) (i : Nat) (R : List Thing) : List Thing := (L.take i).map T' ++ ((L.drop (i + 1)).map T ++ R)
theorem Mid.pick {α : Type} {T T' : α → Thing} {L : List α} {i : Nat} (hi : i < L.length) {X R : List Thing} {w0 w : World} {F0 : Nat → Prop} (h : Mid w0 F0 (X ++ mixed T T' L i R) w) : Mid w0 F0 (T L[i] :: (X ++ mixedBut T T' L i R)) w := by
  refine h.perm ?_
  unfold mixed mixedBut
  rw [List.drop_eq_getElem_cons hi, List.map_cons, List.cons_append, ← List.append_assoc, ← List.append_assoc]
  exact List.perm_middle
end Go.Fx

namespace Go.Fx
open Go.RowKit
@[irreducible] def Halt1 (p : Prop) : Prop := p
theorem halt1 {p : Prop} (h : Halt1 p) : p := by unfold Halt1 at h; exact h
def hold3V : List (Value × Value × Nat) → List Value
  | [] => []
  | p :: l => p.1 :: p.2.1 :: .int .i64 (p.2.2 : Int) :: hold3V l
theorem hold3V_len : ∀ l, (hold3V l).length = l.length * 3
  | [] => rfl
  | p :: l => by simp only [hold3V, List.length_cons, hold3V_len l]; omega
theorem hold3V_append : ∀ l l', hold3V (l ++ l') = hold3V l ++ hold3V l'
  | [], l' => rfl
  | p :: l, l' => by simp only [List.cons_append, hold3V, hold3V_append l l']
theorem hold3_set (Ld Lr : List (Value × Value × Nat)) (v lg x : Value) (q : Nat) : (hold3V (Ld ++ (v, lg, q) :: Lr)).set (Ld.length * 3 + 1) x = hold3V (Ld ++ (v, x, q) :: Lr) := by
  rw [hold3V_append, hold3V_append, List.set_append_right _ _ (by rw [hold3V_len]; omega), hold3V_len, Nat.add_sub_cancel_left]
  rfl
theorem hold3_get1 (Ld Lr : List (Value × Value × Nat)) (v lg : Value) (q : Nat) : (hold3V (Ld ++ (v, lg, q) :: Lr))[Ld.length * 3 + 1]? = some lg := by
  rw [hold3V_append, List.getElem?_append_right (by rw [hold3V_len]; omega), hold3V_len, Nat.add_sub_cancel_left]
  rfl
def Longer (L L' : List (Value × Value × Nat)) : Prop := L'.length = L.length ∧ L'.map (fun p => (p.1, p.2.2)) = L.map (fun p => (p.1, p.2.2)) ∧ ∀ p ∈ L', ∃ a n c, p.2.1 = .slice a n c
theorem Longer.fst {L L' : List (Value × Value × Nat)} (h : Longer L L') {Q : Value → Prop} (hq : ∀ p ∈ L, Q p.1) : ∀ p ∈ L', Q p.1 := by
  intro p hp
  have : (p.1, p.2.2) ∈ L.map (fun p => (p.1, p.2.2)) := by
    rw [← h.2.1]
    exact List.mem_map.2 ⟨p, hp, rfl⟩
  obtain ⟨p', hp', e⟩ := List.mem_map.1 this
  have e1 : p'.1 = p.1 := (Prod.mk.inj e).1
  rw [← e1]
  exact hq p' hp'
theorem mem1 {α : Type} {a b : α} {l : List α} : b ∈ a :: b :: l := by simp
theorem mem2 {α : Type} {a b c : α} {l : List α} : c ∈ a :: b :: c :: l := by simp
theorem mem3 {α : Type} {a b c d : α} {l : List α} : d ∈ a :: b :: c :: d :: l := by simp
theorem hold3_at {w0 w : World} {F0 : Nat → Prop} {l : List Thing} {ty : TypeId} {a : Option Addr} {c : Nat} {Ld Lr : List (Value × Value × Nat)} {p : Value × Value × Nat} {n : Nat} (h : Mid w0 F0 l w) (hm : ownT ty 3 (.slice a n c) n (hold3V (Ld ++ p :: Lr)) ∈ l) :
    ∃ g, a = some ⟨g, 0, none⟩ ∧ g < w.heap.size ∧ w.rangeAt g (Ld.length * 3) [p.1, p.2.1, .int .i64 (p.2.2 : Int)] ∧ n ≤ 9223372036854775807 ∧ n = (Ld ++ p :: Lr).length := by
  have ho := h.own hm
  have hl := ho.1
  rw [hold3V_len] at hl
  obtain ⟨_, ⟨_, hn⟩ | ⟨g, cap, cur, hv, _, hb, h3, h4, h5, h6⟩⟩ := ho
  · simp at hl; omega
  · injection hv with ha
    refine ⟨g, ha, (Array.getElem?_eq_some_iff.1 hb).1, fun j v hj => ?_, ?_, by omega⟩
    · have : (hold3V (Ld ++ p :: Lr))[Ld.length * 3 + j]? = some v := by
        rw [hold3V_append, List.getElem?_append_right (by rw [hold3V_len]; omega), hold3V_len, Nat.add_sub_cancel_left]
        have hj3 := (List.getElem?_eq_some_iff.1 hj).1
        show (([p.1, p.2.1, .int .i64 (p.2.2 : Int)] : List Value) ++ hold3V Lr)[j]? = some v
        rw [List.getElem?_append_left hj3]
        exact hj
      rw [← h6, List.getElem?_take] at this
      split at this
      · simp only [World.cell?, hb]
        rw [Array.getElem?_toList] at this
        exact this
      · cases this
    · unfold maxLen at h4; omega
def rawT (ty : TypeId) (size : Nat) (p : Value × Value × Nat) : Thing := exT fun q : Nat × List Value => ownT ty size p.1 q.1 q.2
def filT (ty : TypeId) (size : Nat) (mk : Nat → List Value) (p : Value × Value × Nat) : Thing := exT fun m : Nat => ownT ty size p.1 m (rep m (mk p.2.2))
def lonT (ty : TypeId) (size : Nat) (mk : Nat → List Value) (p : Value × Value × Nat) : Thing := exT fun m : Nat => grownT ty size p.1 m (rep m (mk p.2.2)) p.2.1 (m + 70) (rep (m + 70) (mk p.2.2))
theorem Mid.pickZ {α : Type} {T T' : α → Thing} {Ld Lr : List α} {p : α} {X R : List Thing} {w0 w : World} {F0 : Nat → Prop} (h : Mid w0 F0 (X ++ (Ld.map T' ++ ((p :: Lr).map T ++ R))) w) : Mid w0 F0 (T p :: (X ++ (Ld.map T' ++ (Lr.map T ++ R)))) w := by
  refine h.perm ?_
  rw [List.map_cons, List.cons_append, ← List.append_assoc, ← List.append_assoc]
  exact List.perm_middle
theorem Mid.placeZ {α : Type} {T T' : α → Thing} {Ld Lr : List α} {p : α} {X R : List Thing} {w0 w : World} {F0 : Nat → Prop} (h : Mid w0 F0 (T' p :: (X ++ (Ld.map T' ++ (Lr.map T ++ R)))) w) : Mid w0 F0 (X ++ ((Ld ++ [p]).map T' ++ (Lr.map T ++ R))) w := by
  refine h.perm ?_
  rw [List.map_append, List.map_cons, List.map_nil, List.append_assoc, ← List.append_assoc X, ← List.append_assoc X, List.singleton_append]
  exact List.perm_middle.symm
theorem own_slice0 {w : World} {base size n : Nat} {e : TypeId} {v : Value} {xs : List Value} (h : w.ownsRow base e size v n xs) : ∃ a c, v = .slice a n c := by
  rcases h.2 with ⟨rfl, rfl⟩ | ⟨g, cap, cur, rfl, _⟩
  · exact ⟨none, 0, rfl⟩
  · exact ⟨_, _, rfl⟩
theorem Mid.cellAt {w0 w : World} {F0 : Nat → Prop} {l : List Thing} {k j : Nat} {cs : List Value} {ty : TypeId} {v : Value} (h : Mid w0 F0 l w) (hm : cellsT k cs ty ∈ l) (hj : cs[j]? = some v) : w.cell? ⟨k, j, none⟩ = some v := by
  have := h.cells hm
  simp only [World.cell?, this]
  rw [List.getElem?_toArray]
  exact hj
theorem Mid.lt {w0 w : World} {F0 : Nat → Prop} {l : List Thing} {k : Nat} {cs : List Value} {ty : TypeId} (h : Mid w0 F0 l w) (hm : cellsT k cs ty ∈ l) : k < w.heap.size := (Array.getElem?_eq_some_iff.1 (h.cells hm)).1
end Go.Fx

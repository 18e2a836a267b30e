import Derived.Test.YtckhkfchgcdajaaGreatDoorYJxB4
import Derived.Test.YtckhkfchgcdajaaGreatDoorYJxA2
namespace Go.Proofs.YtckhkfchgcdajaaGreatDoor
open Go.Fx Go.RowKit
def idsOf (m : Nat) (took : List (Int × List Int)) (q : List Int) : List Int := (took.filter fun p => decide (keyRow m p.2 = q)).map (·.1)
def addKey (l : List (List Int)) (q : List Int) : List (List Int) := if q ∈ l then l else l ++ [q]
def keysOf (m : Nat) (took : List (Int × List Int)) : List (List Int) := took.foldl (fun l p => addKey l (keyRow m p.2)) []
theorem idsOf_snoc (m : Nat) (took : List (Int × List Int)) (p : Int × List Int) (q : List Int) : idsOf m (took ++ [p]) q = if keyRow m p.2 = q then idsOf m took q ++ [p.1] else idsOf m took q := by
  unfold idsOf
  rw [List.filter_append, List.map_append]
  by_cases h : keyRow m p.2 = q
  · rw [if_pos h]; simp [h]
  · rw [if_neg h]; simp [h]
theorem keysOf_snoc (m : Nat) (took : List (Int × List Int)) (p : Int × List Int) : keysOf m (took ++ [p]) = addKey (keysOf m took) (keyRow m p.2) := by
  unfold keysOf
  rw [List.foldl_append]
  rfl
theorem mem_addKey {l : List (List Int)} {q x : List Int} : x ∈ addKey l q ↔ x ∈ l ∨ x = q := by
  unfold addKey
  split
  · exact ⟨.inl, fun h => h.elim id fun e => e ▸ ‹_›⟩
  · simp
theorem nodup_addKey {l : List (List Int)} {q : List Int} (h : l.Nodup) : (addKey l q).Nodup := by
  unfold addKey
  split
  · exact h
  · rename_i hq
    rw [List.nodup_append]
    exact ⟨h, by simp, fun a ha b hb e => by rw [List.mem_singleton.1 hb] at e; exact hq (e ▸ ha)⟩
theorem keys_fold (m : Nat) : ∀ (l : List (Int × List Int)) (acc : List (List Int)), acc.Nodup → (l.foldl (fun l p => addKey l (keyRow m p.2)) acc).Nodup ∧ ∀ q, q ∈ l.foldl (fun l p => addKey l (keyRow m p.2)) acc ↔ q ∈ acc ∨ ∃ p ∈ l, keyRow m p.2 = q
  | [], acc, h => ⟨h, fun q => by simp⟩
  | p :: l, acc, h => by
    obtain ⟨h1, h2⟩ := keys_fold m l (addKey acc (keyRow m p.2)) (nodup_addKey h)
    refine ⟨h1, fun q => ?_⟩
    rw [List.foldl_cons, h2, mem_addKey]
    constructor
    · rintro ((h | rfl) | ⟨p', h1, h2⟩)
      · exact .inl h
      · exact .inr ⟨p, List.mem_cons_self .., rfl⟩
      · exact .inr ⟨p', List.mem_cons_of_mem _ h1, h2⟩
    · rintro (h | ⟨p', h1, h3⟩)
      · exact .inl (.inl h)
      · rcases List.mem_cons.1 h1 with rfl | h1
        · exact .inl (.inr h3.symm)
        · exact .inr ⟨p', h1, h3⟩
theorem keysOf_all (m : Nat) (took : List (Int × List Int)) : (keysOf m took).Nodup ∧ ∀ q, q ∈ keysOf m took ↔ ∃ p ∈ took, keyRow m p.2 = q := by
  obtain ⟨h1, h2⟩ := keys_fold m took [] List.nodup_nil
  exact ⟨h1, fun q => (h2 q).trans (by simp)⟩
theorem ids_none {m : Nat} {took : List (Int × List Int)} {q : List Int} (h : q ∉ keysOf m took) : idsOf m took q = [] := by
  unfold idsOf
  rw [List.filter_eq_nil_iff.2 fun p hp => ?_]
  · rfl
  · simp only [decide_eq_true_eq]
    exact fun e => h (((keysOf_all m took).2 q).2 ⟨p, hp, e⟩)
theorem ids_len (m : Nat) (took : List (Int × List Int)) (q : List Int) : (idsOf m took q).length ≤ took.length := by
  unfold idsOf
  rw [List.length_map]
  exact List.length_filter_le _ _
abbrev intV (i : Int) : Value := .int .i64 i
structure Ix where
  m : Nat
  took : List (Int × List Int)
  gone : Int
  rb : Nat
  kb : Nat
  sl : List Int → Value
def Ix.keys (x : Ix) : List (List Int) := keysOf x.m x.took
def Ix.kv (x : Ix) : KV := x.keys.map fun q => (q, x.sl q)
theorem Ix.kv_fst (x : Ix) : x.kv.map (·.1) = x.keys := by unfold Ix.kv; rw [List.map_map]; exact List.map_id _
def IxF (x : Ix) (k : Nat) : Prop := k = x.rb ∨ k = x.kb ∨ ∃ q ∈ x.keys, (x.sl q).ownBlock = some k
structure IxAt (w : World) (x : Ix) (s : Nat) : Prop where
  hr : w.heap[x.rb]? = some (.cells #[.map (some x.kb), .int .i64 (s : Int), .int .i64 x.gone] 307 (0, 0))
  hk : MapAt w x.kb x.kv
  hs : ∀ q ∈ x.keys, w.ownsRow 0 3 1 (x.sl q) (idsOf x.m x.took q).length ((idsOf x.m x.took q).map intV)
  ok : ∀ p ∈ x.took, RowOk p.2
  ne : x.rb ≠ x.kb
  nr : ∀ q ∈ x.keys, (x.sl q).ownBlock ≠ some x.rb ∧ (x.sl q).ownBlock ≠ some x.kb
  nn : ∀ q ∈ x.keys, ∀ q' ∈ x.keys, ∀ k, (x.sl q).ownBlock = some k → (x.sl q').ownBlock = some k → q = q'
theorem IxAt.lt {w : World} {x : Ix} {s : Nat} (h : IxAt w x s) : ∀ k, IxF x k → k < w.heap.size := by
  rintro k (rfl | rfl | ⟨q, hq, hk⟩)
  · exact (Array.getElem?_eq_some_iff.1 h.hr).1
  · exact h.hk.lt
  · exact own_lt (h.hs q hq) hk
theorem IxAt.frame {w w' : World} {x : Ix} {s : Nat} (h : IxAt w x s) (hb : ∀ k, IxF x k → w'.heap[k]? = w.heap[k]?) : IxAt w' x s :=
  { h with
    hr := (hb _ (.inl rfl)).trans h.hr
    hk := h.hk.frame (hb _ (.inr (.inl rfl)))
    hs := fun q hq => ownsRow_of_block (h.hs q hq) fun k hk => hb k (.inr (.inr ⟨q, hq, hk⟩)) }
def Ix.at (x : Ix) (q : List Int) : Value := (lookKV x.kv q).getD (.slice none 0 0)
theorem Ix.at_mem {x : Ix} {q : List Int} (h : q ∈ x.keys) : x.at q = x.sl q := by
  unfold Ix.at
  rw [look_of_mem (kv := x.kv) (x := q) (v := x.sl q) (by rw [Ix.kv_fst]; exact (keysOf_all _ _).1) (List.mem_map.2 ⟨q, h, rfl⟩)]
  rfl
theorem look_none {α : Type} [DecidableEq α] {kv : List (α × Value)} {q : α} (h : q ∉ kv.map (·.1)) : lookKV kv q = none := by
  unfold lookKV
  rw [List.find?_eq_none.2 fun p hp => by simp only [decide_eq_true_eq]; exact fun e => h (List.mem_map.2 ⟨p, hp, e⟩)]
  rfl
theorem Ix.at_none {x : Ix} {q : List Int} (h : q ∉ x.keys) : x.at q = .slice none 0 0 := by
  unfold Ix.at
  rw [look_none (by rw [Ix.kv_fst]; exact h)]
  rfl
theorem IxAt.at {w : World} {x : Ix} {s : Nat} (h : IxAt w x s) (q : List Int) : w.ownsRow 0 3 1 (x.at q) (idsOf x.m x.took q).length ((idsOf x.m x.took q).map intV) := by
  by_cases hq : q ∈ x.keys
  · rw [Ix.at_mem hq]; exact h.hs q hq
  · rw [Ix.at_none hq, ids_none hq]
    exact World.ownsRow_nil _ _ _ _
theorem Ix.at_block {x : Ix} {q : List Int} {k : Nat} (h : (x.at q).ownBlock = some k) : q ∈ x.keys ∧ (x.sl q).ownBlock = some k := by
  by_cases hq : q ∈ x.keys
  · rw [Ix.at_mem hq] at h; exact ⟨hq, h⟩
  · rw [Ix.at_none hq] at h; cases h
def Ix.add (x : Ix) (p : Int × List Int) (v : Value) : Ix := { x with took := x.took ++ [p], sl := fun q => if q = keyRow x.m p.2 then v else x.sl q }
theorem Ix.add_keys (x : Ix) (p : Int × List Int) (v : Value) : (x.add p v).keys = addKey x.keys (keyRow x.m p.2) := keysOf_snoc _ _ _
theorem Ix.add_kv (x : Ix) (p : Int × List Int) (v : Value) : (x.add p v).kv = putKV (entKV x.kv (keyRow x.m p.2) (.slice none 0 0)) (keyRow x.m p.2) v := by
  have hn := (keysOf_all x.m x.took).1
  unfold Ix.kv
  rw [Ix.add_keys]
  have hf : (x.keys.map fun q => (q, x.sl q)).map (·.1) = x.keys := x.kv_fst
  unfold entKV addKey
  rw [hf]
  by_cases hq : keyRow x.m p.2 ∈ x.keys
  · rw [if_pos hq, if_pos hq]
    unfold putKV
    rw [hf, if_pos hq, List.map_map]
    refine List.map_congr_left fun q _ => ?_
    simp only [Function.comp, Ix.add]
    split
    · rename_i e; rw [e]
    · rfl
  · rw [if_neg hq, if_neg hq]
    unfold putKV
    have hc : keyRow x.m p.2 ∈ (List.map (fun q => (q, x.sl q)) x.keys ++ [(keyRow x.m p.2, Value.slice none 0 0)]).map (·.1) := by
      rw [List.map_append, hf]; simp
    rw [if_pos hc, List.map_append, List.map_append]
    congr 1
    · rw [List.map_map]
      refine List.map_congr_left fun q hq2 => ?_
      have : q ≠ keyRow x.m p.2 := fun e => hq (e ▸ hq2)
      simp [Ix.add, this]
    · simp [Ix.add]
theorem ix_step {w w' : World} {x : Ix} {s : Nat} (h : IxAt w x s) {p : Int × List Int} (hp : RowOk p.2) {v : Value}
    (hr : w'.heap[x.rb]? = w.heap[x.rb]?) (hk : MapAt w' x.kb (putKV (entKV x.kv (keyRow x.m p.2) (.slice none 0 0)) (keyRow x.m p.2) v))
    (hv : w'.ownsRow 0 3 1 v ((idsOf x.m x.took (keyRow x.m p.2)).length + 1) ((idsOf x.m x.took (keyRow x.m p.2)).map intV ++ [intV p.1]))
    (hb : ∀ k, k < w.heap.size → k ≠ x.kb → (x.at (keyRow x.m p.2)).ownBlock ≠ some k → w'.heap[k]? = w.heap[k]?)
    (hat : v.ownBlock = (x.at (keyRow x.m p.2)).ownBlock ∨ ∃ g, v.ownBlock = some g ∧ w.heap.size ≤ g) :
    IxAt w' (x.add p v) s ∧ (∀ k, IxF (x.add p v) k → IxF x k ∨ w.heap.size ≤ k) := by
  have hlr := h.lt x.rb (.inl rfl)
  have hlk := h.lt x.kb (.inr (.inl rfl))
  have hq0 := Ix.add_keys x p v
  generalize hq1 : keyRow x.m p.2 = q0 at *
  have hsl : ∀ q, (x.add p v).sl q = if q = q0 then v else x.sl q := fun q => by simp only [Ix.add, hq1]
  have hvb : ∀ k, v.ownBlock = some k → k ≠ x.rb ∧ k ≠ x.kb ∧ ∀ q ∈ x.keys, q ≠ q0 → (x.sl q).ownBlock ≠ some k := by
    intro k hk
    rcases hat with hat | ⟨g, hg, hge⟩
    · rw [hat] at hk
      obtain ⟨h1, h2⟩ := Ix.at_block hk
      exact ⟨fun e => (h.nr q0 h1).1 (e ▸ h2), fun e => (h.nr q0 h1).2 (e ▸ h2), fun q hq hne hc => hne (h.nn q hq q0 h1 k hc h2)⟩
    · rw [hg] at hk
      injection hk with hk
      subst hk
      refine ⟨by omega, by omega, fun q hq _ hc => ?_⟩
      have := own_lt (h.hs q hq) hc
      omega
  have hmem : ∀ q, q ∈ (x.add p v).keys ↔ q ∈ x.keys ∨ q = q0 := fun q => by rw [hq0, mem_addKey]
  refine ⟨⟨hr.trans h.hr, by rw [Ix.add_kv, hq1]; exact hk, ?_, ?_, h.ne, ?_, ?_⟩, ?_⟩
  · intro q hq
    show w'.ownsRow 0 3 1 ((x.add p v).sl q) (idsOf x.m (x.took ++ [p]) q).length ((idsOf x.m (x.took ++ [p]) q).map intV)
    rw [hsl, idsOf_snoc, hq1]
    by_cases e : q = q0
    · subst e
      rw [if_pos rfl, if_pos rfl, List.length_append, List.length_singleton, List.map_append]
      exact hv
    · rw [if_neg e, if_neg (fun h => e h.symm)]
      have hq2 := ((hmem q).1 hq).resolve_right e
      refine ownsRow_of_block (h.hs q hq2) fun k hk => ?_
      refine hb k (own_lt (h.hs q hq2) hk) (fun e => (h.nr q hq2).2 (e ▸ hk)) fun hc => ?_
      obtain ⟨h1, h2⟩ := Ix.at_block hc
      exact e (h.nn q hq2 q0 h1 k hk h2)
  · intro p' hp'
    rcases List.mem_append.1 hp' with hp' | hp'
    · exact h.ok p' hp'
    · rw [List.mem_singleton.1 hp']; exact hp
  · intro q hq
    show ((x.add p v).sl q).ownBlock ≠ some x.rb ∧ ((x.add p v).sl q).ownBlock ≠ some x.kb
    rw [hsl]
    by_cases e : q = q0
    · rw [if_pos e]
      exact ⟨fun hc => (hvb _ hc).1 rfl, fun hc => (hvb _ hc).2.1 rfl⟩
    · rw [if_neg e]
      exact h.nr q (((hmem q).1 hq).resolve_right e)
  · intro q hq q' hq' k hk hk'
    rw [hsl] at hk hk'
    by_cases e : q = q0
    · rw [if_pos e] at hk
      by_cases e' : q' = q0
      · rw [e, e']
      · rw [if_neg e'] at hk'
        exact absurd hk' ((hvb k hk).2.2 q' (((hmem q').1 hq').resolve_right e') e')
    · rw [if_neg e] at hk
      by_cases e' : q' = q0
      · rw [if_pos e'] at hk'
        exact absurd hk ((hvb k hk').2.2 q (((hmem q).1 hq).resolve_right e) e)
      · rw [if_neg e'] at hk'
        exact h.nn q (((hmem q).1 hq).resolve_right e) q' (((hmem q').1 hq').resolve_right e') k hk hk'
  · rintro k (hk | hk | ⟨q, hq, hk⟩)
    · exact .inl (.inl hk)
    · exact .inl (.inr (.inl hk))
    · rw [hsl] at hk
      by_cases e : q = q0
      · rw [if_pos e] at hk
        rcases hat with hat | ⟨g, hg, hge⟩
        · rw [hat] at hk
          obtain ⟨h1, h2⟩ := Ix.at_block hk
          exact .inl (.inr (.inr ⟨q0, h1, h2⟩))
        · rw [hg] at hk
          injection hk with hk
          exact .inr (hk ▸ hge)
      · rw [if_neg e] at hk
        exact .inl (.inr (.inr ⟨q, ((hmem q).1 hq).resolve_right e, hk⟩))
end Go.Proofs.YtckhkfchgcdajaaGreatDoor

namespace Go.Proofs.YtckhkfchgcdajaaGreatDoor
open Go.Fx Go.RowKit
structure BookAt (w : World) (bk b bm : Nat) (ixs : List Ix) : Prop where
  hb : w.heap[bk]? = some (.cells #[.pointer (some ⟨b, 0, none⟩), .map (some bm)] 110 (0, 0))
  hm : MMapAt w bm (ixs.map fun x => (x.m, .pointer (some ⟨x.rb, 0, none⟩)))
  ix : ∀ x ∈ ixs, IxAt w x x.took.length
  sep : ixs.Pairwise fun x y => ∀ k, IxF x k → ¬ IxF y k
  ne : bk ≠ bm
  nb : ∀ x ∈ ixs, ¬ IxF x bk ∧ ¬ IxF x bm
def BookF (bk bm : Nat) (ixs : List Ix) (k : Nat) : Prop := k = bk ∨ k = bm ∨ ∃ x ∈ ixs, IxF x k
theorem BookAt.lt {w : World} {bk b bm : Nat} {ixs : List Ix} (h : BookAt w bk b bm ixs) : ∀ k, BookF bk bm ixs k → k < w.heap.size := by
  rintro k (rfl | rfl | ⟨x, hx, hk⟩)
  · exact (Array.getElem?_eq_some_iff.1 h.hb).1
  · exact h.hm.lt
  · exact (h.ix x hx).lt k hk
theorem BookAt.frame {w w' : World} {bk b bm : Nat} {ixs : List Ix} (h : BookAt w bk b bm ixs) (hb : ∀ k, BookF bk bm ixs k → w'.heap[k]? = w.heap[k]?) : BookAt w' bk b bm ixs :=
  { h with
    hb := (hb _ (.inl rfl)).trans h.hb
    hm := h.hm.frame (hb _ (.inr (.inl rfl)))
    ix := fun x hx => (h.ix x hx).frame fun k hk => hb k (.inr (.inr ⟨x, hx, hk⟩)) }
theorem BookAt.below {w w' : World} {bk b bm : Nat} {ixs : List Ix} (h : BookAt w bk b bm ixs) (hb : Below w.heap.size w w') : BookAt w' bk b bm ixs := h.frame fun k hk => hb.block k (h.lt k hk)
def Ix.abs (x : Ix) : Nat × List (Int × List Int) × Int := (x.m, x.took, x.gone)
theorem BookAt.nodup {w : World} {bk b bm : Nat} {ixs : List Ix} (h : BookAt w bk b bm ixs) : (ixs.map (·.m)).Nodup := by
  obtain ⟨_, _, _, _, _, h4, _⟩ := h.hm
  rw [List.map_map] at h4
  exact h4
theorem BookAt.look {w : World} {bk b bm : Nat} {ixs : List Ix} (h : BookAt w bk b bm ixs) (m : Nat) :
    (∃ l1 x l2, ixs = l1 ++ x :: l2 ∧ x.m = m ∧ lookKV (ixs.map fun x => (x.m, Value.pointer (some ⟨x.rb, 0, none⟩))) m = some (.pointer (some ⟨x.rb, 0, none⟩))) ∨
    (m ∉ ixs.map (·.m) ∧ lookKV (ixs.map fun x => (x.m, Value.pointer (some ⟨x.rb, 0, none⟩))) m = none) := by
  have hf : (ixs.map fun x => (x.m, Value.pointer (some ⟨x.rb, 0, none⟩))).map (·.1) = ixs.map (·.m) := by rw [List.map_map]; rfl
  by_cases hm : m ∈ ixs.map (·.m)
  · left
    obtain ⟨x, hx, rfl⟩ := List.mem_map.1 hm
    obtain ⟨l1, l2, e⟩ := List.append_of_mem hx
    refine ⟨l1, x, l2, e, rfl, ?_⟩
    exact look_of_mem (by rw [hf]; exact h.nodup) (List.mem_map.2 ⟨x, hx, rfl⟩)
  · right
    refine ⟨hm, look_none (by rw [hf]; exact hm)⟩
theorem BookAt.turn {w w' : World} {bk b bm : Nat} {l1 l2 : List Ix} {x x' : Ix} (h : BookAt w bk b bm (l1 ++ x :: l2)) (hm : x'.m = x.m) (hrb : x'.rb = x.rb) (hi : IxAt w' x' x'.took.length) (hk : KeptBut (IxF x) w w')
    (hf : ∀ k, IxF x' k → IxF x k ∨ w.heap.size ≤ k) :
    BookAt w' bk b bm (l1 ++ x' :: l2) ∧ KeptBut (BookF bk bm (l1 ++ x :: l2)) w w' ∧ (∀ k, BookF bk bm (l1 ++ x' :: l2) k → BookF bk bm (l1 ++ x :: l2) k ∨ w.heap.size ≤ k) := by
  have hx : x ∈ l1 ++ x :: l2 := by simp
  have hlt := h.lt
  have hsep := h.sep
  rw [List.pairwise_append] at hsep
  obtain ⟨s1, s2, s3⟩ := hsep
  rw [List.pairwise_cons] at s2
  have hother : ∀ y ∈ l1 ++ l2, ∀ k, IxF y k → ¬ IxF x k := fun y hy k h1 h2 => by
    rcases List.mem_append.1 hy with hy | hy
    · exact s3 y hy x (List.mem_cons_self ..) k h1 h2
    · exact s2.1 y hy k h2 h1
  have hmem : ∀ y, y ∈ l1 ++ x :: l2 ↔ y = x ∨ y ∈ l1 ++ l2 := fun y => by simp only [List.mem_append, List.mem_cons]; constructor <;> (intro h; rcases h with h | h | h <;> simp [h])
  have hmem' : ∀ y, y ∈ l1 ++ x' :: l2 ↔ y = x' ∨ y ∈ l1 ++ l2 := fun y => by simp only [List.mem_append, List.mem_cons]; constructor <;> (intro h; rcases h with h | h | h <;> simp [h])
  have hnew : ∀ y ∈ l1 ++ l2, ∀ k, IxF y k → ¬ IxF x' k := fun y hy k h1 h2 => by
    rcases hf k h2 with h2 | h2
    · exact hother y hy k h1 h2
    · have := (h.ix y ((hmem y).2 (.inr hy))).lt k h1
      omega
  refine ⟨⟨?_, ?_, ?_, ?_, h.ne, ?_⟩, hk.mono fun k hk => .inr (.inr ⟨x, hx, hk⟩), ?_⟩
  · rw [hk.block bk (hlt bk (.inl rfl)) (h.nb x hx).1]; exact h.hb
  · have e : ((l1 ++ x' :: l2).map fun x => (x.m, Value.pointer (some ⟨x.rb, 0, none⟩))) = (l1 ++ x :: l2).map fun x => (x.m, Value.pointer (some ⟨x.rb, 0, none⟩)) := by
      rw [List.map_append, List.map_append, List.map_cons, List.map_cons, hm, hrb]
    show MMapAt w' bm ((l1 ++ x' :: l2).map fun x => (x.m, Value.pointer (some ⟨x.rb, 0, none⟩)))
    rw [e]
    exact h.hm.frame (hk.block bm (hlt bm (.inr (.inl rfl))) (h.nb x hx).2)
  · intro y hy
    rcases (hmem' y).1 hy with rfl | hy
    · exact hi
    · have h1 := h.ix y ((hmem y).2 (.inr hy))
      exact h1.frame fun k hk' => hk.block k (h1.lt k hk') (hother y hy k hk')
  · rw [List.pairwise_append]
    refine ⟨s1, ?_, ?_⟩
    · rw [List.pairwise_cons]
      exact ⟨fun y hy k h1 h2 => hnew y (List.mem_append_right _ hy) k h2 h1, s2.2⟩
    · intro y hy z hz
      rcases List.mem_cons.1 hz with rfl | hz
      · exact hnew y (List.mem_append_left _ hy)
      · exact s3 y hy z (List.mem_cons_of_mem _ hz)
  · intro y hy
    rcases (hmem' y).1 hy with rfl | hy
    · refine ⟨fun h1 => ?_, fun h1 => ?_⟩
      · rcases hf _ h1 with h1 | h1
        · exact (h.nb x hx).1 h1
        · have := hlt bk (.inl rfl); omega
      · rcases hf _ h1 with h1 | h1
        · exact (h.nb x hx).2 h1
        · have := hlt bm (.inr (.inl rfl)); omega
    · exact h.nb y ((hmem y).2 (.inr hy))
  · rintro k (hk | hk | ⟨y, hy, hk⟩)
    · exact .inl (.inl hk)
    · exact .inl (.inr (.inl hk))
    · rcases (hmem' y).1 hy with rfl | hy
      · rcases hf k hk with hk | hk
        · exact .inl (.inr (.inr ⟨x, hx, hk⟩))
        · exact .inr hk
      · exact .inl (.inr (.inr ⟨y, (hmem y).2 (.inr hy), hk⟩))
theorem BookAt.more {w w' : World} {bk b bm : Nat} {ixs : List Ix} {x : Ix} (h : BookAt w bk b bm ixs) (hn : x.m ∉ ixs.map (·.m)) (hm : MMapAt w' bm (putKV (ixs.map fun x => (x.m, .pointer (some ⟨x.rb, 0, none⟩))) x.m (.pointer (some ⟨x.rb, 0, none⟩))))
    (hi : IxAt w' x x.took.length) (hk : KeptBut (fun k => k = bm) w w') (hf : ∀ k, IxF x k → w.heap.size ≤ k) :
    BookAt w' bk b bm (ixs ++ [x]) ∧ KeptBut (BookF bk bm ixs) w w' ∧ (∀ k, BookF bk bm (ixs ++ [x]) k → BookF bk bm ixs k ∨ w.heap.size ≤ k) := by
  have hlt := h.lt
  have hfst : (ixs.map fun x => (x.m, Value.pointer (some ⟨x.rb, 0, none⟩))).map (·.1) = ixs.map (·.m) := by rw [List.map_map]; rfl
  refine ⟨⟨?_, ?_, ?_, ?_, h.ne, ?_⟩, hk.mono fun k hk => .inr (.inl hk), ?_⟩
  · rw [hk.block bk (hlt bk (.inl rfl)) h.ne]; exact h.hb
  · unfold putKV at hm
    rw [hfst, if_neg hn] at hm
    show MMapAt w' bm ((ixs ++ [x]).map fun x => (x.m, Value.pointer (some ⟨x.rb, 0, none⟩)))
    rw [List.map_append]
    exact hm
  · intro y hy
    rcases List.mem_append.1 hy with hy | hy
    · have h1 := h.ix y hy
      exact h1.frame fun k hk' => hk.block k (h1.lt k hk') fun e => (h.nb y hy).2 (e ▸ hk')
    · rw [List.mem_singleton.1 hy]; exact hi
  · rw [List.pairwise_append]
    refine ⟨h.sep, List.pairwise_singleton _ _, ?_⟩
    intro y hy z hz k h1 h2
    rw [List.mem_singleton.1 hz] at h2
    have := hf k h2
    have := (h.ix y hy).lt k h1
    omega
  · intro y hy
    rcases List.mem_append.1 hy with hy | hy
    · exact h.nb y hy
    · rw [List.mem_singleton.1 hy]
      refine ⟨fun h1 => ?_, fun h1 => ?_⟩
      · have := hf _ h1; have := hlt bk (.inl rfl); omega
      · have := hf _ h1; have := hlt bm (.inr (.inl rfl)); omega
  · rintro k (hk | hk | ⟨y, hy, hk⟩)
    · exact .inl (.inl hk)
    · exact .inl (.inr (.inl hk))
    · rcases List.mem_append.1 hy with hy | hy
      · exact .inl (.inr (.inr ⟨y, hy, hk⟩))
      · rw [List.mem_singleton.1 hy] at hk; exact .inr (hf k hk)
end Go.Proofs.YtckhkfchgcdajaaGreatDoor

namespace Go.Proofs.YtckhkfchgcdajaaGreatDoor
open Go.Fx Go.RowKit
set_option maxRecDepth 100000 in
theorem under_there {w : World} (p : Addr) : Calls Tryz.prog 208 #[.agg #[.pointer (some p)]] w fun e w' => e = .returned (.bool true) ∧ Below w.heap.size w w' := by
  go_enter Tryz.func208, Tryz.ntmps208
  go_wp2_with fail
  simp [bodyPost, results, Tryz.results208, go_sem]
  exact (Below.refl _ w).alloc (Nat.le_refl _) _
set_option maxRecDepth 100000 in
theorem holds_calls {w : World} {b pb mb : Nat} {lv : Value} {arity : Nat} {gone : Int} (h : RelCells w b pb mb lv arity gone) (ha : arity ≤ 24) {m : Nat} (hm : MskOk m) :
    Calls Tryz.prog 209 #[.agg #[.pointer (some ⟨b, 0, none⟩)], .int .u32 (m : Int)] w fun e w' => e = .returned (.bool (decide (m < 2 ^ arity))) ∧ Below w.heap.size w w' := by
  have hba : Below w.heap.size w (w.alloc (.cells #[.pointer (some ⟨b, 0, none⟩)] 107)) := (Below.refl _ w).alloc (Nat.le_refl _) _
  have har := arity_calls (h.frame hba)
  have i1 : (0 : Int) ≤ (arity : Int) := by omega
  have i2 : (arity : Int) ≤ 24 := by omega
  go_enter Tryz.func209, Tryz.ntmps209
  go_wp2_with fail
  refine har.mono ?_
  rintro e w' ⟨rfl, hb⟩
  have hmm : (m : Int) < 4294967296 := by have : m < 4294967296 := hm; omega
  go_wp2_with fail
  simp [bodyPost, results, Tryz.results209, go_sem]
  refine ⟨?_, hba.trans (hb.mono hba.size)⟩
  rw [Bool.eq_iff_iff, beq_iff_eq, decide_eq_true_iff]
  have e : (m : Int) / 2 ^ arity = ((m / 2 ^ arity : Nat) : Int) := by simp
  rw [e]
  have h0 : 0 < 2 ^ arity := Nat.two_pow_pos arity
  constructor
  · intro h
    have h1 : m / 2 ^ arity = 0 := by omega
    exact (Nat.div_eq_zero_iff_lt h0).1 h1
  · intro h
    rw [(Nat.div_eq_zero_iff_lt h0).2 h]
    rfl
set_option maxRecDepth 100000 in
theorem range_calls {w : World} (p : Option Addr) (s n : Int) :
    Calls Tryz.prog 211 #[.pointer p, .int .i64 s, .int .i64 n] w fun e w' => e = .returned (.func (.func 220) #[] #[.pointer (some ⟨w.heap.size, 0, none⟩), .pointer (some ⟨w.heap.size + 1, 0, none⟩), .pointer (some ⟨w.heap.size + 2, 0, none⟩)]) ∧
      w'.heap[w.heap.size]? = some (.cells #[.pointer p] 68 (0, 0)) ∧ w'.heap[w.heap.size + 1]? = some (.cells #[.int .i64 s] 3 (0, 0)) ∧ w'.heap[w.heap.size + 2]? = some (.cells #[.int .i64 n] 3 (0, 0)) ∧ Below w.heap.size w w' := by
  go_enter Tryz.func211, Tryz.ntmps211
  go_wp2_with fail
  refine bodyPost_ret (v := .func (.func 220) #[] #[.pointer (some ⟨w.heap.size, 0, none⟩), .pointer (some ⟨w.heap.size + 1, 0, none⟩), .pointer (some ⟨w.heap.size + 2, 0, none⟩)]) (by simp [results, Tryz.results211, go_sem]) rfl ⟨rfl, ?_, ?_, ?_, ?_⟩
  · rw [alloc_heap, if_neg (by rw [alloc_size, alloc_size]; omega), alloc_heap, if_neg (by rw [alloc_size]; omega), alloc_heap, if_pos rfl]
  · rw [alloc_heap, if_neg (by rw [alloc_size, alloc_size]; omega), alloc_heap, if_pos (by rw [alloc_size])]
  · rw [alloc_heap, if_pos (by rw [alloc_size, alloc_size])]
  · exact (((Below.refl _ w).alloc (Nat.le_refl _) _).alloc (by rw [alloc_size]; omega) _).alloc (by rw [alloc_size, alloc_size]; omega) _
end Go.Proofs.YtckhkfchgcdajaaGreatDoor

namespace Go.Proofs.YtckhkfchgcdajaaGreatDoor
open Go.Fx Go.RowKit
set_option maxRecDepth 100000 in
theorem there_same {w : World} {b : Nat} {a : Addr} (h2 : w.cell? ⟨b, 2, none⟩ = some (.pointer (some a))) :
    Calls Tryz.prog 19 #[.pointer (some ⟨b, 0, none⟩)] w fun e w' => e = .returned (.bool true) ∧ w' = w := by
  go_enter Tryz.func19, Tryz.ntmps19
  go_wp2_with fail
  simp [bodyPost, results, Tryz.results19, go_sem]
set_option maxRecDepth 100000 in
theorem gone_same {w : World} {b pb mb : Nat} {lv : Value} {arity gone : Int} (h : RelCells w b pb mb lv arity gone) :
    Calls Tryz.prog 210 #[.pointer (some ⟨b, 0, none⟩)] w fun e w' => e = .returned (.int .i64 gone) ∧ w' = w := by
  have hth := there_same h.h2
  have h1 := h.h1
  go_enter Tryz.func210, Tryz.ntmps210
  go_wp2_with fail
  refine hth.mono ?_
  rintro e w' ⟨rfl, rfl⟩
  go_wp2_with fail
  simp [bodyPost, results, Tryz.results210, go_sem]
set_option maxRecDepth 100000 in
theorem len_same {w : World} {b pb mb : Nat} {ad : Option Addr} {n cap : Nat} {arity gone : Int} (h : RelCells w b pb mb (.slice ad n cap) arity gone) :
    Calls Tryz.prog 6 #[.pointer (some ⟨b, 0, none⟩)] w fun e w' => e = .returned (.int .i64 n) ∧ w' = w := by
  have hth := there_same h.h2
  have h2 := h.h2
  have p0 := h.p0
  go_enter Tryz.func6, Tryz.ntmps6
  go_wp2_with fail
  refine hth.mono ?_
  rintro e w' ⟨rfl, rfl⟩
  go_wp2_with fail
  simp [bodyPost, results, Tryz.results6, go_sem]
end Go.Proofs.YtckhkfchgcdajaaGreatDoor

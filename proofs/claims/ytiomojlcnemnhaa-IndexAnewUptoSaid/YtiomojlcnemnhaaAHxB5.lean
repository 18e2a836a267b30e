import Derived.Test.YtiomojlcnemnhaaAHxB4
namespace Go.Proofs.Ytiomojlcnemnhaa
open Go.Fx Go.RowKit
def idsOf (m : Nat) (took : List (Int × List Int)) (q : List Int) : List Int := (took.filter fun p => decide (keyRow m p.2 = q)).map (·.1)
def addKey (l : List (List Int)) (q : List Int) : List (List Int) := if q ∈ l then l else l ++ [q]
def keysOf (m : Nat) (took : List (Int × List Int)) : List (List Int) := took.foldl (fun l p => addKey l (keyRow m p.2)) []
theorem idsOf_snoc (m : Nat) (took : List (Int × List Int)) (p : Int × List Int) (q : List Int) : idsOf m (took ++ [p]) q = if keyRow m p.2 = q then idsOf m took q ++ [p.1] else idsOf m took q := by
  unfold idsOf
  rw [List.filter_append, List.map_append]
  by_cases h : keyRow m p.2 = q
  · rw [if_pos h]; simp [h]
  · rw [if_neg h]; simp [h]
theorem keysOf_snoc (m : Nat) (took : List (Int × List Int)) (p : Int × List Int) : keysOf m (took ++ [p]) = addKey (keysOf m took) (keyRow m p.2) := by
  unfold keysOf
  rw [List.foldl_append]
  rfl
theorem mem_addKey {l : List (List Int)} {q x : List Int} : x ∈ addKey l q ↔ x ∈ l ∨ x = q := by
  unfold addKey
  split
  · exact ⟨.inl, fun h => h.elim id fun e => e ▸ ‹_›⟩
  · simp
theorem nodup_addKey {l : List (List Int)} {q : List Int} (h : l.Nodup) : (addKey l q).Nodup := by
  unfold addKey
  split
  · exact h
  · rename_i hq
    rw [List.nodup_append]
    exact ⟨h, by simp, fun a ha b hb e => by rw [List.mem_singleton.1 hb] at e; exact hq (e ▸ ha)⟩
theorem keys_fold (m : Nat) : ∀ (l : List (Int × List Int)) (acc : List (List Int)), acc.Nodup → (l.foldl (fun l p => addKey l (keyRow m p.2)) acc).Nodup ∧ ∀ q, q ∈ l.foldl (fun l p => addKey l (keyRow m p.2)) acc ↔ q ∈ acc ∨ ∃ p ∈ l, keyRow m p.2 = q
  | [], acc, h => ⟨h, fun q => by simp⟩
  | p :: l, acc, h => by
    obtain ⟨h1, h2⟩ := keys_fold m l (addKey acc (keyRow m p.2)) (nodup_addKey h)
    refine ⟨h1, fun q => ?_⟩
    rw [List.foldl_cons, h2, mem_addKey]
    constructor
    · rintro ((h | rfl) | ⟨p', h1, h2⟩)
      · exact .inl h
      · exact .inr ⟨p, List.mem_cons_self .., rfl⟩
      · exact .inr ⟨p', List.mem_cons_of_mem _ h1, h2⟩
    · rintro (h | ⟨p', h1, h3⟩)
      · exact .inl (.inl h)
      · rcases List.mem_cons.1 h1 with rfl | h1
        · exact .inl (.inr h3.symm)
        · exact .inr ⟨p', h1, h3⟩
theorem keysOf_all (m : Nat) (took : List (Int × List Int)) : (keysOf m took).Nodup ∧ ∀ q, q ∈ keysOf m took ↔ ∃ p ∈ took, keyRow m p.2 = q := by
  obtain ⟨h1, h2⟩ := keys_fold m took [] List.nodup_nil
  exact ⟨h1, fun q => (h2 q).trans (by simp)⟩
theorem ids_none {m : Nat} {took : List (Int × List Int)} {q : List Int} (h : q ∉ keysOf m took) : idsOf m took q = [] := by
  unfold idsOf
  rw [List.filter_eq_nil_iff.2 fun p hp => ?_]
  · rfl
  · simp only [decide_eq_true_eq]
    exact fun e => h (((keysOf_all m took).2 q).2 ⟨p, hp, e⟩)
theorem ids_len (m : Nat) (took : List (Int × List Int)) (q : List Int) : (idsOf m took q).length ≤ took.length := by
  unfold idsOf
  rw [List.length_map]
  exact List.length_filter_le _ _
abbrev intV (i : Int) : Value := .int .i64 i
structure Ix where
  m : Nat
  took : List (Int × List Int)
  gone : Int
  rb : Nat
  kb : Nat
  sl : List Int → Value
def Ix.keys (x : Ix) : List (List Int) := keysOf x.m x.took
def Ix.kv (x : Ix) : KV := x.keys.map fun q => (q, x.sl q)
theorem Ix.kv_fst (x : Ix) : x.kv.map (·.1) = x.keys := by unfold Ix.kv; rw [List.map_map]; exact List.map_id _
def IxF (x : Ix) (k : Nat) : Prop := k = x.rb ∨ k = x.kb ∨ ∃ q ∈ x.keys, (x.sl q).ownBlock = some k
structure IxAt (w : World) (x : Ix) (s : Nat) : Prop where
  hr : w.heap[x.rb]? = some (.cells #[.map (some x.kb), .int .i64 (s : Int), .int .i64 x.gone] 171 (0, 0))
  hk : MapAt w x.kb x.kv
  hs : ∀ q ∈ x.keys, w.ownsRow 0 3 1 (x.sl q) (idsOf x.m x.took q).length ((idsOf x.m x.took q).map intV)
  ok : ∀ p ∈ x.took, RowOk p.2
  ne : x.rb ≠ x.kb
  nr : ∀ q ∈ x.keys, (x.sl q).ownBlock ≠ some x.rb ∧ (x.sl q).ownBlock ≠ some x.kb
  nn : ∀ q ∈ x.keys, ∀ q' ∈ x.keys, ∀ k, (x.sl q).ownBlock = some k → (x.sl q').ownBlock = some k → q = q'
theorem IxAt.lt {w : World} {x : Ix} {s : Nat} (h : IxAt w x s) : ∀ k, IxF x k → k < w.heap.size := by
  rintro k (rfl | rfl | ⟨q, hq, hk⟩)
  · exact (Array.getElem?_eq_some_iff.1 h.hr).1
  · exact h.hk.lt
  · exact own_lt (h.hs q hq) hk
theorem IxAt.frame {w w' : World} {x : Ix} {s : Nat} (h : IxAt w x s) (hb : ∀ k, IxF x k → w'.heap[k]? = w.heap[k]?) : IxAt w' x s :=
  { h with
    hr := (hb _ (.inl rfl)).trans h.hr
    hk := h.hk.frame (hb _ (.inr (.inl rfl)))
    hs := fun q hq => ownsRow_of_block (h.hs q hq) fun k hk => hb k (.inr (.inr ⟨q, hq, hk⟩)) }
def Ix.at (x : Ix) (q : List Int) : Value := (lookKV x.kv q).getD (.slice none 0 0)
theorem Ix.at_mem {x : Ix} {q : List Int} (h : q ∈ x.keys) : x.at q = x.sl q := by
  unfold Ix.at
  rw [look_of_mem (kv := x.kv) (x := q) (v := x.sl q) (by rw [Ix.kv_fst]; exact (keysOf_all _ _).1) (List.mem_map.2 ⟨q, h, rfl⟩)]
  rfl
theorem look_none {α : Type} [DecidableEq α] {kv : List (α × Value)} {q : α} (h : q ∉ kv.map (·.1)) : lookKV kv q = none := by
  unfold lookKV
  rw [List.find?_eq_none.2 fun p hp => by simp only [decide_eq_true_eq]; exact fun e => h (List.mem_map.2 ⟨p, hp, e⟩)]
  rfl
theorem Ix.at_none {x : Ix} {q : List Int} (h : q ∉ x.keys) : x.at q = .slice none 0 0 := by
  unfold Ix.at
  rw [look_none (by rw [Ix.kv_fst]; exact h)]
  rfl
theorem IxAt.at {w : World} {x : Ix} {s : Nat} (h : IxAt w x s) (q : List Int) : w.ownsRow 0 3 1 (x.at q) (idsOf x.m x.took q).length ((idsOf x.m x.took q).map intV) := by
  by_cases hq : q ∈ x.keys
  · rw [Ix.at_mem hq]; exact h.hs q hq
  · rw [Ix.at_none hq, ids_none hq]
    exact World.ownsRow_nil _ _ _ _
theorem Ix.at_block {x : Ix} {q : List Int} {k : Nat} (h : (x.at q).ownBlock = some k) : q ∈ x.keys ∧ (x.sl q).ownBlock = some k := by
  by_cases hq : q ∈ x.keys
  · rw [Ix.at_mem hq] at h; exact ⟨hq, h⟩
  · rw [Ix.at_none hq] at h; cases h
def Ix.add (x : Ix) (p : Int × List Int) (v : Value) : Ix := { x with took := x.took ++ [p], sl := fun q => if q = keyRow x.m p.2 then v else x.sl q }
theorem Ix.add_keys (x : Ix) (p : Int × List Int) (v : Value) : (x.add p v).keys = addKey x.keys (keyRow x.m p.2) := keysOf_snoc _ _ _
theorem Ix.add_kv (x : Ix) (p : Int × List Int) (v : Value) : (x.add p v).kv = putKV (entKV x.kv (keyRow x.m p.2) (.slice none 0 0)) (keyRow x.m p.2) v := by
  have hn := (keysOf_all x.m x.took).1
  unfold Ix.kv
  rw [Ix.add_keys]
  have hf : (x.keys.map fun q => (q, x.sl q)).map (·.1) = x.keys := x.kv_fst
  unfold entKV addKey
  rw [hf]
  by_cases hq : keyRow x.m p.2 ∈ x.keys
  · rw [if_pos hq, if_pos hq]
    unfold putKV
    rw [hf, if_pos hq, List.map_map]
    refine List.map_congr_left fun q _ => ?_
    simp only [Function.comp, Ix.add]
    split
    · rename_i e; rw [e]
    · rfl
  · rw [if_neg hq, if_neg hq]
    unfold putKV
    have hc : keyRow x.m p.2 ∈ (List.map (fun q => (q, x.sl q)) x.keys ++ [(keyRow x.m p.2, Value.slice none 0 0)]).map (·.1) := by
      rw [List.map_append, hf]; simp
    rw [if_pos hc, List.map_append, List.map_append]
    congr 1
    · rw [List.map_map]
      refine List.map_congr_left fun q hq2 => ?_
      have : q ≠ keyRow x.m p.2 := fun e => hq (e ▸ hq2)
      simp [Ix.add, this]
    · simp [Ix.add]
theorem ix_step {w w' : World} {x : Ix} {s : Nat} (h : IxAt w x s) {p : Int × List Int} (hp : RowOk p.2) {v : Value}
    (hr : w'.heap[x.rb]? = w.heap[x.rb]?) (hk : MapAt w' x.kb (putKV (entKV x.kv (keyRow x.m p.2) (.slice none 0 0)) (keyRow x.m p.2) v))
    (hv : w'.ownsRow 0 3 1 v ((idsOf x.m x.took (keyRow x.m p.2)).length + 1) ((idsOf x.m x.took (keyRow x.m p.2)).map intV ++ [intV p.1]))
    (hb : ∀ k, k < w.heap.size → k ≠ x.kb → (x.at (keyRow x.m p.2)).ownBlock ≠ some k → w'.heap[k]? = w.heap[k]?)
    (hat : v.ownBlock = (x.at (keyRow x.m p.2)).ownBlock ∨ ∃ g, v.ownBlock = some g ∧ w.heap.size ≤ g) :
    IxAt w' (x.add p v) s ∧ (∀ k, IxF (x.add p v) k → IxF x k ∨ w.heap.size ≤ k) := by
  have hlr := h.lt x.rb (.inl rfl)
  have hlk := h.lt x.kb (.inr (.inl rfl))
  have hq0 := Ix.add_keys x p v
  generalize hq1 : keyRow x.m p.2 = q0 at *
  have hsl : ∀ q, (x.add p v).sl q = if q = q0 then v else x.sl q := fun q => by simp only [Ix.add, hq1]
  have hvb : ∀ k, v.ownBlock = some k → k ≠ x.rb ∧ k ≠ x.kb ∧ ∀ q ∈ x.keys, q ≠ q0 → (x.sl q).ownBlock ≠ some k := by
    intro k hk
    rcases hat with hat | ⟨g, hg, hge⟩
    · rw [hat] at hk
      obtain ⟨h1, h2⟩ := Ix.at_block hk
      exact ⟨fun e => (h.nr q0 h1).1 (e ▸ h2), fun e => (h.nr q0 h1).2 (e ▸ h2), fun q hq hne hc => hne (h.nn q hq q0 h1 k hc h2)⟩
    · rw [hg] at hk
      injection hk with hk
      subst hk
      refine ⟨by omega, by omega, fun q hq _ hc => ?_⟩
      have := own_lt (h.hs q hq) hc
      omega
  have hmem : ∀ q, q ∈ (x.add p v).keys ↔ q ∈ x.keys ∨ q = q0 := fun q => by rw [hq0, mem_addKey]
  refine ⟨⟨hr.trans h.hr, by rw [Ix.add_kv, hq1]; exact hk, ?_, ?_, h.ne, ?_, ?_⟩, ?_⟩
  · intro q hq
    show w'.ownsRow 0 3 1 ((x.add p v).sl q) (idsOf x.m (x.took ++ [p]) q).length ((idsOf x.m (x.took ++ [p]) q).map intV)
    rw [hsl, idsOf_snoc, hq1]
    by_cases e : q = q0
    · subst e
      rw [if_pos rfl, if_pos rfl, List.length_append, List.length_singleton, List.map_append]
      exact hv
    · rw [if_neg e, if_neg (fun h => e h.symm)]
      have hq2 := ((hmem q).1 hq).resolve_right e
      refine ownsRow_of_block (h.hs q hq2) fun k hk => ?_
      refine hb k (own_lt (h.hs q hq2) hk) (fun e => (h.nr q hq2).2 (e ▸ hk)) fun hc => ?_
      obtain ⟨h1, h2⟩ := Ix.at_block hc
      exact e (h.nn q hq2 q0 h1 k hk h2)
  · intro p' hp'
    rcases List.mem_append.1 hp' with hp' | hp'
    · exact h.ok p' hp'
    · rw [List.mem_singleton.1 hp']; exact hp
  · intro q hq
    show ((x.add p v).sl q).ownBlock ≠ some x.rb ∧ ((x.add p v).sl q).ownBlock ≠ some x.kb
    rw [hsl]
    by_cases e : q = q0
    · rw [if_pos e]
      exact ⟨fun hc => (hvb _ hc).1 rfl, fun hc => (hvb _ hc).2.1 rfl⟩
    · rw [if_neg e]
      exact h.nr q (((hmem q).1 hq).resolve_right e)
  · intro q hq q' hq' k hk hk'
    rw [hsl] at hk hk'
    by_cases e : q = q0
    · rw [if_pos e] at hk
      by_cases e' : q' = q0
      · rw [e, e']
      · rw [if_neg e'] at hk'
        exact absurd hk' ((hvb k hk).2.2 q' (((hmem q').1 hq').resolve_right e') e')
    · rw [if_neg e] at hk
      by_cases e' : q' = q0
      · rw [if_pos e'] at hk'
        exact absurd hk ((hvb k hk').2.2 q (((hmem q).1 hq).resolve_right e) e)
      · rw [if_neg e'] at hk'
        exact h.nn q (((hmem q).1 hq).resolve_right e) q' (((hmem q').1 hq').resolve_right e') k hk hk'
  · rintro k (hk | hk | ⟨q, hq, hk⟩)
    · exact .inl (.inl hk)
    · exact .inl (.inr (.inl hk))
    · rw [hsl] at hk
      by_cases e : q = q0
      · rw [if_pos e] at hk
        rcases hat with hat | ⟨g, hg, hge⟩
        · rw [hat] at hk
          obtain ⟨h1, h2⟩ := Ix.at_block hk
          exact .inl (.inr (.inr ⟨q0, h1, h2⟩))
        · rw [hg] at hk
          injection hk with hk
          exact .inr (hk ▸ hge)
      · rw [if_neg e] at hk
        exact .inl (.inr (.inr ⟨q, ((hmem q).1 hq).resolve_right e, hk⟩))
end Go.Proofs.Ytiomojlcnemnhaa

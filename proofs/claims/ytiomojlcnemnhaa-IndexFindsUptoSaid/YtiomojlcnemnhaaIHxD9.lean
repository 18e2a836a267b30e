import Derived.Test.YtiomojlcnemnhaaIHxB5
namespace Go.Proofs.Ytiomojlcnemnhaa
open Go.Fx Go.RowKit
def keysN (m : Nat) (rows : List (List Int)) (i : Nat) : Nat := (keysOf m (nums 0 (rows.take i))).length
def sumN (m : Nat) (rows : List (List Int)) (i : Nat) : Nat := ((keysOf m (nums 0 (rows.take i))).map fun q => (idsOf m (nums 0 rows) q).length).sum
structure GotOk (m1 more : Nat) (rows : List (List Int)) (i : Nat) (x : List Int) (got few : List Int) : Prop where
  eg : idsOf m1 (nums 0 rows) (keyRow m1 x) = got
  ef : idsOf more (nums 0 rows) (keyRow more x) = few
  le : few.length ≤ got.length
  at_ : ∀ k, k < got.length → ∃ j : Nat, got.getD k 0 = (j : Int) ∧ j < rows.length ∧ keyRow m1 x = keyRow m1 (rows.getD j [])
  up : ∀ k, k + 1 < got.length → got.getD k 0 < got.getD (k + 1) 0
  mine : (i : Int) ∈ got
  top : got.length ≤ rows.length
  first : got.getD 0 0 = (i : Int) → keysN m1 rows (i + 1) = keysN m1 rows i + 1 ∧ sumN m1 rows (i + 1) = sumN m1 rows i + got.length
  later : got.getD 0 0 ≠ (i : Int) → keysN m1 rows (i + 1) = keysN m1 rows i ∧ sumN m1 rows (i + 1) = sumN m1 rows i
theorem getD_eq {α : Type} {l : List α} {k : Nat} {d : α} (h : k < l.length) : l.getD k d = l[k] := by rw [List.getD_eq_getElem?_getD, List.getElem?_eq_getElem h, Option.getD_some]
theorem keyRow_eq {m : Nat} {a b : List Int} : keyRow m a = keyRow m b ↔ ∀ i, i < 24 → m.testBit i = true → a.getD i 0 = b.getD i 0 := by
  rw [keyRow, keyRow, keyTo, keyTo, List.map_inj_left]
  constructor
  · intro h i hi hb
    have := h i (List.mem_range.2 hi)
    rwa [if_pos hb, if_pos hb] at this
  · intro h i hi
    by_cases hb : m.testBit i = true
    · rw [if_pos hb, if_pos hb]; exact h i (List.mem_range.1 hi) hb
    · rw [if_neg hb, if_neg hb]
theorem keyRow_getD {m : Nat} {a : List Int} {i : Nat} (hi : i < 24) : (keyRow m a).getD i 0 = if m.testBit i then a.getD i 0 else 0 := by
  rw [getD_eq (by rw [keyTo_len]; exact hi)]
  simp [keyTo]
theorem key_mono {m more : Nat} (hb : ∀ i, m.testBit i = true → more.testBit i = true) {a b : List Int} (h : keyRow more a = keyRow more b) : keyRow m a = keyRow m b :=
  keyRow_eq.2 fun i hi hm => keyRow_eq.1 h i hi (hb i hm)
theorem key_key {m more : Nat} (hb : ∀ i, m.testBit i = true → more.testBit i = true) (a : List Int) : keyRow m (keyRow more a) = keyRow m a :=
  keyRow_eq.2 fun i hi hm => by rw [keyRow_getD hi, if_pos (hb i hm)]
theorem mem_nums {o : Nat} {l : List (List Int)} {p : Int × List Int} : p ∈ nums o l ↔ ∃ j, j < l.length ∧ p = (((o + j : Nat) : Int), l.getD j []) := by
  rw [List.mem_iff_getElem?]
  constructor
  · rintro ⟨j, hj⟩
    have hlt : j < l.length := by
      rw [← nums_len o l]
      exact (List.getElem?_eq_some_iff.1 hj).1
    rw [nums_get o l j hlt] at hj
    exact ⟨j, hlt, by rw [getD_eq hlt]; exact (Option.some.inj hj).symm⟩
  · rintro ⟨j, hlt, rfl⟩
    exact ⟨j, by rw [nums_get o l j hlt, getD_eq hlt]⟩
theorem nums_up (o : Nat) (l : List (List Int)) : (nums o l).Pairwise fun p p' => p.1 < p'.1 := by
  induction l generalizing o with
  | nil => exact List.Pairwise.nil
  | cons x l ih =>
    refine List.Pairwise.cons (fun p hp => ?_) (ih (o + 1))
    obtain ⟨j, _, rfl⟩ := mem_nums.1 hp
    show (o : Int) < ((o + 1 + j : Nat) : Int)
    omega
theorem nums_snoc (o : Nat) (l : List (List Int)) (x : List Int) : nums o (l ++ [x]) = nums o l ++ [(((o + l.length : Nat) : Int), x)] := by
  induction l generalizing o with
  | nil => rfl
  | cons y l ih =>
    rw [List.cons_append, nums, ih, nums, List.cons_append, List.length_cons]
    congr 4
    omega
theorem ids_mem {m : Nat} {l : List (List Int)} {q : List Int} {v : Int} : v ∈ idsOf m (nums 0 l) q ↔ ∃ j : Nat, j < l.length ∧ v = (j : Int) ∧ keyRow m (l.getD j []) = q := by
  unfold idsOf
  rw [List.mem_map]
  constructor
  · rintro ⟨p, hp, rfl⟩
    rw [List.mem_filter, decide_eq_true_iff] at hp
    obtain ⟨j, hj, rfl⟩ := mem_nums.1 hp.1
    exact ⟨j, hj, by simp, hp.2⟩
  · rintro ⟨j, hj, rfl, hk⟩
    refine ⟨((j : Int), l.getD j []), List.mem_filter.2 ⟨mem_nums.2 ⟨j, hj, by simp⟩, decide_eq_true hk⟩, rfl⟩
theorem ids_up (m : Nat) (l : List (List Int)) (q : List Int) : (idsOf m (nums 0 l) q).Pairwise (· < ·) := by
  unfold idsOf
  rw [List.pairwise_map]
  exact (nums_up 0 l).filter _
theorem ids_fewer {m more : Nat} (hb : ∀ i, m.testBit i = true → more.testBit i = true) (T : List (Int × List Int)) (x : List Int) : (idsOf more T (keyRow more x)).length ≤ (idsOf m T (keyRow m x)).length := by
  unfold idsOf
  rw [List.length_map, List.length_map, ← List.countP_eq_length_filter, ← List.countP_eq_length_filter]
  refine List.countP_mono_left fun p _ h => ?_
  rw [decide_eq_true_iff] at h ⊢
  exact key_mono hb h
theorem keysN_succ {m : Nat} {rows : List (List Int)} {i : Nat} (hi : i < rows.length) : keysOf m (nums 0 (rows.take (i + 1))) = addKey (keysOf m (nums 0 (rows.take i))) (keyRow m (rows.getD i [])) := by
  rw [List.take_succ_eq_append_getElem hi, nums_snoc, keysOf_snoc, getD_eq hi]
theorem mem_keys {m : Nat} {l : List (List Int)} {q : List Int} : q ∈ keysOf m (nums 0 l) ↔ ∃ j, j < l.length ∧ keyRow m (l.getD j []) = q := by
  rw [(keysOf_all m (nums 0 l)).2 q]
  constructor
  · rintro ⟨p, hp, h⟩
    obtain ⟨j, hj, rfl⟩ := mem_nums.1 hp
    exact ⟨j, hj, h⟩
  · rintro ⟨j, hj, h⟩
    exact ⟨_, mem_nums.2 ⟨j, hj, rfl⟩, h⟩
theorem take_getD {l : List (List Int)} {i j : Nat} (hj : j < i) : (l.take i).getD j [] = l.getD j [] := by
  rw [List.getD_eq_getElem?_getD, List.getD_eq_getElem?_getD, List.getElem?_take, if_pos hj]
theorem keysN_le {m : Nat} {rows : List (List Int)} {i : Nat} (hi : i ≤ rows.length) : keysN m rows i ≤ rows.length := by
  have h : ∀ i, i ≤ rows.length → keysN m rows i ≤ i := by
    intro i
    induction i with
    | zero => intro _; simp [keysN, nums, keysOf]
    | succ i ih =>
      intro hi
      have := ih (by omega)
      unfold keysN at this ⊢
      rw [keysN_succ (by omega), addKey]
      split
      · omega
      · rw [List.length_append, List.length_singleton]; omega
  exact Nat.le_trans (h i hi) hi
theorem sum_one {q : List Int} : ∀ {Q : List (List Int)}, Q.Nodup → ((Q.map fun p => if q = p then 1 else 0).sum = if q ∈ Q then 1 else 0)
  | [], _ => rfl
  | p :: Q, h => by
    rw [List.nodup_cons] at h
    rw [List.map_cons, List.sum_cons, sum_one h.2]
    by_cases hq : q = p
    · subst hq
      simp [h.1]
    · simp [hq]
theorem sum_add {Q : List (List Int)} {f g : List Int → Nat} : (Q.map fun q => f q + g q).sum = (Q.map f).sum + (Q.map g).sum := by
  induction Q with
  | nil => rfl
  | cons q Q ih => simp only [List.map_cons, List.sum_cons, ih]; omega
theorem ids_cons (m : Nat) (p : Int × List Int) (T : List (Int × List Int)) (q : List Int) : (idsOf m (p :: T) q).length = (if keyRow m p.2 = q then 1 else 0) + (idsOf m T q).length := by
  unfold idsOf
  by_cases h : keyRow m p.2 = q
  · simp [h]; omega
  · simp [h]
theorem sum_ids (m : Nat) {Q : List (List Int)} (hQ : Q.Nodup) : ∀ T : List (Int × List Int), (Q.map fun q => (idsOf m T q).length).sum = (T.filter fun p => decide (keyRow m p.2 ∈ Q)).length
  | [] => by
    have : (Q.map fun q => (idsOf m [] q).length) = Q.map fun _ => 0 := rfl
    rw [this]
    induction Q with
    | nil => rfl
    | cons q Q ih => simp only [List.map_cons, List.sum_cons]; rw [ih (List.nodup_cons.1 hQ).2 rfl]; rfl
  | p :: T => by
    have : (Q.map fun q => (idsOf m (p :: T) q).length) = Q.map fun q => (if keyRow m p.2 = q then 1 else 0) + (idsOf m T q).length := List.map_congr_left fun q _ => ids_cons m p T q
    rw [this, sum_add, sum_one hQ, sum_ids m hQ T, List.filter_cons]
    by_cases h : keyRow m p.2 ∈ Q
    · simp [h]; omega
    · simp [h]
theorem sumN_le {m : Nat} {rows : List (List Int)} {i : Nat} : sumN m rows i ≤ rows.length := by
  unfold sumN
  rw [sum_ids m (keysOf_all m _).1, ← nums_len 0 rows]
  exact List.length_filter_le _ _
theorem keysN_all (m : Nat) (rows : List (List Int)) : keysN m rows rows.length = (keysOf m (nums 0 rows)).length := by rw [keysN, List.take_length]
theorem sumN_all (m : Nat) (rows : List (List Int)) : sumN m rows rows.length = rows.length := by
  unfold sumN
  rw [List.take_length, sum_ids m (keysOf_all m _).1, List.filter_eq_self.2, nums_len]
  intro p hp
  exact decide_eq_true (((keysOf_all m _).2 _).2 ⟨p, hp, rfl⟩)
theorem nodup_le {l : List (List Int)} (hl : l.Nodup) : ∀ {l' : List (List Int)}, (∀ x ∈ l, x ∈ l') → l.length ≤ l'.length := by
  induction l with
  | nil => intro _ _; exact Nat.zero_le _
  | cons x l ih =>
    intro l' h
    rw [List.nodup_cons] at hl
    obtain ⟨l1, l2, rfl⟩ := List.append_of_mem (h x (List.mem_cons_self ..))
    have := ih hl.2 (l' := l1 ++ l2) fun y hy => by
      have h1 := h y (List.mem_cons_of_mem _ hy)
      simp only [List.mem_append, List.mem_cons] at h1 ⊢
      rcases h1 with h1 | rfl | h1
      · exact .inl h1
      · exact absurd hy hl.1
      · exact .inr h1
    simp only [List.length_append, List.length_cons] at this ⊢
    omega
theorem keys_more {m more : Nat} {rows : List (List Int)} (hbits : ∀ i, m.testBit i = true → more.testBit i = true) : (keysOf m (nums 0 rows)).length ≤ (keysOf more (nums 0 rows)).length := by
  have := nodup_le (keysOf_all m (nums 0 rows)).1 (l' := (keysOf more (nums 0 rows)).map (keyRow m)) fun q hq => by
    obtain ⟨j, hj, rfl⟩ := mem_keys.1 hq
    exact List.mem_map.2 ⟨keyRow more (rows.getD j []), mem_keys.2 ⟨j, hj, rfl⟩, key_key hbits _⟩
  rwa [List.length_map] at this
theorem got_ok {m1 more : Nat} {rows : List (List Int)} {i : Nat} (hi : i < rows.length) (hbits : ∀ i, m1.testBit i = true → more.testBit i = true) : ∃ got few, GotOk m1 more rows i (rows.getD i []) got few := by
  have hup := ids_up m1 rows (keyRow m1 (rows.getD i []))
  have hmem := fun v => ids_mem (m := m1) (l := rows) (q := keyRow m1 (rows.getD i [])) (v := v)
  have hle := ids_fewer hbits (nums 0 rows) (rows.getD i [])
  have htop := ids_len m1 (nums 0 rows) (keyRow m1 (rows.getD i []))
  rw [nums_len] at htop
  have hs := keysN_succ (m := m1) hi
  have hadd : ∀ q, (idsOf m1 (nums 0 rows) q).length = (idsOf m1 (nums 0 rows) q).length := fun _ => rfl
  obtain ⟨got, hg⟩ : ∃ got, idsOf m1 (nums 0 rows) (keyRow m1 (rows.getD i [])) = got := ⟨_, rfl⟩
  rw [hg] at hup hle htop
  simp only [hg] at hmem
  have hmine : (i : Int) ∈ got := (hmem _).2 ⟨i, hi, rfl, rfl⟩
  have hpos : 0 < got.length := List.length_pos_of_mem hmine
  have h0 : ∀ v ∈ got, got.getD 0 0 ≤ v := fun v hv => by
    rw [getD_eq hpos]
    obtain ⟨k, hk, rfl⟩ := List.getElem_of_mem hv
    rcases Nat.eq_zero_or_pos k with rfl | h
    · exact Int.le_refl _
    · exact Int.le_of_lt (List.pairwise_iff_getElem.1 hup 0 k hpos hk h)
  refine ⟨got, _, hg, rfl, hle, fun k hk => ?_, fun k hk => ?_, hmine, htop, fun hf => ?_, fun hf => ?_⟩
  · rw [getD_eq hk]
    obtain ⟨j, h1, h2, h3⟩ := (hmem _).1 (List.getElem_mem hk)
    exact ⟨j, h2, h1, h3.symm⟩
  · rw [getD_eq (by omega), getD_eq hk]
    exact List.pairwise_iff_getElem.1 hup k (k + 1) (by omega) hk (by omega)
  · have hno : keyRow m1 (rows.getD i []) ∉ keysOf m1 (nums 0 (rows.take i)) := fun h => by
      obtain ⟨j, hj, hk⟩ := mem_keys.1 h
      rw [List.length_take] at hj
      rw [take_getD (by omega)] at hk
      have := h0 _ ((hmem (j : Int)).2 ⟨j, by omega, rfl, hk⟩)
      rw [hf] at this
      omega
    rw [addKey, if_neg hno] at hs
    unfold keysN sumN
    rw [hs]
    refine ⟨by simp, ?_⟩
    rw [List.map_append, List.sum_append, List.map_singleton, hg]
    simp
  · have hin : keyRow m1 (rows.getD i []) ∈ keysOf m1 (nums 0 (rows.take i)) := by
      have hm0 : got.getD 0 0 ∈ got := by rw [getD_eq hpos]; exact List.getElem_mem hpos
      obtain ⟨j, h1, h2, h3⟩ := (hmem _).1 hm0
      have h4 := h0 _ hmine
      have hji : j < i := by omega
      exact mem_keys.2 ⟨j, by rw [List.length_take]; omega, by rw [take_getD hji]; exact h3⟩
    rw [addKey, if_pos hin] at hs
    unfold keysN sumN
    rw [hs]
    exact ⟨rfl, rfl⟩
end Go.Proofs.Ytiomojlcnemnhaa

/- Plain words for an atom whose blanks are variables of their own (mute), and that it unifies just as before. -/
import Derived.Test.YtiomojlcnemnhaaDoorKPedO
namespace Go.Ped

/-- A first letter, underscores behind it. -/
def nm (c : UInt8) (k : Nat) : Name := c :: List.replicate k 95
theorem nm_len {c : UInt8} {k : Nat} : (nm c k).length = k + 1 := by simp [nm]
theorem nm_inj {c d : UInt8} {j k : Nat} (h : nm c j = nm d k) : c = d ∧ j = k := by
  have h1 : (nm c j).length = (nm d k).length := by rw [h]
  rw [nm_len, nm_len] at h1
  exact ⟨by simpa [nm] using congrArg List.head? h, by omega⟩
theorem up_ex (V : List Name) (c : UInt8) : ∀ k, ∃ J, k ≤ J ∧ nm c J ∉ V ∧ ∀ j, k ≤ j → j < J → nm c j ∈ V := by
  have hM : ∀ {l : List Name} {v : Name}, v ∈ l → v.length ≤ (l.map List.length).sum := by
    intro l
    induction l with
    | nil => intro v hv; cases hv
    | cons x l ih =>
      intro v hv
      simp only [List.map_cons, List.sum_cons]
      rcases List.mem_cons.1 hv with rfl | hv
      · omega
      · have := ih hv; omega
  have key : ∀ n k, (V.map List.length).sum + 1 ≤ k + n → ∃ J, k ≤ J ∧ nm c J ∉ V ∧ ∀ j, k ≤ j → j < J → nm c j ∈ V := by
    intro n
    induction n with
    | zero =>
      intro k hk
      refine ⟨k, Nat.le_refl k, fun h => ?_, fun j h1 h2 => by omega⟩
      have := hM h
      rw [nm_len] at this
      omega
    | succ n ih =>
      intro k hk
      by_cases h : nm c k ∈ V
      · obtain ⟨J, h1, h2, h3⟩ := ih (k + 1) (by omega)
        refine ⟨J, by omega, h2, fun j hj1 hj2 => ?_⟩
        by_cases e : j = k
        · rw [e]; exact h
        · exact h3 j (by omega) hj2
      · exact ⟨k, Nat.le_refl k, h, fun j h1 h2 => by omega⟩
  exact fun k => key ((V.map List.length).sum + 1) k (by omega)
noncomputable def jOf (V : List Name) (c : UInt8) (k : Nat) : Nat := Classical.choose (up_ex V c k)
theorem jOf_spec (V : List Name) (c : UInt8) (k : Nat) : k ≤ jOf V c k ∧ nm c (jOf V c k) ∉ V ∧ ∀ j, k ≤ j → j < jOf V c k → nm c j ∈ V := Classical.choose_spec (up_ex V c k)
/-- Each blank a variable of its own. -/
noncomputable def muteL (V : List Name) (c : UInt8) : Nat → List Tm → List Tm
  | _, [] => []
  | k, t :: l => if t.v = us then ⟨nm c (jOf V c (k + 1)), zeroV⟩ :: muteL V c (jOf V c (k + 1)) l else t :: muteL V c k l
/-- How many underscores are behind, then. -/
noncomputable def muteK (V : List Name) (c : UInt8) : Nat → List Tm → Nat
  | k, [] => k
  | k, t :: l => if t.v = us then muteK V c (jOf V c (k + 1)) l else muteK V c k l
theorem muteL_snoc (V : List Name) (c : UInt8) : ∀ (l : List Tm) (k : Nat) (t : Tm), muteL V c k (l ++ [t]) = muteL V c k l ++ (if t.v = us then [⟨nm c (jOf V c (muteK V c k l + 1)), zeroV⟩] else [t]) ∧ muteK V c k (l ++ [t]) = if t.v = us then jOf V c (muteK V c k l + 1) else muteK V c k l
  | [], k, t => by
    by_cases h : t.v = us
    · simp [muteL, muteK, h]
    · simp [muteL, muteK, h]
  | s :: l, k, t => by
    simp only [List.cons_append, muteL, muteK]
    by_cases h : s.v = us
    · simp only [if_pos h, (muteL_snoc V c l _ t).1, (muteL_snoc V c l _ t).2, List.cons_append, and_self]
    · simp only [if_neg h, (muteL_snoc V c l _ t).1, (muteL_snoc V c l _ t).2, List.cons_append, and_self]
theorem muteL_len (V : List Name) (c : UInt8) : ∀ (l : List Tm) (k : Nat), (muteL V c k l).length = l.length
  | [], k => rfl
  | t :: l, k => by
    rw [muteL]
    split <;> simp [muteL_len V c l]
/-- Those that are no longer than so. -/
def shortV (V : List Name) (k : Nat) : Nat := (V.filter fun v => decide (v.length ≤ k + 1)).length
theorem shortV_le (V : List Name) (k : Nat) : shortV V k ≤ V.length := List.length_filter_le ..
theorem shortV_mono (V : List Name) (k : Nat) : shortV V k ≤ shortV V (k + 1) := by
  unfold shortV
  induction V with
  | nil => simp
  | cons v V ih =>
    simp only [List.filter_cons]
    by_cases h1 : v.length ≤ k + 1
    · rw [if_pos (by simpa using h1), if_pos (by simp; omega)]; simp; omega
    · rw [if_neg (by simpa using h1)]
      split
      · simp; omega
      · exact ih
theorem shortV_in {V : List Name} {c : UInt8} {k : Nat} (h : nm c (k + 1) ∈ V) : shortV V k + 1 ≤ shortV V (k + 1) := by
  have gen : ∀ {V : List Name}, nm c (k + 1) ∈ V → (V.filter fun v => decide (v.length ≤ k + 1)).length + 1 ≤ (V.filter fun v => decide (v.length ≤ k + 1 + 1)).length := by
    intro V
    induction V with
    | nil => intro h; cases h
    | cons v V ih =>
      intro h
      simp only [List.filter_cons]
      rcases List.mem_cons.1 h with rfl | h
      · have hm := shortV_mono V k
        unfold shortV at hm
        rw [if_neg (by rw [nm_len]; simp), if_pos (by rw [nm_len]; simp)]
        simp only [List.length_cons]
        omega
      · have := ih h
        by_cases h1 : v.length ≤ k + 1
        · rw [if_pos (by simpa using h1), if_pos (by simp; omega)]; simp only [List.length_cons]; omega
        · rw [if_neg (by simpa using h1)]
          split
          · simp only [List.length_cons]; omega
          · exact this
  exact gen h
theorem jOf_short (V : List Name) (c : UInt8) (k : Nat) : jOf V c (k + 1) + shortV V k ≤ k + 1 + shortV V (jOf V c (k + 1)) := by
  obtain ⟨h1, h2, h3⟩ := jOf_spec V c (k + 1)
  generalize jOf V c (k + 1) = J at *
  have key : ∀ d j, j + d = J → k ≤ j → j + shortV V k ≤ k + shortV V j → J + shortV V k ≤ k + 1 + shortV V J := by
    intro d
    induction d with
    | zero => intro j hj hk h; rw [Nat.add_zero] at hj; subst hj; omega
    | succ d ih =>
      intro j hj hk h
      by_cases hlt : j + 1 < J
      · have := shortV_in (h3 (j + 1) (by omega) hlt)
        exact ih (j + 1) (by omega) (by omega) (by omega)
      · have hJ : J = j + 1 := by omega
        subst hJ
        have := shortV_mono V j
        omega
  exact key (J - k) k (by omega) (Nat.le_refl k) (by omega)
theorem muteK_le (V : List Name) (c : UInt8) : ∀ (l : List Tm) (k : Nat), muteK V c k l + shortV V k ≤ k + l.length + shortV V (muteK V c k l) ∧ k ≤ muteK V c k l
  | [], k => by simp [muteK]
  | t :: l, k => by
    rw [muteK]
    split
    · have h1 := jOf_short V c k
      have h2 := muteK_le V c l (jOf V c (k + 1))
      have h3 := (jOf_spec V c (k + 1)).1
      simp only [List.length_cons]
      omega
    · have h2 := muteK_le V c l k
      simp only [List.length_cons]
      omega
/-- What stands in a column. -/
theorem muteL_at (V : List Name) (c : UInt8) : ∀ (l : List Tm) (k i : Nat) (t : Tm), l[i]? = some t → (t.v ≠ us → (muteL V c k l)[i]? = some t) ∧ (t.v = us → ∃ j, k < j ∧ j ≤ muteK V c k (l.take (i + 1)) ∧ j = muteK V c k (l.take (i + 1)) ∧ nm c j ∉ V ∧ (muteL V c k l)[i]? = some ⟨nm c j, zeroV⟩)
  | s :: l, k, 0, t, h => by
    simp only [List.getElem?_cons_zero, Option.some.injEq] at h
    subst h
    refine ⟨fun hne => by rw [muteL, if_neg hne]; rfl, fun he => ?_⟩
    obtain ⟨h1, h2, _⟩ := jOf_spec V c (k + 1)
    refine ⟨jOf V c (k + 1), by omega, ?_, ?_, h2, by rw [muteL, if_pos he]; rfl⟩
    · simp [muteK, he]
    · simp [muteK, he]
  | s :: l, k, i + 1, t, h => by
    simp only [List.getElem?_cons_succ] at h
    rw [List.take_succ_cons]
    simp only [muteL, muteK]
    by_cases hs : s.v = us
    · rw [if_pos hs, if_pos hs]
      obtain ⟨h1, h2⟩ := muteL_at V c l (jOf V c (k + 1)) i t h
      refine ⟨fun hne => by rw [List.getElem?_cons_succ]; exact h1 hne, fun he => ?_⟩
      obtain ⟨j, q1, q2, q3, q4, q5⟩ := h2 he
      have := (jOf_spec V c (k + 1)).1
      exact ⟨j, by omega, q2, q3, q4, by rw [List.getElem?_cons_succ]; exact q5⟩
    · rw [if_neg hs, if_neg hs]
      obtain ⟨h1, h2⟩ := muteL_at V c l k i t h
      exact ⟨fun hne => by rw [List.getElem?_cons_succ]; exact h1 hne, fun he => by
        obtain ⟨j, q1, q2, q3, q4, q5⟩ := h2 he
        exact ⟨j, q1, q2, q3, q4, by rw [List.getElem?_cons_succ]; exact q5⟩⟩

theorem muteK_append (V : List Name) (c : UInt8) : ∀ (a b : List Tm) (k : Nat), muteK V c k (a ++ b) = muteK V c (muteK V c k a) b
  | [], b, k => rfl
  | t :: a, b, k => by
    simp only [List.cons_append, muteK]
    split <;> exact muteK_append V c a b _
theorem muteK_lt {V : List Name} {c : UInt8} {l : List Tm} {i1 i2 : Nat} {t2 : Tm} (h2 : l[i2]? = some t2) (b2 : t2.v = us) (h : i1 < i2) : muteK V c 0 (l.take (i1 + 1)) < muteK V c 0 (l.take (i2 + 1)) := by
  obtain ⟨hlt, rfl⟩ := List.getElem?_eq_some_iff.1 h2
  rw [List.take_succ_eq_append_getElem hlt, (muteL_snoc V c _ _ _).2, if_pos b2]
  have h3 := (jOf_spec V c (muteK V c 0 (l.take i2) + 1)).1
  have h4 : l.take i2 = l.take (i1 + 1) ++ (l.take i2).drop (i1 + 1) := by
    conv => lhs; rw [← List.take_append_drop (i1 + 1) (l.take i2)]
    rw [List.take_take, Nat.min_eq_left (by omega)]
  have h5 := (muteK_le V c ((l.take i2).drop (i1 + 1)) (muteK V c 0 (l.take (i1 + 1)))).2
  rw [← muteK_append, ← h4] at h5
  omega
theorem muteK_inj {V : List Name} {c : UInt8} {l : List Tm} {i1 i2 : Nat} {t1 t2 : Tm} (h1 : l[i1]? = some t1) (h2 : l[i2]? = some t2) (b1 : t1.v = us) (b2 : t2.v = us) (h : muteK V c 0 (l.take (i1 + 1)) = muteK V c 0 (l.take (i2 + 1))) : i1 = i2 := by
  rcases Nat.lt_trichotomy i1 i2 with hl | he | hl
  · have := muteK_lt (V := V) (c := c) h2 b2 hl; omega
  · exact he
  · have := muteK_lt (V := V) (c := c) h1 b1 hl; omega
theorem mute_mem {V : List Name} {c : UInt8} : ∀ {l : List Tm} {k : Nat} {t : Tm}, t ∈ muteL V c k l → (t ∈ l ∧ t.v ≠ us) ∨ ∃ j, 0 < j ∧ t = ⟨nm c j, zeroV⟩
  | s :: l, k, t, h => by
    rw [muteL] at h
    split at h
    · rcases List.mem_cons.1 h with rfl | h
      · exact .inr ⟨_, by have := (jOf_spec V c (k + 1)).1; omega, rfl⟩
      · exact (mute_mem h).imp (fun h => ⟨List.mem_cons_of_mem _ h.1, h.2⟩) id
    · rename_i hs
      rcases List.mem_cons.1 h with rfl | h
      · exact .inl ⟨List.mem_cons_self .., hs⟩
      · exact (mute_mem h).imp (fun h => ⟨List.mem_cons_of_mem _ h.1, h.2⟩) id
theorem mute_bare {V : List Name} {c : UInt8} {l : List Tm} {k : Nat} (hl : ∀ t ∈ l, t.bare) : ∀ t ∈ muteL V c k l, t.bare := fun t h => by
  rcases mute_mem h with h | ⟨j, hj, rfl⟩
  · exact hl t h.1
  · exact fun _ => rfl

/-- The value of what stands in a column, none of a blank. -/
def colV (val : Name → Val) (l : List Tm) (i : Nat) : Val := match l[i]? with | some b => if b.v = us then ⟨1, 0, []⟩ else valT val b | none => ⟨1, 0, []⟩
open Classical in
/-- Two atoms unify just if they do with their blanks variables of their own. -/
theorem unify_mute {V : List Name} {c d : UInt8} (hcd : c ≠ d) {aa bs : List Tm} (ha : ∀ t ∈ aa, t.bare) (hb : ∀ t ∈ bs, t.bare) (hva : ∀ t ∈ aa, t.v ≠ [] → t.v ≠ us → t.v ∈ V) (hvb : ∀ t ∈ bs, t.v ≠ [] → t.v ≠ us → t.v ∈ V) :
    (goUnify [] (muteL V c 0 aa) (muteL V d 0 bs)).isSome = (goUnify [] aa bs).isSome := by
  rw [Bool.eq_iff_iff, unify_iff (mute_bare ha) (mute_bare hb), unify_iff ha hb]
  constructor
  · rintro ⟨val, h⟩
    refine ⟨val, fun i a b h1 h2 n1 n2 => ?_⟩
    exact h i a b ((muteL_at V c aa 0 i a h1).1 n1) ((muteL_at V d bs 0 i b h2).1 n2) n1 n2
  · rintro ⟨val, h⟩
    let PA : Name → Nat → Prop := fun v i => ∃ a, aa[i]? = some a ∧ a.v = us ∧ nm c (muteK V c 0 (aa.take (i + 1))) = v
    let PB : Name → Nat → Prop := fun v i => ∃ b, bs[i]? = some b ∧ b.v = us ∧ nm d (muteK V d 0 (bs.take (i + 1))) = v
    let val' : Name → Val := fun v => if hA : ∃ i, PA v i then colV val bs (Classical.choose hA) else if hB : ∃ i, PB v i then colV val aa (Classical.choose hB) else val v
    have F1 : ∀ i a, aa[i]? = some a → a.v = us → val' (nm c (muteK V c 0 (aa.take (i + 1)))) = colV val bs i := fun i a h1 h2 => by
      have hA : ∃ j, PA (nm c (muteK V c 0 (aa.take (i + 1)))) j := ⟨i, a, h1, h2, rfl⟩
      obtain ⟨a', q1, q2, q3⟩ := Classical.choose_spec hA
      have e : Classical.choose hA = i := muteK_inj q1 h1 q2 h2 (nm_inj q3).2
      show (if hA : ∃ i, PA _ i then colV val bs (Classical.choose hA) else _) = _
      rw [dif_pos hA, e]
    have F2 : ∀ i b, bs[i]? = some b → b.v = us → val' (nm d (muteK V d 0 (bs.take (i + 1)))) = colV val aa i := fun i b h1 h2 => by
      have hnA : ¬ ∃ j, PA (nm d (muteK V d 0 (bs.take (i + 1)))) j := fun ⟨j, a, _, _, e⟩ => hcd (nm_inj e).1
      have hB : ∃ j, PB (nm d (muteK V d 0 (bs.take (i + 1)))) j := ⟨i, b, h1, h2, rfl⟩
      obtain ⟨b', q1, q2, q3⟩ := Classical.choose_spec hB
      have e : Classical.choose hB = i := muteK_inj q1 h1 q2 h2 (nm_inj q3).2
      show (if hA : ∃ i, PA _ i then colV val bs (Classical.choose hA) else if hB : ∃ i, PB _ i then colV val aa (Classical.choose hB) else _) = _
      rw [dif_neg hnA, dif_pos hB, e]
    have F3 : ∀ v, v ∈ V → val' v = val v := fun v hv => by
      have hnA : ¬ ∃ j, PA v j := fun ⟨j, a, q1, q2, e⟩ => by
        obtain ⟨k, _, _, q3, q4, _⟩ := (muteL_at V c aa 0 j a q1).2 q2
        exact q4 (by rw [q3, e]; exact hv)
      have hnB : ¬ ∃ j, PB v j := fun ⟨j, a, q1, q2, e⟩ => by
        obtain ⟨k, _, _, q3, q4, _⟩ := (muteL_at V d bs 0 j a q1).2 q2
        exact q4 (by rw [q3, e]; exact hv)
      show (if hA : ∃ i, PA _ i then colV val bs (Classical.choose hA) else if hB : ∃ i, PB _ i then colV val aa (Classical.choose hB) else _) = _
      rw [dif_neg hnA, dif_neg hnB]
    have F4 : ∀ t : Tm, (t.v ≠ [] → t.v ∈ V) → valT val' t = valT val t := fun t ht => by
      unfold valT
      by_cases h0 : t.v = []
      · rw [if_pos h0, if_pos h0]
      · rw [if_neg h0, if_neg h0, F3 _ (ht h0)]
    refine ⟨val', fun i a' b' h1 h2 _ _ => ?_⟩
    have hla := muteL_len V c aa 0
    have hlb := muteL_len V d bs 0
    have hia : i < aa.length := by rw [← hla]; exact (List.getElem?_eq_some_iff.1 h1).1
    have hib : i < bs.length := by rw [← hlb]; exact (List.getElem?_eq_some_iff.1 h2).1
    have ea : aa[i]? = some aa[i] := List.getElem?_eq_getElem hia
    have eb : bs[i]? = some bs[i] := List.getElem?_eq_getElem hib
    have ma := hva aa[i] (List.getElem_mem hia)
    have mb := hvb bs[i] (List.getElem_mem hib)
    have hA : valT val' a' = if aa[i].v = us then colV val bs i else valT val aa[i] := by
      by_cases n : aa[i].v = us
      · obtain ⟨k, _, _, q3, _, q5⟩ := (muteL_at V c aa 0 i _ ea).2 n
        rw [q5] at h1
        injection h1 with h1
        rw [if_pos n, ← h1, ← F1 i _ ea n, q3]
        unfold valT
        rw [if_neg (by simp [nm])]
      · rw [(muteL_at V c aa 0 i _ ea).1 n] at h1
        injection h1 with h1
        rw [if_neg n, ← h1]
        exact F4 _ fun h0 => ma h0 n
    have hB : valT val' b' = if bs[i].v = us then colV val aa i else valT val bs[i] := by
      by_cases n : bs[i].v = us
      · obtain ⟨k, _, _, q3, _, q5⟩ := (muteL_at V d bs 0 i _ eb).2 n
        rw [q5] at h2
        injection h2 with h2
        rw [if_pos n, ← h2, ← F2 i _ eb n, q3]
        unfold valT
        rw [if_neg (by simp [nm])]
      · rw [(muteL_at V d bs 0 i _ eb).1 n] at h2
        injection h2 with h2
        rw [if_neg n, ← h2]
        exact F4 _ fun h0 => mb h0 n
    rw [hA, hB]
    have ca : colV val aa i = if aa[i].v = us then ⟨1, 0, []⟩ else valT val aa[i] := by unfold colV; rw [ea]
    have cb : colV val bs i = if bs[i].v = us then ⟨1, 0, []⟩ else valT val bs[i] := by unfold colV; rw [eb]
    rw [ca, cb]
    by_cases n1 : aa[i].v = us <;> by_cases n2 : bs[i].v = us
    · rw [if_pos n1, if_pos n2, if_pos n2, if_pos n1]
    · rw [if_pos n1, if_neg n2, if_neg n2]
    · rw [if_neg n1, if_pos n2, if_neg n1]
    · rw [if_neg n1, if_neg n2]
      exact h i _ _ ea eb n1 n2
end Go.Ped

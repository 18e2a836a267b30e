import Derived.Test.YtiomojlcnemnhaaGreatDoorLGxR1
import Derived.Test.YtiomojlcnemnhaaGreatDoorLGxIc4
namespace Go.Proofs.YtiomojlcnemnhaaGreatDoor
open Go.Fx Go.RowKit Go.Ped
variable {G : World → Prop}
theorem dec_len : ∀ (m n : Nat), n < 10 ^ (m + 1) → (Lib.decDigits n).length ≤ m + 1
  | 0, n, h => by rw [Lib.decDigits, dif_pos (by omega)]; simp
  | m + 1, n, h => by
    rw [Lib.decDigits]
    split
    · simp
    · rw [List.length_append, List.length_singleton]
      have := dec_len m (n / 10) (by rw [Nat.pow_succ] at h; omega)
      omega
end Go.Proofs.YtiomojlcnemnhaaGreatDoor

namespace Go.Proofs.YtiomojlcnemnhaaGreatDoor
open Go.Fx Go.RowKit Go.Ped
theorem Ex.mapT_congr {f g : Tm → Tm} : ∀ e : Ex, (∀ t ∈ e.terms, f t = g t) → e.mapT f = e.mapT g := by
  refine Ex.ind fun op t kids sp ih h => ?_
  rw [Ex.terms_mk] at h
  rw [Ex.mapT_mk, Ex.mapT_mk, h t (List.mem_cons_self ..)]
  congr 1
  exact List.map_congr_left fun k hk => ih k hk fun x hx => h x (List.mem_cons_of_mem _ (List.mem_flatMap.2 ⟨k, hk, hx⟩))
theorem Lit.mapT_congr {f g : Tm → Tm} (x : Lit) (h : ∀ t ∈ x.terms, f t = g t) : x.mapT f = x.mapT g := by
  unfold Lit.terms at h
  unfold Lit.mapT
  rw [List.map_congr_left fun t ht => h t (List.mem_append_left _ (List.mem_append_left _ ht)), Ex.mapT_congr x.left fun t ht => h t (List.mem_append_left _ (List.mem_append_right _ ht)), Ex.mapT_congr x.right fun t ht => h t (List.mem_append_right _ ht)]
theorem Rule.mapT_congr {f g : Tm → Tm} (r : Rule) (h : ∀ t ∈ r.terms, f t = g t) : r.mapT f = r.mapT g := by
  unfold Rule.terms at h
  unfold Rule.mapT
  have e1 : r.head.map (Arg.mapT f) = r.head.map (Arg.mapT g) := List.map_congr_left fun a ha => by
    unfold Arg.mapT
    rw [h a.t (List.mem_append_left _ (List.mem_map_of_mem ha))]
  have e2 : r.body.map (Lit.mapT f) = r.body.map (Lit.mapT g) := List.map_congr_left fun x hx => Lit.mapT_congr x fun t ht => h t (List.mem_append_right _ (List.mem_flatMap.2 ⟨x, hx, ht⟩))
  rw [e1, e2]
structure RenT (g : Name → Name) (f : Tm → Tm) (l : List Tm) : Prop where
  stay : ∀ t ∈ l, Ped.isVar t.v = false → f t = t
  turn : ∀ t ∈ l, Ped.isVar t.v = true → f t = ⟨g t.v, zeroV⟩
  good : ∀ t ∈ l, Ped.isVar t.v = true → Ped.isVar (g t.v) = true ∧ wordOk 65 90 (g t.v) = true
theorem RenT.sub {g : Name → Name} {f : Tm → Tm} {l m : List Tm} (h : RenT g f l) (hs : ∀ t ∈ m, t ∈ l) : RenT g f m :=
  ⟨fun t ht => h.stay t (hs t ht), fun t ht => h.turn t (hs t ht), fun t ht => h.good t (hs t ht)⟩
theorem RenT.ok {g : Name → Name} {f : Tm → Tm} {l : List Tm} (h : RenT g f l) {t : Tm} (ht : t ∈ l) (hk : t.ok = true) : (f t).ok = true := by
  cases hv : Ped.isVar t.v with
  | false => rw [h.stay t ht hv]; exact hk
  | true =>
    rw [h.turn t ht hv]
    obtain ⟨g1, g2⟩ := h.good t ht hv
    have hne : g t.v ≠ [] := by intro e; rw [e] at g1; cases g1
    simp [Tm.ok, termOk, hne, g2, zeroV]
theorem RenT.us {g : Name → Name} {f : Tm → Tm} {l : List Tm} (h : RenT g f l) {t : Tm} (ht : t ∈ l) (hk : (t.v != us) = true) : ((f t).v != us) = true := by
  cases hv : Ped.isVar t.v with
  | false => rw [h.stay t ht hv]; exact hk
  | true =>
    rw [h.turn t ht hv]
    have g1 := (h.good t ht hv).1
    simp only [Ped.isVar, Bool.and_eq_true] at g1
    exact g1.2
theorem RenT.nil {g : Name → Name} {f : Tm → Tm} {l : List Tm} (h : RenT g f l) {t : Tm} (ht : t ∈ l) (hk : (t.v != []) = true) : ((f t).v != []) = true := by
  cases hv : Ped.isVar t.v with
  | false => rw [h.stay t ht hv]; exact hk
  | true =>
    rw [h.turn t ht hv]
    have g1 := (h.good t ht hv).1
    simp only [Ped.isVar, Bool.and_eq_true] at g1
    exact g1.1
theorem RenT.zero {g : Name → Name} {f : Tm → Tm} {l : List Tm} (h : RenT g f l) {t : Tm} (ht : t ∈ l) (hk : t = zeroT) : f t = zeroT := by
  rw [h.stay t ht (by rw [hk]; rfl), hk]
theorem RenT.solid {g : Name → Name} {f : Tm → Tm} {l : List Tm} (h : RenT g f l) {t : Tm} (ht : t ∈ l) (hk : solidOk t = true) : solidOk (f t) = true := by
  unfold solidOk at hk ⊢
  simp only [Bool.and_eq_true] at hk ⊢
  exact ⟨h.us ht hk.1, h.ok ht hk.2⟩
theorem exOk_ren {g : Name → Name} {f : Tm → Tm} : ∀ (d : Nat) (e : Ex), RenT g f e.terms → exOk d e = true → exOk d (e.mapT f) = true
  | 0, _, _, h => by cases h
  | d + 1, .mk op t kids sp, hr, h => by
    rw [Ex.terms_mk] at hr
    rw [Ex.mapT_mk]
    simp only [exOk] at h ⊢
    by_cases h0 : op = 0
    · rw [if_pos h0] at h ⊢
      simp only [Bool.and_eq_true, List.isEmpty_iff] at h ⊢
      exact ⟨by rw [h.1]; rfl, hr.solid (List.mem_cons_self ..) h.2⟩
    · rw [if_neg h0] at h ⊢
      simp only [Bool.and_eq_true, beq_iff_eq, List.length_map, List.all_map] at h ⊢
      refine ⟨⟨hr.zero (List.mem_cons_self ..) h.1.1, h.1.2⟩, List.all_eq_true.2 fun k hk => ?_⟩
      exact exOk_ren d k (hr.sub fun x hx => List.mem_cons_of_mem _ (List.mem_flatMap.2 ⟨k, hk, hx⟩)) (List.all_eq_true.1 h.2 k hk)
theorem exNone_ren {g : Name → Name} {f : Tm → Tm} {e : Ex} (hr : RenT g f e.terms) (h : exNone e = true) : exNone (e.mapT f) = true := by
  obtain ⟨op, t, kids, sp⟩ := e
  rw [Ex.terms_mk] at hr
  rw [Ex.mapT_mk]
  simp only [exNone, Ex.op_mk, Ex.t_mk, Ex.kids_mk, Bool.and_eq_true, beq_iff_eq, List.isEmpty_iff] at h ⊢
  exact ⟨⟨h.1.1, hr.zero (List.mem_cons_self ..) h.1.2⟩, by rw [h.2]; rfl⟩
theorem litOk_ren {g : Name → Name} {f : Tm → Tm} {x : Lit} (hr : RenT g f x.terms) (h : litOk x = true) : litOk (x.mapT f) = true := by
  have h1 := hr.sub (m := x.l) fun t ht => List.mem_append_left _ (List.mem_append_left _ ht)
  have h2 := hr.sub (m := x.left.terms) fun t ht => List.mem_append_left _ (List.mem_append_right _ ht)
  have h3 := hr.sub (m := x.right.terms) fun t ht => List.mem_append_right _ ht
  unfold litOk at h ⊢
  unfold Lit.mapT
  simp only
  split
  · rename_i hk
    rw [if_pos hk] at h
    simp only [Bool.and_eq_true, atomOk, List.length_map, List.all_map] at h ⊢
    refine ⟨⟨⟨⟨⟨h.1.1.1.1.1, h.1.1.1.1.2⟩, List.all_eq_true.2 fun t ht => h1.ok ht (List.all_eq_true.1 h.1.1.1.2 t ht)⟩, h.1.1.2⟩, exNone_ren h2 h.1.2⟩, exNone_ren h3 h.2⟩
  · rename_i hk
    rw [if_neg hk] at h
    split
    · rename_i hk3
      rw [if_pos hk3] at h
      simp only [Bool.and_eq_true, List.isEmpty_iff] at h ⊢
      refine ⟨⟨⟨⟨⟨h.1.1.1.1.1, by rw [h.1.1.1.1.2]; rfl⟩, h.1.1.1.2⟩, h.1.1.2⟩, exOk_ren 8 _ h2 h.1.2⟩, exOk_ren 8 _ h3 h.2⟩
    · rename_i hk3
      rw [if_neg hk3] at h
      cases h
theorem argOk_ren {g : Name → Name} {f : Tm → Tm} {a : Arg} {l : List Tm} (hr : RenT g f l) (ha : a.t ∈ l) (h : argOk a = true) : argOk (a.mapT f) = true := by
  unfold argOk at h ⊢
  unfold Arg.mapT
  simp only
  split
  · rename_i hk; rw [if_pos hk] at h; exact hr.solid ha h
  · rename_i hk
    rw [if_neg hk] at h
    split
    · rename_i hk1; rw [if_pos hk1] at h
      simp only [beq_iff_eq] at h ⊢
      exact hr.zero ha h
    · rename_i hk1
      rw [if_neg hk1] at h
      split
      · rename_i hk2; rw [if_pos hk2] at h
        simp only [Bool.and_eq_true] at h ⊢
        exact ⟨hr.nil ha h.1, hr.solid ha h.2⟩
      · rename_i hk2; rw [if_neg hk2] at h; cases h
theorem vars_ren_le {g : Name → Name} {f : Tm → Tm} : ∀ (l : List Tm) (acc acc' : List Name), RenT g f l → (∀ v ∈ acc, g v ∈ acc') → acc'.length ≤ acc.length → (varsOn acc' ((l.map f).map Tm.v)).length ≤ (varsOn acc (l.map Tm.v)).length
  | [], acc, acc', _, _, hl => hl
  | t :: l, acc, acc', hr, hg, hl => by
    have hr' := hr.sub (m := l) fun x hx => List.mem_cons_of_mem _ hx
    simp only [List.map_cons, varsOn]
    cases hv : Ped.isVar t.v with
    | false =>
      rw [hr.stay t (List.mem_cons_self ..) hv, hv]
      simp only [Bool.false_and, Bool.false_eq_true, if_false]
      exact vars_ren_le l acc acc' hr' hg hl
    | true =>
      rw [hr.turn t (List.mem_cons_self ..) hv]
      simp only [(hr.good t (List.mem_cons_self ..) hv).1, Bool.true_and]
      by_cases hc : acc.contains t.v = true
      · have hc' : acc'.contains (g t.v) = true := by simpa using hg t.v (by simpa using hc)
        rw [hc, hc']
        simp only [Bool.not_true, Bool.false_eq_true, if_false]
        exact vars_ren_le l acc acc' hr' hg hl
      · simp only [Bool.not_eq_true] at hc
        rw [hc]
        simp only [Bool.not_false, if_true]
        by_cases hc' : acc'.contains (g t.v) = true
        · rw [hc']
          simp only [Bool.not_true, Bool.false_eq_true, if_false]
          refine vars_ren_le l (acc ++ [t.v]) acc' hr' (fun v hv => ?_) (by rw [List.length_append]; omega)
          rcases List.mem_append.1 hv with hv | hv
          · exact hg v hv
          · rw [List.mem_singleton.1 hv]; simpa using hc'
        · simp only [Bool.not_eq_true] at hc'
          rw [hc']
          simp only [Bool.not_false, if_true]
          refine vars_ren_le l (acc ++ [t.v]) (acc' ++ [g t.v]) hr' (fun v hv => ?_) (by rw [List.length_append, List.length_append]; simp; omega)
          rcases List.mem_append.1 hv with hv | hv
          · exact List.mem_append_left _ (hg v hv)
          · rw [List.mem_singleton.1 hv]; exact List.mem_append_right _ (List.mem_singleton.2 rfl)
theorem ruleOk_ren {g : Name → Name} {f : Tm → Tm} {r : Rule} (hr : RenT g f r.terms) (h : ruleOk r = true) : ruleOk (r.mapT f) = true := by
  unfold ruleOk at h ⊢
  rw [Rule.mapT_terms]
  unfold Rule.mapT
  simp only [Bool.and_eq_true, List.length_map, List.all_map, decide_eq_true_eq] at h ⊢
  refine ⟨⟨⟨⟨⟨h.1.1.1.1.1, h.1.1.1.1.2⟩, h.1.1.1.2⟩, List.all_eq_true.2 fun a ha => ?_⟩, List.all_eq_true.2 fun x hx => ?_⟩, ?_⟩
  · exact argOk_ren hr (List.mem_append_left _ (List.mem_map_of_mem ha)) (List.all_eq_true.1 h.1.1.2 a ha)
  · exact litOk_ren (hr.sub fun t ht => List.mem_append_right _ (List.mem_flatMap.2 ⟨x, hx, ht⟩)) (List.all_eq_true.1 h.1.2 x hx)
  · exact Nat.le_trans (vars_ren_le r.terms [] [] hr (fun _ h => by cases h) (Nat.le_refl _)) h.2
end Go.Proofs.YtiomojlcnemnhaaGreatDoor

namespace Go.Proofs.YtiomojlcnemnhaaGreatDoor
open Go.Fx Go.RowKit Go.Ped
theorem varsOn_nodup : ∀ (l acc : List Name), acc.Nodup → (varsOn acc l).Nodup
  | [], _, h => h
  | v :: l, acc, h => by
    simp only [varsOn]
    split
    · rename_i hc
      simp only [Bool.and_eq_true, Bool.not_eq_true', List.contains_eq_mem, decide_eq_false_iff_not] at hc
      refine varsOn_nodup l _ ?_
      rw [List.nodup_append]
      exact ⟨h, by simp, fun a ha b hb e => hc.2 (by rw [List.mem_singleton.1 hb] at e; exact e ▸ ha)⟩
    · exact varsOn_nodup l _ h
theorem vars_nodup (l : List Tm) : (varsOf l).Nodup := varsOn_nodup _ _ List.nodup_nil
theorem vars_isVar {l : List Tm} {v : Name} (h : v ∈ varsOf l) : Ped.isVar v = true := by
  rcases mem_varsOn.1 h with h | h
  · cases h
  · exact h.1
theorem vars_mem {l : List Tm} {t : Tm} (ht : t ∈ l) (hv : Ped.isVar t.v = true) : t.v ∈ varsOf l := mem_varsOn.2 (.inr ⟨hv, List.mem_map_of_mem ht⟩)
def vName (i : Nat) : Name := 86 :: Lib.decDigits i
theorem dec_ne (i : Nat) : Lib.decDigits i ≠ [] := by
  rw [Lib.decDigits]; split <;> simp
theorem dec_digit (i : Nat) : ∀ b ∈ Lib.decDigits i, okB b = true := by
  induction i using Nat.strongRecOn with
  | _ i ih =>
    have one : ∀ d : Nat, d < 10 → okB (UInt8.ofNat (48 + d)) = true := fun d hd => by
      have : d = 0 ∨ d = 1 ∨ d = 2 ∨ d = 3 ∨ d = 4 ∨ d = 5 ∨ d = 6 ∨ d = 7 ∨ d = 8 ∨ d = 9 := by omega
      rcases this with rfl | rfl | rfl | rfl | rfl | rfl | rfl | rfl | rfl | rfl <;> rfl
    rw [Lib.decDigits]
    split
    · rename_i h
      intro b hb
      rw [List.mem_singleton.1 hb]
      exact one i h
    · rename_i h
      intro b hb
      rcases List.mem_append.1 hb with hb | hb
      · exact ih (i / 10) (by omega) b hb
      · rw [List.mem_singleton.1 hb]
        exact one (i % 10) (by omega)
theorem dec_inj : ∀ (i j : Nat), Lib.decDigits i = Lib.decDigits j → i = j := by
  intro i
  induction i using Nat.strongRecOn with
  | _ i ih =>
    intro j h
    have one : ∀ c d : Nat, c < 10 → d < 10 → UInt8.ofNat (48 + c) = UInt8.ofNat (48 + d) → c = d := fun c d hc hd e => by
      have := congrArg UInt8.toNat e
      rw [UInt8.toNat_ofNat', UInt8.toNat_ofNat'] at this
      omega
    rw [Lib.decDigits, Lib.decDigits.eq_def j] at h
    by_cases h1 : i < 10
    · rw [dif_pos h1] at h
      by_cases h2 : j < 10
      · rw [dif_pos h2] at h
        exact one i j h1 h2 (List.cons.inj h).1
      · rw [dif_neg h2] at h
        have := congrArg List.length h
        simp only [List.length_singleton, List.length_append] at this
        exact absurd (List.length_eq_zero_iff.1 (by omega)) (dec_ne (j / 10))
    · rw [dif_neg h1] at h
      by_cases h2 : j < 10
      · rw [dif_pos h2] at h
        have := congrArg List.length h
        simp only [List.length_singleton, List.length_append] at this
        exact absurd (List.length_eq_zero_iff.1 (by omega)) (dec_ne (i / 10))
      · rw [dif_neg h2] at h
        obtain ⟨e1, e2⟩ := List.append_inj' h rfl
        have e3 := ih (i / 10) (by omega) (j / 10) e1
        have e4 := one (i % 10) (j % 10) (by omega) (by omega) (List.cons.inj e2).1
        omega
theorem vName_inj {i j : Nat} (h : vName i = vName j) : i = j := dec_inj i j (List.cons.inj h).2
theorem vName_var (i : Nat) : Ped.isVar (vName i) = true := by simp [Ped.isVar, vName, us]
theorem vName_ok (i : Nat) (hi : i < 10000000000) : wordOk 65 90 (vName i) = true := by
  have hl := dec_len 9 i (by omega)
  have hd := List.all_eq_true.2 (dec_digit i)
  unfold vName wordOk
  simp only [List.length_cons, Bool.and_eq_true, decide_eq_true_eq]
  exact ⟨⟨⟨⟨by omega, by decide⟩, by decide⟩, rfl⟩, hd⟩
def canF : Nat → List Name → List Pr
  | _, [] => []
  | n, v :: l => ⟨v, ⟨vName n, zeroV⟩⟩ :: canF (n + 1) l
abbrev canS (vs : List Name) : List Pr := canF 0 vs
theorem canF_find : ∀ (l : List Name) (n : Nat) (v : Name), (canF n l).find? (·.v == v) = if v ∈ l then some ⟨v, ⟨vName (n + l.idxOf v), zeroV⟩⟩ else none
  | [], _, _ => by simp [canF]
  | u :: l, n, v => by
    rw [canF, List.find?_cons]
    by_cases h : u = v
    · subst h; simp
    · have h' : (u == v) = false := by simpa using h
      simp only [h']
      rw [canF_find l (n + 1) v]
      by_cases hm : v ∈ l
      · rw [if_pos hm, if_pos (List.mem_cons_of_mem _ hm), List.idxOf_cons, h']
        simp [Nat.add_comm, Nat.add_left_comm]
      · rw [if_neg hm, if_neg (by simp [Ne.symm h, hm])]
theorem putS_can {vs : List Name} (t : Tm) : putS (canS vs) t = if Ped.isVar t.v = true ∧ t.v ∈ vs then ⟨vName (vs.idxOf t.v), zeroV⟩ else t := by
  unfold putS
  by_cases h : t.v = [] ∨ t.v = us
  · rw [if_pos h, if_neg]
    rintro ⟨h1, _⟩
    simp only [Ped.isVar, Bool.and_eq_true, bne_iff_ne] at h1
    rcases h with h | h
    · exact h1.1 h
    · exact h1.2 h
  · rw [if_neg h, canF_find]
    have hv : Ped.isVar t.v = true := by
      simp only [not_or] at h
      simp [Ped.isVar, h.1, h.2]
    by_cases hm : t.v ∈ vs
    · rw [if_pos hm, if_pos ⟨hv, hm⟩, Nat.zero_add]
    · rw [if_neg hm, if_neg fun h => hm h.2]
def canon (r : Rule) : Rule := r.mapT (putS (canS (varsOf r.terms)))
theorem ren_canon (l : List Tm) (hl : (varsOf l).length ≤ 10000000000) : RenT (fun v => vName ((varsOf l).idxOf v)) (putS (canS (varsOf l))) l where
  stay := fun t _ hv => by rw [putS_can, if_neg fun h => by rw [hv] at h; cases h.1]
  turn := fun t ht hv => by rw [putS_can, if_pos ⟨hv, vars_mem ht hv⟩]
  good := fun t ht hv => ⟨vName_var _, vName_ok _ (by have := List.idxOf_lt_length_iff.2 (vars_mem ht hv); omega)⟩
theorem canon_ok {r : Rule} (h : ruleOk r = true) : ruleOk (canon r) = true := by
  refine ruleOk_ren (ren_canon r.terms ?_) h
  unfold ruleOk at h
  simp only [Bool.and_eq_true, decide_eq_true_eq] at h
  omega
theorem vars_ren_eq {g : Name → Name} {f : Tm → Tm} : ∀ (l : List Tm) (acc : List Name), RenT g f l → (∀ u ∈ varsOn acc (l.map Tm.v), ∀ v ∈ varsOn acc (l.map Tm.v), g u = g v → u = v) → varsOn (acc.map g) ((l.map f).map Tm.v) = (varsOn acc (l.map Tm.v)).map g
  | [], acc, _, _ => rfl
  | t :: l, acc, hr, hi => by
    have hr' := hr.sub (m := l) fun x hx => List.mem_cons_of_mem _ hx
    simp only [List.map_cons, varsOn] at hi ⊢
    cases hv : Ped.isVar t.v with
    | false =>
      rw [hv] at hi
      rw [hr.stay t (List.mem_cons_self ..) hv, hv]
      simp only [Bool.false_and, Bool.false_eq_true, if_false] at hi ⊢
      exact vars_ren_eq l acc hr' hi
    | true =>
      rw [hv] at hi
      rw [hr.turn t (List.mem_cons_self ..) hv]
      simp only [(hr.good t (List.mem_cons_self ..) hv).1, Bool.true_and] at hi ⊢
      by_cases hc : acc.contains t.v = true
      · have hc' : (acc.map g).contains (g t.v) = true := by simpa using ⟨t.v, by simpa using hc, rfl⟩
        rw [hc] at hi
        rw [hc, hc']
        simp only [Bool.not_true, Bool.false_eq_true, if_false] at hi ⊢
        exact vars_ren_eq l acc hr' hi
      · simp only [Bool.not_eq_true] at hc
        rw [hc] at hi
        rw [hc]
        simp only [Bool.not_false, if_true] at hi ⊢
        have hc' : (acc.map g).contains (g t.v) = false := by
          rw [Bool.eq_false_iff]
          intro he
          simp only [List.contains_eq_mem, decide_eq_true_eq] at he
          obtain ⟨u, hu, e⟩ := List.mem_map.1 he
          have := hi u (mem_varsOn.2 (.inl (List.mem_append_left _ hu))) t.v (mem_varsOn.2 (.inl (List.mem_append_right _ (List.mem_singleton.2 rfl)))) e
          subst this
          simp at hc
          exact hc hu
        rw [hc']
        simp only [Bool.not_false, if_true]
        have := vars_ren_eq l (acc ++ [t.v]) hr' hi
        rw [List.map_append] at this
        exact this
theorem vars_ren {g : Name → Name} {f : Tm → Tm} {l : List Tm} (hr : RenT g f l) (hi : ∀ u ∈ varsOf l, ∀ v ∈ varsOf l, g u = g v → u = v) : varsOf (l.map f) = (varsOf l).map g := vars_ren_eq l [] hr hi
theorem idxOf_map {g : Name → Name} : ∀ {vs : List Name} {v : Name}, v ∈ vs → (∀ u ∈ vs, ∀ v ∈ vs, g u = g v → u = v) → (vs.map g).idxOf (g v) = vs.idxOf v
  | u :: vs, v, hv, hi => by
    rw [List.map_cons, List.idxOf_cons, List.idxOf_cons]
    by_cases h : u = v
    · subst h; simp
    · have h1 : (u == v) = false := by simpa using h
      have h2 : (g u == g v) = false := by
        simp only [beq_eq_false_iff_ne]
        exact fun e => h (hi u (List.mem_cons_self ..) v hv e)
      rw [h1, h2]
      have hv' : v ∈ vs := by
        rcases List.mem_cons.1 hv with e | e
        · exact absurd e.symm h
        · exact e
      simp only [cond_false]
      rw [idxOf_map hv' fun a ha b hb => hi a (List.mem_cons_of_mem _ ha) b (List.mem_cons_of_mem _ hb)]
theorem canon_ren {g : Name → Name} {f : Tm → Tm} {r : Rule} (hr : RenT g f r.terms) (hi : ∀ u ∈ varsOf r.terms, ∀ v ∈ varsOf r.terms, g u = g v → u = v) : canon (r.mapT f) = canon r := by
  unfold canon
  rw [Rule.mapT_terms, vars_ren hr hi, Rule.mapT_mapT]
  refine Rule.mapT_congr r fun t ht => ?_
  rw [Function.comp_apply, putS_can, putS_can]
  cases hv : Ped.isVar t.v with
  | false =>
    rw [hr.stay t ht hv, hv, if_neg (by simp), if_neg (by simp)]
  | true =>
    rw [hr.turn t ht hv, if_pos ⟨(hr.good t ht hv).1, List.mem_map_of_mem (vars_mem ht hv)⟩, if_pos ⟨rfl, vars_mem ht hv⟩]
    simp only
    rw [idxOf_map (vars_mem ht hv) hi]
theorem idx_inj {vs : List Name} : ∀ u ∈ vs, ∀ v ∈ vs, vName (vs.idxOf u) = vName (vs.idxOf v) → u = v := fun u hu v hv e => by
  have e1 := vName_inj e
  have h1 := List.getElem_idxOf (List.idxOf_lt_length_iff.2 hu)
  have h2 := List.getElem_idxOf (List.idxOf_lt_length_iff.2 hv)
  rw [← h1, ← h2]
  congr 1
theorem vars_le {r : Rule} (h : ruleOk r = true) : (varsOf r.terms).length ≤ 24 := by
  unfold ruleOk at h
  simp only [Bool.and_eq_true, decide_eq_true_eq] at h
  exact h.2
theorem canon_canon {r : Rule} (h : ruleOk r = true) : canon (canon r) = canon r :=
  canon_ren (ren_canon r.terms (by have := vars_le h; omega)) idx_inj
theorem canon_vars {r : Rule} (h : ruleOk r = true) : (varsOf (canon r).terms).length = (varsOf r.terms).length := by
  unfold canon
  rw [Rule.mapT_terms, vars_ren (ren_canon r.terms (by have := vars_le h; omega)) idx_inj, List.length_map]
end Go.Proofs.YtiomojlcnemnhaaGreatDoor

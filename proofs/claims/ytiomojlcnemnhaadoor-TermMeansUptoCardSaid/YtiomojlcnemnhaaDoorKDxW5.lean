import Derived.Test.YtiomojlcnemnhaaDoorKDxHe
import Derived.Test.YtiomojlcnemnhaaDoorKDxH6
/- What the values of an expression hang on; plain. -/
namespace Go.Proofs.YtiomojlcnemnhaaDoor
open Go.Fx Go.RowKit Go.Ped

theorem leaf_on {m m' : List Tm} {t : Tm} (hz : t.v ≠ us) (h : Ped.isVar t.v = true → bindOf m t.v = bindOf m' t.v) : leafV m t = leafV m' t := by
  unfold leafV
  by_cases h0 : t.v = []
  · rw [if_pos h0, if_pos h0]
  · rw [if_neg h0, if_neg h0, h (by simp [Ped.isVar, h0, hz])]
theorem exOk_leaf {d : Nat} {t : Tm} {kids : List Ex} {sp : Sp} (h : exOk d (.mk 0 t kids sp) = true) : kids = [] ∧ t.v ≠ us ∧ t.ok = true := by
  cases d with
  | zero => cases h
  | succ d =>
    rw [exOk, if_pos rfl] at h
    simp only [Bool.and_eq_true, List.isEmpty_iff, solidOk, bne_iff_ne] at h
    exact ⟨h.1, h.2.1, h.2.2⟩
mutual
theorem Ex.val_on {m m' : List Tm} : ∀ (d : Nat) (e : Ex), exOk d e = true → (∀ t ∈ e.terms, Ped.isVar t.v = true → bindOf m t.v = bindOf m' t.v) → e.val m = e.val m'
  | d, .mk op t kids sp, hok, h => by
    rw [Ex.terms_mk] at h
    rw [Ex.val_mk, Ex.val_mk]
    by_cases h0 : op = 0
    · subst h0
      rw [if_pos rfl, if_pos rfl]
      exact leaf_on (exOk_leaf hok).2.1 (h t (List.mem_cons_self ..))
    · obtain ⟨d', _, _, _, hk⟩ := exOk_op hok h0
      rw [if_neg h0, if_neg h0, exVals_on d' kids hk fun t ht => h t (List.mem_cons_of_mem _ ht)]
theorem exVals_on {m m' : List Tm} : ∀ (d : Nat) (l : List Ex), (∀ k ∈ l, exOk d k = true) → (∀ t ∈ l.flatMap Ex.terms, Ped.isVar t.v = true → bindOf m t.v = bindOf m' t.v) → exVals m l = exVals m' l
  | d, [], _, _ => by rw [exVals, exVals]
  | d, e :: l, hok, h => by
    rw [List.flatMap_cons] at h
    rw [exVals, exVals, Ex.val_on d e (hok e (List.mem_cons_self ..)) fun t ht => h t (List.mem_append_left _ ht), exVals_on d l (fun k hk => hok k (List.mem_cons_of_mem _ hk)) fun t ht => h t (List.mem_append_right _ ht)]
end
/-- A bind that may be. -/
def HasV (m : List Tm) (v : Name) : Prop := ∃ w, bindOf m v = some w ∧ w.ok = true
mutual
theorem Ex.val_strict {m : List Tm} : ∀ (d : Nat) (e : Ex) (x : Val), exOk d e = true → e.val m = some x → ∀ t ∈ e.terms, Ped.isVar t.v = true → HasV m t.v
  | d, .mk op t kids sp, x, hok, h => by
    rw [Ex.terms_mk]
    rw [Ex.val_mk] at h
    by_cases h0 : op = 0
    · subst h0
      obtain ⟨rfl, hz, _⟩ := exOk_leaf hok
      rw [if_pos rfl] at h
      intro u hu hv
      simp only [List.flatMap_nil, List.mem_singleton] at hu
      subst hu
      have h1 : u.v ≠ [] := by intro e; simp [Ped.isVar, e] at hv
      unfold leafV at h
      rw [if_neg h1] at h
      split at h
      · rename_i w hb
        split at h
        · rename_i ho; exact ⟨w, hb, ho⟩
        · cases h
      · cases h
    · obtain ⟨d', rfl, _, _, hk⟩ := exOk_op hok h0
      rw [if_neg h0] at h
      split at h
      · cases h
      · rename_i vs hvs
        intro u hu hv
        rcases List.mem_cons.1 hu with rfl | hu
        · exact absurd hv (by simp [zeroT, Ped.isVar])
        · exact exVals_strict d' kids vs hk hvs u hu hv
theorem exVals_strict {m : List Tm} : ∀ (d : Nat) (l : List Ex) (vs : List Val), (∀ k ∈ l, exOk d k = true) → exVals m l = some vs → ∀ t ∈ l.flatMap Ex.terms, Ped.isVar t.v = true → HasV m t.v
  | d, [], _, _, _ => by simp
  | d, e :: l, vs, hok, h => by
    rw [exVals] at h
    split at h
    · cases h
    · rename_i v hv
      split at h
      · cases h
      · rename_i vs' hvs
        rw [List.flatMap_cons]
        intro u hu huv
        rcases List.mem_append.1 hu with hu | hu
        · exact Ex.val_strict d e v (hok e (List.mem_cons_self ..)) hv u hu huv
        · exact exVals_strict d l vs' (fun k hk => hok k (List.mem_cons_of_mem _ hk)) hvs u hu huv
end
theorem exOk_mono : ∀ (d : Nat) (e : Ex), exOk d e = true → exOk (d + 1) e = true
  | 0, _, h => by cases h
  | d + 1, .mk op t kids sp, h => by
    rw [exOk] at h ⊢
    split
    · rename_i h0; rw [if_pos h0] at h; exact h
    · rename_i h0
      rw [if_neg h0] at h
      simp only [Bool.and_eq_true, List.all_eq_true] at h ⊢
      exact ⟨h.1, fun k hk => exOk_mono d k (h.2 k hk)⟩
theorem exOk_le {d d' : Nat} (h : d ≤ d') (e : Ex) (hk : exOk d e = true) : exOk d' e = true := by
  induction h with
  | refl => exact hk
  | step _ ih => exact exOk_mono _ _ ih
theorem exOk_kids {op : Int} {t : Tm} {kids : List Ex} {sp : Sp} (h : exOk 8 (.mk op t kids sp) = true) (h0 : op ≠ 0) : ∀ k ∈ kids, exOk 8 k = true := by
  rw [exOk, if_neg h0] at h
  simp only [Bool.and_eq_true, List.all_eq_true] at h
  exact fun k hk => exOk_le (by decide) k (h.2 k hk)

theorem find_asPr (own : List Tm) (v : Name) : (own.map asPr).find? (·.v == v) = (own.find? (·.v == v)).map asPr := by
  rw [List.find?_map]; rfl
theorem put_has {own : List Tm} {t : Tm} {w : Val} (hv : Ped.isVar t.v = true) (h : bindOf own t.v = some w) : putS (own.map asPr) t = ⟨[], w⟩ := by
  unfold putS
  simp only [Ped.isVar, Bool.and_eq_true, bne_iff_ne, ne_eq] at hv
  rw [if_neg (by rintro (h | h); exact hv.1 h; exact hv.2 h), find_asPr]
  unfold bindOf at h
  obtain ⟨q, hq, rfl⟩ := Option.map_eq_some_iff.1 h
  rw [hq]; rfl
theorem put_no {own : List Pr} {t : Tm} (hv : t.v = [] ∨ t.v = us) : putS own t = t := by unfold putS; rw [if_pos hv]
theorem exOk_put {own : List Tm} : ∀ (d : Nat) (e : Ex), exOk d e = true → (∀ t ∈ e.terms, Ped.isVar t.v = true → HasV own t.v) → exOk d (e.put (own.map asPr)) = true
  | 0, _, h, _ => by cases h
  | d + 1, .mk op t kids sp, h, hb => by
    rw [Ex.terms_mk] at hb
    rw [Ex.put_mk]
    rw [exOk] at h ⊢
    by_cases h0 : op = 0
    · rw [if_pos h0] at h ⊢
      simp only [Bool.and_eq_true, List.isEmpty_iff, solidOk, bne_iff_ne, List.map_eq_nil_iff] at h ⊢
      refine ⟨h.1, ?_⟩
      by_cases hv : Ped.isVar t.v = true
      · obtain ⟨w, h1, h2⟩ := hb t (List.mem_cons_self ..) hv
        rw [put_has hv h1]
        exact ⟨by simp [us], by simpa [Tm.ok, termOk, Val.ok] using h2⟩
      · rw [put_no (by simp [Ped.isVar] at hv; by_cases h1 : t.v = []; exact .inl h1; exact .inr (hv h1))]
        exact h.2
    · rw [if_neg h0] at h ⊢
      simp only [Bool.and_eq_true, beq_iff_eq, List.all_eq_true, List.length_map] at h ⊢
      obtain ⟨⟨rfl, h2⟩, h3⟩ := h
      refine ⟨⟨put_no (.inl rfl), h2⟩, fun k hk => ?_⟩
      obtain ⟨k', hk', rfl⟩ := List.mem_map.1 hk
      exact exOk_put d k' (h3 k' hk') fun u hu => hb u (List.mem_cons_of_mem _ (List.mem_flatMap.2 ⟨k', hk', hu⟩))
mutual
theorem Ex.val_put {own : List Tm} : ∀ (d : Nat) (e : Ex), exOk d e = true → (∀ t ∈ e.terms, Ped.isVar t.v = true → HasV own t.v) → (e.put (own.map asPr)).val [] = e.val own
  | d, .mk op t kids sp, hok, hb => by
    rw [Ex.terms_mk] at hb
    rw [Ex.put_mk, Ex.val_mk, Ex.val_mk]
    by_cases h0 : op = 0
    · subst h0
      rw [if_pos rfl, if_pos rfl]
      by_cases hv : Ped.isVar t.v = true
      · obtain ⟨w, h1, h2⟩ := hb t (List.mem_cons_self ..) hv
        rw [put_has hv h1]
        have h3 : t.v ≠ [] := by intro e; simp [Ped.isVar, e] at hv
        unfold leafV
        rw [if_pos rfl, if_neg h3, h1]
        simp only [h2, if_true]
      · have h1 : t.v = [] := by
          have := (exOk_leaf hok).2.1
          simp [Ped.isVar] at hv
          by_cases h : t.v = []
          · exact h
          · exact absurd (hv h) this
        rw [put_no (.inl h1)]
        unfold leafV
        rw [if_pos h1, if_pos h1]
    · obtain ⟨d', _, _, _, hk⟩ := exOk_op hok h0
      rw [if_neg h0, if_neg h0, exVals_put d' kids hk fun u hu => hb u (List.mem_cons_of_mem _ hu)]
theorem exVals_put {own : List Tm} : ∀ (d : Nat) (l : List Ex), (∀ k ∈ l, exOk d k = true) → (∀ t ∈ l.flatMap Ex.terms, Ped.isVar t.v = true → HasV own t.v) → exVals [] (l.map (Ex.put (own.map asPr))) = exVals own l
  | d, [], _, _ => by rw [List.map_nil, exVals, exVals]
  | d, e :: l, hok, hb => by
    rw [List.flatMap_cons] at hb
    rw [List.map_cons, exVals, exVals, Ex.val_put d e (hok e (List.mem_cons_self ..)) fun u hu => hb u (List.mem_append_left _ hu), exVals_put d l (fun k hk => hok k (List.mem_cons_of_mem _ hk)) fun u hu => hb u (List.mem_append_right _ hu)]
end
theorem Ex.small_put {N : Nat} (s : List Pr) : ∀ e : Ex, e.small N → (e.put s).small N := by
  refine Ex.ind fun op t kids sp ih h => ?_
  obtain ⟨h1, h2⟩ := Ex.small_mk.1 h
  rw [Ex.put_mk]
  refine Ex.small_mk.2 ⟨by simpa using h1, fun k hk => ?_⟩
  obtain ⟨k', hk', rfl⟩ := List.mem_map.1 hk
  exact ih k' hk' (h2 k' hk')

/-- The first binds of some variables. -/
def ownOf (l : List Tm) : List Name → List Tm
  | [] => []
  | v :: vs => match l.find? (·.v == v) with | some q => q :: ownOf l vs | none => ownOf l vs
def allOf (l : List Tm) : List Name → Bool
  | [] => true
  | v :: vs => (match l.find? (·.v == v) with | some q => q.x.ok | none => false) && allOf l vs
theorem bindOf_own (l : List Tm) (v : Name) : ∀ vs : List Name, v ∈ vs → bindOf (ownOf l vs) v = bindOf l v
  | [], h => by cases h
  | u :: vs, h => by
    rw [ownOf]
    by_cases hin : v ∈ vs
    · have ih := bindOf_own l v vs hin
      split
      · rename_i q hq
        rw [bindOf_cons]
        split
        · rename_i hv
          have hqv : q.v = u := by simpa using List.find?_some hq
          rw [hqv] at hv
          subst hv
          unfold bindOf
          rw [hq]; rfl
        · exact ih
      · exact ih
    · obtain rfl : v = u := (List.mem_cons.1 h).resolve_right hin
      split
      · rename_i q hq
        have hqv : q.v = v := by simpa using List.find?_some hq
        rw [bindOf_cons, if_pos hqv]
        unfold bindOf
        rw [hq]; rfl
      · rename_i hq
        have h0 : ∀ ws : List Name, v ∉ ws → bindOf (ownOf l ws) v = none := by
          intro ws
          induction ws with
          | nil => intro _; rfl
          | cons w ws ih =>
            intro hw
            simp only [List.mem_cons, not_or] at hw
            rw [ownOf]
            split
            · rename_i q hq
              have hqv : q.v = w := by simpa using List.find?_some hq
              rw [bindOf_cons, if_neg (by rw [hqv]; exact fun e => hw.1 e.symm)]
              exact ih hw.2
            · exact ih hw.2
        rw [h0 vs hin]
        unfold bindOf
        rw [hq]; rfl
theorem allOf_iff (l : List Tm) : ∀ vs : List Name, allOf l vs = true ↔ ∀ v ∈ vs, HasV l v
  | [] => by simp [allOf]
  | v :: vs => by
    rw [allOf, Bool.and_eq_true, allOf_iff l vs]
    simp only [List.mem_cons, forall_eq_or_imp]
    refine and_congr ?_ Iff.rfl
    unfold HasV bindOf
    cases l.find? (·.v == v) with
    | none => simp
    | some q => simp
/-- More binds, behind or ahead. -/
def moreOn (vs : List Name) (all : Bool) : List Tm → List Tm → List Tm
  | own, [] => own
  | own, b :: more => if (vs.contains b.v && all) = true then moreOn vs all (own ++ [b]) more else if vs.contains b.v = true then moreOn vs all own more else moreOn vs all (b :: own) more
theorem bindOf_more {vs : List Name} {all : Bool} {v : Name} (hv : v ∈ vs) : ∀ (more own : List Tm), (all = true → ∃ w, bindOf own v = some w) → bindOf (moreOn vs all own more) v = bindOf own v
  | [], own, _ => rfl
  | b :: more, own, h => by
    rw [moreOn]
    split
    · rename_i h1
      simp only [Bool.and_eq_true] at h1
      obtain ⟨w, hw⟩ := h h1.2
      have h2 := bindOf_append_some (ext := [b]) hw
      rw [bindOf_more hv more _ fun _ => ⟨w, h2⟩, h2, hw]
    · split
      · exact bindOf_more hv more own h
      · rename_i h2
        have hb : b.v ≠ v := fun e => h2 (by rw [e]; simpa using hv)
        have h3 : bindOf (b :: own) v = bindOf own v := by rw [bindOf_cons, if_neg hb]
        rw [bindOf_more hv more _ fun ha => by rw [h3]; exact h ha, h3]
theorem mem_tmVars {l : List Tm} {t : Tm} (ht : t ∈ l) (hv : Ped.isVar t.v = true) : t.v ∈ tmVars l := mem_varsOn.2 (.inr ⟨hv, List.mem_map_of_mem ht⟩)
theorem tmVars_mem {l : List Tm} {v : Name} (h : v ∈ tmVars l) : ∃ t ∈ l, Ped.isVar t.v = true ∧ t.v = v := by
  rcases mem_varsOn.1 h with h | ⟨h1, h2⟩
  · cases h
  · obtain ⟨t, ht, rfl⟩ := List.mem_map.1 h2; exact ⟨t, ht, h1, rfl⟩
/-- With the first binds of its variables alone, and with more, an expression is worth the same. -/
theorem val_own {e : Ex} {l : List Tm} {d : Nat} (hok : exOk d e = true) : e.val (ownOf l (tmVars e.terms)) = e.val l :=
  Ex.val_on d e hok fun _ ht hv => bindOf_own l _ _ (mem_tmVars ht hv)
theorem val_more {e : Ex} {l more : List Tm} {d : Nat} (hok : exOk d e = true) : e.val (moreOn (tmVars e.terms) (allOf l (tmVars e.terms)) (ownOf l (tmVars e.terms)) more) = e.val l := by
  refine Eq.trans ?_ (val_own hok)
  refine Ex.val_on d e hok fun t ht hv => bindOf_more (mem_tmVars ht hv) _ _ fun ha => ?_
  obtain ⟨w, hw, _⟩ := (allOf_iff l _).1 ha _ (mem_tmVars ht hv)
  exact ⟨w, by rw [bindOf_own l _ _ (mem_tmVars ht hv)]; exact hw⟩
theorem has_more {e : Ex} {l more : List Tm} (ha : allOf l (tmVars e.terms) = true) : ∀ t ∈ e.terms, Ped.isVar t.v = true → HasV (moreOn (tmVars e.terms) true (ownOf l (tmVars e.terms)) more) t.v := by
  intro t ht hv
  have hm := mem_tmVars ht hv
  obtain ⟨w, hw, ho⟩ := (allOf_iff l _).1 ha _ hm
  refine ⟨w, ?_, ho⟩
  rw [bindOf_more hm _ _ fun _ => ⟨w, by rw [bindOf_own l _ _ hm]; exact hw⟩, bindOf_own l _ _ hm]
  exact hw
theorem none_of {e : Ex} {l : List Tm} {d : Nat} (hok : exOk d e = true) (ha : allOf l (tmVars e.terms) = false) : e.val l = none := by
  cases h : e.val l with
  | none => rfl
  | some x =>
    have : allOf l (tmVars e.terms) = true := (allOf_iff l _).2 fun v hv => by
      obtain ⟨t, ht, h1, rfl⟩ := tmVars_mem hv
      exact Ex.val_strict d e x hok h t ht h1
    rw [this] at ha; cases ha
end Go.Proofs.YtiomojlcnemnhaaDoor

/- Contracts, on: some answers that are fixed (lives). -/
namespace Go.Proofs.YtiomojlcnemnhaaDoor
open Go.Fx Go.RowKit Go.Ped
variable {G : World → Prop}

abbrev lvT : List Tm := [⟨[88], zeroV⟩, ⟨[95], zeroV⟩, ⟨[], ⟨1, 5, []⟩⟩]
abbrev lvA : List Val := [⟨1, 1, []⟩, ⟨1, 2, []⟩, ⟨1, 5, []⟩]
abbrev lvB : List Val := [⟨1, 1, []⟩, ⟨1, 2, []⟩, ⟨1, 6, []⟩]
theorem lv_match : matchOf [112] lvT [112] lvA = some [bX] := by kernel_rfl
theorem lv_no : matchOf [112] lvT [112] lvB = none := by kernel_rfl
theorem lv_ok : atomOk [112] lvT = true := by kernel_rfl
theorem v21 : MeetsV Tryd.prog G (fnA 21) [.agg [.c (cS (bs [112])), .c (.sl (lvT.map Tm.row) [])], .agg [.c (cS (bs [112])), .arr 17 0 3 3]] (hp [(17, bxV lvA)] [] F0) (.tup [.one (.c (.sl [bX.row] [])), .one (.c (cB true))]) (hp [(17, bxV lvA)] [] F0) := by
  have h := (MeetsV.of_fun (w21 (G := G) [112] [112] lvT lvA [] (by decide))).ren (π := swR 10005 17)
  rw [lv_match] at h
  simp [swF, matchR, CR.open, CX.open, Tm.row, Val.row, zeroV] at h
  exact h

theorem m19 : Meets Tryd.prog GK 19 [] (.x (.one (cB true))) := by
  have h21 := m21 (G := GK) [112] [112] lvT lvB [] [] (by decide)
  rw [lv_no] at h21
  have h44 := m44 (G := GK) [112] lvT [] (by decide)
  rw [lv_ok, if_pos rfl] at h44
  refine meets Tryd.func19 ie19 ig19 (Nat.le_of_ble_eq_true rfl) ?_
  simp [ic19, ir19]
  refine call_of (m87 [88]) ?_
  simp
  refine call_of (m87 [95]) ?_
  simp
  refine call_of (m88 5) ?_
  simp
  refine call_of (m89 1) ?_
  simp
  refine call_of (m89 2) ?_
  simp
  refine call_of (m89 5) ?_
  simp
  refine k_rowb (es := [nmR 1, nmR 2, nmR 5]) rfl rfl (by simp) (by simp) ?_
  simp
  refine r_callN [17] _ _ [(17, bxV lvA)] [] _ [(17, bxV lvA)] [] v21 rfl rfl rfl (by simp [X.fits, A.fits, fitsL, Tm.row, zeroV]) (by simp [Val.row]) (by simp) ?_
  simp
  refine call_of (m89 6) ?_
  simp [Val.row]
  simp [freeze_st, fzL, freezeO, maxLen, closeL, A.close]
  refine call_of h21 ?_
  simp [matchR]
  refine call_of (m87 [88]) ?_
  simp
  refine call_of (m88 2) ?_
  simp
  refine call_of (m26a []) ?_
  simp
  refine call_of (m89 3) ?_
  simp
  refine call_of h44 ?_
  simp
end Go.Proofs.YtiomojlcnemnhaaDoor

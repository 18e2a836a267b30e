/- Contracts, on: the document's values of expressions; the law TermEvals. -/
import Derived.Test.YtiomojlcnemnhaaDoorKDxHb
import Derived.Test.YtiomojlcnemnhaaDoorKDxIcO
import Derived.Test.YtiomojlcnemnhaaDoorKDxX13
namespace Go.Proofs.YtiomojlcnemnhaaDoor
open Go.Fx Go.RowKit Go.Ped
variable {G : World → Prop}

theorem wrap_fit (n : Int) : -9223372036854775808 ≤ IntKind.i64.wrap n ∧ IntKind.i64.wrap n ≤ 9223372036854775807 := by rw [IntKind.wrap_i64]; omega
theorem divGo_fit {op a b q : Int} (h1 : -9223372036854775808 ≤ a) (h2 : a ≤ 9223372036854775807) (h : divGo op a b = some q) : -9223372036854775808 ≤ q ∧ q ≤ 9223372036854775807 := by
  unfold divGo at h
  split at h
  · cases h
  · rename_i hb
    injection h with h
    split at h
    · rw [← h, ← Go.IntWalk.i64_left]; exact wrap_fit _
    · rw [← h, ← rem_eq hb h1 h2]; exact wrap_fit _
theorem arithV_fit {op : Int} {l : List Val} {v : Val} (hl : ∀ x ∈ l, x.fitN) (hn : l.length ≤ 200) (h : arithV op l = some v) : v.fitN := by
  have hz : (l.getD 0 zeroV).fitN := by
    rw [List.getD_eq_getElem?_getD]
    cases h0 : l[0]? with
    | none => simp [zeroV, Val.fitN]
    | some x => exact hl x (List.mem_of_getElem? h0)
  unfold arithV at h
  split at h
  · cases h
  split at h
  · cases h
  split at h
  · injection h with h; subst h; exact wrap_fit _
  split at h
  · injection h with h; subst h; exact wrap_fit _
  split at h
  · injection h with h; subst h; exact wrap_fit _
  split at h
  · injection h with h; subst h; exact wrap_fit _
  split at h
  · obtain ⟨q, hq, rfl⟩ := Option.map_eq_some_iff.1 h
    exact divGo_fit hz.1 hz.2 hq
  split at h
  · unfold txtO at h
    split at h
    · injection h with h; subst h; simp [Val.fitN]
    · cases h
  split at h
  · rename_i hf _ _ _ _ _ _ h8
    subst h8
    have hf' : fitsV 3 l = true := by simpa using hf
    obtain ⟨a, rfl, ha, ha'⟩ := fits1 hf' (by decide)
    simp at ha
    have := txt_len ha ha'
    injection h with h; subst h
    simp [Val.fitN, numV]; omega
  split at h
  · rename_i hf _ _ _ _ _ _ _ h9
    subst h9
    have hf' : fitsV 3 l = true := by simpa using hf
    obtain ⟨a, rfl, ha, ha'⟩ := fits1 hf' (by decide)
    simp at ha
    have := txt_len ha ha'
    have := segs_length (bs a.s) a.s.length 0
    injection h with h; subst h
    simp [Val.fitN, numV, charsB]; omega
  · unfold txtO at h
    split at h
    · injection h with h; subst h; simp [Val.fitN]
    · cases h

/-- All numbers of an expression are numbers of the machine. -/
def _root_.Go.Proofs.YtiomojlcnemnhaaDoor.Ex.fitN (e : Ex) : Prop := ∀ t ∈ e.terms, t.x.fitN
theorem Ex.fitN_mk {op : Int} {t : Tm} {kids : List Ex} {sp : Sp} : (Ex.mk op t kids sp).fitN ↔ t.x.fitN ∧ ∀ k ∈ kids, k.fitN := by
  unfold Ex.fitN
  rw [Ex.terms_mk]
  simp only [List.mem_cons, List.mem_flatMap]
  constructor
  · exact fun h => ⟨h t (.inl rfl), fun k hk x hx => h x (.inr ⟨k, hk, hx⟩)⟩
  · rintro ⟨h1, h2⟩ x (rfl | ⟨k, hk, hx⟩)
    · exact h1
    · exact h2 k hk x hx
theorem leafV_fit {m : List Tm} {t : Tm} {v : Val} (hm : ∀ t ∈ m, t.x.fitN) (ht : t.x.fitN) (h : leafV m t = some v) : v.fitN := by
  unfold leafV at h
  split at h
  · injection h with h; subst h; exact ht
  · split at h
    · rename_i w hb
      split at h
      · injection h with h; subst h
        unfold bindOf at hb
        obtain ⟨q, hq, rfl⟩ := Option.map_eq_some_iff.1 hb
        exact hm q (List.mem_of_find?_eq_some hq)
      · cases h
    · cases h
mutual
theorem Ex.val_fit {m : List Tm} (hm : ∀ t ∈ m, t.x.fitN) : ∀ (d : Nat) (e : Ex) (v : Val), exOk d e = true → e.fitN → e.val m = some v → v.fitN
  | d, .mk op t kids sp, v, hok, he, h => by
    obtain ⟨ht, hk⟩ := Ex.fitN_mk.1 he
    rw [Ex.val_mk] at h
    by_cases h0 : op = 0
    · rw [if_pos h0] at h
      exact leafV_fit hm ht h
    · rw [if_neg h0] at h
      obtain ⟨d', _, _, h2, hkok⟩ := exOk_op hok h0
      split at h
      · cases h
      · rename_i vs hvs
        exact arithV_fit (exVals_fit hm d' kids vs hkok hk hvs) (by have := exVals_some hvs; omega) h
theorem exVals_fit {m : List Tm} (hm : ∀ t ∈ m, t.x.fitN) : ∀ (d : Nat) (l : List Ex) (vs : List Val), (∀ k ∈ l, exOk d k = true) → (∀ k ∈ l, k.fitN) → exVals m l = some vs → ∀ v ∈ vs, v.fitN
  | d, [], vs, _, _, h => by rw [exVals] at h; injection h with h; subst h; intro v hv; cases hv
  | d, e :: l, vs, hok, he, h => by
    rw [exVals] at h
    split at h
    · cases h
    · rename_i v hv
      split at h
      · cases h
      · rename_i vs' hvs
        injection h with h; subst h
        intro x hx
        rcases List.mem_cons.1 hx with rfl | hx
        · exact Ex.val_fit hm d e x (hok e (List.mem_cons_self ..)) (he e (List.mem_cons_self ..)) hv
        · exact exVals_fit hm d l vs' (fun k hk => hok k (List.mem_cons_of_mem _ hk)) (fun k hk => he k (List.mem_cons_of_mem _ hk)) hvs x hx
end
mutual
theorem Ex.val_twin (mk : List C) (m : List Tm) : ∀ e : Ex, (e.twin mk).val m = e.val m
  | .mk op t kids sp => by rw [Ex.twin_mk, Ex.val_mk, Ex.val_mk, exVals_twin mk m kids]
theorem exVals_twin (mk : List C) (m : List Tm) : ∀ l : List Ex, exVals m (l.map (Ex.twin mk)) = exVals m l
  | [] => by rw [List.map_nil]
  | e :: l => by rw [List.map_cons, exVals, exVals, Ex.val_twin mk m e, exVals_twin mk m l]
end

theorem m143 : Meets Tryd.prog GT 143 [.one (cI .i64 777777)] (.x (.agg markT.row)) := by
  refine meets Tryd.func143 ie143 ig143 (Nat.le_of_ble_eq_true rfl) ?_
  simp [ic143, ir143]
  refine call_of (m172 777777 (by omega) (by omega) itoa777) ?_
  simp [markT, Tm.row, zeroV]
theorem m145 : Meets Tryd.prog GT 145 [.agg markT.row, .one (cI .i64 777777)] (.x (.one (cB true))) := by
  refine meets Tryd.func145 ie145 ig145 (Nat.le_of_ble_eq_true rfl) ?_
  simp [ic145, ir145, markT, Tm.row, zeroV]
  refine call_of (m172 777777 (by omega) (by omega) itoa777) ?_
  simp
theorem m75 (l : List Tm) (sp : List (List C)) (hl : l.length ≤ 1048576) : Meets Tryd.prog GT 75 [.one (.sl (l.map Tm.row) sp)] (.x (.one (.sl (l.map Tm.row) [markT.row]))) :=
  twin_gen (x := markT) encT Tryd.func75 ie75 ig75 (Nat.le_of_ble_eq_true rfl) rfl (by omega) m143 l sp hl
theorem m39' (l : List Tm) (sp sq : List (List C)) (hl : l.length ≤ maxLen) : Meets Tryd.prog G 39 [.one (.sl (l.map Tm.row) sp), .one (.sl (l.map Tm.row) sq)] (.x (.one (cB true))) := by
  have := m39 (G := G) l l sp sq hl
  simpa using this
theorem m77 (l : List Tm) (sp : List (List C)) (hl : l.length ≤ 1048576) : Meets Tryd.prog GT 77 [.one (.sl (l.map Tm.row) [markT.row]), .one (.sl (l.map Tm.row) sp)] (.x (.one (cB true))) :=
  left_gen (x := markT) encT Tryd.func77 ie77 ig77 (Nat.le_of_ble_eq_true rfl) l sp hl (m39' l [markT.row] sp (by unfold maxLen; omega)) m145

theorem m25 (e : Ex) (hs : e.small 1048576) : Meets Tryd.prog G 25 [.agg e.row] (.x (.one (cB (decide (exParts e 1048576 > 1048576))))) := by
  refine meets Tryd.func25 ie25 ig25 (Nat.le_of_ble_eq_true rfl) ?_
  have h := m93 (G := G) e 1048576 (by omega) (by omega) hs
  rw [Ex.row_eq] at h ⊢
  simp [ic25, ir25]
  refine call_of h ?_
  simp

theorem leaf_bound (m : List Tm) (t : Tm) : leafV m t = if (boundOf m t).2 then some (boundOf m t).1 else none := by
  unfold leafV boundOf
  split
  · rfl
  · unfold bindOf
    cases m.find? (·.v == t.v) with
    | none => rfl
    | some q => rfl

theorem m141 (L : List Tm) (sq : Sp) (hL : L.length ≤ 1048576) (hm : ∀ t ∈ L, t.x.fitN) : ∀ (e : Ex) (d : Nat), exOk d e = true → e.fitN → Meets Tryd.prog G 141 [.agg e.row, .one (.sl (L.map Tm.row) sq)] (optR (e.val L)) := by
  refine Ex.ind fun op t kids sp ih d hok he => ?_
  obtain ⟨ht, hkf⟩ := Ex.fitN_mk.1 he
  by_cases h0 : op = 0
  · subst h0
    rw [Ex.val_mk, if_pos rfl, leaf_bound, Ex.row_mk]
    have h107 := m107 (G := G) L sq t (by unfold maxLen; omega)
    have htr : t.row = [cS (bs t.v), cI .i8 t.x.k, cI .i64 t.x.n, cS (bs t.x.s)] := rfl
    rw [htr] at h107
    refine meets Tryd.func141 ie141 ig141 (Nat.le_of_ble_eq_true rfl) ?_
    generalize boundOf L t = B at h107 ⊢
    obtain ⟨x, ok⟩ := B
    simp [ic141, ir141]
    refine call_of h107 ?_
    cases ok with
    | true => simp [Val.row]
    | false => simp [Val.row, zeroV]
  · obtain ⟨d', rfl, ⟨h1, h2⟩, hk2, hkok⟩ := exOk_op hok h0
    have hih := fun k hk => ih k hk d' (hkok k hk) (hkf k hk)
    have hfit := fun vs => exVals_fit hm d' kids vs hkok hkf
    generalize hR : (Ex.mk op zeroT kids sp).val L = R
    rw [Ex.val_mk, if_neg h0] at hR
    rw [Ex.row_mk]
    simp only [zeroT, zeroV]
    refine meets Tryd.func141 ie141 ig141 (Nat.le_of_ble_eq_true rfl) ?_
    have h0' : ¬ op = 0 := h0
    simp [ic141, ir141, h0']
    refine w_loopA [.t 300 8 39 3] [10, 48] [1, 2, 4, 5, 8, 9] (by simp [ownKey])
      (fun z : Nat × List Val => st [(1, .k true (.x (.one (.c (.sl (L.map Tm.row) sq))))), (2, .k true (.x (.one (.ref 2 0 0)))), (4, .k true (.x (.one (.ref 4 0 0)))), (5, tB false), (8, .k true (.x (.one (.own 300 (z.2.map Val.row))))), (9, tI .i64 z.1)]
        [(4, ⟨39, 3, [[.c (cI .i8 0), .c (cI .i64 0), .c (cS (bs []))]], none⟩), (2, ⟨47, 6, [[.c (cI .i8 op), .c (cS (bs [])), .c (cI .i8 0), .c (cI .i64 0), .c (cS (bs [])), .c (.sl (kids.map Ex.row) sp)]], none⟩)] [(300, ⟨39, 3, z.2.length⟩)] F0) (fun z => kids.length - z.1)
      (fun z => z.1 ≤ kids.length ∧ z.2.length = z.1 ∧ exVals L kids = (exVals L (kids.drop z.1)).map (z.2 ++ ·)) (0, []) (by simp; try rfl) (by simp) ?_
    rintro ⟨i, E⟩ K hK ⟨hi, hE, hv⟩
    simp only at hi hE hv
    obtain hlt | hge := Nat.lt_or_ge i kids.length
    · rw [List.drop_eq_getElem_cons hlt, exVals] at hv
      have hc := hih _ (List.getElem_mem hlt)
      obtain ⟨x1, x2, x3, x4, x5, x6, hx⟩ : ∃ x1 x2 x3 x4 x5 x6, kids[i].row = [x1, x2, x3, x4, x5, x6] := ⟨_, _, _, _, _, _, Ex.row_eq _⟩
      rw [hx] at hc
      simp [ic141l0, hlt, hx]
      refine call_of hc ?_
      cases hk : kids[i].val L with
      | none =>
        rw [hk] at hv
        simp only [Option.map_none] at hv
        rw [hv] at hR
        subst hR
        simp [Val.row, zeroV]
      | some v =>
        rw [hk] at hv
        simp [Val.row]
        refine ⟨by unfold maxLen; omega, by unfold maxBytes; omega, ?_⟩
        simp (disch := omega) only [w64]
        refine hK (i + 1, E ++ [v]) _ (by simp [Val.row]; try rfl) ⟨by simp only; omega, by simp [hE], ?_⟩ (by simp only; omega)
        rw [hv]
        simp only
        cases exVals L (List.drop (i + 1) kids) <;> simp
    · rw [List.drop_eq_nil_of_le hge, exVals] at hv
      simp only [Option.map_some, List.append_nil] at hv
      have hEf := hfit E hv
      rw [hv] at hR
      simp only at hR
      simp [ic141l0, Nat.not_lt.mpr hge]
      refine call_of (m188 op h1 h2 E [] hEf) ?_
      rw [hR]
      simp [Val.row, zeroV]

theorem m73 (e : Ex) (L : List Tm) (sq : Sp) (hs : e.small 1048576) (hL : L.length ≤ 1048576) (he : e.fitN) (hm : ∀ t ∈ L, t.x.fitN) : Meets Tryd.prog G 73 [.agg e.row, .one (.sl (L.map Tm.row) sq)] (optR (if exOk 8 e then e.val L else none)) := by
  refine meets Tryd.func73 ie73 ig73 (Nat.le_of_ble_eq_true rfl) ?_
  have h97 := m97 (G := G) 8 e hs (by omega)
  by_cases hok : exOk 8 e = true
  · have h141 := m141 (G := G) L sq hL hm e 8 hok he
    rw [hok] at h97 ⊢
    simp only [if_true]
    generalize e.val L = R at h141 ⊢
    rw [Ex.row_eq] at h97 h141 ⊢
    simp [ic73, ir73]
    refine call_of h97 ?_
    simp
    refine call_of h141 ?_
    simp [Val.row]
  · have hok' : exOk 8 e = false := by simpa using hok
    rw [hok'] at h97 ⊢
    rw [Ex.row_eq] at h97 ⊢
    simp [ic73, ir73]
    refine call_of h97 ?_
    simp
    rfl
end Go.Proofs.YtiomojlcnemnhaaDoor

import Derived.Test.YtiomojlcnemnhaaGreatDoorCGxR1
import Derived.Test.YtiomojlcnemnhaaGreatDoorCGxIc4
namespace Go.Proofs.YtiomojlcnemnhaaGreatDoor
open Go.Fx Go.RowKit Go.Ped
variable {G : World → Prop}
theorem dec_len : ∀ (m n : Nat), n < 10 ^ (m + 1) → (Lib.decDigits n).length ≤ m + 1
  | 0, n, h => by rw [Lib.decDigits, dif_pos (by omega)]; simp
  | m + 1, n, h => by
    rw [Lib.decDigits]
    split
    · simp
    · rw [List.length_append, List.length_singleton]
      have := dec_len m (n / 10) (by rw [Nat.pow_succ] at h; omega)
      omega
theorem ba_cons (x : UInt8) (t : List UInt8) : (⟨#[x]⟩ ++ ⟨t.toArray⟩ : ByteArray) = ⟨(x :: t).toArray⟩ := by
  apply ByteArray.ext
  simp
set_option maxRecDepth 100000 in
set_option maxHeartbeats 2000000 in
theorem digits_calls (n : Nat) (hn : n < 18446744073709551616) (w : World) : Calls Tryz.prog 264 #[.int .u64 (n : Int)] w fun e w' => e = .returned (.string ⟨(Lib.decDigits n).toArray⟩) ∧ Below w.heap.size w w' := by
  go_enter Tryz.func264, Tryz.ntmps264
  go_wp2_with fail
  go_loopw [0, 3] (fun v s w' => ∃ (k : Nat) (t : List UInt8), v = .int .u64 (k : Int) ∧ s = .string ⟨t.toArray⟩ ∧ k ≤ n ∧ Lib.decDigits k ++ t = Lib.decDigits n ∧ Below w.heap.size w w') (fun v _ _ => match v with | .int _ k => k.toNat | _ => 0)
  case atStart => exact ⟨n, [], rfl, rfl, Nat.le_refl _, by simp, Below.refl _ _⟩
  case round =>
    obtain ⟨k, t, rfl, rfl, hk, ht, hb⟩ := hrel
    have htl : t.length + 1 ≤ 30 := by
      have h1 := dec_len 19 n (by omega)
      have h2 := congrArg List.length ht
      rw [List.length_append] at h2
      omega
    have hone : ∀ (d : Nat), d < 256 → ∀ w' : World, w'.heap[wr.heap.size]? = some (.cells #[.int .u8 (d : Int)] 5 (0, 0)) → (convert 312 9 (.slice (some ⟨wr.heap.size, 0, none⟩) 1 1)).run Tryz.prog w' = .ok (.string ⟨[UInt8.ofNat d].toArray⟩) w' := fun d hd w' hw' => by
      refine conv_row w' wr.heap.size [UInt8.ofNat d] 1 1 rfl 5 ?_
      rw [hw']
      have : (UInt8.ofNat d).toNat = d := by rw [UInt8.toNat_ofNat']; omega
      simp [this]
    by_cases h10 : (10 : Int) ≤ (k : Int)
    · have hq := hone (48 + k % 10) (by omega) (wr.alloc (.cells #[.int .u8 (48 + (k : Int) % 10)] 5)) (by rw [alloc_heap, if_pos rfl]; congr 2)
      have hdec : Lib.decDigits k = Lib.decDigits (k / 10) ++ [UInt8.ofNat (48 + k % 10)] := by rw [Lib.decDigits, dif_neg (by omega)]
      go_wp2_with fail
      refine ⟨⟨k / 10, (48 + UInt8.ofNat (k % 10)) :: t, congrArg (Value.int .u64) (by omega), congrArg Value.string (ba_cons _ _), by omega, ?_, Below.alloc hb hb.size _⟩, ?_⟩
      · rw [← ht, hdec, List.append_assoc]
        congr 1
        have : UInt8.ofNat (48 + k % 10) = 48 + UInt8.ofNat (k % 10) := by rw [UInt8.ofNat_add]; rfl
        rw [this]
        rfl
      · show ((k : Int) / 10).toNat < (k : Int).toNat
        omega
    · have hq := hone (48 + k) (by omega) (wr.alloc (.cells #[.int .u8 (48 + (k : Int))] 5)) (by rw [alloc_heap, if_pos rfl]; congr 2)
      have hdec : Lib.decDigits k = [UInt8.ofNat (48 + k)] := by rw [Lib.decDigits, dif_pos (by omega)]
      go_wp2_with fail
      simp [bodyPost, results, Tryz.results264, go_sem]
      refine ⟨?_, Below.alloc hb hb.size _⟩
      rw [ba_cons, ← ht, hdec]
      have : UInt8.ofNat (48 + k) = 48 + UInt8.ofNat k := by rw [UInt8.ofNat_add]; rfl
      rw [this]
      rfl
theorem m2264 (n : Nat) (hn : n < 18446744073709551616) : Meets Tryz.prog G 264 [.one (cI .u64 n)] (.x (.one (cS (bs (Lib.decDigits n))))) := by
  refine ⟨by kernel_rfl, fun w V vs _ _ ha => ?_⟩
  obtain ⟨v, vs', rfl, hv, ha'⟩ := ha.head
  obtain rfl := ha'.nil_left
  have hv' : RepC V w (.v (.int .u64 n)) v := hv
  cases hv'
  refine (digits_calls n hn w).mono ?_
  rintro e w' ⟨rfl, hb⟩
  exact ⟨_, rfl, .v _ rfl, hb⟩
end Go.Proofs.YtiomojlcnemnhaaGreatDoor

namespace Go.Proofs.YtiomojlcnemnhaaGreatDoor
open Go.Fx Go.RowKit Go.Ped
structure RenT (g : Name → Name) (f : Tm → Tm) (l : List Tm) : Prop where
  stay : ∀ t ∈ l, Ped.isVar t.v = false → f t = t
  turn : ∀ t ∈ l, Ped.isVar t.v = true → f t = ⟨g t.v, zeroV⟩
  good : ∀ t ∈ l, Ped.isVar t.v = true → Ped.isVar (g t.v) = true ∧ wordOk 65 90 (g t.v) = true
theorem RenT.sub {g : Name → Name} {f : Tm → Tm} {l m : List Tm} (h : RenT g f l) (hs : ∀ t ∈ m, t ∈ l) : RenT g f m :=
  ⟨fun t ht => h.stay t (hs t ht), fun t ht => h.turn t (hs t ht), fun t ht => h.good t (hs t ht)⟩
theorem RenT.ok {g : Name → Name} {f : Tm → Tm} {l : List Tm} (h : RenT g f l) {t : Tm} (ht : t ∈ l) (hk : t.ok = true) : (f t).ok = true := by
  cases hv : Ped.isVar t.v with
  | false => rw [h.stay t ht hv]; exact hk
  | true =>
    rw [h.turn t ht hv]
    obtain ⟨g1, g2⟩ := h.good t ht hv
    have hne : g t.v ≠ [] := by intro e; rw [e] at g1; cases g1
    simp [Tm.ok, termOk, hne, g2, zeroV]
theorem RenT.us {g : Name → Name} {f : Tm → Tm} {l : List Tm} (h : RenT g f l) {t : Tm} (ht : t ∈ l) (hk : (t.v != us) = true) : ((f t).v != us) = true := by
  cases hv : Ped.isVar t.v with
  | false => rw [h.stay t ht hv]; exact hk
  | true =>
    rw [h.turn t ht hv]
    have g1 := (h.good t ht hv).1
    simp only [Ped.isVar, Bool.and_eq_true] at g1
    exact g1.2
theorem RenT.nil {g : Name → Name} {f : Tm → Tm} {l : List Tm} (h : RenT g f l) {t : Tm} (ht : t ∈ l) (hk : (t.v != []) = true) : ((f t).v != []) = true := by
  cases hv : Ped.isVar t.v with
  | false => rw [h.stay t ht hv]; exact hk
  | true =>
    rw [h.turn t ht hv]
    have g1 := (h.good t ht hv).1
    simp only [Ped.isVar, Bool.and_eq_true] at g1
    exact g1.1
theorem RenT.zero {g : Name → Name} {f : Tm → Tm} {l : List Tm} (h : RenT g f l) {t : Tm} (ht : t ∈ l) (hk : t = zeroT) : f t = zeroT := by
  rw [h.stay t ht (by rw [hk]; rfl), hk]
theorem RenT.solid {g : Name → Name} {f : Tm → Tm} {l : List Tm} (h : RenT g f l) {t : Tm} (ht : t ∈ l) (hk : solidOk t = true) : solidOk (f t) = true := by
  unfold solidOk at hk ⊢
  simp only [Bool.and_eq_true] at hk ⊢
  exact ⟨h.us ht hk.1, h.ok ht hk.2⟩
theorem exOk_ren {g : Name → Name} {f : Tm → Tm} : ∀ (d : Nat) (e : Ex), RenT g f e.terms → exOk d e = true → exOk d (e.mapT f) = true
  | 0, _, _, h => by cases h
  | d + 1, .mk op t kids sp, hr, h => by
    rw [Ex.terms_mk] at hr
    rw [Ex.mapT_mk]
    simp only [exOk] at h ⊢
    by_cases h0 : op = 0
    · rw [if_pos h0] at h ⊢
      simp only [Bool.and_eq_true, List.isEmpty_iff] at h ⊢
      exact ⟨by rw [h.1]; rfl, hr.solid (List.mem_cons_self ..) h.2⟩
    · rw [if_neg h0] at h ⊢
      simp only [Bool.and_eq_true, beq_iff_eq, List.length_map, List.all_map] at h ⊢
      refine ⟨⟨hr.zero (List.mem_cons_self ..) h.1.1, h.1.2⟩, List.all_eq_true.2 fun k hk => ?_⟩
      exact exOk_ren d k (hr.sub fun x hx => List.mem_cons_of_mem _ (List.mem_flatMap.2 ⟨k, hk, hx⟩)) (List.all_eq_true.1 h.2 k hk)
theorem exNone_ren {g : Name → Name} {f : Tm → Tm} {e : Ex} (hr : RenT g f e.terms) (h : exNone e = true) : exNone (e.mapT f) = true := by
  obtain ⟨op, t, kids, sp⟩ := e
  rw [Ex.terms_mk] at hr
  rw [Ex.mapT_mk]
  simp only [exNone, Ex.op_mk, Ex.t_mk, Ex.kids_mk, Bool.and_eq_true, beq_iff_eq, List.isEmpty_iff] at h ⊢
  exact ⟨⟨h.1.1, hr.zero (List.mem_cons_self ..) h.1.2⟩, by rw [h.2]; rfl⟩
theorem litOk_ren {g : Name → Name} {f : Tm → Tm} {x : Lit} (hr : RenT g f x.terms) (h : litOk x = true) : litOk (x.mapT f) = true := by
  have h1 := hr.sub (m := x.l) fun t ht => List.mem_append_left _ (List.mem_append_left _ ht)
  have h2 := hr.sub (m := x.left.terms) fun t ht => List.mem_append_left _ (List.mem_append_right _ ht)
  have h3 := hr.sub (m := x.right.terms) fun t ht => List.mem_append_right _ ht
  unfold litOk at h ⊢
  unfold Lit.mapT
  simp only
  split
  · rename_i hk
    rw [if_pos hk] at h
    simp only [Bool.and_eq_true, atomOk, List.length_map, List.all_map] at h ⊢
    refine ⟨⟨⟨⟨⟨h.1.1.1.1.1, h.1.1.1.1.2⟩, List.all_eq_true.2 fun t ht => h1.ok ht (List.all_eq_true.1 h.1.1.1.2 t ht)⟩, h.1.1.2⟩, exNone_ren h2 h.1.2⟩, exNone_ren h3 h.2⟩
  · rename_i hk
    rw [if_neg hk] at h
    split
    · rename_i hk3
      rw [if_pos hk3] at h
      simp only [Bool.and_eq_true, List.isEmpty_iff] at h ⊢
      refine ⟨⟨⟨⟨⟨h.1.1.1.1.1, by rw [h.1.1.1.1.2]; rfl⟩, h.1.1.1.2⟩, h.1.1.2⟩, exOk_ren 8 _ h2 h.1.2⟩, exOk_ren 8 _ h3 h.2⟩
    · rename_i hk3
      rw [if_neg hk3] at h
      cases h
theorem argOk_ren {g : Name → Name} {f : Tm → Tm} {a : Arg} {l : List Tm} (hr : RenT g f l) (ha : a.t ∈ l) (h : argOk a = true) : argOk (a.mapT f) = true := by
  unfold argOk at h ⊢
  unfold Arg.mapT
  simp only
  split
  · rename_i hk; rw [if_pos hk] at h; exact hr.solid ha h
  · rename_i hk
    rw [if_neg hk] at h
    split
    · rename_i hk1; rw [if_pos hk1] at h
      simp only [beq_iff_eq] at h ⊢
      exact hr.zero ha h
    · rename_i hk1
      rw [if_neg hk1] at h
      split
      · rename_i hk2; rw [if_pos hk2] at h
        simp only [Bool.and_eq_true] at h ⊢
        exact ⟨hr.nil ha h.1, hr.solid ha h.2⟩
      · rename_i hk2; rw [if_neg hk2] at h; cases h
theorem vars_ren_le {g : Name → Name} {f : Tm → Tm} : ∀ (l : List Tm) (acc acc' : List Name), RenT g f l → (∀ v ∈ acc, g v ∈ acc') → acc'.length ≤ acc.length → (varsOn acc' ((l.map f).map Tm.v)).length ≤ (varsOn acc (l.map Tm.v)).length
  | [], acc, acc', _, _, hl => hl
  | t :: l, acc, acc', hr, hg, hl => by
    have hr' := hr.sub (m := l) fun x hx => List.mem_cons_of_mem _ hx
    simp only [List.map_cons, varsOn]
    cases hv : Ped.isVar t.v with
    | false =>
      rw [hr.stay t (List.mem_cons_self ..) hv, hv]
      simp only [Bool.false_and, Bool.false_eq_true, if_false]
      exact vars_ren_le l acc acc' hr' hg hl
    | true =>
      rw [hr.turn t (List.mem_cons_self ..) hv]
      simp only [(hr.good t (List.mem_cons_self ..) hv).1, Bool.true_and]
      by_cases hc : acc.contains t.v = true
      · have hc' : acc'.contains (g t.v) = true := by simpa using hg t.v (by simpa using hc)
        rw [hc, hc']
        simp only [Bool.not_true, Bool.false_eq_true, if_false]
        exact vars_ren_le l acc acc' hr' hg hl
      · simp only [Bool.not_eq_true] at hc
        rw [hc]
        simp only [Bool.not_false, if_true]
        by_cases hc' : acc'.contains (g t.v) = true
        · rw [hc']
          simp only [Bool.not_true, Bool.false_eq_true, if_false]
          refine vars_ren_le l (acc ++ [t.v]) acc' hr' (fun v hv => ?_) (by rw [List.length_append]; omega)
          rcases List.mem_append.1 hv with hv | hv
          · exact hg v hv
          · rw [List.mem_singleton.1 hv]; simpa using hc'
        · simp only [Bool.not_eq_true] at hc'
          rw [hc']
          simp only [Bool.not_false, if_true]
          refine vars_ren_le l (acc ++ [t.v]) (acc' ++ [g t.v]) hr' (fun v hv => ?_) (by rw [List.length_append, List.length_append]; simp; omega)
          rcases List.mem_append.1 hv with hv | hv
          · exact List.mem_append_left _ (hg v hv)
          · rw [List.mem_singleton.1 hv]; exact List.mem_append_right _ (List.mem_singleton.2 rfl)
theorem ruleOk_ren {g : Name → Name} {f : Tm → Tm} {r : Rule} (hr : RenT g f r.terms) (h : ruleOk r = true) : ruleOk (r.mapT f) = true := by
  unfold ruleOk at h ⊢
  rw [Rule.mapT_terms]
  unfold Rule.mapT
  simp only [Bool.and_eq_true, List.length_map, List.all_map, decide_eq_true_eq] at h ⊢
  refine ⟨⟨⟨⟨⟨h.1.1.1.1.1, h.1.1.1.1.2⟩, h.1.1.1.2⟩, List.all_eq_true.2 fun a ha => ?_⟩, List.all_eq_true.2 fun x hx => ?_⟩, ?_⟩
  · exact argOk_ren hr (List.mem_append_left _ (List.mem_map_of_mem ha)) (List.all_eq_true.1 h.1.1.2 a ha)
  · exact litOk_ren (hr.sub fun t ht => List.mem_append_right _ (List.mem_flatMap.2 ⟨x, hx, ht⟩)) (List.all_eq_true.1 h.1.2 x hx)
  · exact Nat.le_trans (vars_ren_le r.terms [] [] hr (fun _ h => by cases h) (Nat.le_refl _)) h.2
end Go.Proofs.YtiomojlcnemnhaaGreatDoor

namespace Go.Proofs.YtiomojlcnemnhaaGreatDoor
open Go.Fx Go.RowKit Go.Ped
theorem varsOn_nodup : ∀ (l acc : List Name), acc.Nodup → (varsOn acc l).Nodup
  | [], _, h => h
  | v :: l, acc, h => by
    simp only [varsOn]
    split
    · rename_i hc
      simp only [Bool.and_eq_true, Bool.not_eq_true', List.contains_eq_mem, decide_eq_false_iff_not] at hc
      refine varsOn_nodup l _ ?_
      rw [List.nodup_append]
      exact ⟨h, by simp, fun a ha b hb e => hc.2 (by rw [List.mem_singleton.1 hb] at e; exact e ▸ ha)⟩
    · exact varsOn_nodup l _ h
theorem vars_nodup (l : List Tm) : (varsOf l).Nodup := varsOn_nodup _ _ List.nodup_nil
theorem vars_isVar {l : List Tm} {v : Name} (h : v ∈ varsOf l) : Ped.isVar v = true := by
  rcases mem_varsOn.1 h with h | h
  · cases h
  · exact h.1
theorem vars_mem {l : List Tm} {t : Tm} (ht : t ∈ l) (hv : Ped.isVar t.v = true) : t.v ∈ varsOf l := mem_varsOn.2 (.inr ⟨hv, List.mem_map_of_mem ht⟩)
def vName (i : Nat) : Name := 86 :: Lib.decDigits i
theorem dec_digit (i : Nat) : ∀ b ∈ Lib.decDigits i, okB b = true := by
  induction i using Nat.strongRecOn with
  | _ i ih =>
    have one : ∀ d : Nat, d < 10 → okB (UInt8.ofNat (48 + d)) = true := fun d hd => by
      have : d = 0 ∨ d = 1 ∨ d = 2 ∨ d = 3 ∨ d = 4 ∨ d = 5 ∨ d = 6 ∨ d = 7 ∨ d = 8 ∨ d = 9 := by omega
      rcases this with rfl | rfl | rfl | rfl | rfl | rfl | rfl | rfl | rfl | rfl <;> rfl
    rw [Lib.decDigits]
    split
    · rename_i h
      intro b hb
      rw [List.mem_singleton.1 hb]
      exact one i h
    · rename_i h
      intro b hb
      rcases List.mem_append.1 hb with hb | hb
      · exact ih (i / 10) (by omega) b hb
      · rw [List.mem_singleton.1 hb]
        exact one (i % 10) (by omega)
theorem vName_var (i : Nat) : Ped.isVar (vName i) = true := by simp [Ped.isVar, vName, us]
theorem vName_ok (i : Nat) (hi : i < 10000000000) : wordOk 65 90 (vName i) = true := by
  have hl := dec_len 9 i (by omega)
  have hd := List.all_eq_true.2 (dec_digit i)
  unfold vName wordOk
  simp only [List.length_cons, Bool.and_eq_true, decide_eq_true_eq]
  exact ⟨⟨⟨⟨by omega, by decide⟩, by decide⟩, rfl⟩, hd⟩
def canF : Nat → List Name → List Pr
  | _, [] => []
  | n, v :: l => ⟨v, ⟨vName n, zeroV⟩⟩ :: canF (n + 1) l
abbrev canS (vs : List Name) : List Pr := canF 0 vs
theorem canF_find : ∀ (l : List Name) (n : Nat) (v : Name), (canF n l).find? (·.v == v) = if v ∈ l then some ⟨v, ⟨vName (n + l.idxOf v), zeroV⟩⟩ else none
  | [], _, _ => by simp [canF]
  | u :: l, n, v => by
    rw [canF, List.find?_cons]
    by_cases h : u = v
    · subst h; simp
    · have h' : (u == v) = false := by simpa using h
      simp only [h']
      rw [canF_find l (n + 1) v]
      by_cases hm : v ∈ l
      · rw [if_pos hm, if_pos (List.mem_cons_of_mem _ hm), List.idxOf_cons, h']
        simp [Nat.add_comm, Nat.add_left_comm]
      · rw [if_neg hm, if_neg (by simp [Ne.symm h, hm])]
theorem canF_len : ∀ (l : List Name) (n : Nat), (canF n l).length = l.length
  | [], _ => rfl
  | v :: l, n => by rw [canF, List.length_cons, canF_len l, List.length_cons]
theorem putS_can {vs : List Name} (t : Tm) : putS (canS vs) t = if Ped.isVar t.v = true ∧ t.v ∈ vs then ⟨vName (vs.idxOf t.v), zeroV⟩ else t := by
  unfold putS
  by_cases h : t.v = [] ∨ t.v = us
  · rw [if_pos h, if_neg]
    rintro ⟨h1, _⟩
    simp only [Ped.isVar, Bool.and_eq_true, bne_iff_ne] at h1
    rcases h with h | h
    · exact h1.1 h
    · exact h1.2 h
  · rw [if_neg h, canF_find]
    have hv : Ped.isVar t.v = true := by
      simp only [not_or] at h
      simp [Ped.isVar, h.1, h.2]
    by_cases hm : t.v ∈ vs
    · rw [if_pos hm, if_pos ⟨hv, hm⟩, Nat.zero_add]
    · rw [if_neg hm, if_neg fun h => hm h.2]
def canon (r : Rule) : Rule := r.mapT (putS (canS (varsOf r.terms)))
theorem ren_canon (l : List Tm) (hl : (varsOf l).length ≤ 10000000000) : RenT (fun v => vName ((varsOf l).idxOf v)) (putS (canS (varsOf l))) l where
  stay := fun t _ hv => by rw [putS_can, if_neg fun h => by rw [hv] at h; cases h.1]
  turn := fun t ht hv => by rw [putS_can, if_pos ⟨hv, vars_mem ht hv⟩]
  good := fun t ht hv => ⟨vName_var _, vName_ok _ (by have := List.idxOf_lt_length_iff.2 (vars_mem ht hv); omega)⟩
theorem canon_ok {r : Rule} (h : ruleOk r = true) : ruleOk (canon r) = true := by
  refine ruleOk_ren (ren_canon r.terms ?_) h
  unfold ruleOk at h
  simp only [Bool.and_eq_true, decide_eq_true_eq] at h
  omega
end Go.Proofs.YtiomojlcnemnhaaGreatDoor

namespace Go.Proofs.YtiomojlcnemnhaaGreatDoor
open Go.Fx Go.RowKit Go.Ped
variable {G : World → Prop}
def all2B {α : Type} (p : α → α → Bool) : List α → List α → Bool
  | [], [] => true
  | a :: l, b :: m => p a b && all2B p l m
  | _, _ => false
theorem all2B_len {α : Type} (p : α → α → Bool) : ∀ {l m : List α}, ¬ l.length = m.length → all2B p l m = false
  | [], [], h => absurd rfl h
  | [], _ :: _, _ => rfl
  | _ :: _, [], _ => rfl
  | a :: l, b :: m, h => by rw [all2B, all2B_len p (by simpa using h), Bool.and_false]
mutual
def Ex.shape : Ex → Ex → Bool
  | .mk op _ kids _, .mk op' _ kids' _ => op == op' && exShape kids kids'
def exShape : List Ex → List Ex → Bool
  | [], [] => true
  | e :: l, e' :: l' => e.shape e' && exShape l l'
  | _, _ => false
end
theorem exShape_all : ∀ (l m : List Ex), exShape l m = all2B Ex.shape l m
  | [], [] => rfl
  | [], _ :: _ => rfl
  | _ :: _, [] => rfl
  | a :: l, b :: m => by rw [exShape, all2B, exShape_all l m]
theorem Ex.shape_mk (op op' : Int) (t t' : Tm) (kids kids' : List Ex) (sp sp' : Sp) : (Ex.mk op t kids sp).shape (.mk op' t' kids' sp') = (op == op' && all2B Ex.shape kids kids') := by rw [Ex.shape, exShape_all]
def Arg.agg1 (a b : Arg) : Bool := a.agg == b.agg
def Lit.kin (x y : Lit) : Bool := x.kind == y.kind && x.rel == y.rel && x.p == y.p && x.l.length == y.l.length && x.left.shape y.left && x.right.shape y.right
theorem m2266 (l m : List Ex) (sp sq : Sp) (hl : l.length ≤ 1048576) (hm : m.length ≤ 1048576) (ih : ∀ k ∈ l, ∀ k' ∈ m, Meets Tryz.prog G 198 [.agg k.row, .agg k'.row] (.x (.one (cB (Ex.shape k k'))))) :
    Meets Tryz.prog G 266 [.one (.sl (l.map Ex.row) sp), .one (.sl (m.map Ex.row) sq), .one (cF 198)] (.x (.one (cB (all2B Ex.shape l m)))) := by
  refine meets Tryz.func266 ie2266 ig2266 (Nat.le_of_ble_eq_true rfl) ?_
  generalize hR : all2B Ex.shape l m = R
  by_cases hlen : l.length = m.length
  · simp [ic2266, ir2266, hlen]
    refine w_loopA [] [8, 9] [0, 1, 2, 6, 15, 16, 17] (by simp [ownKey])
      (fun i : Nat => st [(0, .k true (.x (.one (.c (.sl (l.map Ex.row) sp))))), (1, .k true (.x (.one (.c (.sl (m.map Ex.row) sq))))), (2, .k true (.x (.one (.c (cF 198))))), (6, tB false), (15, .k true (.x (.one (.c (.sl (l.map Ex.row) sp))))), (16, tI .i64 l.length), (17, tI .i64 i)] [] [] F0) (fun i => l.length - i)
      (fun i => i ≤ l.length ∧ all2B Ex.shape (l.drop i) (m.drop i) = R) 0 (by simp [hlen]; try rfl) (by simp [hR]) ?_
    rintro i K hK ⟨hi, hd⟩
    obtain hlt | hge := Nat.lt_or_ge i l.length
    · have hlt' : i < m.length := by omega
      have hc := ih l[i] (List.getElem_mem hlt) m[i] (List.getElem_mem hlt')
      rw [List.drop_eq_getElem_cons hlt, List.drop_eq_getElem_cons hlt', all2B] at hd
      have hrl : l[i].row.length = 6 := Ex.row_length _
      have hrm : m[i].row.length = 6 := Ex.row_length _
      have k1 : (l[i].row.map A.c).take 6 = l[i].row.map A.c := List.take_of_length_le (by simp)
      have k2 : (m[i].row.map A.c).take 6 = m[i].row.map A.c := List.take_of_length_le (by simp)
      generalize hb : Ex.shape l[i] m[i] = b at hc hd
      simp [ic2266l0, hlt, hlt', ← hlen, hrl, hrm, k1, k2]
      refine r_callW _ _ [] [] _ [] [] (plainV hc F0) rfl rfl rfl (by simp [CX.open, X.fits]) (by simp) ?_
      simp [CR.open, CX.open]
      cases b with
      | false =>
        simp only [Bool.false_and] at hd
        subst hd
        simp
      | true =>
        simp only [Bool.true_and] at hd
        simp
        simp (disch := omega) only [wrap64]
        exact hK (i + 1) _ (by simp [hlen]; try rfl) ⟨by omega, hd⟩ (by omega)
    · have hi2 : i = l.length := by omega
      subst hi2
      rw [List.drop_length, List.drop_of_length_le (by omega)] at hd
      subst hd
      simp [ic2266l0, hlen, all2B]
  · have hf : R = false := by rw [← hR]; exact all2B_len _ hlen
    subst hf
    have hlen' : ¬ (l.length : Int) = (m.length : Int) := by omega
    simp [ic2266, ir2266, hlen, hlen']
theorem m2101 (l m : List Arg) (sp sq : Sp) (hl : l.length ≤ 1048576) (hm : m.length ≤ 1048576) (ih : ∀ k ∈ l, ∀ k' ∈ m, Meets Tryz.prog G 100 [.agg k.row, .agg k'.row] (.x (.one (cB (Arg.agg1 k k'))))) :
    Meets Tryz.prog G 101 [.one (.sl (l.map Arg.row) sp), .one (.sl (m.map Arg.row) sq), .one (cF 100)] (.x (.one (cB (all2B Arg.agg1 l m)))) := by
  refine meets Tryz.func101 ie2101 ig2101 (Nat.le_of_ble_eq_true rfl) ?_
  generalize hR : all2B Arg.agg1 l m = R
  by_cases hlen : l.length = m.length
  · simp [ic2101, ir2101, hlen]
    refine w_loopA [] [8, 9] [0, 1, 2, 6, 15, 16, 17] (by simp [ownKey])
      (fun i : Nat => st [(0, .k true (.x (.one (.c (.sl (l.map Arg.row) sp))))), (1, .k true (.x (.one (.c (.sl (m.map Arg.row) sq))))), (2, .k true (.x (.one (.c (cF 100))))), (6, tB false), (15, .k true (.x (.one (.c (.sl (l.map Arg.row) sp))))), (16, tI .i64 l.length), (17, tI .i64 i)] [] [] F0) (fun i => l.length - i)
      (fun i => i ≤ l.length ∧ all2B Arg.agg1 (l.drop i) (m.drop i) = R) 0 (by simp [hlen]; try rfl) (by simp [hR]) ?_
    rintro i K hK ⟨hi, hd⟩
    obtain hlt | hge := Nat.lt_or_ge i l.length
    · have hlt' : i < m.length := by omega
      have hc := ih l[i] (List.getElem_mem hlt) m[i] (List.getElem_mem hlt')
      rw [List.drop_eq_getElem_cons hlt, List.drop_eq_getElem_cons hlt', all2B] at hd
      have hrl : l[i].row.length = 5 := Arg.row_length _
      have hrm : m[i].row.length = 5 := Arg.row_length _
      have k1 : (l[i].row.map A.c).take 5 = l[i].row.map A.c := List.take_of_length_le (by simp)
      have k2 : (m[i].row.map A.c).take 5 = m[i].row.map A.c := List.take_of_length_le (by simp)
      generalize hb : Arg.agg1 l[i] m[i] = b at hc hd
      simp [ic2101l0, hlt, hlt', ← hlen, hrl, hrm, k1, k2]
      refine r_callW _ _ [] [] _ [] [] (plainV hc F0) rfl rfl rfl (by simp [CX.open, X.fits]) (by simp) ?_
      simp [CR.open, CX.open]
      cases b with
      | false =>
        simp only [Bool.false_and] at hd
        subst hd
        simp
      | true =>
        simp only [Bool.true_and] at hd
        simp
        simp (disch := omega) only [wrap64]
        exact hK (i + 1) _ (by simp [hlen]; try rfl) ⟨by omega, hd⟩ (by omega)
    · have hi2 : i = l.length := by omega
      subst hi2
      rw [List.drop_length, List.drop_of_length_le (by omega)] at hd
      subst hd
      simp [ic2101l0, hlen, all2B]
  · have hf : R = false := by rw [← hR]; exact all2B_len _ hlen
    subst hf
    have hlen' : ¬ (l.length : Int) = (m.length : Int) := by omega
    simp [ic2101, ir2101, hlen, hlen']
theorem m2102 (l m : List Lit) (sp sq : Sp) (hl : l.length ≤ 1048576) (hm : m.length ≤ 1048576) (ih : ∀ k ∈ l, ∀ k' ∈ m, Meets Tryz.prog G 103 [.agg k.row, .agg k'.row] (.x (.one (cB (Lit.kin k k'))))) :
    Meets Tryz.prog G 102 [.one (.sl (l.map Lit.row) sp), .one (.sl (m.map Lit.row) sq), .one (cF 103)] (.x (.one (cB (all2B Lit.kin l m)))) := by
  refine meets Tryz.func102 ie2102 ig2102 (Nat.le_of_ble_eq_true rfl) ?_
  generalize hR : all2B Lit.kin l m = R
  by_cases hlen : l.length = m.length
  · simp [ic2102, ir2102, hlen]
    refine w_loopA [] [8, 9] [0, 1, 2, 6, 15, 16, 17] (by simp [ownKey])
      (fun i : Nat => st [(0, .k true (.x (.one (.c (.sl (l.map Lit.row) sp))))), (1, .k true (.x (.one (.c (.sl (m.map Lit.row) sq))))), (2, .k true (.x (.one (.c (cF 103))))), (6, tB false), (15, .k true (.x (.one (.c (.sl (l.map Lit.row) sp))))), (16, tI .i64 l.length), (17, tI .i64 i)] [] [] F0) (fun i => l.length - i)
      (fun i => i ≤ l.length ∧ all2B Lit.kin (l.drop i) (m.drop i) = R) 0 (by simp [hlen]; try rfl) (by simp [hR]) ?_
    rintro i K hK ⟨hi, hd⟩
    obtain hlt | hge := Nat.lt_or_ge i l.length
    · have hlt' : i < m.length := by omega
      have hc := ih l[i] (List.getElem_mem hlt) m[i] (List.getElem_mem hlt')
      rw [List.drop_eq_getElem_cons hlt, List.drop_eq_getElem_cons hlt', all2B] at hd
      have hrl : l[i].row.length = 16 := Lit.row_length _
      have hrm : m[i].row.length = 16 := Lit.row_length _
      have k1 : (l[i].row.map A.c).take 16 = l[i].row.map A.c := List.take_of_length_le (by simp)
      have k2 : (m[i].row.map A.c).take 16 = m[i].row.map A.c := List.take_of_length_le (by simp)
      generalize hb : Lit.kin l[i] m[i] = b at hc hd
      simp [ic2102l0, hlt, hlt', ← hlen, hrl, hrm, k1, k2]
      refine r_callW _ _ [] [] _ [] [] (plainV hc F0) rfl rfl rfl (by simp [CX.open, X.fits]) (by simp) ?_
      simp [CR.open, CX.open]
      cases b with
      | false =>
        simp only [Bool.false_and] at hd
        subst hd
        simp
      | true =>
        simp only [Bool.true_and] at hd
        simp
        simp (disch := omega) only [wrap64]
        exact hK (i + 1) _ (by simp [hlen]; try rfl) ⟨by omega, hd⟩ (by omega)
    · have hi2 : i = l.length := by omega
      subst hi2
      rw [List.drop_length, List.drop_of_length_le (by omega)] at hd
      subst hd
      simp [ic2102l0, hlen, all2B]
  · have hf : R = false := by rw [← hR]; exact all2B_len _ hlen
    subst hf
    have hlen' : ¬ (l.length : Int) = (m.length : Int) := by omega
    simp [ic2102, ir2102, hlen, hlen']
set_option maxHeartbeats 4000000 in
theorem m2198 : ∀ (e e' : Ex), e.small 1048576 → e'.small 1048576 → Meets Tryz.prog G 198 [.agg e.row, .agg e'.row] (.x (.one (cB (e.shape e')))) := by
  refine Ex.ind fun op t kids sp ih e' hs hs' => ?_
  obtain ⟨op', t', kids', sp'⟩ := e'
  obtain ⟨hl, hk⟩ := Ex.small_mk.1 hs
  obtain ⟨hl', hk'⟩ := Ex.small_mk.1 hs'
  have h := m2266 (G := G) kids kids' sp sp' hl hl' (fun k hm k' hm' => ih k hm k' (hk k hm) (hk' k' hm'))
  refine meets Tryz.func198 ie2198 ig2198 (Nat.le_of_ble_eq_true rfl) ?_
  rw [Ex.row_mk, Ex.row_mk, Ex.shape_mk]
  generalize all2B Ex.shape kids kids' = b at *
  generalize kids.map Ex.row = rs at *
  generalize kids'.map Ex.row = rs' at *
  simp (config := { maxSteps := 4000000 }) [ic2198, ir2198]
  by_cases ho : op = op'
  · subst ho
    simp
    refine call_of h ?_
    simp
  · have ho' : (op == op') = false := by simpa using ho
    simp [ho, ho']
    refine call_no (.x (.one (cB true))) ?_
    simp
theorem m2100 (a b : Arg) : Meets Tryz.prog G 100 [.agg a.row, .agg b.row] (.x (.one (cB (a.agg1 b)))) := by
  refine meets Tryz.func100 ie2100 ig2100 (Nat.le_of_ble_eq_true rfl) ?_
  have h1 : a.row = [cI .i8 a.agg, cS (bs a.t.v), cI .i8 a.t.x.k, cI .i64 a.t.x.n, cS (bs a.t.x.s)] := rfl
  have h2 : b.row = [cI .i8 b.agg, cS (bs b.t.v), cI .i8 b.t.x.k, cI .i64 b.t.x.n, cS (bs b.t.x.s)] := rfl
  rw [h1, h2]
  simp [ic2100, ir2100, Arg.agg1]
set_option maxHeartbeats 4000000 in
theorem m2103 (x y : Lit) (hx : x.small 1048576) (hy : y.small 1048576) : Meets Tryz.prog G 103 [.agg x.row, .agg y.row] (.x (.one (cB (x.kin y)))) := by
  have h1 := m2198 (G := G) x.left y.left hx.2.1 hy.2.1
  have h2 := m2198 (G := G) x.right y.right hx.2.2 hy.2.2
  have hxl := hx.1
  have hyl := hy.1
  unfold Lit.kin Lit.row
  rw [Ex.row_eq x.left, Ex.row_eq y.left] at h1
  rw [Ex.row_eq x.right, Ex.row_eq y.right] at h2
  rw [Ex.row_eq x.left, Ex.row_eq y.left, Ex.row_eq x.right, Ex.row_eq y.right]
  generalize x.left.shape y.left = b1 at *
  generalize x.right.shape y.right = b2 at *
  refine meets Tryz.func103 ie2103 ig2103 (Nat.le_of_ble_eq_true rfl) ?_
  simp (config := { maxSteps := 4000000 }) [ic2103, ir2103]
  have hn : ∀ (P : Prop) [Decidable P], P → decide P = true := fun P _ h => by simpa using h
  by_cases c1 : x.kind = y.kind
  · by_cases c2 : x.rel = y.rel
    · by_cases c3 : x.p = y.p
      · by_cases c4 : x.l.length = y.l.length
        · simp [c1, c2, c3, c4]
          refine call_of h1 ?_
          cases b1 with
          | false => simp; refine call_no (.x (.one (cB true))) ?_; simp
          | true => simp; refine call_of h2 ?_; simp
        · have c4' : ¬ (x.l.length : Int) = (y.l.length : Int) := by omega
          simp [c1, c2, c3, c4, c4']
          refine call_no (.x (.one (cB true))) ?_
          simp
          refine call_no (.x (.one (cB true))) ?_
          simp [c4]
      · simp [c1, c2, c3]
        refine call_no (.x (.one (cB true))) ?_
        simp
        refine call_no (.x (.one (cB true))) ?_
        simp
    · simp [c1, c2]
      refine call_no (.x (.one (cB true))) ?_
      simp
      refine call_no (.x (.one (cB true))) ?_
      simp
  · simp [c1]
    refine call_no (.x (.one (cB true))) ?_
    simp
    refine call_no (.x (.one (cB true))) ?_
    simp
end Go.Proofs.YtiomojlcnemnhaaGreatDoor

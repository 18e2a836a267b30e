import Derived.Test.YtiomojlcnemnhaaGreatDoorLGxY3
import Derived.Test.YtiomojlcnemnhaaGreatDoorLGxIcY
import Derived.Test.YtiomojlcnemnhaaGreatDoorLGxRa
namespace Go.Proofs.YtiomojlcnemnhaaGreatDoor
open Go.Fx Go.RowKit Go.Ped
variable {G : World → Prop}
end Go.Proofs.YtiomojlcnemnhaaGreatDoor

namespace Go.Proofs.YtiomojlcnemnhaaGreatDoor
open Go.Fx Go.RowKit Go.Ped
variable {G : World → Prop}
end Go.Proofs.YtiomojlcnemnhaaGreatDoor

namespace Go.Proofs.YtiomojlcnemnhaaGreatDoor
open Go.Fx Go.RowKit Go.Ped
theorem tm_okv {t : Tm} (h : t.ok = true) (hv : Ped.isVar t.v = true) : t.x = zeroV ∧ wordOk 65 90 t.v = true := by
  simp only [Ped.isVar, Bool.and_eq_true, bne_iff_ne] at hv
  have hu : ¬ t.v = [95] := fun e => hv.2 e
  simp only [Tm.ok, termOk, if_neg hv.1, hu, decide_false, Bool.false_or, Bool.and_eq_true, decide_eq_true_eq] at h
  obtain ⟨v, k, n, s⟩ := t
  simp only at h
  obtain ⟨⟨⟨h1, rfl⟩, rfl⟩, rfl⟩ := h
  exact ⟨rfl, h1⟩
theorem solid_okv {t : Tm} (h : solidOk t = true) (hv : Ped.isVar t.v = true) : t.x = zeroV ∧ wordOk 65 90 t.v = true := by
  unfold solidOk at h
  simp only [Bool.and_eq_true] at h
  exact tm_okv h.2 hv
theorem zero_okv {t : Tm} {Q : Prop} (h : t = zeroT) (hv : Ped.isVar t.v = true) : Q := by rw [h] at hv; cases hv
theorem ex_okv : ∀ (d : Nat) (e : Ex), exOk d e = true → ∀ t ∈ e.terms, Ped.isVar t.v = true → t.x = zeroV ∧ wordOk 65 90 t.v = true
  | 0, _, h => by cases h
  | d + 1, .mk op t kids sp, h => by
    intro u hu hv
    rw [Ex.terms_mk] at hu
    simp only [exOk] at h
    by_cases h0 : op = 0
    · rw [if_pos h0] at h
      simp only [Bool.and_eq_true, List.isEmpty_iff] at h
      rw [h.1] at hu
      rcases List.mem_cons.1 hu with rfl | hu
      · exact solid_okv h.2 hv
      · cases hu
    · rw [if_neg h0] at h
      simp only [Bool.and_eq_true, beq_iff_eq] at h
      rcases List.mem_cons.1 hu with rfl | hu
      · exact zero_okv h.1.1 hv
      · obtain ⟨k, hk, hu⟩ := List.mem_flatMap.1 hu
        exact ex_okv d k (List.all_eq_true.1 h.2 k hk) u hu hv
theorem none_okv {e : Ex} (h : exNone e = true) : ∀ t ∈ e.terms, Ped.isVar t.v = true → t.x = zeroV ∧ wordOk 65 90 t.v = true := by
  obtain ⟨op, t, kids, sp⟩ := e
  intro u hu hv
  rw [Ex.terms_mk] at hu
  simp only [exNone, Bool.and_eq_true, beq_iff_eq, List.isEmpty_iff] at h
  have hk : kids = [] := h.2
  rw [hk] at hu
  rcases List.mem_cons.1 hu with rfl | hu
  · exact zero_okv (show u = zeroT from h.1.2) hv
  · cases hu
theorem lit_okv {x : Lit} (h : litOk x = true) : ∀ t ∈ x.terms, Ped.isVar t.v = true → t.x = zeroV ∧ wordOk 65 90 t.v = true := by
  intro t ht hv
  unfold Lit.terms at ht
  unfold litOk at h
  split at h
  · simp only [Bool.and_eq_true, atomOk] at h
    rcases List.mem_append.1 ht with ht | ht
    · rcases List.mem_append.1 ht with ht | ht
      · exact tm_okv (List.all_eq_true.1 h.1.1.1.2 t ht) hv
      · exact none_okv h.1.2 t ht hv
    · exact none_okv h.2 t ht hv
  · split at h
    · simp only [Bool.and_eq_true, List.isEmpty_iff] at h
      rcases List.mem_append.1 ht with ht | ht
      · rcases List.mem_append.1 ht with ht | ht
        · rw [h.1.1.1.1.2] at ht; cases ht
        · exact ex_okv 8 _ h.1.2 t ht hv
      · exact ex_okv 8 _ h.2 t ht hv
    · cases h
theorem arg_okv {a : Arg} (h : argOk a = true) (hv : Ped.isVar a.t.v = true) : a.t.x = zeroV ∧ wordOk 65 90 a.t.v = true := by
  unfold argOk at h
  split at h
  · exact solid_okv h hv
  · split at h
    · exact zero_okv (by simpa using h) hv
    · split at h
      · simp only [Bool.and_eq_true] at h
        exact solid_okv h.2 hv
      · cases h
theorem rule_okv {r : Rule} (h : ruleOk r = true) : ∀ t ∈ r.terms, Ped.isVar t.v = true → t.x = zeroV ∧ wordOk 65 90 t.v = true := by
  intro t ht hv
  unfold ruleOk at h
  simp only [Bool.and_eq_true] at h
  unfold Rule.terms at ht
  rcases List.mem_append.1 ht with ht | ht
  · obtain ⟨a, ha, rfl⟩ := List.mem_map.1 ht
    exact arg_okv (List.all_eq_true.1 h.1.1.2 a ha) hv
  · obtain ⟨x, hx, ht⟩ := List.mem_flatMap.1 ht
    exact lit_okv (List.all_eq_true.1 h.1.2 x hx) t ht hv
theorem vars_word {r : Rule} (h : ruleOk r = true) {v : Name} (hv : v ∈ varsOf r.terms) : Ped.isVar v = true ∧ wordOk 65 90 v = true := by
  have h1 := vars_isVar hv
  rcases mem_varsOn.1 hv with h2 | h2
  · cases h2
  · obtain ⟨t, ht, rfl⟩ := List.mem_map.1 h2.2
    exact ⟨h1, (rule_okv h t ht h1).2⟩
theorem find_map (g : Name → Name) : ∀ (vs : List Name) (v : Name), (vs.map fun u => (⟨u, ⟨g u, zeroV⟩⟩ : Pr)).find? (·.v == v) = if v ∈ vs then some ⟨v, ⟨g v, zeroV⟩⟩ else none
  | [], _ => by simp
  | u :: vs, v => by
    rw [List.map_cons, List.find?_cons]
    by_cases h : u = v
    · subst h; simp
    · have h' : (u == v) = false := by simpa using h
      simp only [h']
      rw [find_map g vs v]
      by_cases hm : v ∈ vs
      · rw [if_pos hm, if_pos (List.mem_cons_of_mem _ hm)]
      · rw [if_neg hm, if_neg (by simp [Ne.symm h, hm])]
theorem putS_map (g : Name → Name) (vs : List Name) (t : Tm) : putS (vs.map fun u => (⟨u, ⟨g u, zeroV⟩⟩ : Pr)) t = if Ped.isVar t.v = true ∧ t.v ∈ vs then ⟨g t.v, zeroV⟩ else t := by
  unfold putS
  by_cases h : t.v = [] ∨ t.v = us
  · rw [if_pos h, if_neg]
    rintro ⟨h1, _⟩
    simp only [Ped.isVar, Bool.and_eq_true, bne_iff_ne] at h1
    rcases h with h | h
    · exact h1.1 h
    · exact h1.2 h
  · rw [if_neg h, find_map]
    have hv : Ped.isVar t.v = true := by
      simp only [not_or] at h
      simp [Ped.isVar, h.1, h.2]
    by_cases hm : t.v ∈ vs
    · rw [if_pos hm, if_pos ⟨hv, hm⟩]
    · rw [if_neg hm, if_neg fun h => hm h.2]
def renG (vs : List Name) (c : Nat) (v : Name) : Name := vs.getD ((vs.idxOf v + c) % vs.length) []
def renS (vs : List Name) (c : Nat) : List Pr := vs.map fun v => ⟨v, ⟨renG vs c v, zeroV⟩⟩
theorem renG_mem {vs : List Name} {c : Nat} {v : Name} (h : v ∈ vs) : renG vs c v ∈ vs := by
  have hp : 0 < vs.length := List.length_pos_of_mem h
  have hl := Nat.mod_lt (vs.idxOf v + c) hp
  unfold renG
  rw [List.getD_eq_getElem?_getD, List.getElem?_eq_getElem hl, Option.getD_some]
  exact List.getElem_mem hl
theorem mod_inj {n i j c : Nat} (hi : i < n) (hj : j < n) (h : (i + c) % n = (j + c) % n) : i = j := by
  have hc : c % n < n := Nat.mod_lt _ (by omega)
  rw [Nat.add_mod, Nat.add_mod j c, Nat.mod_eq_of_lt hi, Nat.mod_eq_of_lt hj] at h
  have : ∀ k, k < n → (k + c % n) % n = if k + c % n < n then k + c % n else k + c % n - n := fun k hk => by
    split
    · exact Nat.mod_eq_of_lt ‹_›
    · rw [Nat.mod_eq_sub_mod (by omega), Nat.mod_eq_of_lt (by omega)]
  rw [this i hi, this j hj] at h
  split at h <;> split at h <;> omega
theorem nodup_inj {α : Type} {l : List α} (hn : l.Nodup) {i j : Nat} (hi : i < l.length) (hj : j < l.length) (e : l[i] = l[j]) : i = j := by
  have hp := List.pairwise_iff_getElem.1 hn
  rcases Nat.lt_trichotomy i j with h | h | h
  · exact absurd e (hp i j hi hj h)
  · exact h
  · exact absurd e.symm (hp j i hj hi h)
theorem renG_inj {vs : List Name} (hn : vs.Nodup) {c : Nat} : ∀ u ∈ vs, ∀ v ∈ vs, renG vs c u = renG vs c v → u = v := fun u hu v hv e => by
  have hp : 0 < vs.length := List.length_pos_of_mem hu
  have h1 := List.idxOf_lt_length_iff.2 hu
  have h2 := List.idxOf_lt_length_iff.2 hv
  have l1 := Nat.mod_lt (vs.idxOf u + c) hp
  have l2 := Nat.mod_lt (vs.idxOf v + c) hp
  unfold renG at e
  rw [List.getD_eq_getElem?_getD, List.getD_eq_getElem?_getD, List.getElem?_eq_getElem l1, List.getElem?_eq_getElem l2, Option.getD_some, Option.getD_some] at e
  have e2 := nodup_inj hn l1 l2 e
  have e3 := mod_inj h1 h2 e2
  have g1 := List.getElem_idxOf h1
  have g2 := List.getElem_idxOf h2
  rw [← g1, ← g2]
  simp only [e3]
theorem ren_ren {r : Rule} (h : ruleOk r = true) (c : Nat) : RenT (renG (varsOf r.terms) c) (putS (renS (varsOf r.terms) c)) r.terms where
  stay := fun t _ hv => by unfold renS; rw [putS_map, if_neg fun h => by rw [hv] at h; cases h.1]
  turn := fun t ht hv => by unfold renS; rw [putS_map, if_pos ⟨hv, vars_mem ht hv⟩]
  good := fun t ht hv => vars_word h (renG_mem (vars_mem ht hv))
theorem canon_perm {r : Rule} (h : ruleOk r = true) (c : Nat) : canon (r.mapT (putS (renS (varsOf r.terms) c))) = canon r :=
  canon_ren (ren_ren h c) (renG_inj (vars_nodup r.terms))
theorem perm_ok {r : Rule} (h : ruleOk r = true) (c : Nat) : ruleOk (r.mapT (putS (renS (varsOf r.terms) c))) = true := ruleOk_ren (ren_ren h c) h
def oneG (u w : Name) (v : Name) : Name := if v = u then w else v
theorem putS_one (u w : Name) (t : Tm) : putS [⟨u, ⟨w, zeroV⟩⟩] t = if Ped.isVar t.v = true ∧ t.v = u then ⟨w, zeroV⟩ else t := by
  have := putS_map (fun _ => w) [u] t
  simpa using this
theorem one_ren {r : Rule} (h : ruleOk r = true) {u w : Name} (hw : w ∈ varsOf r.terms) : RenT (oneG u w) (putS [⟨u, ⟨w, zeroV⟩⟩]) r.terms where
  stay := fun t _ hv => by rw [putS_one, if_neg fun h => by rw [hv] at h; cases h.1]
  turn := fun t ht hv => by
    rw [putS_one]
    unfold oneG
    by_cases e : t.v = u
    · rw [if_pos ⟨hv, e⟩, if_pos e]
    · rw [if_neg fun x => e x.2, if_neg e]
      obtain ⟨v, x⟩ := t
      have : x = zeroV := (rule_okv h _ ht hv).1
      rw [this]
  good := fun t ht hv => by
    unfold oneG
    split
    · exact vars_word h hw
    · exact vars_word h (vars_mem ht hv)
theorem one_ok {r : Rule} (h : ruleOk r = true) {u w : Name} (hw : w ∈ varsOf r.terms) : ruleOk (r.mapT (putS [⟨u, ⟨w, zeroV⟩⟩])) = true := ruleOk_ren (one_ren h hw) h
theorem nodup_sub {α : Type} [BEq α] [LawfulBEq α] : ∀ {l m : List α}, l.Nodup → (∀ x ∈ l, x ∈ m) → l.length ≤ m.length
  | [], _, _, _ => Nat.zero_le _
  | a :: l, m, hn, h => by
    have ha := h a (List.mem_cons_self ..)
    rw [List.nodup_cons] at hn
    have h1 := nodup_sub (l := l) (m := m.erase a) hn.2 fun x hx => by
      have hne : x ≠ a := fun e => hn.1 (e ▸ hx)
      exact (List.mem_erase_of_ne hne).2 (h x (List.mem_cons_of_mem _ hx))
    rw [List.length_erase_of_mem ha] at h1
    have := List.length_pos_of_mem ha
    rw [List.length_cons]
    omega
theorem one_vars {r : Rule} (h : ruleOk r = true) {u w : Name} (hu : u ∈ varsOf r.terms) (hw : w ∈ varsOf r.terms) (hne : u ≠ w) : (varsOf (r.mapT (putS [⟨u, ⟨w, zeroV⟩⟩])).terms).length < (varsOf r.terms).length := by
  have h1 := nodup_sub (l := varsOf (r.mapT (putS [⟨u, ⟨w, zeroV⟩⟩])).terms) (m := (varsOf r.terms).erase u) (vars_nodup _) fun x hx => by
    have hv := vars_isVar hx
    rcases mem_varsOn.1 hx with h2 | h2
    · cases h2
    · obtain ⟨t', ht', rfl⟩ := List.mem_map.1 h2.2
      rw [Rule.mapT_terms] at ht'
      obtain ⟨t, ht, rfl⟩ := List.mem_map.1 ht'
      have hr := one_ren h (u := u) hw
      cases hi : Ped.isVar t.v with
      | false => rw [hr.stay t ht hi] at hv; rw [hi] at hv; cases hv
      | true =>
        rw [hr.turn t ht hi]
        show oneG u w t.v ∈ _
        unfold oneG
        split
        · exact (List.mem_erase_of_ne (Ne.symm hne)).2 hw
        · exact (List.mem_erase_of_ne ‹_›).2 (vars_mem ht hi)
  rw [List.length_erase_of_mem hu] at h1
  have := List.length_pos_of_mem hu
  omega
theorem all2_refl {α : Type} {p : α → α → Bool} : ∀ {l : List α}, (∀ x ∈ l, p x x = true) → all2B p l l = true
  | [], _ => rfl
  | a :: l, h => by rw [all2B, h a (List.mem_cons_self ..), all2_refl fun x hx => h x (List.mem_cons_of_mem _ hx)]; rfl
theorem ex_same_refl : ∀ e : Ex, e.same e = true := by
  refine Ex.ind fun op t kids sp ih => ?_
  rw [Ex.same_mk, all2_refl ih]
  simp
theorem sameB_refl (r : Rule) : r.sameB r = true := by
  unfold Rule.sameB
  rw [all2_refl fun x _ => by unfold Lit.sameB; rw [ex_same_refl, ex_same_refl]; simp]
  simp
theorem sameB_terms {x y : Rule} (h : x.sameB y = true) : x.terms = y.terms := by
  rw [← prog_same] at h
  simp only [Bool.and_eq_true, decide_eq_true_eq] at h
  exact h.2
theorem alike_self {a b : Rule} (ha : ruleOk a = true) (hb : ruleOk b = true) (h : canon a = canon b) : alikeB a b = true := by
  unfold alikeB
  rw [ha, hb, h, sameB_refl]
  rfl
theorem alike_not {a b : Rule} (ha : ruleOk a = true) (hb : ruleOk b = true) (h : (varsOf a.terms).length ≠ (varsOf b.terms).length) : alikeB a b = false := by
  rw [Bool.eq_false_iff]
  unfold alikeB
  rw [ha, hb]
  intro e
  simp only [Bool.true_and] at e
  apply h
  rw [← canon_vars ha, ← canon_vars hb, sameB_terms e]
end Go.Proofs.YtiomojlcnemnhaaGreatDoor

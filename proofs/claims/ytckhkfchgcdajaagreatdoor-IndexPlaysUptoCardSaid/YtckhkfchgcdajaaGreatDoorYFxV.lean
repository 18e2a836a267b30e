import Derived.Test.YtckhkfchgcdajaaGreatDoorYFxU
namespace Go.Fx
open Go.RowKit
theorem runK_of_run {P : Program} {G : World → Prop} {K : S → Prop} : ∀ {l : List IOper} {σ σ' : S}, RunI P G l σ σ' → K σ' → runK P G l σ K
  | [], _, _, h, hk => by cases h; exact hk
  | _ :: _, _, _, ⟨σ1, h1, h2⟩, hk => ⟨σ1, h1, runK_of_run h2 hk⟩
def strikeO (ks : List Nat) : List (Nat × Box) → List (Nat × Box)
  | [] => []
  | (d, b) :: l => if d ∈ ks then strikeO ks l else (d, { b with rows := b.rows.map (strikeL ks) }) :: strikeO ks l
def strikeU (ks : List Nat) : List (Nat × Tok) → List (Nat × Tok)
  | [] => []
  | (d, b) :: l => if d ∈ ks then strikeU ks l else (d, b) :: strikeU ks l
theorem look_strike (ks : List Nat) : ∀ (L : List (Nat × T)) (n : Nat), look (L.map fun p => (p.1, p.2.strike ks)) n = (look L n).strike ks
  | [], _ => rfl
  | (d, t) :: L, n => by
    simp only [List.map_cons, look_cons, look_strike ks L n]
    split <;> rfl
theorem lookO_strike (ks : List Nat) : ∀ (O : List (Nat × Box)) (n : Nat), lookO (strikeO ks O) n = if n ∈ ks then none else (lookO O n).map fun b => { b with rows := b.rows.map (strikeL ks) }
  | [], n => by simp [strikeO]
  | (d, b) :: O, n => by
    unfold strikeO
    by_cases hd : d ∈ ks
    · rw [if_pos hd, lookO_strike ks O n]
      by_cases hn : n ∈ ks
      · rw [if_pos hn, if_pos hn]
      · rw [if_neg hn, if_neg hn, lookO_cons, if_neg (fun e : n = d => hn (e ▸ hd))]
    · rw [if_neg hd, lookO_cons, lookO_cons, lookO_strike ks O n]
      by_cases e : n = d
      · subst e; rw [if_pos rfl, if_neg hd, if_pos rfl]; rfl
      · rw [if_neg e, if_neg e]
theorem lookU_strike (ks : List Nat) : ∀ (O : List (Nat × Tok)) (n : Nat), lookT (strikeU ks O) n = if n ∈ ks then none else lookT O n
  | [], n => by simp [strikeU]
  | (d, b) :: O, n => by
    unfold strikeU
    by_cases hd : d ∈ ks
    · rw [if_pos hd, lookU_strike ks O n]
      by_cases hn : n ∈ ks
      · rw [if_pos hn, if_pos hn]
      · rw [if_neg hn, if_neg hn, lookT_cons, if_neg (fun e : n = d => hn (e ▸ hd))]
    · rw [if_neg hd, lookT_cons, lookT_cons, lookU_strike ks O n]
      by_cases e : n = d
      · subst e; rw [if_pos rfl, if_neg hd, if_pos rfl]
      · rw [if_neg e, if_neg e]
mutual
theorem strikeA_only {p q : Nat → Prop} {ks : List Nat} (hp : ∀ k, p k → k ∉ ks) (hq : ∀ k, q k → k ∉ ks) : ∀ {a : A}, a.only p q → a.strike ks = a
  | .c _, _ => rfl
  | .nil, _ => rfl
  | .own k _, h => by simp only [A.strike, if_neg (hq k h)]
  | .ref k _ _, h => by simp only [A.strike, if_neg (hp k h)]
  | .arr k _ _ _, h => by simp only [A.strike, if_neg (hp k h)]
  | .mapr k, h => by simp only [A.strike, if_neg (hp k h)]
  | .elem _ _ _ _, _ => rfl
  | .clo _ fs cs, h => by simp only [A.strike, strikeL_only hp hq h.1, strikeL_only hp hq h.2]
  | .yld _ _ _ xs, h => by simp only [A.strike, strikeL_only (l := xs) hp hq h]
  | .ifc _ a, h => by simp only [A.strike, strikeA_only (a := a) hp hq h]
  | .lost, _ => rfl
theorem strikeL_only {p q : Nat → Prop} {ks : List Nat} (hp : ∀ k, p k → k ∉ ks) (hq : ∀ k, q k → k ∉ ks) : ∀ {l : List A}, onlyL p q l → strikeL ks l = l
  | [], _ => rfl
  | a :: l, h => by simp only [strikeL, strikeA_only hp hq h.1, strikeL_only hp hq h.2]
end
theorem far_not {ks : List Nat} (h : (ks.all fun k => decide (k < 15000)) = true) {k : Nat} (hk : farKey k) : k ∉ ks := fun e => by
  have := List.all_eq_true.1 h k e
  have h1 := hk.1
  simp at this; omega
theorem FHp.strike_objs (H : FHp) {ks : List Nat} (h : (ks.all fun k => decide (k < 15000)) = true) (n : Nat) : (if n ∈ ks then none else (H.objs n).map fun b => { b with rows := b.rows.map (strikeL ks) }) = H.objs n := by
  cases hb : H.objs n with
  | none => simp
  | some b =>
    have hf := H.key n (.inl (by rw [hb]; simp))
    rw [if_neg (far_not h hf)]
    simp only [Option.map_some, Option.some.injEq]
    have : b.rows.map (strikeL ks) = b.rows :=
      (List.map_congr_left (g := id) fun r hr => (strikeL_only (fun k hk => far_not h hk) (fun k hk => far_not h (H.key k (.inr hk))) (H.names n b hb r hr) : strikeL ks r = r)).trans (List.map_id _)
    rw [this]
theorem strike_st (k : Nat) (ks : List Nat) (L : List (Nat × T)) (O : List (Nat × Box)) (U : List (Nat × Tok)) (H : FHp) (h : ((k :: ks).all fun k => decide (k < 15000)) = true) : (st L O U H).strike (k :: ks) = st (L.map fun p => (p.1, p.2.strike (k :: ks))) (strikeO (k :: ks) O) (strikeU (k :: ks) U) H := by
  unfold S.strike st
  rw [if_neg (by simp)]
  simp only [S.mk.injEq]
  refine ⟨funext fun n => (look_strike _ L n).symm, funext fun n => ?_, funext fun n => ?_, trivial⟩
  · rw [lookO_strike]
    by_cases hn : n ∈ k :: ks
    · rw [if_pos hn, if_pos hn, H.objs_near (by have := List.all_eq_true.1 h n hn; simpa using this)]; rfl
    · have := H.strike_objs h n
      rw [if_neg hn] at this ⊢
      rw [if_neg hn]
      cases lookO O n with
      | none => simpa using this
      | some b => simp
  · rw [lookU_strike]
    by_cases hn : n ∈ k :: ks
    · rw [if_pos hn, if_pos hn, H.toks_near (by have := List.all_eq_true.1 h n hn; simpa using this)]; rfl
    · rw [if_neg hn, if_neg hn]
def lookB : List (Nat × List (List C)) → Nat → Option (List (List C))
  | [], _ => none
  | (d, t) :: l, n => if n = d then some t else lookB l n
@[simp] theorem lookB_nil (n : Nat) : lookB [] n = none := rfl
@[simp] theorem lookB_cons (d n : Nat) (t : List (List C)) (l : List (Nat × List (List C))) : lookB ((d, t) :: l) n = if n = d then some t else lookB l n := rfl
section
variable {P : Program} {G : World → Prop} {Q : Exit → S → Prop} {L : List (Nat × T)} {O : List (Nat × Box)} {U : List (Nat × Tok)} {H : FHp} {l : List IOper} {K : S → Prop} {d : Nat}
theorem e_skip : wpI P G .skip Q (st L O U H) = Q .normal (st L O U H) := rfl
theorem e_exit {id : Nat} : wpI P G (.exit id) Q (st L O U H) = Q (.exit id) (st L O U H) := rfl
theorem e_ret : wpI P G .ret Q (st L O U H) = Q .ret (st L O U H) := rfl
theorem e_seq {a b : IC} : wpI P G (.seq a b) Q (st L O U H) = wpI P G a (thenQ (wpI P G b Q) Q) (st L O U H) :=
  propext ⟨wpI_mono (c := a) (fun e σ hq => by cases e <;> exact hq), wpI_mono (c := a) (fun e σ hq => by cases e <;> exact hq)⟩
theorem e_block {id : Nat} {a : IC} : wpI P G (.block id a) Q (st L O U H) = wpI P G a (blockQ id Q) (st L O U H) :=
  propext ⟨wpI_mono (c := a) (fun e σ hq => by cases e <;> exact hq), wpI_mono (c := a) (fun e σ hq => by cases e <;> exact hq)⟩
def condK : T → Prop → Prop → Prop
  | .k true (.x (.one (.c (.v (.bool t))))), p, q => (t = true → p) ∧ (t = false → q)
  | _, _, _ => False
@[simp] theorem condK_b (t : Bool) (p q : Prop) : condK (.k true (rB t)) p q = ((t = true → p) ∧ (t = false → q)) := rfl
theorem e_cond {c : D} {a b : IC} : wpI P G (.cond c a b) Q (st L O U H) = condK (c.val (st L O U H)) (wpI P G a Q (st L O U H)) (wpI P G b Q (st L O U H)) := by
  refine propext ⟨fun h => ?_, fun h => ?_⟩
  · obtain ⟨t, h1, h2⟩ := h
    rw [h1]; exact h2
  · unfold condK at h
    split at h
    · rename_i t e; exact ⟨t, e, h⟩
    · exact h.elim
def promoteK (L : List (Nat × T)) (O : List (Nat × Box)) (U : List (Nat × Tok)) (H : FHp) (k j : Nat) (ty : TypeId) (size : Nat) : Option Tok → Option Box → S
  | none, some ⟨t, s, [[.nil]], m⟩ => st L (updO j ⟨t, s, [[.own k []]], m⟩ O) ((k, ⟨ty, size, 0⟩) :: U) H
  | _, _ => st L O U H
@[simp] theorem promoteK_nil (k j : Nat) (ty : TypeId) (size : Nat) (t : TypeId) (s : Nat) (m : Option (TypeDesc × Bool)) : promoteK L O U H k j ty size none (some ⟨t, s, [[.nil]], m⟩) = st L (updO j ⟨t, s, [[.own k []]], m⟩ O) ((k, ⟨ty, size, 0⟩) :: U) H := rfl
theorem promote_st (k j : Nat) (ty : TypeId) (size : Nat) (hk : k < 10000) : (st L O U H).promote k j ty size = promoteK L O U H k j ty size ((lookT U k).or (H.toks k)) ((lookO O j).or (H.objs j)) := by
  unfold S.promote promoteK
  simp only [st_objs, st_toks]
  split
  · rename_i t s m h1 h2
    rw [if_pos (.inl hk), h1, h2]
    simp only
    have e1 : (fun i => if i = j then some (Box.mk t s [[A.own k []]] m) else (lookO O i).or (H.objs i)) = fun i => (lookO (updO j ⟨t, s, [[.own k []]], m⟩ O) i).or (H.objs i) := by
      funext i; simp only [lookO_upd]; split <;> simp
    have e2 : (fun i => if i = k then some (Tok.mk ty size 0) else (lookT U i).or (H.toks i)) = fun i => (lookT ((k, ⟨ty, size, 0⟩) :: U) i).or (H.toks i) := by
      funext i; simp only [lookT_cons]; split <;> simp
    show S.mk _ _ _ _ = S.mk _ _ _ _
    rw [S.mk.injEq]
    exact ⟨rfl, e1, e2, rfl⟩
  · split
    · simp_all
    · rfl
theorem e_region {news keep : List Nat} {fz : List Prep} {ops : List IOper} : wpI P G (.region news fz keep ops) Q (st L O U H) = runK P G ops (((st L O U H).prep fz).strike news) (fun σ' => Q .normal (σ'.keep keep)) :=
  propext ⟨fun ⟨_, h1, h2⟩ => runK_of_run (K := fun σ' => Q .normal (σ'.keep keep)) h1 h2, fun h => run_of_runK h⟩
@[simp] theorem guard_none {σ : S} : guardO σ none = some true := rfl
def guardT (b : Bool) : T → Option Bool
  | .k g (.x (.one (.c (.v (.bool t))))) => some (g && (t == b))
  | _ => none
@[simp] theorem guardT_k (b g t : Bool) : guardT b (.k g (rB t)) = some (g && (t == b)) := rfl
def splitT : T → (T → Prop) → Prop
  | .k true (.x (.one (.c (.v (.bool t))))), F => (t = true → F (.k true (rB true))) ∧ (t = false → F (.k true (rB false)))
  | .k false (.x (.one (.c (.v (.bool t))))), F => F (.k false (rB t))
  | _, _ => False
@[simp] theorem splitT_k (t : Bool) (F : T → Prop) : splitT (.k true (rB t)) F = ((t = true → F (.k true (rB true))) ∧ (t = false → F (.k true (rB false)))) := rfl
@[simp] theorem splitT_kf (t : Bool) (F : T → Prop) : splitT (.k false (rB t)) F = F (.k false (rB t)) := rfl
theorem guardO_look {s : Nat} {b : Bool} : guardO (st L O U H) (some (s, b)) = guardT b (look L s) := by
  unfold guardO guardT
  rfl
theorem st_same {s : Nat} {u : T} (h : look L s = u) : st ((s, u) :: L) O U H = st L O U H := by
  unfold st
  simp only [S.mk.injEq, and_true]
  funext n
  simp only [look_cons]
  split
  · rename_i e; rw [e, h]
  · rfl
theorem st_under {s d : Nat} {u t : T} (h : look L s = u) : st ((d, t) :: L) O U H = st ((d, t) :: (s, u) :: L) O U H := by
  unfold st
  simp only [S.mk.injEq, and_true]
  funext n
  simp only [look_cons]
  split
  · rfl
  · split
    · rename_i e; rw [e, h]
    · rfl
theorem split_eq {op : IOp} {s : Nat} {b : Bool} {fp : Option (List Nat)} {B : Option Bool → List (Nat × T) → Prop}
    (h : ∀ {L : List (Nat × T)}, runK P G (⟨some d, op, some (s, b), fp⟩ :: l) (st L O U H) K = B (guardO (st L O U H) (some (s, b))) L) (hB : ∀ {L : List (Nat × T)} {u : T}, look L s = u → (B none L = False) ∧ ∀ g, B (some g) ((s, u) :: L) ↔ B (some g) L) :
    runK P G (⟨some d, op, some (s, b), fp⟩ :: l) (st L O U H) K = splitT (look L s) (fun u => B (guardT b u) ((s, u) :: L)) := by
  rw [h, guardO_look]
  unfold splitT
  split
  · rename_i F t e
    rw [e]
    simp only [guardT_k]
    have h2 := (hB e).2
    cases t
    · exact propext ⟨fun hb => ⟨fun e => Bool.noConfusion e, fun _ => (h2 _).mpr hb⟩, fun hb => (h2 _).mp (hb.2 rfl)⟩
    · exact propext ⟨fun hb => ⟨fun _ => (h2 _).mpr hb, fun e => Bool.noConfusion e⟩, fun hb => (h2 _).mp (hb.1 rfl)⟩
  · rename_i F t e
    rw [e]
    simp only [guardT_k]
    have h2 := (hB e).2
    exact propext ⟨fun hb => (h2 _).mpr hb, fun hb => (h2 _).mp hb⟩
  · rename_i x F hx1 hx2
    have : guardT b (look L s) = none := by
      unfold guardT
      split
      · rename_i g t e
        cases g
        · exact (hx2 _ e).elim
        · exact (hx1 _ e).elim
      · rfl
    rw [this]
    exact (hB (L := L) rfl).1
def pureK (g : Option Bool) (o : Option Out) (F : T → Prop) : Prop :=
  match g, o with
  | some g, some o => (g = true → o.need) ∧ F (.k g o.val)
  | _, _ => False
@[simp] theorem pureK_some (g : Bool) (n : Prop) (v : R) (F : T → Prop) : pureK (some g) (some ⟨n, v⟩) F = ((g = true → n) ∧ F (.k g v)) := rfl
theorem pure_eq {op : IOp} {gd : Option (Nat × Bool)} {fp : Option (List Nat)} {F : T → Prop} {σ : S} (hF : ∀ t, F t = runK P G l (σ.put (some d) t) K)
    (hop : ∀ σ', StepI P G ⟨some d, op, gd, fp⟩ σ σ' ↔ (∃ g, guardO σ gd = some g ∧ ∃ out, pureO σ op = some out ∧ (g = true → out.need) ∧ σ' = σ.put (some d) (.k g out.val))) :
    runK P G (⟨some d, op, gd, fp⟩ :: l) σ K = (touched ⟨some d, op, gd, fp⟩ σ ∧ pureK (guardO σ gd) (pureO σ op) F) := by
  refine propext ⟨fun ⟨σ1, ⟨ht, h1⟩, h2⟩ => ?_, fun ⟨ht, h⟩ => ?_⟩
  · obtain ⟨g, hg, out, ho, hn, e⟩ := (hop _).mp h1
    rw [hg, ho]
    subst e
    exact ⟨ht, hn, by rw [hF]; exact h2⟩
  · unfold pureK at h
    split at h
    · rename_i g o e1 e2
      refine ⟨_, ⟨ht, (hop _).mpr ⟨g, e1, o, e2, h.1, rfl⟩⟩, ?_⟩
      have := h.2
      rw [hF] at this
      exact this
    · exact h.elim
theorem pure_eq0 {op : IOp} {gd : Option (Nat × Bool)} {fp : Option (List Nat)} {F : T → Prop} {σ : S} (hm : op.main? = none) (hF : ∀ t, F t = runK P G l (σ.put (some d) t) K)
    (hop : ∀ σ', StepI P G ⟨some d, op, gd, fp⟩ σ σ' ↔ (∃ g, guardO σ gd = some g ∧ ∃ out, pureO σ op = some out ∧ (g = true → out.need) ∧ σ' = σ.put (some d) (.k g out.val))) :
    runK P G (⟨some d, op, gd, fp⟩ :: l) σ K = pureK (guardO σ gd) (pureO σ op) F := by
  rw [pure_eq hF hop]
  have : touched ⟨some d, op, gd, fp⟩ σ = True := by unfold touched; rw [hm]
  rw [this, true_and]
theorem pureK_none (o : Option Out) (F : T → Prop) : pureK none o F = False := rfl
theorem r_build (z : List A) (ps : List (Nat × Nat × D)) {fp : Option (List Nat)} : runK P G (⟨some d, .build z ps, none, fp⟩ :: l) (st L O U H) K = pureK (some true) (pureO (st L O U H) (.build z ps)) (fun t => runK P G l (st ((d, t) :: L) O U H) K) := pure_eq0 (gd := none) rfl (fun _ => rfl) (fun _ => Iff.rfl)
theorem g_build (z : List A) (ps : List (Nat × Nat × D)) {s : Nat} {b : Bool} {fp : Option (List Nat)} : runK P G (⟨some d, .build z ps, some (s, b), fp⟩ :: l) (st L O U H) K = splitT (look L s) (fun u => pureK (guardT b u) (pureO (st ((s, u) :: L) O U H) (.build z ps)) (fun t => runK P G l (st ((d, t) :: (s, u) :: L) O U H) K)) := split_eq (B := fun g L => pureK g (pureO (st L O U H) (.build z ps)) (fun t => runK P G l (st ((d, t) :: L) O U H) K)) (fun {L} => pure_eq0 (gd := some (s, b)) rfl (fun _ => rfl) (fun _ => Iff.rfl)) (fun e => ⟨rfl, fun g => iff_of_eq (by rw [st_same e]; congr 1; funext t; rw [← st_under e])⟩)
theorem r_load (n : Option Nat) (x : D) {fp : Option (List Nat)} : runK P G (⟨some d, .load n x, none, fp⟩ :: l) (st L O U H) K = (touchP fp (x.val (st L O U H)) ∧ pureK (some true) (pureO (st L O U H) (.load n x)) (fun t => runK P G l (st ((d, t) :: L) O U H) K)) := pure_eq (gd := none) (fun _ => rfl) (fun _ => Iff.rfl)
theorem g_load (n : Option Nat) (x : D) {s : Nat} {b : Bool} {fp : Option (List Nat)} : runK P G (⟨some d, .load n x, some (s, b), fp⟩ :: l) (st L O U H) K = splitT (look L s) (fun u => touchP fp (x.val (st ((s, u) :: L) O U H)) ∧ pureK (guardT b u) (pureO (st ((s, u) :: L) O U H) (.load n x)) (fun t => runK P G l (st ((d, t) :: (s, u) :: L) O U H) K)) := split_eq (B := fun g L => touchP fp (x.val (st L O U H)) ∧ pureK g (pureO (st L O U H) (.load n x)) (fun t => runK P G l (st ((d, t) :: L) O U H) K)) (fun {L} => pure_eq (gd := some (s, b)) (fun _ => rfl) (fun _ => Iff.rfl)) (fun e => ⟨by simp only [pureK_none, and_false], fun g => iff_of_eq (by rw [st_same e]; congr 2; funext t; rw [← st_under e])⟩)
theorem r_faddr (off : Nat) (x : D) {fp : Option (List Nat)} : runK P G (⟨some d, .faddr off x, none, fp⟩ :: l) (st L O U H) K = pureK (some true) (pureO (st L O U H) (.faddr off x)) (fun t => runK P G l (st ((d, t) :: L) O U H) K) := pure_eq0 (gd := none) rfl (fun _ => rfl) (fun _ => Iff.rfl)
theorem g_faddr (off : Nat) (x : D) {s : Nat} {b : Bool} {fp : Option (List Nat)} : runK P G (⟨some d, .faddr off x, some (s, b), fp⟩ :: l) (st L O U H) K = splitT (look L s) (fun u => pureK (guardT b u) (pureO (st ((s, u) :: L) O U H) (.faddr off x)) (fun t => runK P G l (st ((d, t) :: (s, u) :: L) O U H) K)) := split_eq (B := fun g L => pureK g (pureO (st L O U H) (.faddr off x)) (fun t => runK P G l (st ((d, t) :: L) O U H) K)) (fun {L} => pure_eq0 (gd := some (s, b)) rfl (fun _ => rfl) (fun _ => Iff.rfl)) (fun e => ⟨rfl, fun g => iff_of_eq (by rw [st_same e]; congr 1; funext t; rw [← st_under e])⟩)
theorem r_field (off : Nat) (n : Option Nat) (x : D) {fp : Option (List Nat)} : runK P G (⟨some d, .field off n x, none, fp⟩ :: l) (st L O U H) K = pureK (some true) (pureO (st L O U H) (.field off n x)) (fun t => runK P G l (st ((d, t) :: L) O U H) K) := pure_eq0 (gd := none) rfl (fun _ => rfl) (fun _ => Iff.rfl)
theorem g_field (off : Nat) (n : Option Nat) (x : D) {s : Nat} {b : Bool} {fp : Option (List Nat)} : runK P G (⟨some d, .field off n x, some (s, b), fp⟩ :: l) (st L O U H) K = splitT (look L s) (fun u => pureK (guardT b u) (pureO (st ((s, u) :: L) O U H) (.field off n x)) (fun t => runK P G l (st ((d, t) :: (s, u) :: L) O U H) K)) := split_eq (B := fun g L => pureK g (pureO (st L O U H) (.field off n x)) (fun t => runK P G l (st ((d, t) :: L) O U H) K)) (fun {L} => pure_eq0 (gd := some (s, b)) rfl (fun _ => rfl) (fun _ => Iff.rfl)) (fun e => ⟨rfl, fun g => iff_of_eq (by rw [st_same e]; congr 1; funext t; rw [← st_under e])⟩)
theorem r_iaddr (size : Nat) (x i : D) {fp : Option (List Nat)} : runK P G (⟨some d, .iaddr size x i, none, fp⟩ :: l) (st L O U H) K = (touchP fp (x.val (st L O U H)) ∧ pureK (some true) (pureO (st L O U H) (.iaddr size x i)) (fun t => runK P G l (st ((d, t) :: L) O U H) K)) := pure_eq (gd := none) (fun _ => rfl) (fun _ => Iff.rfl)
theorem g_iaddr (size : Nat) (x i : D) {s : Nat} {b : Bool} {fp : Option (List Nat)} : runK P G (⟨some d, .iaddr size x i, some (s, b), fp⟩ :: l) (st L O U H) K = splitT (look L s) (fun u => touchP fp (x.val (st ((s, u) :: L) O U H)) ∧ pureK (guardT b u) (pureO (st ((s, u) :: L) O U H) (.iaddr size x i)) (fun t => runK P G l (st ((d, t) :: (s, u) :: L) O U H) K)) := split_eq (B := fun g L => touchP fp (x.val (st L O U H)) ∧ pureK g (pureO (st L O U H) (.iaddr size x i)) (fun t => runK P G l (st ((d, t) :: L) O U H) K)) (fun {L} => pure_eq (gd := some (s, b)) (fun _ => rfl) (fun _ => Iff.rfl)) (fun e => ⟨by simp only [pureK_none, and_false], fun g => iff_of_eq (by rw [st_same e]; congr 2; funext t; rw [← st_under e])⟩)
theorem r_sindex (x i : D) {fp : Option (List Nat)} : runK P G (⟨some d, .sindex x i, none, fp⟩ :: l) (st L O U H) K = pureK (some true) (pureO (st L O U H) (.sindex x i)) (fun t => runK P G l (st ((d, t) :: L) O U H) K) := pure_eq0 (gd := none) rfl (fun _ => rfl) (fun _ => Iff.rfl)
theorem g_sindex (x i : D) {s : Nat} {b : Bool} {fp : Option (List Nat)} : runK P G (⟨some d, .sindex x i, some (s, b), fp⟩ :: l) (st L O U H) K = splitT (look L s) (fun u => pureK (guardT b u) (pureO (st ((s, u) :: L) O U H) (.sindex x i)) (fun t => runK P G l (st ((d, t) :: (s, u) :: L) O U H) K)) := split_eq (B := fun g L => pureK g (pureO (st L O U H) (.sindex x i)) (fun t => runK P G l (st ((d, t) :: L) O U H) K)) (fun {L} => pure_eq0 (gd := some (s, b)) rfl (fun _ => rfl) (fun _ => Iff.rfl)) (fun e => ⟨rfl, fun g => iff_of_eq (by rw [st_same e]; congr 1; funext t; rw [← st_under e])⟩)
theorem r_bin (op : BinOp) (x y : D) {fp : Option (List Nat)} : runK P G (⟨some d, .bin op x y, none, fp⟩ :: l) (st L O U H) K = pureK (some true) (pureO (st L O U H) (.bin op x y)) (fun t => runK P G l (st ((d, t) :: L) O U H) K) := pure_eq0 (gd := none) rfl (fun _ => rfl) (fun _ => Iff.rfl)
theorem g_bin (op : BinOp) (x y : D) {s : Nat} {b : Bool} {fp : Option (List Nat)} : runK P G (⟨some d, .bin op x y, some (s, b), fp⟩ :: l) (st L O U H) K = splitT (look L s) (fun u => pureK (guardT b u) (pureO (st ((s, u) :: L) O U H) (.bin op x y)) (fun t => runK P G l (st ((d, t) :: (s, u) :: L) O U H) K)) := split_eq (B := fun g L => pureK g (pureO (st L O U H) (.bin op x y)) (fun t => runK P G l (st ((d, t) :: L) O U H) K)) (fun {L} => pure_eq0 (gd := some (s, b)) rfl (fun _ => rfl) (fun _ => Iff.rfl)) (fun e => ⟨rfl, fun g => iff_of_eq (by rw [st_same e]; congr 1; funext t; rw [← st_under e])⟩)
theorem r_eqs (neg : Bool) (ks : List Kd) (x y : D) {fp : Option (List Nat)} : runK P G (⟨some d, .eqs neg ks x y, none, fp⟩ :: l) (st L O U H) K = pureK (some true) (pureO (st L O U H) (.eqs neg ks x y)) (fun t => runK P G l (st ((d, t) :: L) O U H) K) := pure_eq0 (gd := none) rfl (fun _ => rfl) (fun _ => Iff.rfl)
theorem g_eqs (neg : Bool) (ks : List Kd) (x y : D) {s : Nat} {b : Bool} {fp : Option (List Nat)} : runK P G (⟨some d, .eqs neg ks x y, some (s, b), fp⟩ :: l) (st L O U H) K = splitT (look L s) (fun u => pureK (guardT b u) (pureO (st ((s, u) :: L) O U H) (.eqs neg ks x y)) (fun t => runK P G l (st ((d, t) :: (s, u) :: L) O U H) K)) := split_eq (B := fun g L => pureK g (pureO (st L O U H) (.eqs neg ks x y)) (fun t => runK P G l (st ((d, t) :: L) O U H) K)) (fun {L} => pure_eq0 (gd := some (s, b)) rfl (fun _ => rfl) (fun _ => Iff.rfl)) (fun e => ⟨rfl, fun g => iff_of_eq (by rw [st_same e]; congr 1; funext t; rw [← st_under e])⟩)
theorem r_eqb (neg : Bool) (x y : D) {fp : Option (List Nat)} : runK P G (⟨some d, .eqb neg x y, none, fp⟩ :: l) (st L O U H) K = pureK (some true) (pureO (st L O U H) (.eqb neg x y)) (fun t => runK P G l (st ((d, t) :: L) O U H) K) := pure_eq0 (gd := none) rfl (fun _ => rfl) (fun _ => Iff.rfl)
theorem g_eqb (neg : Bool) (x y : D) {s : Nat} {b : Bool} {fp : Option (List Nat)} : runK P G (⟨some d, .eqb neg x y, some (s, b), fp⟩ :: l) (st L O U H) K = splitT (look L s) (fun u => pureK (guardT b u) (pureO (st ((s, u) :: L) O U H) (.eqb neg x y)) (fun t => runK P G l (st ((d, t) :: (s, u) :: L) O U H) K)) := split_eq (B := fun g L => pureK g (pureO (st L O U H) (.eqb neg x y)) (fun t => runK P G l (st ((d, t) :: L) O U H) K)) (fun {L} => pure_eq0 (gd := some (s, b)) rfl (fun _ => rfl) (fun _ => Iff.rfl)) (fun e => ⟨rfl, fun g => iff_of_eq (by rw [st_same e]; congr 1; funext t; rw [← st_under e])⟩)
theorem r_un (op : UnOp) (x : D) {fp : Option (List Nat)} : runK P G (⟨some d, .un op x, none, fp⟩ :: l) (st L O U H) K = pureK (some true) (pureO (st L O U H) (.un op x)) (fun t => runK P G l (st ((d, t) :: L) O U H) K) := pure_eq0 (gd := none) rfl (fun _ => rfl) (fun _ => Iff.rfl)
theorem g_un (op : UnOp) (x : D) {s : Nat} {b : Bool} {fp : Option (List Nat)} : runK P G (⟨some d, .un op x, some (s, b), fp⟩ :: l) (st L O U H) K = splitT (look L s) (fun u => pureK (guardT b u) (pureO (st ((s, u) :: L) O U H) (.un op x)) (fun t => runK P G l (st ((d, t) :: (s, u) :: L) O U H) K)) := split_eq (B := fun g L => pureK g (pureO (st L O U H) (.un op x)) (fun t => runK P G l (st ((d, t) :: L) O U H) K)) (fun {L} => pure_eq0 (gd := some (s, b)) rfl (fun _ => rfl) (fun _ => Iff.rfl)) (fun e => ⟨rfl, fun g => iff_of_eq (by rw [st_same e]; congr 1; funext t; rw [← st_under e])⟩)
theorem r_conv (k : IntKind) (x : D) {fp : Option (List Nat)} : runK P G (⟨some d, .conv k x, none, fp⟩ :: l) (st L O U H) K = pureK (some true) (pureO (st L O U H) (.conv k x)) (fun t => runK P G l (st ((d, t) :: L) O U H) K) := pure_eq0 (gd := none) rfl (fun _ => rfl) (fun _ => Iff.rfl)
theorem g_conv (k : IntKind) (x : D) {s : Nat} {b : Bool} {fp : Option (List Nat)} : runK P G (⟨some d, .conv k x, some (s, b), fp⟩ :: l) (st L O U H) K = splitT (look L s) (fun u => pureK (guardT b u) (pureO (st ((s, u) :: L) O U H) (.conv k x)) (fun t => runK P G l (st ((d, t) :: (s, u) :: L) O U H) K)) := split_eq (B := fun g L => pureK g (pureO (st L O U H) (.conv k x)) (fun t => runK P G l (st ((d, t) :: L) O U H) K)) (fun {L} => pure_eq0 (gd := some (s, b)) rfl (fun _ => rfl) (fun _ => Iff.rfl)) (fun e => ⟨rfl, fun g => iff_of_eq (by rw [st_same e]; congr 1; funext t; rw [← st_under e])⟩)
theorem r_bytes (x : D) {fp : Option (List Nat)} : runK P G (⟨some d, .bytes x, none, fp⟩ :: l) (st L O U H) K = pureK (some true) (pureO (st L O U H) (.bytes x)) (fun t => runK P G l (st ((d, t) :: L) O U H) K) := pure_eq0 (gd := none) rfl (fun _ => rfl) (fun _ => Iff.rfl)
theorem g_bytes (x : D) {s : Nat} {b : Bool} {fp : Option (List Nat)} : runK P G (⟨some d, .bytes x, some (s, b), fp⟩ :: l) (st L O U H) K = splitT (look L s) (fun u => pureK (guardT b u) (pureO (st ((s, u) :: L) O U H) (.bytes x)) (fun t => runK P G l (st ((d, t) :: (s, u) :: L) O U H) K)) := split_eq (B := fun g L => pureK g (pureO (st L O U H) (.bytes x)) (fun t => runK P G l (st ((d, t) :: L) O U H) K)) (fun {L} => pure_eq0 (gd := some (s, b)) rfl (fun _ => rfl) (fun _ => Iff.rfl)) (fun e => ⟨rfl, fun g => iff_of_eq (by rw [st_same e]; congr 1; funext t; rw [← st_under e])⟩)
theorem r_len (x : D) {fp : Option (List Nat)} : runK P G (⟨some d, .len x, none, fp⟩ :: l) (st L O U H) K = pureK (some true) (pureO (st L O U H) (.len x)) (fun t => runK P G l (st ((d, t) :: L) O U H) K) := pure_eq0 (gd := none) rfl (fun _ => rfl) (fun _ => Iff.rfl)
theorem g_len (x : D) {s : Nat} {b : Bool} {fp : Option (List Nat)} : runK P G (⟨some d, .len x, some (s, b), fp⟩ :: l) (st L O U H) K = splitT (look L s) (fun u => pureK (guardT b u) (pureO (st ((s, u) :: L) O U H) (.len x)) (fun t => runK P G l (st ((d, t) :: (s, u) :: L) O U H) K)) := split_eq (B := fun g L => pureK g (pureO (st L O U H) (.len x)) (fun t => runK P G l (st ((d, t) :: L) O U H) K)) (fun {L} => pure_eq0 (gd := some (s, b)) rfl (fun _ => rfl) (fun _ => Iff.rfl)) (fun e => ⟨rfl, fun g => iff_of_eq (by rw [st_same e]; congr 1; funext t; rw [← st_under e])⟩)
theorem r_slen (x : D) {fp : Option (List Nat)} : runK P G (⟨some d, .slen x, none, fp⟩ :: l) (st L O U H) K = pureK (some true) (pureO (st L O U H) (.slen x)) (fun t => runK P G l (st ((d, t) :: L) O U H) K) := pure_eq0 (gd := none) rfl (fun _ => rfl) (fun _ => Iff.rfl)
theorem g_slen (x : D) {s : Nat} {b : Bool} {fp : Option (List Nat)} : runK P G (⟨some d, .slen x, some (s, b), fp⟩ :: l) (st L O U H) K = splitT (look L s) (fun u => pureK (guardT b u) (pureO (st ((s, u) :: L) O U H) (.slen x)) (fun t => runK P G l (st ((d, t) :: (s, u) :: L) O U H) K)) := split_eq (B := fun g L => pureK g (pureO (st L O U H) (.slen x)) (fun t => runK P G l (st ((d, t) :: L) O U H) K)) (fun {L} => pure_eq0 (gd := some (s, b)) rfl (fun _ => rfl) (fun _ => Iff.rfl)) (fun e => ⟨rfl, fun g => iff_of_eq (by rw [st_same e]; congr 1; funext t; rw [← st_under e])⟩)
theorem r_ssl (x : D) (lo hi : Option D) {fp : Option (List Nat)} : runK P G (⟨some d, .ssl x lo hi, none, fp⟩ :: l) (st L O U H) K = pureK (some true) (pureO (st L O U H) (.ssl x lo hi)) (fun t => runK P G l (st ((d, t) :: L) O U H) K) := pure_eq0 (gd := none) rfl (fun _ => rfl) (fun _ => Iff.rfl)
theorem g_ssl (x : D) (lo hi : Option D) {s : Nat} {b : Bool} {fp : Option (List Nat)} : runK P G (⟨some d, .ssl x lo hi, some (s, b), fp⟩ :: l) (st L O U H) K = splitT (look L s) (fun u => pureK (guardT b u) (pureO (st ((s, u) :: L) O U H) (.ssl x lo hi)) (fun t => runK P G l (st ((d, t) :: (s, u) :: L) O U H) K)) := split_eq (B := fun g L => pureK g (pureO (st L O U H) (.ssl x lo hi)) (fun t => runK P G l (st ((d, t) :: L) O U H) K)) (fun {L} => pure_eq0 (gd := some (s, b)) rfl (fun _ => rfl) (fun _ => Iff.rfl)) (fun e => ⟨rfl, fun g => iff_of_eq (by rw [st_same e]; congr 1; funext t; rw [← st_under e])⟩)
theorem r_vsl (size : Nat) (x : D) (lo hi : Option D) {fp : Option (List Nat)} : runK P G (⟨some d, .vsl size x lo hi, none, fp⟩ :: l) (st L O U H) K = pureK (some true) (pureO (st L O U H) (.vsl size x lo hi)) (fun t => runK P G l (st ((d, t) :: L) O U H) K) := pure_eq0 (gd := none) rfl (fun _ => rfl) (fun _ => Iff.rfl)
theorem g_vsl (size : Nat) (x : D) (lo hi : Option D) {s : Nat} {b : Bool} {fp : Option (List Nat)} : runK P G (⟨some d, .vsl size x lo hi, some (s, b), fp⟩ :: l) (st L O U H) K = splitT (look L s) (fun u => pureK (guardT b u) (pureO (st ((s, u) :: L) O U H) (.vsl size x lo hi)) (fun t => runK P G l (st ((d, t) :: (s, u) :: L) O U H) K)) := split_eq (B := fun g L => pureK g (pureO (st L O U H) (.vsl size x lo hi)) (fun t => runK P G l (st ((d, t) :: L) O U H) K)) (fun {L} => pure_eq0 (gd := some (s, b)) rfl (fun _ => rfl) (fun _ => Iff.rfl)) (fun e => ⟨rfl, fun g => iff_of_eq (by rw [st_same e]; congr 1; funext t; rw [← st_under e])⟩)
theorem r_ext (x : D) (i : Nat) {fp : Option (List Nat)} : runK P G (⟨some d, .ext x i, none, fp⟩ :: l) (st L O U H) K = pureK (some true) (pureO (st L O U H) (.ext x i)) (fun t => runK P G l (st ((d, t) :: L) O U H) K) := pure_eq0 (gd := none) rfl (fun _ => rfl) (fun _ => Iff.rfl)
theorem g_ext (x : D) (i : Nat) {s : Nat} {b : Bool} {fp : Option (List Nat)} : runK P G (⟨some d, .ext x i, some (s, b), fp⟩ :: l) (st L O U H) K = splitT (look L s) (fun u => pureK (guardT b u) (pureO (st ((s, u) :: L) O U H) (.ext x i)) (fun t => runK P G l (st ((d, t) :: (s, u) :: L) O U H) K)) := split_eq (B := fun g L => pureK g (pureO (st L O U H) (.ext x i)) (fun t => runK P G l (st ((d, t) :: L) O U H) K)) (fun {L} => pure_eq0 (gd := some (s, b)) rfl (fun _ => rfl) (fun _ => Iff.rfl)) (fun e => ⟨rfl, fun g => iff_of_eq (by rw [st_same e]; congr 1; funext t; rw [← st_under e])⟩)
theorem r_clo (f : FuncId) (fs cs : List D) {fp : Option (List Nat)} : runK P G (⟨some d, .clo f fs cs, none, fp⟩ :: l) (st L O U H) K = pureK (some true) (pureO (st L O U H) (.clo f fs cs)) (fun t => runK P G l (st ((d, t) :: L) O U H) K) := pure_eq0 (gd := none) rfl (fun _ => rfl) (fun _ => Iff.rfl)
theorem g_clo (f : FuncId) (fs cs : List D) {s : Nat} {b : Bool} {fp : Option (List Nat)} : runK P G (⟨some d, .clo f fs cs, some (s, b), fp⟩ :: l) (st L O U H) K = splitT (look L s) (fun u => pureK (guardT b u) (pureO (st ((s, u) :: L) O U H) (.clo f fs cs)) (fun t => runK P G l (st ((d, t) :: (s, u) :: L) O U H) K)) := split_eq (B := fun g L => pureK g (pureO (st L O U H) (.clo f fs cs)) (fun t => runK P G l (st ((d, t) :: L) O U H) K)) (fun {L} => pure_eq0 (gd := some (s, b)) rfl (fun _ => rfl) (fun _ => Iff.rfl)) (fun e => ⟨rfl, fun g => iff_of_eq (by rw [st_same e]; congr 1; funext t; rw [← st_under e])⟩)
theorem r_mki (t : TypeId) (x : D) {fp : Option (List Nat)} : runK P G (⟨some d, .mki t x, none, fp⟩ :: l) (st L O U H) K = pureK (some true) (pureO (st L O U H) (.mki t x)) (fun t => runK P G l (st ((d, t) :: L) O U H) K) := pure_eq0 (gd := none) rfl (fun _ => rfl) (fun _ => Iff.rfl)
theorem g_mki (t : TypeId) (x : D) {s : Nat} {b : Bool} {fp : Option (List Nat)} : runK P G (⟨some d, .mki t x, some (s, b), fp⟩ :: l) (st L O U H) K = splitT (look L s) (fun u => pureK (guardT b u) (pureO (st ((s, u) :: L) O U H) (.mki t x)) (fun t => runK P G l (st ((d, t) :: (s, u) :: L) O U H) K)) := split_eq (B := fun g L => pureK g (pureO (st L O U H) (.mki t x)) (fun t => runK P G l (st ((d, t) :: L) O U H) K)) (fun {L} => pure_eq0 (gd := some (s, b)) rfl (fun _ => rfl) (fun _ => Iff.rfl)) (fun e => ⟨rfl, fun g => iff_of_eq (by rw [st_same e]; congr 1; funext t; rw [← st_under e])⟩)
theorem r_asrt (t : TypeId) (comma one : Bool) (z : List A) (x : D) {fp : Option (List Nat)} : runK P G (⟨some d, .asrt t comma one z x, none, fp⟩ :: l) (st L O U H) K = pureK (some true) (pureO (st L O U H) (.asrt t comma one z x)) (fun t => runK P G l (st ((d, t) :: L) O U H) K) := pure_eq0 (gd := none) rfl (fun _ => rfl) (fun _ => Iff.rfl)
theorem g_asrt (t : TypeId) (comma one : Bool) (z : List A) (x : D) {s : Nat} {b : Bool} {fp : Option (List Nat)} : runK P G (⟨some d, .asrt t comma one z x, some (s, b), fp⟩ :: l) (st L O U H) K = splitT (look L s) (fun u => pureK (guardT b u) (pureO (st ((s, u) :: L) O U H) (.asrt t comma one z x)) (fun t => runK P G l (st ((d, t) :: (s, u) :: L) O U H) K)) := split_eq (B := fun g L => pureK g (pureO (st L O U H) (.asrt t comma one z x)) (fun t => runK P G l (st ((d, t) :: L) O U H) K)) (fun {L} => pure_eq0 (gd := some (s, b)) rfl (fun _ => rfl) (fun _ => Iff.rfl)) (fun e => ⟨rfl, fun g => iff_of_eq (by rw [st_same e]; congr 1; funext t; rw [← st_under e])⟩)
theorem r_nilchk (x : D) {fp : Option (List Nat)} : runK P G (⟨some d, .nilchk x, none, fp⟩ :: l) (st L O U H) K = pureK (some true) (pureO (st L O U H) (.nilchk x)) (fun t => runK P G l (st ((d, t) :: L) O U H) K) := pure_eq0 (gd := none) rfl (fun _ => rfl) (fun _ => Iff.rfl)
theorem g_nilchk (x : D) {s : Nat} {b : Bool} {fp : Option (List Nat)} : runK P G (⟨some d, .nilchk x, some (s, b), fp⟩ :: l) (st L O U H) K = splitT (look L s) (fun u => pureK (guardT b u) (pureO (st ((s, u) :: L) O U H) (.nilchk x)) (fun t => runK P G l (st ((d, t) :: (s, u) :: L) O U H) K)) := split_eq (B := fun g L => pureK g (pureO (st L O U H) (.nilchk x)) (fun t => runK P G l (st ((d, t) :: L) O U H) K)) (fun {L} => pure_eq0 (gd := some (s, b)) rfl (fun _ => rfl) (fun _ => Iff.rfl)) (fun e => ⟨rfl, fun g => iff_of_eq (by rw [st_same e]; congr 1; funext t; rw [← st_under e])⟩)
theorem r_gidx (len size g : Nat) (x : D) {fp : Option (List Nat)} : runK P G (⟨some d, .gidx len size g x, none, fp⟩ :: l) (st L O U H) K = pureK (some true) (pureO (st L O U H) (.gidx len size g x)) (fun t => runK P G l (st ((d, t) :: L) O U H) K) := pure_eq0 (gd := none) rfl (fun _ => rfl) (fun _ => Iff.rfl)
theorem r_mlook (dk : TypeDesc) (one comma : Bool) (z : List A) (m k : D) {fp : Option (List Nat)} : runK P G (⟨some d, .mlook dk one comma z m k, none, fp⟩ :: l) (st L O U H) K = (touchP fp (m.val (st L O U H)) ∧ pureK (some true) (pureO (st L O U H) (.mlook dk one comma z m k)) (fun t => runK P G l (st ((d, t) :: L) O U H) K)) := pure_eq (gd := none) (fun _ => rfl) (fun _ => Iff.rfl)
theorem g_mlook (dk : TypeDesc) (one comma : Bool) (z : List A) (m k : D) {s : Nat} {b : Bool} {fp : Option (List Nat)} : runK P G (⟨some d, .mlook dk one comma z m k, some (s, b), fp⟩ :: l) (st L O U H) K = splitT (look L s) (fun u => touchP fp (m.val (st ((s, u) :: L) O U H)) ∧ pureK (guardT b u) (pureO (st ((s, u) :: L) O U H) (.mlook dk one comma z m k)) (fun t => runK P G l (st ((d, t) :: (s, u) :: L) O U H) K)) := split_eq (B := fun g L => touchP fp (m.val (st L O U H)) ∧ pureK g (pureO (st L O U H) (.mlook dk one comma z m k)) (fun t => runK P G l (st ((d, t) :: L) O U H) K)) (fun {L} => pure_eq (gd := some (s, b)) (fun _ => rfl) (fun _ => Iff.rfl)) (fun e => ⟨by simp only [pureK_none, and_false], fun g => iff_of_eq (by rw [st_same e]; congr 2; funext t; rw [← st_under e])⟩)
def someK (g : Option Bool) (F : Bool → Prop) : Prop :=
  match g with
  | some g => F g
  | none => False
@[simp] theorem someK_some (g : Bool) (F : Bool → Prop) : someK (some g) F = F g := rfl
theorem m_move (x : D) {gd : Option (Nat × Bool)} {fp : Option (List Nat)} : runK P G (⟨some d, .move x, gd, fp⟩ :: l) (st L O U H) K = someK (guardO (st L O U H) gd) (fun g => runK P G l (st ((d, moveT g (x.val (st L O U H))) :: L) O U H) K) := by
  refine propext ⟨fun ⟨σ1, ⟨_, g, h1, h3⟩, h2⟩ => ?_, fun h => ?_⟩
  · rw [h1]; subst h3; exact h2
  · unfold someK at h
    split at h
    · rename_i g e; exact ⟨_, ⟨trivial, g, e, rfl⟩, h⟩
    · exact h.elim
theorem r_move (x : D) {fp : Option (List Nat)} : runK P G (⟨some d, .move x, none, fp⟩ :: l) (st L O U H) K = runK P G l (st ((d, moveT true (x.val (st L O U H))) :: L) O U H) K := m_move x
theorem g_move (x : D) {s : Nat} {b : Bool} {fp : Option (List Nat)} : runK P G (⟨some d, .move x, some (s, b), fp⟩ :: l) (st L O U H) K = splitT (look L s) (fun u => someK (guardT b u) fun g => runK P G l (st ((d, moveT g (x.val (st ((s, u) :: L) O U H))) :: (s, u) :: L) O U H) K) :=
  split_eq (B := fun g L => someK g fun g => runK P G l (st ((d, moveT g (x.val (st L O U H))) :: L) O U H) K) (fun {_} => m_move x) (fun e => ⟨rfl, fun g => iff_of_eq (by simp only [someK_some]; rw [st_same e, ← st_under e])⟩)
@[simp] theorem moveT_k (g gx : Bool) (r : R) : moveT g (.k gx r) = .k (g && gx) r := rfl
@[simp] theorem pickT_b (g t ga gb x y : Bool) : pickT g t (.k ga (rB x)) (.k gb (rB y)) = .k (g && (bif t then ga else gb)) (rB (bif t then x else y)) := rfl
def pickK (g : Option Bool) (c : T) (F : Bool → Bool → Prop) : Prop :=
  match g, c with
  | some g, .k gc (.x (.one (.c (.v (.bool t))))) => (g = true → gc = true) ∧ F g t
  | _, _ => False
@[simp] theorem pickK_b (g gc t : Bool) (F : Bool → Bool → Prop) : pickK (some g) (.k gc (rB t)) F = ((g = true → gc = true) ∧ F g t) := rfl
theorem r_pick (c a b : D) {gd : Option (Nat × Bool)} {fp : Option (List Nat)} : runK P G (⟨some d, .pick c a b, gd, fp⟩ :: l) (st L O U H) K = pickK (guardO (st L O U H) gd) (c.val (st L O U H)) (fun g t => runK P G l (st ((d, pickT g t (a.val (st L O U H)) (b.val (st L O U H))) :: L) O U H) K) := by
  refine propext ⟨fun ⟨σ1, ⟨_, g, h1, gc, t, h3, h4, h5⟩, h2⟩ => ?_, fun h => ?_⟩
  · rw [h1, h3]; subst h5; exact ⟨h4, h2⟩
  · unfold pickK at h
    split at h
    · rename_i g gc t e1 e2; exact ⟨_, ⟨trivial, g, e1, gc, t, e2, h.1, rfl⟩, h.2⟩
    · exact h.elim
def boxK (o : Option Box) (c : T) (F : X → Prop) : Prop :=
  match o, c with
  | none, .k true (.x y) => F y
  | _, _ => False
@[simp] theorem boxK_x (y : X) (F : X → Prop) : boxK none (.k true (.x y)) F = F y := rfl
theorem r_box (ty : TypeId) (x : D) {fp : Option (List Nat)} : runK P G (⟨some d, .box ty x, none, fp⟩ :: l) (st L O U H) K = boxK ((lookO O d).or (H.objs d)) (x.val (st L O U H)) (fun y => runK P G l (st ((d, .k true (.x (.one (.ref d 0 0)))) :: L) ((d, ⟨ty, y.cells.length, [y.cells], none⟩) :: O) U H) K) := by
  refine propext ⟨fun ⟨σ1, ⟨_, _, k, y, hk, h1, h3, h5⟩, h2⟩ => ?_, fun h => ?_⟩
  · injection hk with hk; subst hk
    rw [show (lookO O d).or (H.objs d) = none from h1, h3]; subst h5; simpa only [boxK_x, setObj_st, put_st] using h2
  · unfold boxK at h
    split at h
    · rename_i y e1 e2; exact ⟨_, ⟨trivial, rfl, d, y, rfl, e1, e2, rfl⟩, by simpa only [setObj_st, put_st] using h⟩
    · exact h.elim
def zeroK (o : Option Box) (F : Prop) : Prop :=
  match o with
  | none => F
  | _ => False
@[simp] theorem zeroK_none (F : Prop) : zeroK none F = F := rfl
theorem r_zero (ty : TypeId) (z : List A) {fp : Option (List Nat)} : runK P G (⟨some d, .zero ty z, none, fp⟩ :: l) (st L O U H) K = zeroK ((lookO O d).or (H.objs d)) (runK P G l (st ((d, .k true (.x (.one (.ref d 0 0)))) :: L) ((d, ⟨ty, z.length, [z], none⟩) :: O) U H) K) := by
  refine propext ⟨fun ⟨σ1, ⟨_, _, k, hk, h1, h5⟩, h2⟩ => ?_, fun h => ?_⟩
  · injection hk with hk; subst hk
    rw [show (lookO O d).or (H.objs d) = none from h1]; subst h5; simpa only [boxK_x, zeroK_none, setObj_st, put_st] using h2
  · unfold zeroK at h
    split at h
    · rename_i e1; exact ⟨_, ⟨trivial, rfl, d, rfl, e1, rfl⟩, by simpa only [setObj_st, put_st] using h⟩
    · exact h.elim
theorem r_mkmap (dk : TypeDesc) (size : Nat) (one : Bool) {fp : Option (List Nat)} : runK P G (⟨some d, .mkmap dk size one, none, fp⟩ :: l) (st L O U H) K = zeroK ((lookO O d).or (H.objs d)) (runK P G l (st ((d, .k true (.x (.one (.mapr d)))) :: L) ((d, ⟨0, size, [], some (dk, one)⟩) :: O) U H) K) := by
  refine propext ⟨fun ⟨σ1, ⟨_, _, k, hk, h1, h5⟩, h2⟩ => ?_, fun h => ?_⟩
  · injection hk with hk; subst hk
    rw [show (lookO O d).or (H.objs d) = none from h1]; subst h5; simpa only [boxK_x, zeroK_none, setObj_st, put_st] using h2
  · unfold zeroK at h
    split at h
    · rename_i e1; exact ⟨_, ⟨trivial, rfl, d, rfl, e1, rfl⟩, by simpa only [setObj_st, put_st] using h⟩
    · exact h.elim
def mapK (dk : TypeDesc) (one : Bool) (m k v : T) (O : Nat → Option Box) (F : Nat → Box → Prop) : Prop :=
  match m, k, v with
  | .k true (.x (.one (.mapr j))), .k true (.x (.one (.c (.v x)))), .k true (.x yv) =>
    match O j with
    | some b => (b.mp = some (dk, one) ∧ MapKept.IsKey dk x ∧ formX one yv.cells = yv ∧ yv.cells.length + 1 = b.size) ∧ F j { b with rows := mapPut b.rows x yv.cells }
    | none => False
  | _, _, _ => False
@[simp] theorem mapK_x (dk : TypeDesc) (one : Bool) (j : Nat) (x : Value) (yv : X) (O : Nat → Option Box) (F : Nat → Box → Prop) : mapK dk one (.k true (.x (.one (.mapr j)))) (.k true (.x (.one (.c (.v x))))) (.k true (.x yv)) O F = match O j with
    | some b => (b.mp = some (dk, one) ∧ MapKept.IsKey dk x ∧ formX one yv.cells = yv ∧ yv.cells.length + 1 = b.size) ∧ F j { b with rows := mapPut b.rows x yv.cells }
    | none => False := rfl
theorem r_mapup (dk : TypeDesc) (one : Bool) (m k v : D) {fp : Option (List Nat)} : runK P G (⟨none, .mapup dk one m k v, none, fp⟩ :: l) (st L O U H) K = (touchP fp (m.val (st L O U H)) ∧ mapK dk one (m.val (st L O U H)) (k.val (st L O U H)) (v.val (st L O U H)) (st L O U H).objs (fun j b => runK P G l (st L (updO j b O) U H) K)) := by
  refine propext ⟨fun ⟨σ1, ⟨ht, _, j, b, x, yv, h1, h3, h4, h5, h6, h7, h8, h9, h10⟩, h2⟩ => ?_, fun ⟨ht, h⟩ => ?_⟩
  · refine ⟨ht, ?_⟩
    rw [h1, h5, h7]
    simp only [mapK_x]
    rw [h3]; subst h10; exact ⟨⟨h4, h6, h8, h9⟩, by simpa only [setObj_upd, put_st0] using h2⟩
  · unfold mapK at h
    split at h
    · rename_i j x yv e1 e2 e3
      split at h
      · rename_i b e4
        exact ⟨_, ⟨ht, rfl, j, b, x, yv, e1, e4, h.1.1, e2, h.1.2.1, e3, h.1.2.2.1, h.1.2.2.2, rfl⟩, by simpa only [setObj_upd, put_st0] using h.2⟩
      · exact h.elim
    · exact h.elim
def storeK (x y : T) (n : Option Nat) (O : Nat → Option Box) (F : Nat → Box → Prop) : Prop :=
  match x, y with
  | .k true (.x (.one (.ref k i off))), .k true (.x yv) =>
    match O k with
    | some b => (b.mp = none ∧ i < b.rows.length ∧ off + yv.cells.length ≤ (b.rows.getD i []).length ∧ yv.cells.length = n.getD 1) ∧ F k { b with rows := b.rows.set i (splice (b.rows.getD i []) off yv.cells) }
    | none => False
  | _, _ => False
@[simp] theorem storeK_x (k i off : Nat) (yv : X) (n : Option Nat) (O : Nat → Option Box) (F : Nat → Box → Prop) : storeK (.k true (.x (.one (.ref k i off)))) (.k true (.x yv)) n O F = match O k with
    | some b => (b.mp = none ∧ i < b.rows.length ∧ off + yv.cells.length ≤ (b.rows.getD i []).length ∧ yv.cells.length = n.getD 1) ∧ F k { b with rows := b.rows.set i (splice (b.rows.getD i []) off yv.cells) }
    | none => False := rfl
theorem r_store (n : Option Nat) (x y : D) {fp : Option (List Nat)} : runK P G (⟨none, .store n x y, none, fp⟩ :: l) (st L O U H) K = (touchP fp (x.val (st L O U H)) ∧ storeK (x.val (st L O U H)) (y.val (st L O U H)) n (st L O U H).objs (fun k b => runK P G l (st L (updO k b O) U H) K)) := by
  refine propext ⟨fun ⟨σ1, ⟨ht, _, k, i, off, b, yv, hx, hb, hmp, hy, h3, h4, h5, h6⟩, h2⟩ => ?_, fun ⟨ht, h⟩ => ?_⟩
  · refine ⟨ht, ?_⟩
    rw [hx, hy]
    simp only [storeK_x]
    rw [hb]; subst h6; exact ⟨⟨hmp, h3, h4, h5⟩, by simpa only [setObj_upd, put_st0] using h2⟩
  · unfold storeK at h
    split at h
    · rename_i k i off yv e1 e2
      split at h
      · rename_i b e3
        exact ⟨_, ⟨ht, rfl, k, i, off, b, yv, e1, e3, h.1.1, e2, h.1.2.1, h.1.2.2.1, h.1.2.2.2, rfl⟩, by simpa only [setObj_upd, put_st0] using h.2⟩
      · exact h.elim
    · exact h.elim
theorem k_row {ty : TypeId} {size : Nat} {ps : List D} {es : List (List C)} {fp : Option (List Nat)} (hg : (ps.all fun d => (d.val (st L O U H)).g) = true) (hr : rowsO (ps.map fun d => (d.val (st L O U H)).r) = some es) (hw : ∀ e ∈ es, e.length = size) (hn : (lookT U d).or (H.toks d) = none)
    (h : runK P G l (st ((d, .k true (.x (.one (.own d es)))) :: L) O ((d, ⟨ty, size, es.length⟩) :: U) H) K) : runK P G (⟨some d, .row ty size ps, none, fp⟩ :: l) (st L O U H) K :=
  ⟨_, ⟨trivial, hg, es, hr, hw, d, rfl, hn, rfl⟩, by simpa only [setTok_st, put_st] using h⟩
theorem k_make {ty : TypeId} {size bytes : Nat} {z : List A} {x y : D} {n m : Int} {fp : Option (List Nat)} (hx : x.val (st L O U H) = .k true (rI .i64 n)) (hy : y.val (st L O U H) = .k true (rI .i64 m)) (hn : (lookO O d).or (H.objs d) = none) (h0 : 0 ≤ n) (h1 : n ≤ m) (h2 : m ≤ maxLen) (h3 : bytes * m ≤ maxBytes) (h4 : z.length = size)
    (h : runK P G l (st ((d, .k true (.x (.one (.arr d 0 n.toNat m.toNat)))) :: L) ((d, ⟨ty, size, List.replicate m.toNat z, none⟩) :: O) U H) K) : runK P G (⟨some d, .make ty size bytes z x y, none, fp⟩ :: l) (st L O U H) K :=
  ⟨_, ⟨trivial, rfl, d, n, m, rfl, hn, hx, hy, h0, h1, h2, h3, h4, rfl⟩, by simpa only [setObj_st, put_st] using h⟩
theorem lookO_mem : ∀ {O : List (Nat × Box)} {k : Nat} {b : Box}, lookO O k = some b → (k, b) ∈ O
  | (d, t) :: O, k, b, h => by
    simp only [lookO_cons] at h
    split at h
    · rename_i e; injection h with h; subst h; subst e; exact List.mem_cons_self ..
    · exact List.mem_cons_of_mem _ (lookO_mem h)
theorem lookT_mem : ∀ {O : List (Nat × Tok)} {k : Nat} {b : Tok}, lookT O k = some b → (k, b) ∈ O
  | (d, t) :: O, k, b, h => by
    simp only [lookT_cons] at h
    split at h
    · rename_i e; injection h with h; subst h; subst e; exact List.mem_cons_self ..
    · exact List.mem_cons_of_mem _ (lookT_mem h)
@[simp] theorem retQ_ret (ks : List Nat) (ress : List IRes) (res : CR) : retQ ks ress res .ret (st L O U H) = (retO ((st L O U H).freeze ks) ress res ∧ (H.ext = XP.emp ∨ H.ext.mark ≠ none)) := rfl
@[simp] theorem retQ_normal (ks : List Nat) (ress : List IRes) (res : CR) : retQ ks ress res .normal (st L O U H) = (retO ((st L O U H).freeze ks) ress res ∧ (H.ext = XP.emp ∨ H.ext.mark ≠ none)) := rfl
theorem F0_ext : F0.ext = XP.emp := rfl
theorem ret_one {t : Nat} {c : CX} : retO (st L O U H) [.tmp t] (.x c) = ((look L t).g = true ∧ (look L t).r.close = some c) := by
  refine propext ⟨fun ⟨h1, c1, h2, h3⟩ => ?_, fun ⟨h1, h2⟩ => ⟨fun x hx => ?_, c, h2, rfl⟩⟩
  · injection h3 with h3; subst h3
    exact ⟨h1 (.tmp t) (List.mem_singleton.mpr rfl), h2⟩
  · simp only [List.mem_singleton] at hx; subst hx; exact h1
theorem ret_cell {t : Nat} {n : Option Nat} {c : CX} : retO (st L O U H) [.cell t n] (.x c) = ((look L t).g = true ∧ (loadO (st L O U H) n (look L t).r).need ∧ (loadO (st L O U H) n (look L t).r).val.close = some c) := by
  refine propext ⟨fun ⟨h1, c1, h2, h3⟩ => ?_, fun ⟨h1, h2, h3⟩ => ⟨fun x hx => ?_, c, h3, rfl⟩⟩
  · injection h3 with h3; subst h3
    have := h1 (.cell t n) (List.mem_singleton.mpr rfl)
    exact ⟨this.1, this.2, h2⟩
  · simp only [List.mem_singleton] at hx; subst hx; exact ⟨h1, h2⟩
theorem ret_two {a b : IRes} {cs : List CX} : retO (st L O U H) [a, b] (.tup cs) = ((resO (st L O U H) a).need ∧ (resO (st L O U H) b).need ∧ closeRs (st L O U H) [a, b] = some cs) := by
  refine propext ⟨fun ⟨h1, c1, h2, h3⟩ => ?_, fun ⟨h1, h2, h3⟩ => ⟨fun x hx => ?_, cs, h3, rfl⟩⟩
  · injection h3 with h3; subst h3
    exact ⟨h1 a (by simp), h1 b (by simp), h2⟩
  · simp only [List.mem_cons, List.not_mem_nil, or_false] at hx
    rcases hx with rfl | rfl
    · exact h1
    · exact h2
theorem ret_nil : retO (st L O U H) [] (.tup []) = True := propext ⟨fun _ => trivial, fun _ => ⟨(fun _ h => by cases h), [], rfl, rfl⟩⟩
def retR (ks : List Nat) (ress : List IRes) (res : R) (O2 : List (Nat × Box)) (U2 : List (Nat × Tok)) (H2 : FHp) (σ : S) : Prop :=
  ∃ L O U, σ.freeze ks = st L O U H2 ∧ (∀ r ∈ ress, (resO (st L O U H2) r).need) ∧ fitRes (ress.map fun r => (resO (st L O U H2) r).val) res ∧ (∀ p ∈ O2, lookO O p.1 = some p.2) ∧ (∀ p ∈ U2, lookT U p.1 = some p.2) ∧ (∀ p ∈ O, ¬ farKey p.1) ∧ ∀ p ∈ U, ¬ farKey p.1
def retQH (ks : List Nat) (ress : List IRes) (res : R) (O2 : List (Nat × Box)) (U2 : List (Nat × Tok)) (H2 : FHp) : Exit → S → Prop
  | .ret, σ => retR ks ress res O2 U2 H2 σ
  | .normal, σ => retR ks ress res O2 U2 H2 σ
  | _, _ => False
@[simp] theorem retQH_ret (ks : List Nat) (ress : List IRes) (res : R) (O2 : List (Nat × Box)) (U2 : List (Nat × Tok)) (H2 : FHp) {σ : S} : retQH ks ress res O2 U2 H2 .ret σ = retR ks ress res O2 U2 H2 σ := rfl
@[simp] theorem retQH_normal (ks : List Nat) (ress : List IRes) (res : R) (O2 : List (Nat × Box)) (U2 : List (Nat × Tok)) (H2 : FHp) {σ : S} : retQH ks ress res O2 U2 H2 .normal σ = retR ks ress res O2 U2 H2 σ := rfl
end
end Go.Fx

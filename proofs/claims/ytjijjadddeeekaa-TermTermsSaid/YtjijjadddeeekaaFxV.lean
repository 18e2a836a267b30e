/- Fx, part V: the walk as rewriting. -/
import Derived.Test.YtjijjadddeeekaaFxU
namespace Go.Fx
open Go.RowKit

theorem runK_of_run {P : Program} {G : World → Prop} {K : S → Prop} : ∀ {l : List IOper} {σ σ' : S}, RunI P G l σ σ' → K σ' → runK P G l σ K
  | [], _, _, h, hk => by cases h; exact hk
  | _ :: _, _, _, ⟨σ1, h1, h2⟩, hk => ⟨σ1, h1, runK_of_run h2 hk⟩

/-- Strike, written out. -/
def strikeO (ks : List Nat) : List (Nat × Box) → List (Nat × Box)
  | [] => []
  | (d, b) :: l => if d ∈ ks then strikeO ks l else (d, { b with rows := b.rows.map (·.map (A.strike ks)) }) :: strikeO ks l
def strikeU (ks : List Nat) : List (Nat × Tok) → List (Nat × Tok)
  | [] => []
  | (d, b) :: l => if d ∈ ks then strikeU ks l else (d, b) :: strikeU ks l

theorem look_strike (ks : List Nat) : ∀ (L : List (Nat × T)) (n : Nat), look (L.map fun p => (p.1, p.2.strike ks)) n = (look L n).strike ks
  | [], _ => rfl
  | (d, t) :: L, n => by
    simp only [List.map_cons, look_cons, look_strike ks L n]
    split <;> rfl
theorem lookO_strike (ks : List Nat) : ∀ (O : List (Nat × Box)) (n : Nat), lookO (strikeO ks O) n = if n ∈ ks then none else (lookO O n).map fun b => { b with rows := b.rows.map (·.map (A.strike ks)) }
  | [], n => by simp [strikeO]
  | (d, b) :: O, n => by
    unfold strikeO
    by_cases hd : d ∈ ks
    · rw [if_pos hd, lookO_strike ks O n]
      by_cases hn : n ∈ ks
      · rw [if_pos hn, if_pos hn]
      · rw [if_neg hn, if_neg hn, lookO_cons, if_neg (fun e : n = d => hn (e ▸ hd))]
    · rw [if_neg hd, lookO_cons, lookO_cons, lookO_strike ks O n]
      by_cases e : n = d
      · subst e; rw [if_pos rfl, if_neg hd, if_pos rfl]; rfl
      · rw [if_neg e, if_neg e]
theorem lookU_strike (ks : List Nat) : ∀ (O : List (Nat × Tok)) (n : Nat), lookT (strikeU ks O) n = if n ∈ ks then none else lookT O n
  | [], n => by simp [strikeU]
  | (d, b) :: O, n => by
    unfold strikeU
    by_cases hd : d ∈ ks
    · rw [if_pos hd, lookU_strike ks O n]
      by_cases hn : n ∈ ks
      · rw [if_pos hn, if_pos hn]
      · rw [if_neg hn, if_neg hn, lookT_cons, if_neg (fun e : n = d => hn (e ▸ hd))]
    · rw [if_neg hd, lookT_cons, lookT_cons, lookU_strike ks O n]
      by_cases e : n = d
      · subst e; rw [if_pos rfl, if_neg hd, if_pos rfl]
      · rw [if_neg e, if_neg e]

theorem strike_st (k : Nat) (ks : List Nat) (L : List (Nat × T)) (O : List (Nat × Box)) (U : List (Nat × Tok)) : (st L O U).strike (k :: ks) = st (L.map fun p => (p.1, p.2.strike (k :: ks))) (strikeO (k :: ks) O) (strikeU (k :: ks) U) := by
  unfold S.strike st
  rw [if_neg (by simp)]
  simp only [S.mk.injEq]
  exact ⟨funext fun n => (look_strike _ L n).symm, funext fun n => (lookO_strike _ O n).symm, funext fun n => (lookU_strike _ U n).symm⟩

section
variable {P : Program} {G : World → Prop} {Q : Exit → S → Prop} {L : List (Nat × T)} {O : List (Nat × Box)} {U : List (Nat × Tok)} {l : List IOper} {K : S → Prop} {d : Nat}

theorem e_skip : wpI P G .skip Q (st L O U) = Q .normal (st L O U) := rfl
theorem e_exit {id : Nat} : wpI P G (.exit id) Q (st L O U) = Q (.exit id) (st L O U) := rfl
theorem e_ret : wpI P G .ret Q (st L O U) = Q .ret (st L O U) := rfl
theorem e_seq {a b : IC} : wpI P G (.seq a b) Q (st L O U) = wpI P G a (thenQ (wpI P G b Q) Q) (st L O U) :=
  propext ⟨wpI_mono (c := a) (fun e σ hq => by cases e <;> exact hq), wpI_mono (c := a) (fun e σ hq => by cases e <;> exact hq)⟩
theorem e_block {id : Nat} {a : IC} : wpI P G (.block id a) Q (st L O U) = wpI P G a (blockQ id Q) (st L O U) :=
  propext ⟨wpI_mono (c := a) (fun e σ hq => by cases e <;> exact hq), wpI_mono (c := a) (fun e σ hq => by cases e <;> exact hq)⟩
/-- What a condition's two ways need. -/
def condK : T → Prop → Prop → Prop
  | .k true (.x (.one (.c (.v (.bool t))))), p, q => (t = true → p) ∧ (t = false → q)
  | _, _, _ => False
@[simp] theorem condK_b (t : Bool) (p q : Prop) : condK (.k true (rB t)) p q = ((t = true → p) ∧ (t = false → q)) := rfl
theorem e_cond {c : D} {a b : IC} : wpI P G (.cond c a b) Q (st L O U) = condK (c.val (st L O U)) (wpI P G a Q (st L O U)) (wpI P G b Q (st L O U)) := by
  refine propext ⟨fun h => ?_, fun h => ?_⟩
  · obtain ⟨t, h1, h2⟩ := h
    rw [h1]; exact h2
  · unfold condK at h
    split at h
    · rename_i t e; exact ⟨t, e, h⟩
    · exact h.elim
theorem e_region {news keep : List Nat} {ops : List IOper} : wpI P G (.region news keep ops) Q (st L O U) = runK P G ops ((st L O U).strike news) (fun σ' => Q .normal (σ'.keep keep)) :=
  propext ⟨fun ⟨σ', h1, h2⟩ => runK_of_run (K := fun σ' => Q .normal (σ'.keep keep)) h1 h2, fun h => run_of_runK h⟩

@[simp] theorem guard_none {σ : S} : guardO σ none = some true := rfl
def guardT (b : Bool) : T → Option Bool
  | .k g (.x (.one (.c (.v (.bool t))))) => some (g && (t == b))
  | _ => none
@[simp] theorem guardT_k (b g t : Bool) : guardT b (.k g (rB t)) = some (g && (t == b)) := rfl

/-- A guard's slot, taken apart. -/
def splitT : T → (T → Prop) → Prop
  | .k true (.x (.one (.c (.v (.bool t))))), F => (t = true → F (.k true (rB true))) ∧ (t = false → F (.k true (rB false)))
  | .k false (.x (.one (.c (.v (.bool t))))), F => F (.k false (rB t))
  | _, _ => False
@[simp] theorem splitT_k (t : Bool) (F : T → Prop) : splitT (.k true (rB t)) F = ((t = true → F (.k true (rB true))) ∧ (t = false → F (.k true (rB false)))) := rfl
@[simp] theorem splitT_kf (t : Bool) (F : T → Prop) : splitT (.k false (rB t)) F = F (.k false (rB t)) := rfl

theorem guardO_look {s : Nat} {b : Bool} : guardO (st L O U) (some (s, b)) = guardT b (look L s) := by
  unfold guardO guardT
  rfl

theorem st_same {s : Nat} {u : T} (h : look L s = u) : st ((s, u) :: L) O U = st L O U := by
  unfold st
  simp only [S.mk.injEq, and_true]
  funext n
  simp only [look_cons]
  split
  · rename_i e; rw [e, h]
  · rfl

theorem st_under {s d : Nat} {u t : T} (h : look L s = u) : st ((d, t) :: L) O U = st ((d, t) :: (s, u) :: L) O U := by
  unfold st
  simp only [S.mk.injEq, and_true]
  funext n
  simp only [look_cons]
  split
  · rfl
  · split
    · rename_i e; rw [e, h]
    · rfl

theorem split_eq {op : IOp} {s : Nat} {b : Bool} {B : Option Bool → List (Nat × T) → Prop}
    (h : ∀ {L : List (Nat × T)}, runK P G (⟨some d, op, some (s, b)⟩ :: l) (st L O U) K = B (guardO (st L O U) (some (s, b))) L) (hB : ∀ {L : List (Nat × T)} {u : T}, look L s = u → (B none L = False) ∧ ∀ g, B (some g) ((s, u) :: L) ↔ B (some g) L) :
    runK P G (⟨some d, op, some (s, b)⟩ :: l) (st L O U) K = splitT (look L s) (fun u => B (guardT b u) ((s, u) :: L)) := by
  rw [h, guardO_look]
  unfold splitT
  split
  · rename_i F t e
    rw [e]
    simp only [guardT_k]
    have h2 := (hB e).2
    cases t
    · exact propext ⟨fun hb => ⟨fun e => Bool.noConfusion e, fun _ => (h2 _).mpr hb⟩, fun hb => (h2 _).mp (hb.2 rfl)⟩
    · exact propext ⟨fun hb => ⟨fun _ => (h2 _).mpr hb, fun e => Bool.noConfusion e⟩, fun hb => (h2 _).mp (hb.1 rfl)⟩
  · rename_i F t e
    rw [e]
    simp only [guardT_k]
    have h2 := (hB e).2
    exact propext ⟨fun hb => (h2 _).mpr hb, fun hb => (h2 _).mp hb⟩
  · rename_i x F hx1 hx2
    have : guardT b (look L s) = none := by
      unfold guardT
      split
      · rename_i g t e
        cases g
        · exact (hx2 _ e).elim
        · exact (hx1 _ e).elim
      · rfl
    rw [this]
    exact (hB (L := L) rfl).1

/-- What an operation that turns nothing needs, before what follows. -/
def pureK (g : Option Bool) (o : Option Out) (F : T → Prop) : Prop :=
  match g, o with
  | some g, some o => (g = true → o.need) ∧ F (.k g o.val)
  | _, _ => False
@[simp] theorem pureK_some (g : Bool) (n : Prop) (v : R) (F : T → Prop) : pureK (some g) (some ⟨n, v⟩) F = ((g = true → n) ∧ F (.k g v)) := rfl

theorem pure_eq {op : IOp} {gd : Option (Nat × Bool)} {F : T → Prop} {σ : S} (hF : ∀ t, F t = runK P G l (σ.put (some d) t) K)
    (hop : ∀ σ', StepI P G ⟨some d, op, gd⟩ σ σ' ↔ (∃ g, guardO σ gd = some g ∧ ∃ out, pureO σ op = some out ∧ (g = true → out.need) ∧ σ' = σ.put (some d) (.k g out.val))) :
    runK P G (⟨some d, op, gd⟩ :: l) σ K = pureK (guardO σ gd) (pureO σ op) F := by
  refine propext ⟨fun ⟨σ1, h1, h2⟩ => ?_, fun h => ?_⟩
  · obtain ⟨g, hg, out, ho, hn, e⟩ := (hop _).mp h1
    rw [hg, ho]
    subst e
    exact ⟨hn, by rw [hF]; exact h2⟩
  · unfold pureK at h
    split at h
    · rename_i g o e1 e2
      refine ⟨_, (hop _).mpr ⟨g, e1, o, e2, h.1, rfl⟩, ?_⟩
      have := h.2
      rw [hF] at this
      exact this
    · exact h.elim

theorem r_build (z : List A) (ps : List (Nat × Nat × D)) : runK P G (⟨some d, .build z ps, none⟩ :: l) (st L O U) K = pureK (some true) (pureO (st L O U) (.build z ps)) (fun t => runK P G l (st ((d, t) :: L) O U) K) := pure_eq (gd := none) (fun _ => rfl) (fun _ => Iff.rfl)
theorem g_build (z : List A) (ps : List (Nat × Nat × D)) {s : Nat} {b : Bool} : runK P G (⟨some d, .build z ps, some (s, b)⟩ :: l) (st L O U) K = splitT (look L s) (fun u => pureK (guardT b u) (pureO (st ((s, u) :: L) O U) (.build z ps)) (fun t => runK P G l (st ((d, t) :: (s, u) :: L) O U) K)) := split_eq (B := fun g L => pureK g (pureO (st L O U) (.build z ps)) (fun t => runK P G l (st ((d, t) :: L) O U) K)) (fun {L} => pure_eq (gd := some (s, b)) (fun _ => rfl) (fun _ => Iff.rfl)) (fun e => ⟨rfl, fun g => iff_of_eq (by rw [st_same e]; congr 1; funext t; rw [← st_under e])⟩)
theorem r_load (n : Option Nat) (x : D) : runK P G (⟨some d, .load n x, none⟩ :: l) (st L O U) K = pureK (some true) (pureO (st L O U) (.load n x)) (fun t => runK P G l (st ((d, t) :: L) O U) K) := pure_eq (gd := none) (fun _ => rfl) (fun _ => Iff.rfl)
theorem g_load (n : Option Nat) (x : D) {s : Nat} {b : Bool} : runK P G (⟨some d, .load n x, some (s, b)⟩ :: l) (st L O U) K = splitT (look L s) (fun u => pureK (guardT b u) (pureO (st ((s, u) :: L) O U) (.load n x)) (fun t => runK P G l (st ((d, t) :: (s, u) :: L) O U) K)) := split_eq (B := fun g L => pureK g (pureO (st L O U) (.load n x)) (fun t => runK P G l (st ((d, t) :: L) O U) K)) (fun {L} => pure_eq (gd := some (s, b)) (fun _ => rfl) (fun _ => Iff.rfl)) (fun e => ⟨rfl, fun g => iff_of_eq (by rw [st_same e]; congr 1; funext t; rw [← st_under e])⟩)
theorem r_faddr (off : Nat) (x : D) : runK P G (⟨some d, .faddr off x, none⟩ :: l) (st L O U) K = pureK (some true) (pureO (st L O U) (.faddr off x)) (fun t => runK P G l (st ((d, t) :: L) O U) K) := pure_eq (gd := none) (fun _ => rfl) (fun _ => Iff.rfl)
theorem g_faddr (off : Nat) (x : D) {s : Nat} {b : Bool} : runK P G (⟨some d, .faddr off x, some (s, b)⟩ :: l) (st L O U) K = splitT (look L s) (fun u => pureK (guardT b u) (pureO (st ((s, u) :: L) O U) (.faddr off x)) (fun t => runK P G l (st ((d, t) :: (s, u) :: L) O U) K)) := split_eq (B := fun g L => pureK g (pureO (st L O U) (.faddr off x)) (fun t => runK P G l (st ((d, t) :: L) O U) K)) (fun {L} => pure_eq (gd := some (s, b)) (fun _ => rfl) (fun _ => Iff.rfl)) (fun e => ⟨rfl, fun g => iff_of_eq (by rw [st_same e]; congr 1; funext t; rw [← st_under e])⟩)
theorem r_field (off : Nat) (n : Option Nat) (x : D) : runK P G (⟨some d, .field off n x, none⟩ :: l) (st L O U) K = pureK (some true) (pureO (st L O U) (.field off n x)) (fun t => runK P G l (st ((d, t) :: L) O U) K) := pure_eq (gd := none) (fun _ => rfl) (fun _ => Iff.rfl)
theorem g_field (off : Nat) (n : Option Nat) (x : D) {s : Nat} {b : Bool} : runK P G (⟨some d, .field off n x, some (s, b)⟩ :: l) (st L O U) K = splitT (look L s) (fun u => pureK (guardT b u) (pureO (st ((s, u) :: L) O U) (.field off n x)) (fun t => runK P G l (st ((d, t) :: (s, u) :: L) O U) K)) := split_eq (B := fun g L => pureK g (pureO (st L O U) (.field off n x)) (fun t => runK P G l (st ((d, t) :: L) O U) K)) (fun {L} => pure_eq (gd := some (s, b)) (fun _ => rfl) (fun _ => Iff.rfl)) (fun e => ⟨rfl, fun g => iff_of_eq (by rw [st_same e]; congr 1; funext t; rw [← st_under e])⟩)
theorem r_iaddr (size : Nat) (x i : D) : runK P G (⟨some d, .iaddr size x i, none⟩ :: l) (st L O U) K = pureK (some true) (pureO (st L O U) (.iaddr size x i)) (fun t => runK P G l (st ((d, t) :: L) O U) K) := pure_eq (gd := none) (fun _ => rfl) (fun _ => Iff.rfl)
theorem g_iaddr (size : Nat) (x i : D) {s : Nat} {b : Bool} : runK P G (⟨some d, .iaddr size x i, some (s, b)⟩ :: l) (st L O U) K = splitT (look L s) (fun u => pureK (guardT b u) (pureO (st ((s, u) :: L) O U) (.iaddr size x i)) (fun t => runK P G l (st ((d, t) :: (s, u) :: L) O U) K)) := split_eq (B := fun g L => pureK g (pureO (st L O U) (.iaddr size x i)) (fun t => runK P G l (st ((d, t) :: L) O U) K)) (fun {L} => pure_eq (gd := some (s, b)) (fun _ => rfl) (fun _ => Iff.rfl)) (fun e => ⟨rfl, fun g => iff_of_eq (by rw [st_same e]; congr 1; funext t; rw [← st_under e])⟩)
theorem r_sindex (x i : D) : runK P G (⟨some d, .sindex x i, none⟩ :: l) (st L O U) K = pureK (some true) (pureO (st L O U) (.sindex x i)) (fun t => runK P G l (st ((d, t) :: L) O U) K) := pure_eq (gd := none) (fun _ => rfl) (fun _ => Iff.rfl)
theorem g_sindex (x i : D) {s : Nat} {b : Bool} : runK P G (⟨some d, .sindex x i, some (s, b)⟩ :: l) (st L O U) K = splitT (look L s) (fun u => pureK (guardT b u) (pureO (st ((s, u) :: L) O U) (.sindex x i)) (fun t => runK P G l (st ((d, t) :: (s, u) :: L) O U) K)) := split_eq (B := fun g L => pureK g (pureO (st L O U) (.sindex x i)) (fun t => runK P G l (st ((d, t) :: L) O U) K)) (fun {L} => pure_eq (gd := some (s, b)) (fun _ => rfl) (fun _ => Iff.rfl)) (fun e => ⟨rfl, fun g => iff_of_eq (by rw [st_same e]; congr 1; funext t; rw [← st_under e])⟩)
theorem r_bin (op : BinOp) (x y : D) : runK P G (⟨some d, .bin op x y, none⟩ :: l) (st L O U) K = pureK (some true) (pureO (st L O U) (.bin op x y)) (fun t => runK P G l (st ((d, t) :: L) O U) K) := pure_eq (gd := none) (fun _ => rfl) (fun _ => Iff.rfl)
theorem g_bin (op : BinOp) (x y : D) {s : Nat} {b : Bool} : runK P G (⟨some d, .bin op x y, some (s, b)⟩ :: l) (st L O U) K = splitT (look L s) (fun u => pureK (guardT b u) (pureO (st ((s, u) :: L) O U) (.bin op x y)) (fun t => runK P G l (st ((d, t) :: (s, u) :: L) O U) K)) := split_eq (B := fun g L => pureK g (pureO (st L O U) (.bin op x y)) (fun t => runK P G l (st ((d, t) :: L) O U) K)) (fun {L} => pure_eq (gd := some (s, b)) (fun _ => rfl) (fun _ => Iff.rfl)) (fun e => ⟨rfl, fun g => iff_of_eq (by rw [st_same e]; congr 1; funext t; rw [← st_under e])⟩)
theorem r_eqs (neg : Bool) (ks : List Kd) (x y : D) : runK P G (⟨some d, .eqs neg ks x y, none⟩ :: l) (st L O U) K = pureK (some true) (pureO (st L O U) (.eqs neg ks x y)) (fun t => runK P G l (st ((d, t) :: L) O U) K) := pure_eq (gd := none) (fun _ => rfl) (fun _ => Iff.rfl)
theorem g_eqs (neg : Bool) (ks : List Kd) (x y : D) {s : Nat} {b : Bool} : runK P G (⟨some d, .eqs neg ks x y, some (s, b)⟩ :: l) (st L O U) K = splitT (look L s) (fun u => pureK (guardT b u) (pureO (st ((s, u) :: L) O U) (.eqs neg ks x y)) (fun t => runK P G l (st ((d, t) :: (s, u) :: L) O U) K)) := split_eq (B := fun g L => pureK g (pureO (st L O U) (.eqs neg ks x y)) (fun t => runK P G l (st ((d, t) :: L) O U) K)) (fun {L} => pure_eq (gd := some (s, b)) (fun _ => rfl) (fun _ => Iff.rfl)) (fun e => ⟨rfl, fun g => iff_of_eq (by rw [st_same e]; congr 1; funext t; rw [← st_under e])⟩)
theorem r_eqb (neg : Bool) (x y : D) : runK P G (⟨some d, .eqb neg x y, none⟩ :: l) (st L O U) K = pureK (some true) (pureO (st L O U) (.eqb neg x y)) (fun t => runK P G l (st ((d, t) :: L) O U) K) := pure_eq (gd := none) (fun _ => rfl) (fun _ => Iff.rfl)
theorem g_eqb (neg : Bool) (x y : D) {s : Nat} {b : Bool} : runK P G (⟨some d, .eqb neg x y, some (s, b)⟩ :: l) (st L O U) K = splitT (look L s) (fun u => pureK (guardT b u) (pureO (st ((s, u) :: L) O U) (.eqb neg x y)) (fun t => runK P G l (st ((d, t) :: (s, u) :: L) O U) K)) := split_eq (B := fun g L => pureK g (pureO (st L O U) (.eqb neg x y)) (fun t => runK P G l (st ((d, t) :: L) O U) K)) (fun {L} => pure_eq (gd := some (s, b)) (fun _ => rfl) (fun _ => Iff.rfl)) (fun e => ⟨rfl, fun g => iff_of_eq (by rw [st_same e]; congr 1; funext t; rw [← st_under e])⟩)
theorem r_un (op : UnOp) (x : D) : runK P G (⟨some d, .un op x, none⟩ :: l) (st L O U) K = pureK (some true) (pureO (st L O U) (.un op x)) (fun t => runK P G l (st ((d, t) :: L) O U) K) := pure_eq (gd := none) (fun _ => rfl) (fun _ => Iff.rfl)
theorem g_un (op : UnOp) (x : D) {s : Nat} {b : Bool} : runK P G (⟨some d, .un op x, some (s, b)⟩ :: l) (st L O U) K = splitT (look L s) (fun u => pureK (guardT b u) (pureO (st ((s, u) :: L) O U) (.un op x)) (fun t => runK P G l (st ((d, t) :: (s, u) :: L) O U) K)) := split_eq (B := fun g L => pureK g (pureO (st L O U) (.un op x)) (fun t => runK P G l (st ((d, t) :: L) O U) K)) (fun {L} => pure_eq (gd := some (s, b)) (fun _ => rfl) (fun _ => Iff.rfl)) (fun e => ⟨rfl, fun g => iff_of_eq (by rw [st_same e]; congr 1; funext t; rw [← st_under e])⟩)
theorem r_conv (k : IntKind) (x : D) : runK P G (⟨some d, .conv k x, none⟩ :: l) (st L O U) K = pureK (some true) (pureO (st L O U) (.conv k x)) (fun t => runK P G l (st ((d, t) :: L) O U) K) := pure_eq (gd := none) (fun _ => rfl) (fun _ => Iff.rfl)
theorem g_conv (k : IntKind) (x : D) {s : Nat} {b : Bool} : runK P G (⟨some d, .conv k x, some (s, b)⟩ :: l) (st L O U) K = splitT (look L s) (fun u => pureK (guardT b u) (pureO (st ((s, u) :: L) O U) (.conv k x)) (fun t => runK P G l (st ((d, t) :: (s, u) :: L) O U) K)) := split_eq (B := fun g L => pureK g (pureO (st L O U) (.conv k x)) (fun t => runK P G l (st ((d, t) :: L) O U) K)) (fun {L} => pure_eq (gd := some (s, b)) (fun _ => rfl) (fun _ => Iff.rfl)) (fun e => ⟨rfl, fun g => iff_of_eq (by rw [st_same e]; congr 1; funext t; rw [← st_under e])⟩)
theorem r_bytes (x : D) : runK P G (⟨some d, .bytes x, none⟩ :: l) (st L O U) K = pureK (some true) (pureO (st L O U) (.bytes x)) (fun t => runK P G l (st ((d, t) :: L) O U) K) := pure_eq (gd := none) (fun _ => rfl) (fun _ => Iff.rfl)
theorem g_bytes (x : D) {s : Nat} {b : Bool} : runK P G (⟨some d, .bytes x, some (s, b)⟩ :: l) (st L O U) K = splitT (look L s) (fun u => pureK (guardT b u) (pureO (st ((s, u) :: L) O U) (.bytes x)) (fun t => runK P G l (st ((d, t) :: (s, u) :: L) O U) K)) := split_eq (B := fun g L => pureK g (pureO (st L O U) (.bytes x)) (fun t => runK P G l (st ((d, t) :: L) O U) K)) (fun {L} => pure_eq (gd := some (s, b)) (fun _ => rfl) (fun _ => Iff.rfl)) (fun e => ⟨rfl, fun g => iff_of_eq (by rw [st_same e]; congr 1; funext t; rw [← st_under e])⟩)
theorem r_len (x : D) : runK P G (⟨some d, .len x, none⟩ :: l) (st L O U) K = pureK (some true) (pureO (st L O U) (.len x)) (fun t => runK P G l (st ((d, t) :: L) O U) K) := pure_eq (gd := none) (fun _ => rfl) (fun _ => Iff.rfl)
theorem g_len (x : D) {s : Nat} {b : Bool} : runK P G (⟨some d, .len x, some (s, b)⟩ :: l) (st L O U) K = splitT (look L s) (fun u => pureK (guardT b u) (pureO (st ((s, u) :: L) O U) (.len x)) (fun t => runK P G l (st ((d, t) :: (s, u) :: L) O U) K)) := split_eq (B := fun g L => pureK g (pureO (st L O U) (.len x)) (fun t => runK P G l (st ((d, t) :: L) O U) K)) (fun {L} => pure_eq (gd := some (s, b)) (fun _ => rfl) (fun _ => Iff.rfl)) (fun e => ⟨rfl, fun g => iff_of_eq (by rw [st_same e]; congr 1; funext t; rw [← st_under e])⟩)
theorem r_slen (x : D) : runK P G (⟨some d, .slen x, none⟩ :: l) (st L O U) K = pureK (some true) (pureO (st L O U) (.slen x)) (fun t => runK P G l (st ((d, t) :: L) O U) K) := pure_eq (gd := none) (fun _ => rfl) (fun _ => Iff.rfl)
theorem g_slen (x : D) {s : Nat} {b : Bool} : runK P G (⟨some d, .slen x, some (s, b)⟩ :: l) (st L O U) K = splitT (look L s) (fun u => pureK (guardT b u) (pureO (st ((s, u) :: L) O U) (.slen x)) (fun t => runK P G l (st ((d, t) :: (s, u) :: L) O U) K)) := split_eq (B := fun g L => pureK g (pureO (st L O U) (.slen x)) (fun t => runK P G l (st ((d, t) :: L) O U) K)) (fun {L} => pure_eq (gd := some (s, b)) (fun _ => rfl) (fun _ => Iff.rfl)) (fun e => ⟨rfl, fun g => iff_of_eq (by rw [st_same e]; congr 1; funext t; rw [← st_under e])⟩)
theorem r_ssl (x : D) (lo hi : Option D) : runK P G (⟨some d, .ssl x lo hi, none⟩ :: l) (st L O U) K = pureK (some true) (pureO (st L O U) (.ssl x lo hi)) (fun t => runK P G l (st ((d, t) :: L) O U) K) := pure_eq (gd := none) (fun _ => rfl) (fun _ => Iff.rfl)
theorem g_ssl (x : D) (lo hi : Option D) {s : Nat} {b : Bool} : runK P G (⟨some d, .ssl x lo hi, some (s, b)⟩ :: l) (st L O U) K = splitT (look L s) (fun u => pureK (guardT b u) (pureO (st ((s, u) :: L) O U) (.ssl x lo hi)) (fun t => runK P G l (st ((d, t) :: (s, u) :: L) O U) K)) := split_eq (B := fun g L => pureK g (pureO (st L O U) (.ssl x lo hi)) (fun t => runK P G l (st ((d, t) :: L) O U) K)) (fun {L} => pure_eq (gd := some (s, b)) (fun _ => rfl) (fun _ => Iff.rfl)) (fun e => ⟨rfl, fun g => iff_of_eq (by rw [st_same e]; congr 1; funext t; rw [← st_under e])⟩)
theorem r_vsl (size : Nat) (x : D) (lo hi : Option D) : runK P G (⟨some d, .vsl size x lo hi, none⟩ :: l) (st L O U) K = pureK (some true) (pureO (st L O U) (.vsl size x lo hi)) (fun t => runK P G l (st ((d, t) :: L) O U) K) := pure_eq (gd := none) (fun _ => rfl) (fun _ => Iff.rfl)
theorem g_vsl (size : Nat) (x : D) (lo hi : Option D) {s : Nat} {b : Bool} : runK P G (⟨some d, .vsl size x lo hi, some (s, b)⟩ :: l) (st L O U) K = splitT (look L s) (fun u => pureK (guardT b u) (pureO (st ((s, u) :: L) O U) (.vsl size x lo hi)) (fun t => runK P G l (st ((d, t) :: (s, u) :: L) O U) K)) := split_eq (B := fun g L => pureK g (pureO (st L O U) (.vsl size x lo hi)) (fun t => runK P G l (st ((d, t) :: L) O U) K)) (fun {L} => pure_eq (gd := some (s, b)) (fun _ => rfl) (fun _ => Iff.rfl)) (fun e => ⟨rfl, fun g => iff_of_eq (by rw [st_same e]; congr 1; funext t; rw [← st_under e])⟩)
theorem r_ext (x : D) (i : Nat) : runK P G (⟨some d, .ext x i, none⟩ :: l) (st L O U) K = pureK (some true) (pureO (st L O U) (.ext x i)) (fun t => runK P G l (st ((d, t) :: L) O U) K) := pure_eq (gd := none) (fun _ => rfl) (fun _ => Iff.rfl)
theorem g_ext (x : D) (i : Nat) {s : Nat} {b : Bool} : runK P G (⟨some d, .ext x i, some (s, b)⟩ :: l) (st L O U) K = splitT (look L s) (fun u => pureK (guardT b u) (pureO (st ((s, u) :: L) O U) (.ext x i)) (fun t => runK P G l (st ((d, t) :: (s, u) :: L) O U) K)) := split_eq (B := fun g L => pureK g (pureO (st L O U) (.ext x i)) (fun t => runK P G l (st ((d, t) :: L) O U) K)) (fun {L} => pure_eq (gd := some (s, b)) (fun _ => rfl) (fun _ => Iff.rfl)) (fun e => ⟨rfl, fun g => iff_of_eq (by rw [st_same e]; congr 1; funext t; rw [← st_under e])⟩)

def someK (g : Option Bool) (F : Bool → Prop) : Prop :=
  match g with
  | some g => F g
  | none => False
@[simp] theorem someK_some (g : Bool) (F : Bool → Prop) : someK (some g) F = F g := rfl

theorem m_move (x : D) {gd : Option (Nat × Bool)} : runK P G (⟨some d, .move x, gd⟩ :: l) (st L O U) K = someK (guardO (st L O U) gd) (fun g => runK P G l (st ((d, moveT g (x.val (st L O U))) :: L) O U) K) := by
  refine propext ⟨fun ⟨σ1, ⟨g, h1, h3⟩, h2⟩ => ?_, fun h => ?_⟩
  · rw [h1]; subst h3; exact h2
  · unfold someK at h
    split at h
    · rename_i g e; exact ⟨_, ⟨g, e, rfl⟩, h⟩
    · exact h.elim
theorem r_move (x : D) : runK P G (⟨some d, .move x, none⟩ :: l) (st L O U) K = runK P G l (st ((d, moveT true (x.val (st L O U))) :: L) O U) K := m_move x
theorem g_move (x : D) {s : Nat} {b : Bool} : runK P G (⟨some d, .move x, some (s, b)⟩ :: l) (st L O U) K = splitT (look L s) (fun u => someK (guardT b u) fun g => runK P G l (st ((d, moveT g (x.val (st ((s, u) :: L) O U))) :: (s, u) :: L) O U) K) :=
  split_eq (B := fun g L => someK g fun g => runK P G l (st ((d, moveT g (x.val (st L O U))) :: L) O U) K) (fun {_} => m_move x) (fun e => ⟨rfl, fun g => iff_of_eq (by simp only [someK_some]; rw [st_same e, ← st_under e])⟩)
@[simp] theorem moveT_k (g gx : Bool) (r : R) : moveT g (.k gx r) = .k (g && gx) r := rfl
@[simp] theorem pickT_b (g t ga gb x y : Bool) : pickT g t (.k ga (rB x)) (.k gb (rB y)) = .k (g && (bif t then ga else gb)) (rB (bif t then x else y)) := rfl

/-- What a choice needs. -/
def pickK (g : Option Bool) (c : T) (F : Bool → Bool → Prop) : Prop :=
  match g, c with
  | some g, .k gc (.x (.one (.c (.v (.bool t))))) => (g = true → gc = true) ∧ F g t
  | _, _ => False
@[simp] theorem pickK_b (g gc t : Bool) (F : Bool → Bool → Prop) : pickK (some g) (.k gc (rB t)) F = ((g = true → gc = true) ∧ F g t) := rfl
theorem r_pick (c a b : D) {gd : Option (Nat × Bool)} : runK P G (⟨some d, .pick c a b, gd⟩ :: l) (st L O U) K = pickK (guardO (st L O U) gd) (c.val (st L O U)) (fun g t => runK P G l (st ((d, pickT g t (a.val (st L O U)) (b.val (st L O U))) :: L) O U) K) := by
  refine propext ⟨fun ⟨σ1, ⟨g, h1, gc, t, h3, h4, h5⟩, h2⟩ => ?_, fun h => ?_⟩
  · rw [h1, h3]; subst h5; exact ⟨h4, h2⟩
  · unfold pickK at h
    split at h
    · rename_i g gc t e1 e2; exact ⟨_, ⟨g, e1, gc, t, e2, h.1, rfl⟩, h.2⟩
    · exact h.elim

/-- What a new box needs. -/
def boxK (o : Option Box) (c : T) (F : X → Prop) : Prop :=
  match o, c with
  | none, .k true (.x y) => F y
  | _, _ => False
@[simp] theorem boxK_x (y : X) (F : X → Prop) : boxK none (.k true (.x y)) F = F y := rfl
theorem r_box (ty : TypeId) (x : D) : runK P G (⟨some d, .box ty x, none⟩ :: l) (st L O U) K = boxK (lookO O d) (x.val (st L O U)) (fun y => runK P G l (st ((d, .k true (.x (.one (.ref d 0 0)))) :: L) ((d, ⟨ty, y.cells.length, [y.cells]⟩) :: O) U) K) := by
  refine propext ⟨fun ⟨σ1, ⟨_, k, y, hk, h1, h3, h5⟩, h2⟩ => ?_, fun h => ?_⟩
  · injection hk with hk; subst hk
    rw [show lookO O d = none from h1, h3]; subst h5; exact h2
  · unfold boxK at h
    split at h
    · rename_i y e1 e2; exact ⟨_, ⟨rfl, d, y, rfl, e1, e2, rfl⟩, h⟩
    · exact h.elim
def zeroK (o : Option Box) (F : Prop) : Prop :=
  match o with
  | none => F
  | _ => False
@[simp] theorem zeroK_none (F : Prop) : zeroK none F = F := rfl
theorem r_zero (ty : TypeId) (z : List A) : runK P G (⟨some d, .zero ty z, none⟩ :: l) (st L O U) K = zeroK (lookO O d) (runK P G l (st ((d, .k true (.x (.one (.ref d 0 0)))) :: L) ((d, ⟨ty, z.length, [z]⟩) :: O) U) K) := by
  refine propext ⟨fun ⟨σ1, ⟨_, k, hk, h1, h5⟩, h2⟩ => ?_, fun h => ?_⟩
  · injection hk with hk; subst hk
    rw [show lookO O d = none from h1]; subst h5; exact h2
  · unfold zeroK at h
    split at h
    · rename_i e1; exact ⟨_, ⟨rfl, d, rfl, e1, rfl⟩, h⟩
    · exact h.elim

/-- What a store needs. -/
def storeK (x y : T) (n : Option Nat) (O : List (Nat × Box)) (F : Nat → Box → Prop) : Prop :=
  match x, y with
  | .k true (.x (.one (.ref k i off))), .k true (.x yv) =>
    match lookO O k with
    | some b => (i < b.rows.length ∧ off + yv.cells.length ≤ (b.rows.getD i []).length ∧ yv.cells.length = n.getD 1) ∧ F k { b with rows := b.rows.set i (splice (b.rows.getD i []) off yv.cells) }
    | none => False
  | _, _ => False
@[simp] theorem storeK_x (k i off : Nat) (yv : X) (n : Option Nat) (O : List (Nat × Box)) (F : Nat → Box → Prop) : storeK (.k true (.x (.one (.ref k i off)))) (.k true (.x yv)) n O F = match lookO O k with
    | some b => (i < b.rows.length ∧ off + yv.cells.length ≤ (b.rows.getD i []).length ∧ yv.cells.length = n.getD 1) ∧ F k { b with rows := b.rows.set i (splice (b.rows.getD i []) off yv.cells) }
    | none => False := rfl
theorem r_store (n : Option Nat) (x y : D) : runK P G (⟨none, .store n x y, none⟩ :: l) (st L O U) K = storeK (x.val (st L O U)) (y.val (st L O U)) n O (fun k b => runK P G l (st L ((k, b) :: O) U) K) := by
  refine propext ⟨fun ⟨σ1, ⟨_, k, i, off, b, yv, hx, hb, hy, h3, h4, h5, h6⟩, h2⟩ => ?_, fun h => ?_⟩
  · rw [hx, hy]
    simp only [storeK_x]
    rw [show lookO O k = some b from hb]; subst h6; exact ⟨⟨h3, h4, h5⟩, h2⟩
  · unfold storeK at h
    split at h
    · rename_i k i off yv e1 e2
      split at h
      · rename_i b e3
        exact ⟨_, ⟨rfl, k, i, off, b, yv, e1, e3, e2, h.1.1, h.1.2.1, h.1.2.2, rfl⟩, h.2⟩
      · exact h.elim
    · exact h.elim

/-- A call that the contract answers: to be refined with. -/
theorem r_call {f : FuncId} {args : List D} {gd : Option (Nat × Bool)} (g : Bool) (cs : List CX) (res : CR) (hm : Meets P G f cs res) (hg : guardO (st L O U) gd = some g) (ha : g = true → (args.all fun d => (d.val (st L O U)).g) = true ∧ closeArgs (args.map fun d => (d.val (st L O U)).r) = some cs)
    (h : runK P G l (st ((d, .k g res.open) :: L) O U) K) : runK P G (⟨some d, .call f args, gd⟩ :: l) (st L O U) K :=
  ⟨_, ⟨g, hg, cs, res, fun e => ⟨(ha e).1, (ha e).2, hm⟩, rfl⟩, h⟩

theorem r_callF {f : FuncId} {args : List D} {gd : Option (Nat × Bool)} (res : CR) (hg : guardO (st L O U) gd = some false) (h : runK P G l (st ((d, .k false res.open) :: L) O U) K) : runK P G (⟨some d, .call f args, gd⟩ :: l) (st L O U) K :=
  ⟨_, ⟨false, hg, [], res, fun e => Bool.noConfusion e, rfl⟩, h⟩

theorem w_loopN {a : IC} {σ : S} (I : Nat → S → Prop) (n : Nat) (h0 : I n σ) (hr : ∀ n σ1, I n σ1 → wpI P G a (thenQ (fun σ' => ∃ m, m < n ∧ I m σ') Q) σ1) : wpI P G (.loop a) Q σ := by
  classical
  have key : ∀ σ, (∃ n, I n σ) → ∃ n, I n σ ∧ ∀ m, m < n → ¬ I m σ := fun σ h => by
    obtain ⟨n, h⟩ := h
    induction n using Nat.strongRecOn with
    | ind n ih =>
      by_cases hm : ∃ m, m < n ∧ I m σ
      · obtain ⟨m, h1, h2⟩ := hm; exact ih m h1 h2
      · exact ⟨n, h, fun m h1 h2 => hm ⟨m, h1, h2⟩⟩
  refine w_loop (fun σ => ∃ n, I n σ) (fun σ => if h : ∃ n, I n σ then Classical.choose (key σ h) else 0) ⟨n, h0⟩ fun σ1 h1 => ?_
  have hc := Classical.choose_spec (key σ1 h1)
  refine wpI_mono (c := a) (fun e σ' hq => ?_) (hr _ σ1 hc.1)
  cases e <;> try exact hq
  obtain ⟨m, hm, hI⟩ := hq
  refine ⟨⟨m, hI⟩, ?_⟩
  have h2 : ∃ n, I n σ' := ⟨m, hI⟩
  have hc' := Classical.choose_spec (key σ' h2)
  rw [dif_pos h2, dif_pos h1]
  refine Nat.lt_of_le_of_lt (Nat.le_of_not_lt fun hlt => hc'.2 m hlt hI) hm

theorem w_loopK {a : IC} {σ : S} (I : Nat → S → Prop) (n : Nat) (h0 : I n σ) (hr : ∀ n σ1 (K : S → Prop), (∀ σ' m, m < n → I m σ' → K σ') → I n σ1 → wpI P G a (thenQ K Q) σ1) : wpI P G (.loop a) Q σ :=
  w_loopN I n h0 fun n σ1 h1 => hr n σ1 _ (fun _ m hm hI => ⟨m, hm, hI⟩) h1

/-- The call's end. -/
def retQ (ress : List IRes) (res : CR) : Exit → S → Prop
  | .ret, σ => retO σ ress res
  | .normal, σ => retO σ ress res
  | _, _ => False
@[simp] theorem retQ_ret (ress : List IRes) (res : CR) (σ : S) : retQ ress res .ret σ = retO σ ress res := rfl
@[simp] theorem retQ_normal (ress : List IRes) (res : CR) (σ : S) : retQ ress res .normal σ = retO σ ress res := rfl
theorem meets {f : FuncId} {fn : Func} {N : List Nat} {ic : IC} {ress : List IRes} {args : List CX} {res : CR} (hf : P.funcs[f]? = some fn) (hc : fn.body.bind (cmpCode P fn.ntmps N) = some ic) (hr : cmpRes P fn.results.toList = some ress)
    (hn : args.length ≤ fn.ntmps) (h : wpI P G ic (retQ ress res) (S.init args)) : Meets P G f args res :=
  meets_of hf hc hr hn fun Q h1 h2 => wpI_mono (fun e σ hq => by
    cases e with
    | ret => exact h1 _ hq
    | normal => exact h2 _ hq
    | _ => exact False.elim hq) h
theorem ret_one {t : Nat} {c : CX} : retO (st L O U) [.tmp t] (.x c) = ((look L t).g = true ∧ closeEndR (st L O U) (look L t).r = some c) := by
  refine propext ⟨fun ⟨h1, c1, h2, h3⟩ => ?_, fun ⟨h1, h2⟩ => ⟨fun x hx => ?_, c, h2, rfl⟩⟩
  · injection h3 with h3; subst h3
    exact ⟨h1 (.tmp t) (List.mem_singleton.mpr rfl), h2⟩
  · simp only [List.mem_singleton] at hx; subst hx; exact h1
/-- The call's end, worked out. -/
theorem ret1 {t : Nat} {c : CX} {r : R} (h : look L t = .k true r) (hc : closeEndR (st L O U) r = some c) : retO (st L O U) [.tmp t] (.x c) := by
  refine ⟨fun x hx => ?_, ?_⟩
  · simp only [List.mem_singleton] at hx; subst hx
    simp only [resO, st_tmps, h, T_g]
  · refine ⟨c, ?_, rfl⟩
    simp only [resO, st_tmps, h, T_r, hc]

end
end Go.Fx

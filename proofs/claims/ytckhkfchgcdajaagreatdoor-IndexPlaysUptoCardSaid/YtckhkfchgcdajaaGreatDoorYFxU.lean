import Derived.Test.YtckhkfchgcdajaaGreatDoorYFxTb
namespace Go.Fx
open Go.RowKit
def bs (l : List UInt8) : ByteArray := ⟨l.toArray⟩
def look : List (Nat × T) → Nat → T
  | [], _ => .lost
  | (d, t) :: l, n => if n = d then t else look l n
def lookO : List (Nat × Box) → Nat → Option Box
  | [], _ => none
  | (d, t) :: l, n => if n = d then some t else lookO l n
def lookT : List (Nat × Tok) → Nat → Option Tok
  | [], _ => none
  | (d, t) :: l, n => if n = d then some t else lookT l n
def farKey (k : Nat) : Prop := 15000 ≤ k ∧ k < 20000
structure FHp extends Hp where
  key : ∀ k, objs k ≠ none ∨ toks k ≠ none → farKey k
  names : toHp.only farKey (fun k => toks k ≠ none)
def F0 : FHp := ⟨Hp.emp, fun _ h => h.elim (fun h => absurd rfl h) fun h => absurd rfl h, fun _ _ h => by cases h⟩
theorem FHp.objs_near (H : FHp) {k : Nat} (h : k < 15000) : H.objs k = none := by
  cases hk : H.objs k with
  | none => rfl
  | some b => have := (H.key k (.inl (by rw [hk]; simp))).1; omega
theorem FHp.toks_near (H : FHp) {k : Nat} (h : k < 15000) : H.toks k = none := by
  cases hk : H.toks k with
  | none => rfl
  | some b => have := (H.key k (.inr (by rw [hk]; simp))).1; omega
def hp (O : List (Nat × Box)) (U : List (Nat × Tok)) (H : FHp) : Hp := ⟨fun k => (lookO O k).or (H.objs k), fun k => (lookT U k).or (H.toks k), H.ext⟩
def st (L : List (Nat × T)) (O : List (Nat × Box)) (U : List (Nat × Tok)) (H : FHp) : S := ⟨look L, fun k => (lookO O k).or (H.objs k), fun k => (lookT U k).or (H.toks k), H.ext⟩
def runK (P : Program) (G : World → Prop) : List IOper → S → (S → Prop) → Prop
  | [], σ, K => K σ
  | o :: l, σ, K => ∃ σ1, (touched o σ ∧ StepI P G o σ σ1) ∧ runK P G l σ1 K
def thenQ (K : S → Prop) (Q : Exit → S → Prop) : Exit → S → Prop
  | .normal, σ => K σ
  | e, σ => Q e σ
section
variable {P : Program} {G : World → Prop} {σ σ' : S} {Q : Exit → S → Prop} {L : List (Nat × T)} {O : List (Nat × Box)} {U : List (Nat × Tok)} {H : FHp} {l : List IOper} {K : S → Prop} {d : Nat}
theorem run_of_runK : ∀ {l : List IOper} {σ : S}, runK P G l σ K → ∃ σ', RunI P G l σ σ' ∧ K σ'
  | [], σ, h => ⟨σ, rfl, h⟩
  | o :: l, σ, ⟨σ1, h1, h2⟩ => by
    obtain ⟨σ', h3, h4⟩ := run_of_runK h2
    exact ⟨σ', ⟨σ1, h1, h3⟩, h4⟩
theorem wpI_mono : ∀ {c : IC} {Q Q' : Exit → S → Prop} {σ : S}, (∀ e σ, Q e σ → Q' e σ) → wpI P G c Q σ → wpI P G c Q' σ
  | .skip, _, _, _, h, hw => h _ _ hw
  | .region _ _ _ _, _, _, _, h, ⟨σ', h1, h2⟩ => ⟨σ', h1, h _ _ h2⟩
  | .seq a b, _, _, _, h, hw => wpI_mono (c := a) (fun e σ hq => by cases e <;> first | exact wpI_mono (c := b) h hq | exact h _ _ hq) hw
  | .cond _ a b, _, _, _, h, ⟨t, h1, h2, h3⟩ => ⟨t, h1, fun e => wpI_mono (c := a) h (h2 e), fun e => wpI_mono (c := b) h (h3 e)⟩
  | .block _ a, _, _, _, h, hw => wpI_mono (c := a) (fun e σ hq => by
      cases e <;> first
        | exact h _ _ hq
        | (simp only at hq ⊢
           split
           · rename_i e; rw [if_pos e] at hq; exact h _ _ hq
           · rename_i e; rw [if_neg e] at hq; exact h _ _ hq)) hw
  | .loop a, _, _, _, h, ⟨I, μ, h0, hr⟩ => ⟨I, μ, h0, fun σ1 h1 => wpI_mono (c := a) (fun e σ hq => by cases e <;> first | exact hq | exact h _ _ hq) (hr σ1 h1)⟩
  | .exit _, _, _, _, h, hw => h _ _ hw
  | .ret, _, _, _, h, hw => h _ _ hw
  | .bad, _, _, _, _, hw => hw.elim
  | .rangeF _ _ _ _, _, _, _, h, ⟨h1, gv, ks, xs, h2, h2f, h3, h4⟩ => ⟨h1, gv, ks, xs, h2, h2f, h3, fun l ta E B m hE hB hb => by
      obtain ⟨hh, hh', res, e, g1, g2, g3, g4, g5⟩ := h4 l ta E B m hE hB hb
      exact ⟨hh, hh', res, e, g1, g2, g3, g4, fun X hX => h _ _ (g5 X hX)⟩⟩
def blockQ (id : Nat) (Q : Exit → S → Prop) : Exit → S → Prop
  | .exit i, σ => if i = id then Q .normal σ else Q (.exit i) σ
  | e, σ => Q e σ
@[simp] theorem thenQ_normal : thenQ K Q .normal σ = K σ := rfl
@[simp] theorem thenQ_exit {id : Nat} : thenQ K Q (.exit id) σ = Q (.exit id) σ := rfl
@[simp] theorem thenQ_ret : thenQ K Q .ret σ = Q .ret σ := rfl
@[simp] theorem blockQ_normal {id : Nat} : blockQ id Q .normal σ = Q .normal σ := rfl
@[simp] theorem blockQ_exit {id i : Nat} : blockQ id Q (.exit i) σ = if i = id then Q .normal σ else Q (.exit i) σ := rfl
@[simp] theorem blockQ_ret {id : Nat} : blockQ id Q .ret σ = Q .ret σ := rfl
@[simp] theorem look_nil (n : Nat) : look [] n = .lost := rfl
@[simp] theorem look_cons (d n : Nat) (t : T) (l : List (Nat × T)) : look ((d, t) :: l) n = if n = d then t else look l n := rfl
@[simp] theorem lookO_nil (n : Nat) : lookO [] n = none := rfl
@[simp] theorem lookO_cons (d n : Nat) (t : Box) (l : List (Nat × Box)) : lookO ((d, t) :: l) n = if n = d then some t else lookO l n := rfl
@[simp] theorem lookT_nil (n : Nat) : lookT [] n = none := rfl
@[simp] theorem lookT_cons (d n : Nat) (t : Tok) (l : List (Nat × Tok)) : lookT ((d, t) :: l) n = if n = d then some t else lookT l n := rfl
@[simp] theorem st_tmps (n : Nat) : (st L O U H).tmps n = look L n := rfl
@[simp] theorem st_objs (n : Nat) : (st L O U H).objs n = (lookO O n).or (H.objs n) := rfl
@[simp] theorem st_toks (n : Nat) : (st L O U H).toks n = (lookT U n).or (H.toks n) := rfl
@[simp] theorem st_ext : (st L O U H).ext = H.ext := rfl
@[simp] theorem val_t (n : Nat) : (D.t n).val (st L O U H) = look L n := rfl
@[simp] theorem val_k (r : R) : (D.k r).val σ = .k true r := rfl
@[simp] theorem T_r (g : Bool) (r : R) : (T.k g r).r = r := rfl
@[simp] theorem T_g (g : Bool) (r : R) : (T.k g r).g = g := rfl
@[simp] theorem strike_nil : σ.strike [] = σ := rfl
@[simp] theorem prep_nil : σ.prep [] = σ := rfl
@[simp] theorem prep_fz (ks : List Nat) (l : List Prep) : σ.prep (.fz ks :: l) = (σ.freeze ks).prep l := rfl
@[simp] theorem prep_pm (k j : Nat) (ty : TypeId) (size : Nat) (l : List Prep) : σ.prep (.pm k j ty size :: l) = (σ.promote k j ty size).prep l := rfl
theorem put_st (t : T) : (st L O U H).put (some d) t = st ((d, t) :: L) O U H := rfl
theorem put_st0 (t : T) : (st L O U H).put none t = st L O U H := rfl
theorem setObj_st (b : Box) : (st L O U H).setObj d b = st L ((d, b) :: O) U H := by
  unfold S.setObj st
  simp only [S.mk.injEq, true_and, and_true]
  funext k
  simp only [lookO_cons]
  split <;> simp
theorem setTok_st (q : Tok) : (st L O U H).setTok d q = st L O ((d, q) :: U) H := by
  unfold S.setTok st
  simp only [S.mk.injEq, true_and, and_true]
  funext k
  simp only [lookT_cons]
  split <;> simp
def updO (k : Nat) (b : Box) : List (Nat × Box) → List (Nat × Box)
  | [] => [(k, b)]
  | (d, t) :: l => if d = k then (k, b) :: l else (d, t) :: updO k b l
def updT (k : Nat) (b : Tok) : List (Nat × Tok) → List (Nat × Tok)
  | [] => [(k, b)]
  | (d, t) :: l => if d = k then (k, b) :: l else (d, t) :: updT k b l
theorem lookO_upd (k : Nat) (b : Box) : ∀ (O : List (Nat × Box)) (n : Nat), lookO (updO k b O) n = if n = k then some b else lookO O n
  | [], n => rfl
  | (d, t) :: O, n => by
    unfold updO
    by_cases h : d = k
    · subst h; rw [if_pos rfl, lookO_cons, lookO_cons]; split <;> rfl
    · rw [if_neg h, lookO_cons, lookO_cons, lookO_upd k b O n]
      by_cases h1 : n = d
      · subst h1; rw [if_pos rfl, if_neg h, if_pos rfl]
      · rw [if_neg h1, if_neg h1]
theorem lookT_upd (k : Nat) (b : Tok) : ∀ (O : List (Nat × Tok)) (n : Nat), lookT (updT k b O) n = if n = k then some b else lookT O n
  | [], n => rfl
  | (d, t) :: O, n => by
    unfold updT
    by_cases h : d = k
    · subst h; rw [if_pos rfl, lookT_cons, lookT_cons]; split <;> rfl
    · rw [if_neg h, lookT_cons, lookT_cons, lookT_upd k b O n]
      by_cases h1 : n = d
      · subst h1; rw [if_pos rfl, if_neg h, if_pos rfl]
      · rw [if_neg h1, if_neg h1]
@[simp] theorem updO_nil (k : Nat) (b : Box) : updO k b [] = [(k, b)] := rfl
@[simp] theorem updO_cons (k d : Nat) (b t : Box) (l : List (Nat × Box)) : updO k b ((d, t) :: l) = if d = k then (k, b) :: l else (d, t) :: updO k b l := rfl
@[simp] theorem updT_nil (k : Nat) (b : Tok) : updT k b [] = [(k, b)] := rfl
@[simp] theorem updT_cons (k d : Nat) (b t : Tok) (l : List (Nat × Tok)) : updT k b ((d, t) :: l) = if d = k then (k, b) :: l else (d, t) :: updT k b l := rfl
theorem setObj_upd (b : Box) : (st L O U H).setObj d b = st L (updO d b O) U H := by
  unfold S.setObj st
  simp only [S.mk.injEq, true_and, and_true]
  funext k
  simp only [lookO_upd]
  split <;> simp
theorem setTok_upd (q : Tok) : (st L O U H).setTok d q = st L O (updT d q U) H := by
  unfold S.setTok st
  simp only [S.mk.injEq, true_and, and_true]
  funext k
  simp only [lookT_upd]
  split <;> simp
def updsO : List (Nat × Box) → List (Nat × Box) → List (Nat × Box)
  | [], O => O
  | (k, b) :: l, O => updO k b (updsO l O)
def updsT : List (Nat × Tok) → List (Nat × Tok) → List (Nat × Tok)
  | [], O => O
  | (k, b) :: l, O => updT k b (updsT l O)
@[simp] theorem updsO_nil (O : List (Nat × Box)) : updsO [] O = O := rfl
@[simp] theorem updsO_cons (k : Nat) (b : Box) (l O : List (Nat × Box)) : updsO ((k, b) :: l) O = updO k b (updsO l O) := rfl
@[simp] theorem updsT_nil (O : List (Nat × Tok)) : updsT [] O = O := rfl
@[simp] theorem updsT_cons (k : Nat) (b : Tok) (l O : List (Nat × Tok)) : updsT ((k, b) :: l) O = updT k b (updsT l O) := rfl
theorem look_restrict (ks : List Nat) (n : Nat) : look (ks.map fun k => (k, look L k)) n = if n ∈ ks then look L n else .lost := by
  induction ks with
  | nil => rfl
  | cons k ks ih =>
    simp only [List.map_cons, look_cons, ih, List.mem_cons]
    by_cases h : n = k
    · subst h; simp
    · by_cases h2 : n ∈ ks <;> simp [h, h2]
@[simp] theorem keep_st (ks : List Nat) : (st L O U H).keep ks = st (ks.map fun k => (k, look L k)) O U H := by
  have e : (fun n => if n ∈ ks then look L n else T.lost) = look (ks.map fun k => (k, look L k)) := funext fun n => (look_restrict ks n).symm
  unfold S.keep st
  simp only [S.mk.injEq, and_true]
  exact e
@[simp] theorem runK_nil : runK P G [] σ K = K σ := rfl
def touchP (fp : Option (List Nat)) (t : T) : Prop := ∀ k, t.r.key? = some k → fpK fp k
@[simp] theorem touchP_none (t : T) : touchP none t = True := propext ⟨fun _ => trivial, fun _ _ _ => trivial⟩
@[simp] theorem touchP_some (ks : List Nat) (t : T) : touchP (some ks) t = (match t.r.key? with | some k => k ∈ ks | none => True) := by
  refine propext ⟨fun h => ?_, fun h k hk => ?_⟩
  · split
    · rename_i k hk; exact h k hk
    · trivial
  · rw [hk] at h; exact h
def closeRs (σ : S) : List IRes → Option (List CX)
  | [] => some []
  | r :: l =>
    match (resO σ r).val.close, closeRs σ l with
    | some c, some cs => some (c :: cs)
    | _, _ => none
def retO (σ : S) (ress : List IRes) (res : CR) : Prop :=
  (∀ r ∈ ress, (resO σ r).need) ∧
    match ress with
    | [r] => ∃ c, (resO σ r).val.close = some c ∧ res = .x c
    | _ => ∃ cs, closeRs σ ress = some cs ∧ res = .tup cs
mutual
theorem freezeA_none : ∀ (a : A), a.freeze (fun _ => none) = a
  | .c _ => rfl
  | .nil => rfl
  | .own _ _ => rfl
  | .ref _ _ _ => rfl
  | .arr _ _ _ _ => rfl
  | .mapr _ => rfl
  | .elem _ _ _ _ => rfl
  | .clo f fs cs => by simp only [A.freeze, freezeL_none fs, freezeL_none cs]
  | .yld l ta ks xs => by simp only [A.freeze, freezeL_none xs]
  | .ifc t a => by simp only [A.freeze, freezeA_none a]
  | .lost => rfl
theorem freezeL_none : ∀ (l : List A), freezeL (fun _ => none) l = l
  | [] => rfl
  | a :: l => by simp only [freezeL, freezeA_none a, freezeL_none l]
end
theorem freezeX_none (x : X) : x.freeze (fun _ => none) = x := by cases x <;> simp [X.freeze, freezeA_none, freezeL_none]
theorem freezeT_none (t : T) : t.freeze (fun _ => none) = t := by
  cases t with
  | lost => rfl
  | k g r =>
    cases r with
    | x y => simp [T.freeze, R.freeze, freezeX_none]
    | tup xs =>
      have : (X.freeze fun _ => none) = id := funext freezeX_none
      simp [T.freeze, R.freeze, this]
def retQ (ks : List Nat) (ress : List IRes) (res : CR) : Exit → S → Prop
  | .ret, σ => retO (σ.freeze ks) ress res ∧ (σ.ext = XP.emp ∨ σ.ext.mark ≠ none)
  | .normal, σ => retO (σ.freeze ks) ress res ∧ (σ.ext = XP.emp ∨ σ.ext.mark ≠ none)
  | _, _ => False
theorem freeze_nil : σ.freeze [] = σ := by
  have hB : shutB σ [] = fun _ => none := by funext k; simp [shutB]
  unfold S.freeze
  rw [hB]
  have e1 : (fun t => (σ.tmps t).freeze (fun _ => none)) = σ.tmps := funext fun t => freezeT_none _
  have e2 : (fun k => if ((fun _ => none : Nat → Option (List (List C))) k).isSome = true then none else (σ.objs k).map fun b => { b with rows := b.rows.map (freezeL fun _ => none) }) = σ.objs := by
    funext k
    simp only [Option.isSome_none, Bool.false_eq_true, if_false]
    cases σ.objs k with
    | none => rfl
    | some b =>
      have : (freezeL fun _ => none) = id := funext freezeL_none
      simp [this]
  rw [e1, e2]
end
end Go.Fx

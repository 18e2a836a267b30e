import Derived.Test.YtiomojlcnemnhaaTPedB
import Derived.Test.YtiomojlcnemnhaaTFxWc
/- Plain words for the variables that a body limits: the program's rounds over what waits, and the document's rounds over all. -/
namespace Go.Ped

/-- An equation: the variables that its sides are by themselves (empty: none), and the variables of its sides. -/
structure Eqn where
  left : Name
  right : Name
  lefts : List Name
  rights : List Name
  deriving DecidableEq, Inhabited

def allIn (l f : List Name) : Bool := l.all fun v => f.contains v
theorem allIn_iff {l f : List Name} : allIn l f = true ↔ ∀ v ∈ l, v ∈ f := by simp [allIn]
/-- The variable that an equation gives, if these are found. -/
def take (f : List Name) (q : Eqn) : Option Name :=
  if q.left != [] && !f.contains q.left && allIn q.rights f then some q.left
  else if q.right != [] && !f.contains q.right && allIn q.lefts f then some q.right
  else none

/-- A lone side's variables are that variable. -/
def Eqn.wf (q : Eqn) : Prop := (q.left ≠ [] → q.lefts = [q.left]) ∧ (q.right ≠ [] → q.rights = [q.right])

/-- The program's: one round over what waits: what was found, and what waits still. -/
def goRound : List Name → List Eqn → List Name × List Eqn
  | f, [] => (f, [])
  | f, q :: l => match take f q with
    | some v => goRound (f ++ [v]) l
    | none => ((goRound f l).1, q :: (goRound f l).2)
theorem goRound_le : ∀ (l : List Eqn) (f : List Name), (goRound f l).2.length ≤ l.length
  | [], _ => Nat.le_refl _
  | q :: l, f => by
    simp only [goRound]
    split
    · exact Nat.le_succ_of_le (goRound_le l _)
    · simpa using goRound_le l f
def goRounds (f : List Name) (wait : List Eqn) : List Name :=
  if h : (goRound f wait).2.length < wait.length then goRounds (goRound f wait).1 (goRound f wait).2 else (goRound f wait).1
termination_by wait.length

/-- The document's: one round over all. -/
def refRound : List Name → List Eqn → List Name
  | f, [] => f
  | f, q :: l => match take f q with
    | some v => refRound (f ++ [v]) l
    | none => refRound f l

/-- An equation that gives nothing any more. -/
def Dead (f : List Name) (q : Eqn) : Prop := ∀ f', (∀ v ∈ f, v ∈ f') → take f' q = none
theorem Dead.mono {f f' : List Name} {q : Eqn} (h : ∀ v ∈ f, v ∈ f') (hd : Dead f q) : Dead f' q := fun g hg => hd g fun v hv => hg v (h v hv)

theorem dead_of_take {f : List Name} {q : Eqn} {v : Name} (hw : q.wf) (h : take f q = some v) : Dead (f ++ [v]) q := by
  intro f' hf
  have hv : v ∈ f' := hf v (by simp)
  have hold : ∀ w ∈ f, w ∈ f' := fun w hw => hf w (by simp [hw])
  unfold take at h
  split at h
  · rename_i hc
    simp only [Bool.and_eq_true, bne_iff_ne, ne_eq] at hc
    injection h with h; subst h
    have hr : q.right ≠ [] → q.right ∈ f' := fun hr => hold _ (allIn_iff.1 hc.2 _ (by rw [hw.2 hr]; simp))
    unfold take
    rw [if_neg (by simp [hv])]
    by_cases hr0 : q.right = []
    · simp [hr0]
    · simp [hr hr0]
  · split at h
    · rename_i hc
      simp only [Bool.and_eq_true, bne_iff_ne, ne_eq] at hc
      injection h with h; subst h
      have hl : q.left ≠ [] → q.left ∈ f' := fun hl => hold _ (allIn_iff.1 hc.2 _ (by rw [hw.1 hl]; simp))
      unfold take
      rw [if_neg (by
        by_cases hl0 : q.left = []
        · simp [hl0]
        · simp [hl hl0]), if_neg (by simp [hv])]
    · cases h

/-- What waits, among all: the others give nothing any more. -/
inductive Waits (f : List Name) : List Eqn → List Eqn → Prop
  | nil : Waits f [] []
  | keep {q : Eqn} {l w : List Eqn} (h : Waits f l w) : Waits f (q :: l) (q :: w)
  | gone {q : Eqn} {l w : List Eqn} (hd : Dead f q) (h : Waits f l w) : Waits f (q :: l) w
theorem Waits.mono {f f' : List Name} (hf : ∀ v ∈ f, v ∈ f') {l w : List Eqn} (h : Waits f l w) : Waits f' l w := by
  induction h with
  | nil => exact .nil
  | keep _ ih => exact .keep ih
  | gone hd _ ih => exact .gone (hd.mono hf) ih
theorem Waits.refl (f : List Name) : ∀ l, Waits f l l
  | [] => .nil
  | _ :: l => .keep (Waits.refl f l)

theorem goRound_ext : ∀ (l : List Eqn) (f : List Name), ∃ e, (goRound f l).1 = f ++ e
  | [], f => ⟨[], by simp [goRound]⟩
  | q :: l, f => by
    simp only [goRound]
    cases take f q with
    | some v =>
      obtain ⟨e, h⟩ := goRound_ext l (f ++ [v])
      exact ⟨v :: e, by simp only [h]; simp⟩
    | none => exact goRound_ext l f

theorem round_same {f0 : List Name} {l w : List Eqn} (h : Waits f0 l w) : ∀ {f : List Name}, (∀ v ∈ f0, v ∈ f) → (∀ q ∈ l, q.wf) → refRound f l = (goRound f w).1 ∧ Waits (goRound f w).1 l (goRound f w).2 := by
  induction h with
  | nil => intro f _ _; exact ⟨rfl, .nil⟩
  | @keep q l w h ih =>
    intro f hf hw
    have hw' : ∀ q ∈ l, q.wf := fun p hp => hw p (List.mem_cons_of_mem _ hp)
    simp only [refRound, goRound]
    cases ht : take f q with
    | some v =>
      obtain ⟨h1, h2⟩ := ih (f := f ++ [v]) (fun u hu => by simp [hf u hu]) hw'
      refine ⟨h1, .gone ((dead_of_take (hw q (List.mem_cons_self ..)) ht).mono fun u hu => ?_) h2⟩
      obtain ⟨e, he⟩ := goRound_ext w (f ++ [v])
      rw [he]; simp only [List.mem_append] at hu ⊢; exact .inl hu
    | none =>
      obtain ⟨h1, h2⟩ := ih hf hw'
      exact ⟨h1, .keep h2⟩
  | @gone q l w hd h ih =>
    intro f hf hw
    obtain ⟨h1, h2⟩ := ih hf fun p hp => hw p (List.mem_cons_of_mem _ hp)
    simp only [refRound]
    rw [hd f hf]
    obtain ⟨e, he⟩ := goRound_ext w f
    exact ⟨h1, .gone (hd.mono fun u hu => by rw [he]; simp [hf u hu]) h2⟩

/-- As many are found as wait no more. -/
theorem goRound_count : ∀ (l : List Eqn) (f : List Name), (goRound f l).1.length + (goRound f l).2.length = f.length + l.length
  | [], f => by simp [goRound]
  | q :: l, f => by
    simp only [goRound]
    cases take f q with
    | some v => have := goRound_count l (f ++ [v]); simp at this ⊢; omega
    | none => have := goRound_count l f; simp; omega

end Go.Ped

/- Fx, part Wd: calls that share memory and leave it as it is, made where something holds. -/
namespace Go.Fx
open Go.RowKit
section
variable {P : Program} {G : World → Prop} {L : List (Nat × T)} {O : List (Nat × Box)} {U : List (Nat × Tok)} {H : FHp} {l : List IOper} {K : S → Prop} {d : Nat}

theorem upds_same {O1 : List (Nat × Box)} {U1 : List (Nat × Tok)} (h1 : ∀ p ∈ O1, lookO O p.1 = some p.2) (h2 : ∀ p ∈ U1, lookT U p.1 = some p.2) : st L (updsO O1 O) (updsT U1 U) H = st L O U H := by
  unfold st
  simp only [S.mk.injEq, true_and, and_true]
  refine ⟨funext fun k => ?_, funext fun k => ?_⟩
  · rw [lookO_upds]
    cases h : lookO O1 k with
    | none => rfl
    | some b => rw [h1 _ (lookO_mem h)]; rfl
  · rw [lookT_upds]
    cases h : lookT U1 k with
    | none => rfl
    | some b => rw [h2 _ (lookT_mem h)]; rfl

/-- A call that shares memory and leaves it as it is: the memory is not told anew. -/
theorem r_callQ {f : D} {args : List D} {gd : Option (Nat × Bool)} (g : Bool) (fv : A) (xs : List X) (O1 : List (Nat × Box)) (U1 : List (Nat × Tok)) (res : R) (hm : g = true → MeetsV P G fv xs (hp O1 U1 H) res (hp O1 U1 H))
    (hg : guardO (st L O U H) gd = some g) (hf : f.val (st L O U H) = .k true (.x (.one fv))) (ha : g = true → (args.all fun d => (d.val (st L O U H)).g) = true) (hx : fitsR (args.map fun d => (d.val (st L O U H)).r) xs)
    (h1 : ∀ p ∈ O1, lookO O p.1 = some p.2 ∧ p.1 < 15000) (h2 : ∀ p ∈ U1, lookT U p.1 = some p.2 ∧ p.1 < 15000) (hO : ∀ p ∈ O, p.1 < 15000) (hU : ∀ p ∈ U, p.1 < 15000)
    (h : atK P G l ((d, .k g res) :: L) O U H K) : runK P G (⟨some d, .call f args, gd, none⟩ :: l) (st L O U H) K := by
  cases g with
  | false => exact r_callVF res hg h
  | true =>
    refine r_callV fv xs O1 U1 res O1 U1 H (hm rfl) hg hf (ha rfl) hx h1 h2 hO hU (fun p hp => mem_lookO hp) (fun p hp => mem_lookT hp) (fun p hp hn => absurd hn (mem_lookO hp)) (fun p hp hn => absurd hn (mem_lookT hp)) (sameKeys_refl H) rfl ?_
    rw [upds_same (fun p hp => (h1 p hp).1) (fun p hp => (h2 p hp).1)]
    exact h

/-- A call that shares memory and turns it. -/
theorem r_callW {f : D} {args : List D} {gd : Option (Nat × Bool)} (fv : A) (xs : List X) (O1 : List (Nat × Box)) (U1 : List (Nat × Tok)) (res : R) (O2 : List (Nat × Box)) (U2 : List (Nat × Tok)) (hm : MeetsV P G fv xs (hp O1 U1 H) res (hp O2 U2 H))
    (hg : guardO (st L O U H) gd = some true) (hf : f.val (st L O U H) = .k true (.x (.one fv))) (ha : (args.all fun d => (d.val (st L O U H)).g) = true) (hx : fitsR (args.map fun d => (d.val (st L O U H)).r) xs)
    (hc : ((∀ p ∈ O1, lookO O p.1 = some p.2 ∧ p.1 < 15000) ∧ (∀ p ∈ U1, lookT U p.1 = some p.2 ∧ p.1 < 15000) ∧ (∀ p ∈ O, p.1 < 15000) ∧ (∀ p ∈ U, p.1 < 15000)) ∧
      (∀ p ∈ O1, lookO O2 p.1 ≠ none) ∧ (∀ p ∈ U1, lookT U2 p.1 ≠ none) ∧ (∀ p ∈ O2, lookO O1 p.1 = none → lookO O p.1 = none ∧ p.1 < 10000) ∧ ∀ p ∈ U2, lookT U1 p.1 = none → lookT U p.1 = none ∧ p.1 < 10000)
    (h : atK P G l ((d, .k true res) :: L) (updsO O2 O) (updsT U2 U) H K) : runK P G (⟨some d, .call f args, gd, none⟩ :: l) (st L O U H) K :=
  r_callV fv xs O1 U1 res O2 U2 H hm hg hf ha hx hc.1.1 hc.1.2.1 hc.1.2.2.1 hc.1.2.2.2 hc.2.1 hc.2.2.1 hc.2.2.2.1 hc.2.2.2.2 (sameKeys_refl H) rfl h

theorem hp_objs0 (O : List (Nat × Box)) (U : List (Nat × Tok)) (k : Nat) : (hp O U F0).objs k = lookO O k := by
  show (lookO O k).or none = _
  simp
theorem hp_toks0 (O : List (Nat × Box)) (U : List (Nat × Tok)) (k : Nat) : (hp O U F0).toks k = lookT U k := by
  show (lookT U k).or none = _
  simp

/-- A call whose keys are noted, that shares memory and turns it. -/
theorem r_callN {f : D} {args : List D} {gd : Option (Nat × Bool)} (ks : List Nat) (fv : A) (xs : List X) (O1 : List (Nat × Box)) (U1 : List (Nat × Tok)) (res : R) (O2 : List (Nat × Box)) (U2 : List (Nat × Tok)) (hm : MeetsV P G fv xs (hp O1 U1 F0) res (hp O2 U2 F0))
    (hg : guardO (st L O U F0) gd = some true) (hf : f.val (st L O U F0) = .k true (.x (.one fv))) (ha : (args.all fun d => (d.val (st L O U F0)).g) = true) (hx : fitsR (args.map fun d => (d.val (st L O U F0)).r) xs)
    (hc : ((∀ p ∈ O1, lookO O p.1 = some p.2 ∧ p.1 < 15000) ∧ (∀ p ∈ U1, lookT U p.1 = some p.2 ∧ p.1 < 15000) ∧ (∀ p ∈ O, p.1 < 15000) ∧ (∀ p ∈ U, p.1 < 15000)) ∧
      (∀ p ∈ O1, lookO O2 p.1 ≠ none) ∧ (∀ p ∈ U1, lookT U2 p.1 ≠ none) ∧ (∀ p ∈ O2, lookO O1 p.1 = none → lookO O p.1 = none ∧ p.1 < 10000) ∧ ∀ p ∈ U2, lookT U1 p.1 = none → lookT U p.1 = none ∧ p.1 < 10000)
    (hk : (∀ p ∈ O1, p.1 ∈ ks) ∧ (∀ p ∈ U1, p.1 ∈ ks) ∧ (∀ p ∈ O2, p.1 ∈ ks) ∧ ∀ p ∈ U2, p.1 ∈ ks)
    (h : atK P G l ((d, .k true res) :: L) (updsO O2 O) (updsT U2 U) F0 K) : runK P G (⟨some d, .call f args, gd, some ks⟩ :: l) (st L O U F0) K := by
  have hs := sameKeys_refl F0
  have e := over_st (L := L) (O2 := O2) (U2 := U2) hc.1.2.2.1 hc.1.2.2.2 (fun k hk => fun e => hk ((hs.1 k).1.2 e)) (fun k hk => fun e => hk ((hs.1 k).2.2 e))
  refine ⟨_, ⟨trivial, true, hg, fv, xs, true, _, res, _, fun _ => ⟨ha, hx, hf, hm, lends_st hc.1.1 hc.1.2.1 hc.1.2.2.1 hc.1.2.2.2 hc.2.1 hc.2.2.1 hc.2.2.2.1 hc.2.2.2.2 (fun k hk => fun e => hk ((hs.1 k).1.2 e)) (fun k hk => fun e => hk ((hs.1 k).2.2 e)) (fun k hk => fun e => hk ((hs.1 k).1.1 e)) (fun k hk => fun e => hk ((hs.1 k).2.1 e)) hs.2, fun k hn => ?_⟩, rfl⟩, by simpa only [if_true, e, put_st, atK_eq] using h⟩
  show k ∈ ks
  rw [hp_objs0, hp_toks0, hp_objs0, hp_toks0] at hn
  have go : ∀ (A : List (Nat × Box)), (∀ p ∈ A, p.1 ∈ ks) → lookO A k ≠ none → k ∈ ks := fun A hA hn => by
    cases hb : lookO A k with
    | none => exact absurd hb hn
    | some b => exact hA _ (lookO_mem hb)
  have gt : ∀ (A : List (Nat × Tok)), (∀ p ∈ A, p.1 ∈ ks) → lookT A k ≠ none → k ∈ ks := fun A hA hn => by
    cases hb : lookT A k with
    | none => exact absurd hb hn
    | some b => exact hA _ (lookT_mem hb)
  rcases hn with hn | hn | hn | hn
  · exact go _ hk.1 hn
  · exact gt _ hk.2.1 hn
  · exact go _ hk.2.2.1 hn
  · exact gt _ hk.2.2.2 hn
end
end Go.Fx

import Derived.Test.YtiomojlcnemnhaaFHxM3
import Derived.Test.YtiomojlcnemnhaaFFxWc
import Derived.Test.YtiomojlcnemnhaaFHxY3
import Derived.Test.YtiomojlcnemnhaaFHxIcI
/- Plain words for the variables that a body limits: the program's rounds over what waits, and the document's rounds over all. -/
namespace Go.Ped

/-- An equation: the variables that its sides are by themselves (empty: none), and the variables of its sides. -/
structure Eqn where
  left : Name
  right : Name
  lefts : List Name
  rights : List Name
  deriving DecidableEq, Inhabited

def allIn (l f : List Name) : Bool := l.all fun v => f.contains v
/-- The variable that an equation gives, if these are found. -/
def take (f : List Name) (q : Eqn) : Option Name :=
  if q.left != [] && !f.contains q.left && allIn q.rights f then some q.left
  else if q.right != [] && !f.contains q.right && allIn q.lefts f then some q.right
  else none

/-- A lone side's variables are that variable. -/
def Eqn.wf (q : Eqn) : Prop := (q.left ≠ [] → q.lefts = [q.left]) ∧ (q.right ≠ [] → q.rights = [q.right])

/-- The program's: one round over what waits: what was found, and what waits still. -/
def goRound : List Name → List Eqn → List Name × List Eqn
  | f, [] => (f, [])
  | f, q :: l => match take f q with
    | some v => goRound (f ++ [v]) l
    | none => ((goRound f l).1, q :: (goRound f l).2)
def goRounds (f : List Name) (wait : List Eqn) : List Name :=
  if h : (goRound f wait).2.length < wait.length then goRounds (goRound f wait).1 (goRound f wait).2 else (goRound f wait).1
termination_by wait.length

/-- An equation that gives nothing any more. -/
def Dead (f : List Name) (q : Eqn) : Prop := ∀ f', (∀ v ∈ f, v ∈ f') → take f' q = none
theorem Dead.mono {f f' : List Name} {q : Eqn} (h : ∀ v ∈ f, v ∈ f') (hd : Dead f q) : Dead f' q := fun g hg => hd g fun v hv => hg v (h v hv)

/-- What waits, among all: the others give nothing any more. -/
inductive Waits (f : List Name) : List Eqn → List Eqn → Prop
  | nil : Waits f [] []
  | keep {q : Eqn} {l w : List Eqn} (h : Waits f l w) : Waits f (q :: l) (q :: w)
  | gone {q : Eqn} {l w : List Eqn} (hd : Dead f q) (h : Waits f l w) : Waits f (q :: l) w
theorem Waits.mono {f f' : List Name} (hf : ∀ v ∈ f, v ∈ f') {l w : List Eqn} (h : Waits f l w) : Waits f' l w := by
  induction h with
  | nil => exact .nil
  | keep _ ih => exact .keep ih
  | gone hd _ ih => exact .gone (hd.mono hf) ih
theorem Waits.refl (f : List Name) : ∀ l, Waits f l l
  | [] => .nil
  | _ :: l => .keep (Waits.refl f l)

/-- As many are found as wait no more. -/
theorem goRound_count : ∀ (l : List Eqn) (f : List Name), (goRound f l).1.length + (goRound f l).2.length = f.length + l.length
  | [], f => by simp [goRound]
  | q :: l, f => by
    simp only [goRound]
    cases take f q with
    | some v => have := goRound_count l (f ++ [v]); simp at this ⊢; omega
    | none => have := goRound_count l f; simp; omega

end Go.Ped

/- Fx, part Wd: calls that share memory and leave it as it is, made where something holds. -/
namespace Go.Fx
open Go.RowKit
section
variable {P : Program} {G : World → Prop} {L : List (Nat × T)} {O : List (Nat × Box)} {U : List (Nat × Tok)} {H : FHp} {l : List IOper} {K : S → Prop} {d : Nat}

theorem upds_same {O1 : List (Nat × Box)} {U1 : List (Nat × Tok)} (h1 : ∀ p ∈ O1, lookO O p.1 = some p.2) (h2 : ∀ p ∈ U1, lookT U p.1 = some p.2) : st L (updsO O1 O) (updsT U1 U) H = st L O U H := by
  unfold st
  simp only [S.mk.injEq, true_and, and_true]
  refine ⟨funext fun k => ?_, funext fun k => ?_⟩
  · rw [lookO_upds]
    cases h : lookO O1 k with
    | none => rfl
    | some b => rw [h1 _ (lookO_mem h)]; rfl
  · rw [lookT_upds]
    cases h : lookT U1 k with
    | none => rfl
    | some b => rw [h2 _ (lookT_mem h)]; rfl

/-- A call that shares memory and leaves it as it is: the memory is not told anew. -/
theorem r_callQ {f : D} {args : List D} {gd : Option (Nat × Bool)} (g : Bool) (fv : A) (xs : List X) (O1 : List (Nat × Box)) (U1 : List (Nat × Tok)) (res : R) (hm : g = true → MeetsV P G fv xs (hp O1 U1 H) res (hp O1 U1 H))
    (hg : guardO (st L O U H) gd = some g) (hf : f.val (st L O U H) = .k true (.x (.one fv))) (ha : g = true → (args.all fun d => (d.val (st L O U H)).g) = true) (hx : fitsR (args.map fun d => (d.val (st L O U H)).r) xs)
    (h1 : ∀ p ∈ O1, lookO O p.1 = some p.2 ∧ p.1 < 15000) (h2 : ∀ p ∈ U1, lookT U p.1 = some p.2 ∧ p.1 < 15000) (hO : ∀ p ∈ O, p.1 < 15000) (hU : ∀ p ∈ U, p.1 < 15000)
    (h : atK P G l ((d, .k g res) :: L) O U H K) : runK P G (⟨some d, .call f args, gd, none⟩ :: l) (st L O U H) K := by
  cases g with
  | false => exact r_callVF res hg h
  | true =>
    refine r_callV fv xs O1 U1 res O1 U1 H (hm rfl) hg hf (ha rfl) hx h1 h2 hO hU (fun p hp => mem_lookO hp) (fun p hp => mem_lookT hp) (fun p hp hn => absurd hn (mem_lookO hp)) (fun p hp hn => absurd hn (mem_lookT hp)) (sameKeys_refl H) rfl ?_
    rw [upds_same (fun p hp => (h1 p hp).1) (fun p hp => (h2 p hp).1)]
    exact h

/-- A call that shares memory and turns it. -/
theorem r_callW {f : D} {args : List D} {gd : Option (Nat × Bool)} (fv : A) (xs : List X) (O1 : List (Nat × Box)) (U1 : List (Nat × Tok)) (res : R) (O2 : List (Nat × Box)) (U2 : List (Nat × Tok)) (hm : MeetsV P G fv xs (hp O1 U1 H) res (hp O2 U2 H))
    (hg : guardO (st L O U H) gd = some true) (hf : f.val (st L O U H) = .k true (.x (.one fv))) (ha : (args.all fun d => (d.val (st L O U H)).g) = true) (hx : fitsR (args.map fun d => (d.val (st L O U H)).r) xs)
    (hc : ((∀ p ∈ O1, lookO O p.1 = some p.2 ∧ p.1 < 15000) ∧ (∀ p ∈ U1, lookT U p.1 = some p.2 ∧ p.1 < 15000) ∧ (∀ p ∈ O, p.1 < 15000) ∧ (∀ p ∈ U, p.1 < 15000)) ∧
      (∀ p ∈ O1, lookO O2 p.1 ≠ none) ∧ (∀ p ∈ U1, lookT U2 p.1 ≠ none) ∧ (∀ p ∈ O2, lookO O1 p.1 = none → lookO O p.1 = none ∧ p.1 < 10000) ∧ ∀ p ∈ U2, lookT U1 p.1 = none → lookT U p.1 = none ∧ p.1 < 10000)
    (h : atK P G l ((d, .k true res) :: L) (updsO O2 O) (updsT U2 U) H K) : runK P G (⟨some d, .call f args, gd, none⟩ :: l) (st L O U H) K :=
  r_callV fv xs O1 U1 res O2 U2 H hm hg hf ha hx hc.1.1 hc.1.2.1 hc.1.2.2.1 hc.1.2.2.2 hc.2.1 hc.2.2.1 hc.2.2.2.1 hc.2.2.2.2 (sameKeys_refl H) rfl h

theorem hp_objs0 (O : List (Nat × Box)) (U : List (Nat × Tok)) (k : Nat) : (hp O U F0).objs k = lookO O k := by
  show (lookO O k).or none = _
  simp
theorem hp_toks0 (O : List (Nat × Box)) (U : List (Nat × Tok)) (k : Nat) : (hp O U F0).toks k = lookT U k := by
  show (lookT U k).or none = _
  simp

/-- A call whose keys are noted, that shares memory and turns it. -/
theorem r_callN {f : D} {args : List D} {gd : Option (Nat × Bool)} (ks : List Nat) (fv : A) (xs : List X) (O1 : List (Nat × Box)) (U1 : List (Nat × Tok)) (res : R) (O2 : List (Nat × Box)) (U2 : List (Nat × Tok)) (hm : MeetsV P G fv xs (hp O1 U1 F0) res (hp O2 U2 F0))
    (hg : guardO (st L O U F0) gd = some true) (hf : f.val (st L O U F0) = .k true (.x (.one fv))) (ha : (args.all fun d => (d.val (st L O U F0)).g) = true) (hx : fitsR (args.map fun d => (d.val (st L O U F0)).r) xs)
    (hc : ((∀ p ∈ O1, lookO O p.1 = some p.2 ∧ p.1 < 15000) ∧ (∀ p ∈ U1, lookT U p.1 = some p.2 ∧ p.1 < 15000) ∧ (∀ p ∈ O, p.1 < 15000) ∧ (∀ p ∈ U, p.1 < 15000)) ∧
      (∀ p ∈ O1, lookO O2 p.1 ≠ none) ∧ (∀ p ∈ U1, lookT U2 p.1 ≠ none) ∧ (∀ p ∈ O2, lookO O1 p.1 = none → lookO O p.1 = none ∧ p.1 < 10000) ∧ ∀ p ∈ U2, lookT U1 p.1 = none → lookT U p.1 = none ∧ p.1 < 10000)
    (hk : (∀ p ∈ O1, p.1 ∈ ks) ∧ (∀ p ∈ U1, p.1 ∈ ks) ∧ (∀ p ∈ O2, p.1 ∈ ks) ∧ ∀ p ∈ U2, p.1 ∈ ks)
    (h : atK P G l ((d, .k true res) :: L) (updsO O2 O) (updsT U2 U) F0 K) : runK P G (⟨some d, .call f args, gd, some ks⟩ :: l) (st L O U F0) K := by
  have hs := sameKeys_refl F0
  have e := over_st (L := L) (O2 := O2) (U2 := U2) hc.1.2.2.1 hc.1.2.2.2 (fun k hk => fun e => hk ((hs.1 k).1.2 e)) (fun k hk => fun e => hk ((hs.1 k).2.2 e))
  refine ⟨_, ⟨trivial, true, hg, fv, xs, true, _, res, _, fun _ => ⟨ha, hx, hf, hm, lends_st hc.1.1 hc.1.2.1 hc.1.2.2.1 hc.1.2.2.2 hc.2.1 hc.2.2.1 hc.2.2.2.1 hc.2.2.2.2 (fun k hk => fun e => hk ((hs.1 k).1.2 e)) (fun k hk => fun e => hk ((hs.1 k).2.2 e)) (fun k hk => fun e => hk ((hs.1 k).1.1 e)) (fun k hk => fun e => hk ((hs.1 k).2.1 e)) hs.2, fun k hn => ?_⟩, rfl⟩, by simpa only [if_true, e, put_st, atK_eq] using h⟩
  show k ∈ ks
  rw [hp_objs0, hp_toks0, hp_objs0, hp_toks0] at hn
  have go : ∀ (A : List (Nat × Box)), (∀ p ∈ A, p.1 ∈ ks) → lookO A k ≠ none → k ∈ ks := fun A hA hn => by
    cases hb : lookO A k with
    | none => exact absurd hb hn
    | some b => exact hA _ (lookO_mem hb)
  have gt : ∀ (A : List (Nat × Tok)), (∀ p ∈ A, p.1 ∈ ks) → lookT A k ≠ none → k ∈ ks := fun A hA hn => by
    cases hb : lookT A k with
    | none => exact absurd hb hn
    | some b => exact hA _ (lookT_mem hb)
  rcases hn with hn | hn | hn | hn
  · exact go _ hk.1 hn
  · exact gt _ hk.2.1 hn
  · exact go _ hk.2.2.1 hn
  · exact gt _ hk.2.2.2 hn
end
end Go.Fx

/- Contracts, on: variables that are found; lone sides of equations. -/
namespace Go.Proofs.Ytiomojlcnemnhaa
open Go.Fx Go.RowKit Go.Ped
variable {G : World → Prop}

/-- All of a list, each once, behind what is there. -/
def addAll (acc : List Name) : List Name → List Name
  | [] => acc
  | v :: l => addAll (if acc.contains v then acc else acc ++ [v]) l
theorem addAll_len : ∀ (l acc : List Name), (addAll acc l).length ≤ acc.length + l.length
  | [], acc => by simp [addAll]
  | v :: l, acc => by
    have := addAll_len l (if acc.contains v then acc else acc ++ [v])
    have h2 : (if acc.contains v then acc else acc ++ [v]).length ≤ acc.length + 1 := by split <;> simp
    simp only [addAll, List.length_cons]
    omega

abbrev OF (a b c : Nat) (acc : List Name) : List (Nat × Box) := [(a, ⟨193, 2, [[.own c (acc.map nmRow), .mapr b]], none⟩), (b, ⟨0, 2, thr 0 acc, some (.string, true)⟩)]
abbrev UF (c : Nat) (acc : List Name) : List (Nat × Tok) := [(c, ⟨9, 1, acc.length⟩)]
attribute [simp] thr_strike thr_get OF UF

theorem midF {U : List (Nat × Tok)} {H : FHp} (acc : List Name) (hU : lookT U 10022 ≠ none) : ∀ p ∈ OF 10009 10007 10022 acc, midKey p.1 ∧ ∀ r ∈ p.2.rows, onlyL (fun k => ¬ ownKey k) (fun k => (lookT U k).or (H.toks k) ≠ none) r := by
  intro p hp
  simp only [List.mem_cons, List.not_mem_nil, or_false] at hp
  rcases hp with rfl | rfl
  · refine ⟨by unfold midKey; omega, ?_⟩
    simp only [List.mem_singleton, forall_eq, onlyL, A.only, and_true]
    refine ⟨?_, by simp [ownKey]⟩
    cases h : lookT U 10022 with
    | none => exact absurd h hU
    | some q => simp
  · exact ⟨by unfold midKey; omega, fun r hr => thr_only _ _ r hr⟩
theorem midF2 {O2 : List (Nat × Box)} {U2 : List (Nat × Tok)} {H2 : FHp} (acc : List Name) (hU : lookT U2 10022 ≠ none) : ∀ p ∈ OF 10009 10007 10022 acc, ∀ r ∈ p.2.rows, onlyL (fun k => ¬ ownKey k ∨ lookO O2 k ≠ none) (fun k => (lookT U2 k).or (H2.toks k) ≠ none) r := fun p hp r hr =>
  onlyL_mono (fun _ h => .inl h) (fun _ h => h) ((midF acc hU p hp).2 r hr)

theorem has_eq (acc : List Name) (v : Name) : decide (0 < thrAt 0 acc v) = acc.contains v := by
  rw [Bool.eq_iff_iff]; simp [thrAt_pos]

theorem m200 (acc : List Name) (v : Name) : MeetsH Try.prog G 136 [.one (.ref 10009 0 0), .one (.c (cS (bs v)))] (hp (OF 10009 10007 10022 acc) (UF 10022 acc) F0) (rB (acc.contains v)) (hp (OF 10009 10007 10022 acc) (UF 10022 acc) F0) := by
  refine meetsH [] Try.func136 ie200 ig200 (Nat.le_of_ble_eq_true rfl) (midF acc (by simp)) (by simp [midKey]) (by simp [ownKey]) (by simp) (by simp) (sameKeys_refl F0) (midF2 acc (by simp)) (by simp) ?_
  simp [ic200, ir200]
  refine ret_st (by simp) ?_ (by simp) (by simp) (by simp) (by simp)
  simp [has_eq]

theorem m155 (acc l : List Name) (sp : Sp) (hl : l.length ≤ maxLen) : MeetsH Try.prog G 110 [.one (.ref 10009 0 0), .one (.c (.sl (l.map nmRow) sp))] (hp (OF 10009 10007 10022 acc) (UF 10022 acc) F0) (rB (allIn l acc)) (hp (OF 10009 10007 10022 acc) (UF 10022 acc) F0) := by
  refine meetsH [] Try.func110 ie155 ig155 (Nat.le_of_ble_eq_true rfl) (midF acc (by simp)) (by simp [midKey]) (by simp [ownKey]) (by simp) (by simp) (sameKeys_refl F0) (midF2 acc (by simp)) (by simp) ?_
  simp [ic155, ir155]
  unfold maxLen at hl
  refine w_loopA [] [] [0, 7, 8, 9] (by simp) (fun i : Nat => st [(0, .k true (.x (.one (.ref 10009 0 0)))), (7, .k true (.x (.one (.c (.sl (l.map nmRow) sp))))), (8, tI .i64 l.length), (9, tI .i64 i)] (OF 10009 10007 10022 acc) (UF 10022 acc) F0) (fun i => l.length - i)
    (fun i => i ≤ l.length ∧ allIn (l.take i) acc = true) 0 (by simp) (by simp [allIn]) ?_
  rintro i K hK ⟨hi, hd⟩
  obtain hlt | hge := Nat.lt_or_ge i l.length
  · simp [ic155l0, hlt]
    refine r_callV _ _ (OF 10009 10007 10022 acc) (UF 10022 acc) _ (OF 10009 10007 10022 acc) (UF 10022 acc) F0 (MeetsV.of_fun (m200 acc l[i])) rfl rfl rfl (by simp) (by simp) (by simp) (by simp) (by simp) (by simp) (by simp) (by simp) (by simp) (sameKeys_refl F0) rfl ?_
    simp
    refine condI_of (fun h => ?_) (fun h => ?_)
    · have hb : allIn l acc = false := all_not (List.getElem_mem hlt) (by simpa using h)
      simp
      refine ret_st (by simp) ?_ (by simp) (by simp) (by simp) (by simp)
      simp [hb]
    · simp
      simp (disch := omega) only [wrap64]
      exact hK (i + 1) _ (by simp) ⟨by omega, by rw [List.take_succ_eq_append_getElem hlt, allIn, List.all_append]; simp [allIn] at hd h ⊢; exact ⟨hd, h⟩⟩ (by omega)
  · rw [List.take_of_length_le hge] at hd
    simp [ic155l0, Nat.not_lt.mpr hge]
    refine ret_st (by simp) ?_ (by simp) (by simp) (by simp) (by simp)
    simp [hd]

theorem m173 (acc l : List Name) (sp : Sp) (hl : acc.length + l.length ≤ 100000000) : MeetsH Try.prog G 112 [.one (.ref 10009 0 0), .one (.c (.sl (l.map nmRow) sp))] (hp (OF 10009 10007 10022 acc) (UF 10022 acc) F0) (.tup []) (hp (OF 10009 10007 10022 (addAll acc l)) (UF 10022 (addAll acc l)) F0) := by
  refine meetsH [] Try.func112 ie173 ig173 (Nat.le_of_ble_eq_true rfl) (midF acc (by simp)) (by simp [midKey]) (by simp [ownKey]) (by simp) (by simp) (sameKeys_refl F0) (midF2 _ (by simp)) (by simp) ?_
  simp [ic173, ir173]
  refine w_loopA [] [22] [0, 6, 7, 8] (by simp [ownKey]) (fun a : Nat × List Name => st [(0, .k true (.x (.one (.ref 10009 0 0)))), (6, .k true (.x (.one (.c (.sl (l.map nmRow) sp))))), (7, tI .i64 l.length), (8, tI .i64 a.1)] (OF 10009 10007 10022 a.2) (UF 10022 a.2) F0) (fun a => l.length - a.1)
    (fun a => a.1 ≤ l.length ∧ addAll acc l = addAll a.2 (l.drop a.1) ∧ a.2.length ≤ acc.length + a.1) (0, acc) (by simp) (by simp) ?_
  rintro ⟨i, f⟩ K hK ⟨hi, hd, hf⟩
  simp only at hi hd hf
  obtain hlt | hge := Nat.lt_or_ge i l.length
  · rw [List.drop_eq_getElem_cons hlt, addAll] at hd
    simp [ic173l0, hlt]
    refine r_callV _ _ (OF 10009 10007 10022 f) (UF 10022 f) _ (OF 10009 10007 10022 f) (UF 10022 f) F0 (MeetsV.of_fun (m200 f l[i])) rfl rfl rfl (by simp) (by simp) (by simp) (by simp) (by simp) (by simp) (by simp) (by simp) (by simp) (sameKeys_refl F0) rfl ?_
    simp
    refine condI_of (fun h => ?_) (fun h => ?_)
    · have hn : l[i] ∉ f := by simpa using h
      simp
      refine ⟨by unfold maxLen; omega, by unfold maxBytes; omega, ?_⟩
      simp [thr_put l[i] f hn]
      simp (disch := omega) only [wrap64]
      exact hK (i + 1, f ++ [l[i]]) _ (by simp) ⟨by simp; omega, by simpa [hn] using hd, by simp; omega⟩ (by simp; omega)
    · have hn : l[i] ∈ f := by simpa using h
      simp
      simp (disch := omega) only [wrap64]
      exact hK (i + 1, f) _ (by simp) ⟨by simp; omega, by simpa [hn] using hd, by simp; omega⟩ (by simp; omega)
  · rw [List.drop_eq_nil_of_le hge, addAll] at hd
    simp [ic173l0, Nat.not_lt.mpr hge, hd]
    exact ret_st (by simp) (by simp) (by simp) (by simp) (by simp) (by simp)
end Go.Proofs.Ytiomojlcnemnhaa

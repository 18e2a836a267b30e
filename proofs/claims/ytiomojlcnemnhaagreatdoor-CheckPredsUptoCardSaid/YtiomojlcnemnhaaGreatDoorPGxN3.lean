import Derived.Test.YtiomojlcnemnhaaGreatDoorPGxM6
import Derived.Test.YtiomojlcnemnhaaGreatDoorPFxWb
import Derived.Test.YtiomojlcnemnhaaGreatDoorProg
import Derived.KernelRfl
/- Contracts, on: the document's matching. -/
namespace Go.Proofs.YtiomojlcnemnhaaGreatDoor
open Go.Fx Go.RowKit Go.Ped
variable {G : World → Prop}

end Go.Proofs.YtiomojlcnemnhaaGreatDoor

/- Fx, part Sd: loops that forget what a round made. -/
namespace Go.Fx
open Go.RowKit
section

/-- A list under appends: nil, or its own; the rows are forgotten. -/
def AccN (k : Nat) (ty : TypeId) (size : Nat) (es : List (List C)) (a : A) (U : List (Nat × Tok)) : Prop :=
  (es = [] ∧ a = .nil ∧ U = []) ∨ (a = .own k es ∧ U = [(k, ⟨ty, size, es.length⟩)])
theorem AccN.nil {k size : Nat} {ty : TypeId} : AccN k ty size [] .nil [] := .inl ⟨rfl, rfl, rfl⟩
theorem AccN.own {k size : Nat} {ty : TypeId} {es : List (List C)} {n : Nat} (h : n = es.length) : AccN k ty size es (.own k es) [(k, ⟨ty, size, n⟩)] := .inr ⟨rfl, by rw [h]⟩
theorem AccN.args {k size : Nat} {ty : TypeId} {es : List (List C)} {t : A} {U : List (Nat × Tok)} (h : AccN k ty size es t U) : (X.one t).close = some (.one (.sl es [])) := by
  rcases h with ⟨rfl, rfl, rfl⟩ | ⟨rfl, rfl⟩ <;> rfl
theorem AccN.strike {k size : Nat} {ty : TypeId} {es : List (List C)} {t : A} {U : List (Nat × Tok)} (h : AccN k ty size es t U) {l : Nat} (hl : l ≠ k) : A.strike [l] t = t := by
  rcases h with ⟨rfl, rfl, rfl⟩ | ⟨rfl, rfl⟩
  · rfl
  · simp [Ne.symm hl]
theorem AccN.strikeU {k size : Nat} {ty : TypeId} {es : List (List C)} {t : A} {U : List (Nat × Tok)} (h : AccN k ty size es t U) {l : Nat} (hl : l ≠ k) : strikeU [l] U = U := by
  rcases h with ⟨rfl, rfl, rfl⟩ | ⟨rfl, rfl⟩
  · rfl
  · simp [Ne.symm hl]
end
end Go.Fx

/- Contracts, on: the program's matching. -/
namespace Go.Proofs.YtiomojlcnemnhaaGreatDoor
open Go.Fx Go.RowKit Go.Ped
variable {G : World → Prop}

end Go.Proofs.YtiomojlcnemnhaaGreatDoor

/- Functions of the seat, as the small language has them. -/
namespace Go.Proofs.YtiomojlcnemnhaaGreatDoor
open Go.Fx
end Go.Proofs.YtiomojlcnemnhaaGreatDoor

/- Contracts, on: the program's variables. -/
namespace Go.Proofs.YtiomojlcnemnhaaGreatDoor
open Go.Fx Go.RowKit Go.Ped
variable {G : World → Prop}

/-- What stands where a pointer points: a term. -/
def PtTo (es : List (List C)) (i off : Nat) (t : Tm) : Prop := ∃ r, es[i]? = some r ∧ (r.drop off).take 4 = t.row
theorem PtTo.at {es : List (List C)} {i off : Nat} {t : Tm} (h : PtTo es i off t) (j : Nat) (hj : j < 4) : (es[i]?.getD [])[off + j]? = t.row[j]? := by
  obtain ⟨r, h1, h2⟩ := h
  rw [h1, ← h2]
  simp [hj]
theorem PtTo.len {es : List (List C)} {i off : Nat} {t : Tm} (h : PtTo es i off t) : off + 4 ≤ (es[i]?.getD []).length := by
  obtain ⟨r, h1, h2⟩ := h
  have := congrArg List.length h2
  simp [Tm.row] at this
  rw [h1]; simp; omega

/-- The numbers of the variables that were met. -/
def thr : Nat → List Name → List (List A)
  | _, [] => []
  | n, v :: l => [.c (cS (bs v)), .c (cI .i64 (n + 1))] :: thr (n + 1) l

/-- The number of a variable, from one on; zero: none. -/
def thrAt : Nat → List Name → Name → Int
  | _, [], _ => 0
  | n, u :: l, v => if u = v then n + 1 else thrAt (n + 1) l v
theorem thr_get0 (v : Name) : ∀ (l : List Name) (n : Nat), mapGet (thr n l) (.string (bs v)) [.c (cI .i64 0)] = [.c (cI .i64 (thrAt n l v))]
  | [], n => by simp [thr, mapGet, thrAt]
  | u :: l, n => by
    have ih := thr_get0 v l (n + 1)
    unfold mapGet at ih ⊢
    unfold thr thrAt
    by_cases h : u = v
    · subst h; simp [keyEq]
    · simp [keyEq, h] at ih ⊢
      exact ih
theorem thr_get (v : Name) (l : List Name) : mapGet (thr 0 l) (.string (bs v)) [.c (cI .i64 0)] = [.c (cI .i64 (thrAt 0 l v))] := thr_get0 v l 0
theorem thr_strike (ks : List Nat) : ∀ (l : List Name) (n : Nat), (thr n l).map (strikeL ks) = thr n l
  | [], _ => rfl
  | v :: l, n => by simp [thr, thr_strike ks l (n + 1)]

end Go.Proofs.YtiomojlcnemnhaaGreatDoor

/- Contracts, on: the program's walk over the terms of a thing. -/
namespace Go.Proofs.YtiomojlcnemnhaaGreatDoor
open Go.Fx Go.RowKit Go.Ped
variable {G : World → Prop}

theorem sameKeys_trans {H1 H2 H3 : FHp} (h : sameKeys H1 H2) (h' : sameKeys H2 H3) : sameKeys H1 H3 :=
  ⟨fun k => ⟨(h.1 k).1.trans (h'.1 k).1, (h.1 k).2.trans (h'.1 k).2⟩, h'.2.trans h.2⟩

/-- What a function does, handed the terms of a list one behind the other, to what it holds. -/
inductive Ch (G : World → Prop) (fv : A) : List Tm → FHp → FHp → Prop
  | nil (H : FHp) : Ch G fv [] H H
  | cons {t : Tm} {l : List Tm} {H H1 H2 : FHp} (h : ∀ es sp i off, PtTo es i off t → MeetsV Tryz.prog G fv [.one (.elem es sp i off)] (hp [] [] H) (.tup []) (hp [] [] H1)) (hs : sameKeys H H1) (hl : Ch G fv l H1 H2) : Ch G fv (t :: l) H H2
theorem Ch.same {fv : A} {l : List Tm} {H H' : FHp} (h : Ch G fv l H H') : sameKeys H H' := by
  induction h with
  | nil H => exact sameKeys_refl H
  | cons _ hs _ ih => exact sameKeys_trans hs ih
theorem Ch.app {fv : A} {l m : List Tm} {H H1 H2 : FHp} (h : Ch G fv l H H1) (h2 : Ch G fv m H1 H2) : Ch G fv (l ++ m) H H2 := by
  induction h with
  | nil H => exact h2
  | cons h hs _ ih => exact .cons h hs (ih h2)
theorem Ch.split {fv : A} : ∀ {l m : List Tm} {H H2 : FHp}, Ch G fv (l ++ m) H H2 → ∃ H1, Ch G fv l H H1 ∧ Ch G fv m H1 H2
  | [], _, H, _, h => ⟨H, .nil H, h⟩
  | _ :: l, m, _, _, h => by
    cases h with
    | cons h hs hl =>
      obtain ⟨H1, h1, h2⟩ := Ch.split hl
      exact ⟨H1, .cons h hs h1, h2⟩
theorem Ch.step {fv : A} {l : List Tm} {H H2 : FHp} {i : Nat} {t : Tm} (ht : l[i]? = some t) (h : Ch G fv (l.drop i) H H2) :
    ∃ H1, (∀ es sp j off, PtTo es j off t → MeetsV Tryz.prog G fv [.one (.elem es sp j off)] (hp [] [] H) (.tup []) (hp [] [] H1)) ∧ sameKeys H H1 ∧ Ch G fv (l.drop (i + 1)) H1 H2 := by
  obtain ⟨hi, rfl⟩ := List.getElem?_eq_some_iff.1 ht
  rw [List.drop_eq_getElem_cons hi] at h
  cases h with
  | cons h hs hl => exact ⟨_, h, hs, hl⟩

/-- A call that leaves the far part another. -/
theorem r_callC {P : Program} {L : List (Nat × T)} {O : List (Nat × Box)} {U : List (Nat × Tok)} {H H2 : FHp} {l : List IOper} {K : S → Prop} {d : Nat} {f : D} {args : List D} {gd : Option (Nat × Bool)} {fv : A} {xs : List X} {res : R} (hm : MeetsV P G fv xs (hp [] [] H) res (hp [] [] H2))
    (hs : sameKeys H H2) (hg : guardO (st L O U H) gd = some true) (hf : f.val (st L O U H) = .k true (.x (.one fv))) (ha : (args.all fun d => (d.val (st L O U H)).g) = true) (hx : fitsR (args.map fun d => (d.val (st L O U H)).r) xs)
    (hO : ∀ p ∈ O, p.1 < 15000) (hU : ∀ p ∈ U, p.1 < 15000) (h : runK P G l (st ((d, .k true res) :: L) O U H2) K) : runK P G (⟨some d, .call f args, gd, none⟩ :: l) (st L O U H) K :=
  r_callV fv xs [] [] res [] [] H2 hm hg hf ha hx (fun _ h => by cases h) (fun _ h => by cases h) hO hU (fun _ h => by cases h) (fun _ h => by cases h) (fun _ h => by cases h) (fun _ h => by cases h) hs rfl h

/-- A pointer to some cells. -/
def PtAt (es : List (List C)) (i off : Nat) (cs : List C) : Prop := ∃ r, es[i]? = some r ∧ (r.drop off).take cs.length = cs
theorem PtAt.len {es : List (List C)} {i off : Nat} {cs : List C} (h : PtAt es i off cs) : off + cs.length ≤ (es[i]?.getD []).length ∨ cs = [] := by
  obtain ⟨r, h1, h2⟩ := h
  have := congrArg List.length h2
  simp at this
  rw [h1]; simp
  by_cases hc : cs = []
  · exact .inr hc
  · left; have : 0 < cs.length := List.length_pos_iff.2 hc; omega
theorem PtAt.at {es : List (List C)} {i off : Nat} {cs : List C} (h : PtAt es i off cs) (j : Nat) (hj : j < cs.length) : (es[i]?.getD [])[off + j]? = some cs[j] := by
  obtain ⟨r, h1, h2⟩ := h
  rw [h1, ← List.getElem?_eq_getElem hj, ← h2]
  simp [hj]

section
variable {fv : A} {H H' : FHp} {Q : Exit → S → Prop} {t0 t12 t14 t15 t4 t21 t20 t22 t1 t5 t39 t38 t40 t6 t53 t54 t7 t74 t75 t8 t86 t85 t87 t9 t100 t101 t10 t107 t106 t108 t11 : T}

end

end Go.Proofs.YtiomojlcnemnhaaGreatDoor

/- Contracts, on: the program's variables of a thing. -/
namespace Go.Proofs.YtiomojlcnemnhaaGreatDoor
open Go.Fx Go.RowKit Go.Ped
variable {G : World → Prop}

end Go.Proofs.YtiomojlcnemnhaaGreatDoor

/- Contracts, on: an atom's variables; the law on atoms. -/
namespace Go.Proofs.YtiomojlcnemnhaaGreatDoor
open Go.Fx Go.RowKit Go.Ped
variable {G : World → Prop}

end Go.Proofs.YtiomojlcnemnhaaGreatDoor

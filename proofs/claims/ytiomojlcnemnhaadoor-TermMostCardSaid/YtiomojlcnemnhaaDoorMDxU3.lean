import Derived.Test.YtiomojlcnemnhaaDoorMDxU1
/- Contracts, on: what unifies, the document's. -/
namespace Go.Proofs.YtiomojlcnemnhaaDoor
open Go.Fx Go.RowKit Go.Ped
variable {G : World → Prop}

@[simp] theorem _root_.Go.Ped.Pr.row_length (p : Pr) : p.row.length = 5 := rfl

/-- A call whose keys are noted. -/
theorem r_callK {P : Program} {L : List (Nat × T)} {O : List (Nat × Box)} {U : List (Nat × Tok)} {l : List IOper} {K : S → Prop} {d : Nat} {f : D} {args : List D} {gd : Option (Nat × Bool)} (ks : List Nat) (fv : A) (xs : List X) (O1 : List (Nat × Box)) (res : R) (hm : MeetsV P G fv xs (hp O1 [] F0) res (hp O1 [] F0))
    (hg : guardO (st L O U F0) gd = some true) (hf : f.val (st L O U F0) = .k true (.x (.one fv))) (ha : (args.all fun d => (d.val (st L O U F0)).g) = true) (hx : fitsR (args.map fun d => (d.val (st L O U F0)).r) xs)
    (h1 : ∀ p ∈ O1, lookO O p.1 = some p.2 ∧ p.1 < 15000) (hO : ∀ p ∈ O, p.1 < 15000) (hU : ∀ p ∈ U, p.1 < 15000) (hk : ∀ p ∈ O1, p.1 ∈ ks)
    (h : runK P G l (st ((d, .k true res) :: L) (updsO O1 O) U F0) K) : runK P G (⟨some d, .call f args, gd, some ks⟩ :: l) (st L O U F0) K := by
  have hs := sameKeys_refl F0
  have h3 : ∀ p ∈ O1, lookO O1 p.1 ≠ none := fun p hp e => by
    have : ∀ (O1 : List (Nat × Box)), p ∈ O1 → lookO O1 p.1 ≠ none := by
      intro O1
      induction O1 with
      | nil => intro h; cases h
      | cons q O1 ih =>
        intro h
        obtain ⟨d, b⟩ := q
        rw [lookO_cons]
        split
        · simp
        · rename_i hne
          rcases List.mem_cons.1 h with rfl | h
          · exact absurd rfl hne
          · exact ih h
    exact this O1 hp e
  have e := over_st (L := L) (O := O) (U := U) (H := F0) (O2 := O1) (U2 := []) (H2 := F0) hO hU (fun k hk => fun e => hk ((hs.1 k).1.2 e)) (fun k hk => fun e => hk ((hs.1 k).2.2 e))
  exact ⟨_, ⟨trivial, true, hg, fv, xs, true, _, res, _, fun _ => ⟨ha, hx, hf, hm, lends_st h1 (fun _ h => by cases h) hO hU h3 (fun _ h => by cases h) (fun p hp e => absurd e (h3 p hp)) (fun _ h => by cases h) (fun k hk => fun e => hk ((hs.1 k).1.2 e)) (fun k hk => fun e => hk ((hs.1 k).2.2 e)) (fun k hk => fun e => hk ((hs.1 k).1.1 e)) (fun k hk => fun e => hk ((hs.1 k).2.1 e)) hs.2, by
    have key : ∀ k, (hp O1 [] F0).objs k ≠ none → k ∈ ks := fun k hn => by
      cases hb : lookO O1 k with
      | none => exact absurd (show (hp O1 [] F0).objs k = none by show (lookO O1 k).or none = none; rw [hb]; rfl) hn
      | some b => exact hk _ (lookO_mem hb)
    intro k h
    rcases h with h | h | h | h
    · exact key k h
    · exact absurd rfl h
    · exact key k h
    · exact absurd rfl h⟩, rfl⟩, by simpa only [if_true, e, put_st] using (show runK P G l (st ((d, .k true res) :: L) (updsO O1 O) (updsT [] U) F0) K from h)⟩

end Go.Proofs.YtiomojlcnemnhaaDoor

/- Contracts, on: the document's unification. -/
namespace Go.Proofs.YtiomojlcnemnhaaDoor
open Go.Fx Go.RowKit Go.Ped
variable {G : World → Prop}

def unifyOf (p : Name) (ts : List Tm) (q : Name) (ws : List Tm) : Option (List Pr) := if atomOk p ts && atomOk q ws && p == q && ts.length == ws.length then refUnify [] ts ws else none
def unifyR (r : Option (List Pr)) : CR := .tup [.one (.sl ((r.getD []).map Pr.row) []), .one (cB r.isSome)]
/-- Pairs in a variable. -/
def SlP (s : List Pr) (a : A) : Prop := (s = [] ∧ a = .nil) ∨ a = .c (.sl (s.map Pr.row) [])

theorem SlP.args {s : List Pr} {a : A} (h : SlP s a) : (X.one a).close = some (.one (.sl (s.map Pr.row) [])) := by
  rcases h with ⟨rfl, rfl⟩ | rfl <;> rfl
theorem SlP.strike {s : List Pr} {a : A} (h : SlP s a) (ks : List Nat) : A.strike ks a = a := by
  rcases h with ⟨rfl, rfl⟩ | rfl <;> rfl

theorem tk4 (t : Tm) : List.take 4 (t.row.map A.c) = t.row.map A.c := rfl

abbrev O42 (p q : Name) (ts ws : List Tm) (sp sq : List (List C)) : List (Nat × Box) := [(3, ⟨24, 2, [[.c (cS (bs q)), .c (.sl (ws.map Tm.row) sq)]], none⟩), (2, ⟨24, 2, [[.c (cS (bs p)), .c (.sl (ts.map Tm.row) sp)]], none⟩)]

end Go.Proofs.YtiomojlcnemnhaaDoor

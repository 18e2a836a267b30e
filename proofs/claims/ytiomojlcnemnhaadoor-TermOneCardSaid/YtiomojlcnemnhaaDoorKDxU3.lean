import Derived.Test.YtiomojlcnemnhaaDoorKPedB
import Derived.Test.YtiomojlcnemnhaaDoorKDxN3
import Derived.Test.YtiomojlcnemnhaaDoorKDxIcC
/- Plain words: the way of a term through what names became, step by step. -/
namespace Go.Ped

/-- The way of a term, in so many steps. -/
def Way (c : List Pr) : Nat → Tm → Prop
  | 0, t => nextOf c t.v = none ∧ endOf c t = t
  | n + 1, t => ∃ u, nextOf c t.v = some u ∧ endOf c t = endOf c u ∧ Way c n u

theorem next_snoc (c : List Pr) (p : Pr) (w : Name) : nextOf (c ++ [p]) w = match nextOf c w with | some x => some x | none => if p.v = w then some p.t else none := by
  unfold nextOf
  rw [find_snoc]
  cases c.find? (·.v == w) with
  | some q => rfl
  | none => simp

theorem next_out {c : List Pr} {v : Name} (h : v ∉ keys c) : nextOf c v = none := by
  unfold nextOf; rw [find_out h]; rfl
theorem Good.way {c : List Pr} (h : Good c) : ∀ t, ∃ n, Way c n t := by
  induction h with
  | nil => exact fun t => ⟨0, rfl, rfl⟩
  | @snoc c v u h h1 h2 h3 h4 h5 h6 ih =>
    have key : ∀ n t, Way c n t → ∃ m, Way (c ++ [⟨v, u⟩]) m t := by
      intro n
      induction n with
      | zero =>
        intro t ⟨w1, w2⟩
        by_cases hv : v = t.v
        · refine ⟨1, u, ?_, ?_, ?_, ?_⟩
          · rw [next_snoc, w1]; simp [hv]
          · rw [endOf_snoc, endOf_snoc, w2, if_pos hv.symm, endOf_out h4, if_neg h5]
          · rw [next_snoc, next_out h4]; simp [Ne.symm h5]
          · rw [endOf_snoc, endOf_out h4, if_neg h5]
        · refine ⟨0, ?_, ?_⟩
          · rw [next_snoc, w1]; simp [hv]
          · rw [endOf_snoc, w2, if_neg (fun e => hv e.symm)]
      | succ n ihn =>
        intro t ⟨u', w1, w2, w3⟩
        obtain ⟨m, hm⟩ := ihn u' w3
        refine ⟨m + 1, u', ?_, ?_, hm⟩
        · rw [next_snoc, w1]
        · rw [endOf_snoc, endOf_snoc, w2]
    intro t
    obtain ⟨n, hn⟩ := ih t
    exact key n t hn

theorem Good.next_mem {c : List Pr} (h : Good c) : ∀ p ∈ c, nextOf c p.v = some p.t := by
  induction h with
  | nil => intro p hp; cases hp
  | @snoc c v u h h1 h2 h3 h4 h5 h6 ih =>
    intro p hp
    rw [next_snoc]
    rcases List.mem_append.1 hp with hp | hp
    · rw [ih p hp]
    · simp only [List.mem_singleton] at hp
      subst hp
      rw [next_out h3]; simp

/-- The end of a key's way is the end of its term's. -/
theorem Good.end_key {c : List Pr} (h : Good c) (p : Pr) (hp : p ∈ c) : endOf c ⟨p.v, zeroV⟩ = endOf c p.t := by
  have hn := h.next_mem p hp
  obtain ⟨n, hw⟩ := h.way ⟨p.v, zeroV⟩
  cases n with
  | zero => obtain ⟨h1, _⟩ := hw; rw [show (⟨p.v, zeroV⟩ : Tm).v = p.v from rfl, hn] at h1; cases h1
  | succ n =>
    obtain ⟨u, h1, h2, _⟩ := hw
    rw [show (⟨p.v, zeroV⟩ : Tm).v = p.v from rfl, hn] at h1
    injection h1 with h1
    rw [h2, h1]

/-- One more pair. -/
theorem Good.more {c : List Pr} (h : Good c) {a b : Tm} (ha : a.bare) (hb : b.bare) (h1 : (endOf c a).v ≠ us) (h3 : endOf c a ≠ endOf c b) (h0 : (endOf c a).v ≠ []) : Good (c ++ [⟨(endOf c a).v, endOf c b⟩]) := by
  refine .snoc h h0 h1 (h.end_out a) (h.end_out b) (fun e => h3 ?_) (h.end_bare hb)
  have ba := h.end_bare ha h0
  have bb := h.end_bare hb (by rw [e]; exact h0)
  generalize endOf c a = x at *
  generalize endOf c b = y at *
  obtain ⟨xv, xx⟩ := x
  obtain ⟨yv, yy⟩ := y
  simp only at *
  rw [e, ba, bb]
theorem goUnify_good : ∀ (ts ws : List Tm) (c : List Pr), Good c → (∀ t ∈ ts, t.bare) → (∀ t ∈ ws, t.bare) → ∀ c', goUnify c ts ws = some c' → Good c' :=
  fun ts ws c hg h1 h2 => (unify_same ts ws c hg h1 h2).2
end Go.Ped

/- Contracts, on: what unifies, the program's way. -/
namespace Go.Proofs.YtiomojlcnemnhaaDoor
open Go.Fx Go.RowKit Go.Ped
variable {G : World → Prop}

/-- A pair as the map keeps it; as a row. -/
def nxRow (p : Pr) : List A := .c (cS (bs p.v)) :: p.t.row.map A.c
def _root_.Go.Ped.Pr.row (p : Pr) : List C := cS (bs p.v) :: p.t.row
abbrev zTm : List A := [.c (cS (bs [])), .c (cI .i8 0), .c (cI .i64 0), .c (cS (bs []))]

theorem nx_find (v : Name) (c : List Pr) : (c.map nxRow).find? (keyEq (.string (bs v))) = (c.find? (·.v == v)).map nxRow := by
  rw [List.find?_map]
  congr 2
  funext p
  simp [keyEq, nxRow]
theorem nx_get (v : Name) (c : List Pr) : mapGet (c.map nxRow) (.string (bs v)) zTm = ((nextOf c v).getD ⟨[], zeroV⟩).row.map A.c := by
  unfold mapGet nextOf
  rw [nx_find]
  cases c.find? (·.v == v) <;> simp [nxRow, zeroV, Tm.row]
theorem nx_any (v : Name) (c : List Pr) : (c.map nxRow).any (keyEq (.string (bs v))) = (nextOf c v).isSome := by
  unfold nextOf
  rw [Option.isSome_map, List.any_map, ← List.isSome_find?]
  congr 2
  funext p
  simp [keyEq, nxRow]
theorem nx_strike (ks : List Nat) (p : Pr) : strikeL ks (nxRow p) = nxRow p := by simp [nxRow]

theorem nx_strike' (ks : List Nat) : strikeL ks ∘ nxRow = nxRow := funext fun p => nx_strike ks p
theorem nx_any' (v : Name) (c : List Pr) : c.any (keyEq (.string (bs v)) ∘ nxRow) = (nextOf c v).isSome := by
  rw [← nx_any, List.any_map]
/-- What a term became, or the zero one. -/
def nxt (c : List Pr) (v : Name) : Tm := (nextOf c v).getD ⟨[], zeroV⟩
theorem nx_get' (v : Name) (c : List Pr) : mapGet (c.map nxRow) (.string (bs v)) zTm = [.c (cS (bs (nxt c v).v)), .c (cI .i8 (nxt c v).x.k), .c (cI .i64 (nxt c v).x.n), .c (cS (bs (nxt c v).x.s))] := nx_get v c

abbrev O106 (c : List Pr) : List (Nat × Box) := [(10006, ⟨155, 1, [[.mapr 10039]], none⟩), (10039, ⟨0, 5, c.map nxRow, some (.string, false)⟩)]

theorem m106 (c : List Pr) (hg : Ped.Good c) (t : Tm) :
    MeetsH Tryd.prog G 106 [.agg (t.row.map A.c), .one (.ref 10006 0 0)] (hp (O106 c) [] F0) (.x (.agg ((endOf c t).row.map A.c))) (hp (O106 c) [] F0) := by
  obtain ⟨n, hn⟩ := hg.way t
  refine meetsH [] Tryd.func106 ie106 ig106 (Nat.le_of_ble_eq_true rfl) ?_ (by simp) ?_ ?_ (by simp) (sameKeys_refl F0) ?_ ?_ ?_
  · intro p hp
    simp only [List.mem_cons, List.not_mem_nil, or_false] at hp
    rcases hp with rfl | rfl
    · exact ⟨by unfold midKey; omega, by simp [ownKey]⟩
    · exact ⟨by unfold midKey; omega, by simp [nxRow]⟩
  · simp [ownKey]
  · simp
  · intro p hp
    simp only [List.mem_cons, List.not_mem_nil, or_false] at hp
    rcases hp with rfl | rfl
    · simp [ownKey]
    · simp [nxRow]
  · simp
  simp [ic106, ir106, Tm.row, nx_get', nx_any', nx_strike']
  refine w_loopK (fun n σ => ∃ (u : Tm) (t13 t22 : T), Ped.Way c n u ∧ endOf c t = endOf c u ∧ σ = ks106 (.k true (.x (.agg (t.row.map A.c)))) (.k true (.x (.one (.ref 10006 0 0)))) (.k true (.x (.one (.ref 2 0 0)))) (tB (nextOf c u.v).isSome) t13 (.k true (.x (.one (.ref 4 0 0)))) t22 (.k true (.x (.one (.ref 3 0 0))))
    ((4, ⟨41, 4, [(nxt c u.v).row.map A.c], none⟩) :: (3, ⟨41, 4, [zTm], none⟩) :: (2, ⟨41, 4, [u.row.map A.c], none⟩) :: O106 c) [] F0)
    n ⟨t, _, _, hn, rfl, rfl⟩ ?_
  rintro n σ1 K hK ⟨u, t13, t22, hw, he, rfl⟩
  cases n with
  | zero =>
    obtain ⟨h1, h2⟩ := hw
    simp [ic106l0, h1]
    rw [he, h2]
    exact ret_st (by simp) (by simp [Tm.row]) (by simp) (by simp) (by simp) (by simp)
  | succ n =>
    obtain ⟨u', h1, h2, h3⟩ := hw
    have hx : nxt c u.v = u' := by unfold nxt; rw [h1]; rfl
    simp [ic106l0, h1, hx, Tm.row, nx_get', nx_any', nx_strike']
    exact hK _ n (by omega) ⟨u', _, _, h3, he.trans h2, rfl⟩
end Go.Proofs.YtiomojlcnemnhaaDoor

/- Contracts, on: what unifies, the document's. -/
namespace Go.Proofs.YtiomojlcnemnhaaDoor
open Go.Fx Go.RowKit Go.Ped
variable {G : World → Prop}

@[simp] theorem _root_.Go.Ped.Pr.row_length (p : Pr) : p.row.length = 5 := rfl

/-- A call whose keys are noted. -/
theorem r_callK {P : Program} {L : List (Nat × T)} {O : List (Nat × Box)} {U : List (Nat × Tok)} {l : List IOper} {K : S → Prop} {d : Nat} {f : D} {args : List D} {gd : Option (Nat × Bool)} (ks : List Nat) (fv : A) (xs : List X) (O1 : List (Nat × Box)) (res : R) (hm : MeetsV P G fv xs (hp O1 [] F0) res (hp O1 [] F0))
    (hg : guardO (st L O U F0) gd = some true) (hf : f.val (st L O U F0) = .k true (.x (.one fv))) (ha : (args.all fun d => (d.val (st L O U F0)).g) = true) (hx : fitsR (args.map fun d => (d.val (st L O U F0)).r) xs)
    (h1 : ∀ p ∈ O1, lookO O p.1 = some p.2 ∧ p.1 < 15000) (hO : ∀ p ∈ O, p.1 < 15000) (hU : ∀ p ∈ U, p.1 < 15000) (hk : ∀ p ∈ O1, p.1 ∈ ks)
    (h : runK P G l (st ((d, .k true res) :: L) (updsO O1 O) U F0) K) : runK P G (⟨some d, .call f args, gd, some ks⟩ :: l) (st L O U F0) K := by
  have hs := sameKeys_refl F0
  have h3 : ∀ p ∈ O1, lookO O1 p.1 ≠ none := fun p hp e => by
    have : ∀ (O1 : List (Nat × Box)), p ∈ O1 → lookO O1 p.1 ≠ none := by
      intro O1
      induction O1 with
      | nil => intro h; cases h
      | cons q O1 ih =>
        intro h
        obtain ⟨d, b⟩ := q
        rw [lookO_cons]
        split
        · simp
        · rename_i hne
          rcases List.mem_cons.1 h with rfl | h
          · exact absurd rfl hne
          · exact ih h
    exact this O1 hp e
  have e := over_st (L := L) (O := O) (U := U) (H := F0) (O2 := O1) (U2 := []) (H2 := F0) hO hU (fun k hk => fun e => hk ((hs.1 k).1.2 e)) (fun k hk => fun e => hk ((hs.1 k).2.2 e))
  exact ⟨_, ⟨trivial, true, hg, fv, xs, true, _, res, _, fun _ => ⟨ha, hx, hf, hm, lends_st h1 (fun _ h => by cases h) hO hU h3 (fun _ h => by cases h) (fun p hp e => absurd e (h3 p hp)) (fun _ h => by cases h) (fun k hk => fun e => hk ((hs.1 k).1.2 e)) (fun k hk => fun e => hk ((hs.1 k).2.2 e)) (fun k hk => fun e => hk ((hs.1 k).1.1 e)) (fun k hk => fun e => hk ((hs.1 k).2.1 e)) hs.2, by
    have key : ∀ k, (hp O1 [] F0).objs k ≠ none → k ∈ ks := fun k hn => by
      cases hb : lookO O1 k with
      | none => exact absurd (show (hp O1 [] F0).objs k = none by show (lookO O1 k).or none = none; rw [hb]; rfl) hn
      | some b => exact hk _ (lookO_mem hb)
    intro k h
    rcases h with h | h | h | h
    · exact key k h
    · exact absurd rfl h
    · exact key k h
    · exact absurd rfl h⟩, rfl⟩, by simpa only [if_true, e, put_st] using (show runK P G l (st ((d, .k true res) :: L) (updsO O1 O) (updsT [] U) F0) K from h)⟩

end Go.Proofs.YtiomojlcnemnhaaDoor

/- Contracts, on: the document's unification. -/
namespace Go.Proofs.YtiomojlcnemnhaaDoor
open Go.Fx Go.RowKit Go.Ped
variable {G : World → Prop}

def unifyOf (p : Name) (ts : List Tm) (q : Name) (ws : List Tm) : Option (List Pr) := if atomOk p ts && atomOk q ws && p == q && ts.length == ws.length then refUnify [] ts ws else none
def unifyR (r : Option (List Pr)) : CR := .tup [.one (.sl ((r.getD []).map Pr.row) []), .one (cB r.isSome)]
/-- Pairs in a variable. -/
def SlP (s : List Pr) (a : A) : Prop := (s = [] ∧ a = .nil) ∨ a = .c (.sl (s.map Pr.row) [])

theorem SlP.args {s : List Pr} {a : A} (h : SlP s a) : (X.one a).close = some (.one (.sl (s.map Pr.row) [])) := by
  rcases h with ⟨rfl, rfl⟩ | rfl <;> rfl
theorem SlP.strike {s : List Pr} {a : A} (h : SlP s a) (ks : List Nat) : A.strike ks a = a := by
  rcases h with ⟨rfl, rfl⟩ | rfl <;> rfl

theorem tk4 (t : Tm) : List.take 4 (t.row.map A.c) = t.row.map A.c := rfl

abbrev O42 (p q : Name) (ts ws : List Tm) (sp sq : List (List C)) : List (Nat × Box) := [(3, ⟨24, 2, [[.c (cS (bs q)), .c (.sl (ws.map Tm.row) sq)]], none⟩), (2, ⟨24, 2, [[.c (cS (bs p)), .c (.sl (ts.map Tm.row) sp)]], none⟩)]

end Go.Proofs.YtiomojlcnemnhaaDoor

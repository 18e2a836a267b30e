/- Contracts, on: predicates met in a map; sizes; facts as they may be. (Labels of 2000 and more: seat ZD.) -/
import Derived.Test.YtiomojlcnemnhaaGreatDoorPGxQ1
import Derived.Test.YtiomojlcnemnhaaGreatDoorPGxIcT
import Derived.Test.YtiomojlcnemnhaaGreatDoorPPedC
namespace Go.Proofs.YtiomojlcnemnhaaGreatDoor
open Go.Fx Go.RowKit Go.Ped
variable {G : World → Prop}

def pdRow (p : Pd) : List A := [.c (cS (bs p.name)), .c (cI .i64 p.n)]
@[simp] theorem pdRow_strike (ks : List Nat) (p : Pd) : strikeL ks (pdRow p) = pdRow p := by simp [pdRow]
theorem pdRow_strike' (ks : List Nat) : strikeL ks ∘ pdRow = pdRow := funext fun p => pdRow_strike ks p
theorem keyEq_pd (v : Name) (p : Pd) : keyEq (.string (bs v)) (pdRow p) = (p.name == v) := by simp [keyEq, pdRow]
theorem find_pd (v : Name) (m : List Pd) : (m.map pdRow).find? (keyEq (.string (bs v))) = (m.find? (·.name == v)).map pdRow := by
  rw [List.find?_map]
  congr 1
  congr 1
  funext p
  exact keyEq_pd v p
theorem get_pd (v : Name) (m : List Pd) : mapGet (m.map pdRow) (.string (bs v)) [.c (cI .i64 0)] = [.c (cI .i64 ((lookP m v).getD 0))] := by
  unfold mapGet lookP
  rw [find_pd]
  cases m.find? (·.name == v) <;> simp [pdRow]
theorem any_pd (v : Name) (m : List Pd) : (m.map pdRow).any (keyEq (.string (bs v))) = (lookP m v).isSome := by
  unfold lookP
  rw [Option.isSome_map, List.any_map, ← List.isSome_find?]
  have : (keyEq (.string (bs v)) ∘ pdRow) = fun p : Pd => p.name == v := funext fun p => keyEq_pd v p
  rw [this]
theorem put_pd (v : Name) (n : Int) (m : List Pd) (h : lookP m v = none) : mapPut (m.map pdRow) (.string (bs v)) [.c (cI .i64 n)] = m.map pdRow ++ [[.c (cS (bs v)), .c (cI .i64 n)]] := by
  unfold mapPut
  rw [any_pd, h]
  simp

def metOf (m : List Pd) (p : Pd) : List Pd := match lookP m p.name with | some _ => m | none => m ++ [p]
def metOk (m : List Pd) (p : Pd) : Bool := match lookP m p.name with | some k => k == p.n | none => true
theorem goMeet_eq (m : List Pd) (p : Pd) : goMeet m p = if metOk m p then some (metOf m p) else none := by
  unfold goMeet metOk metOf
  cases lookP m p.name with
  | none => simp
  | some k => simp
abbrev OM (k : Nat) (m : List Pd) : List (Nat × Box) := [(k, ⟨0, 2, m.map pdRow, some (.string, true)⟩)]
attribute [simp] OM
theorem midM {U : List (Nat × Tok)} {H : FHp} (m : List Pd) : ∀ p ∈ OM 10040 m, midKey p.1 ∧ ∀ r ∈ p.2.rows, onlyL (fun k => ¬ ownKey k) (fun k => (lookT U k).or (H.toks k) ≠ none) r := by
  intro p hp
  simp only [List.mem_singleton] at hp
  subst hp
  refine ⟨by unfold midKey; omega, fun r hr => ?_⟩
  obtain ⟨q, _, rfl⟩ := List.mem_map.1 hr
  simp [pdRow]
theorem midM2 {O2 : List (Nat × Box)} {U2 : List (Nat × Tok)} {H2 : FHp} (m : List Pd) : ∀ p ∈ OM 10040 m, ∀ r ∈ p.2.rows, onlyL (fun k => ¬ ownKey k ∨ lookO O2 k ≠ none) (fun k => (lookT U2 k).or (H2.toks k) ≠ none) r := by
  intro p hp r hr
  simp only [List.mem_singleton] at hp
  subst hp
  obtain ⟨q, _, rfl⟩ := List.mem_map.1 hr
  simp [pdRow]

theorem m2124 (m : List Pd) (v : Name) (n : Int) : MeetsH Tryz.prog G 124 [.one (.mapr 10040), .one (.c (cS (bs v))), .one (.c (cI .i64 n))] (hp (OM 10040 m) [] F0) (rB (metOk m ⟨v, n⟩)) (hp (OM 10040 (metOf m ⟨v, n⟩)) [] F0) := by
  refine meetsH [] Tryz.func124 ie2124 ig2124 (Nat.le_of_ble_eq_true rfl) (midM m) (by simp) (by simp [ownKey]) (by simp) (by simp) (sameKeys_refl F0) (midM2 _) (by simp) ?_
  have h1 := get_pd v m
  have h2 := any_pd v m
  have h3 := put_pd v n m
  cases h : lookP m v with
  | none =>
    rw [h] at h1 h2
    simp [ic2124, ir2124, h1, h2, h3 h]
    refine ret_st (by simp) ?_ ?_ (by simp) (by simp) (by simp)
    · simp [metOk, h]
    · simp [metOf, h, pdRow]
  | some k =>
    rw [h] at h1 h2
    simp [ic2124, ir2124, h1, h2]
    refine ret_st (by simp) ?_ ?_ (by simp) (by simp) (by simp)
    · simp [metOk, h]
    · simp [metOf, h]

/-- The map behind as many as are met. -/
def metAll (m : List Pd) : List Pd → List Pd
  | [] => m
  | p :: l => if metOk m p then metAll (metOf m p) l else metOf m p
def okAll (m : List Pd) : List Pd → Bool
  | [] => true
  | p :: l => if metOk m p then okAll (metOf m p) l else false
theorem goMeets_eq : ∀ (l m : List Pd), goMeets m l = if okAll m l then some (metAll m l) else none
  | [], m => rfl
  | p :: l, m => by
    rw [goMeets, goMeet_eq, okAll, metAll]
    cases metOk m p with
    | true => simp [goMeets_eq l]
    | false => simp
def isAtom (x : Lit) : Bool := x.kind == 1 || x.kind == 2
def litPd (x : Lit) : Pd := ⟨x.p, x.l.length⟩
def standOf (r : Rule) : List Pd := ⟨r.p, r.head.length⟩ :: (r.body.filter isAtom).map litPd

theorem m2118 (m : List Pd) (p : Name) (vs : List Val) (sp : Sp) : MeetsH Tryz.prog G 118 [.one (.mapr 10040), .agg [.c (cS (bs p)), .c (.sl (vs.map Val.row) sp)]] (hp (OM 10040 m) [] F0) (rB (metOk m ⟨p, vs.length⟩)) (hp (OM 10040 (metOf m ⟨p, vs.length⟩)) [] F0) := by
  refine meetsH [] Tryz.func118 ie2118 ig2118 (Nat.le_of_ble_eq_true rfl) (midM m) (by simp) (by simp [ownKey]) (by simp) (by simp) (sameKeys_refl F0) (midM2 _) (by simp) ?_
  simp [ic2118, ir2118]
  refine r_callW _ _ (OM 10040 m) [] _ (OM 10040 (metOf m ⟨p, vs.length⟩)) [] (MeetsV.of_fun (m2124 m p vs.length)) rfl rfl rfl (by simp [X.fits, A.fits]) (by simp) ?_
  simp
  exact ret_st (by simp) (by simp) (by simp) (by simp) (by simp) (by simp)

theorem m2113 (m : List Pd) (r : Rule) (hs : r.small 1048576) : MeetsH Tryz.prog G 113 [.one (.mapr 10040), .agg (r.row.map A.c)] (hp (OM 10040 m) [] F0) (rB (okAll m (standOf r))) (hp (OM 10040 (metAll m (standOf r))) [] F0) := by
  refine meetsH [] Tryz.func113 ie2113 ig2113 (Nat.le_of_ble_eq_true rfl) (midM m) (by simp) (by simp [ownKey]) (by simp) (by simp) (sameKeys_refl F0) (midM2 _) (by simp) ?_
  have hl := hs.2.1
  simp [ic2113, ir2113]
  refine r_callW _ _ (OM 10040 m) [] _ (OM 10040 (metOf m ⟨r.p, r.head.length⟩)) [] (MeetsV.of_fun (m2124 m r.p r.head.length)) rfl rfl rfl (by simp [X.fits, A.fits]) (by simp) ?_
  simp
  refine condI_of (fun h => ?_) (fun h => ?_)
  · simp at h
    simp
    refine ret_st (by simp) ?_ ?_ (by simp) (by simp) (by simp)
    · simp [standOf, okAll, h]
    · simp [standOf, metAll, h]
  simp at h
  have e1 : okAll m (standOf r) = okAll (metOf m ⟨r.p, r.head.length⟩) ((r.body.filter isAtom).map litPd) := by simp [standOf, okAll, h]
  have e2 : metAll m (standOf r) = metAll (metOf m ⟨r.p, r.head.length⟩) ((r.body.filter isAtom).map litPd) := by simp [standOf, metAll, h]
  rw [e1, e2]
  generalize metOf m ⟨r.p, r.head.length⟩ = m0
  generalize hB : okAll m0 ((r.body.filter isAtom).map litPd) = B
  generalize hM : metAll m0 ((r.body.filter isAtom).map litPd) = M
  simp
  refine w_loopA [] [6] [0, 16, 17, 18] (by simp [ownKey])
    (fun a : Nat × List Pd => st [(0, .k true (.x (.one (.mapr 10040)))), (16, .k true (.x (.one (.c (.sl (r.body.map Lit.row) r.bsp))))), (17, tI .i64 r.body.length), (18, tI .i64 a.1)] ((3, ⟨29, 3, [r.row.map A.c], none⟩) :: OM 10040 a.2) [] F0) (fun a => r.body.length - a.1)
    (fun a => a.1 ≤ r.body.length ∧ B = okAll a.2 (((r.body.drop a.1).filter isAtom).map litPd) ∧ M = metAll a.2 (((r.body.drop a.1).filter isAtom).map litPd)) (0, m0) (by simp [pdRow_strike']) (by simp [hB, hM]) ?_
  rintro ⟨i, f⟩ K hK ⟨hi, h1, h2⟩
  simp only at hi h1 h2
  obtain hlt | hge := Nat.lt_or_ge i r.body.length
  · rw [List.drop_eq_getElem_cons hlt] at h1 h2
    by_cases hk : isAtom r.body[i] = true
    · rw [List.filter_cons_of_pos hk, List.map_cons, okAll] at h1
      rw [List.filter_cons_of_pos hk, List.map_cons, metAll] at h2
      have hm := m2124 (G := G) f r.body[i].p r.body[i].l.length
      have e3 : litPd r.body[i] = ⟨r.body[i].p, r.body[i].l.length⟩ := rfl
      rw [e3] at h1 h2
      have hk' : (r.body[i].kind == 1 || r.body[i].kind == 2) = true := hk
      simp [ic2113l0, hlt, hk']
      refine r_callW _ _ (OM 10040 f) [] _ (OM 10040 (metOf f ⟨r.body[i].p, r.body[i].l.length⟩)) [] (MeetsV.of_fun hm) rfl rfl rfl (by simp [X.fits, A.fits]) (by simp) ?_
      simp
      refine condI_of (fun h => ?_) (fun h => ?_)
      · simp at h
        rw [h] at h1 h2
        simp at h1 h2
        simp
        exact ret_st (by simp) (by simp [h1]) (by simp [h2]) (by simp) (by simp) (by simp)
      · simp at h
        rw [h] at h1 h2
        simp at h1 h2
        simp
        simp (disch := omega) only [wrap64]
        exact hK (i + 1, metOf f ⟨r.body[i].p, r.body[i].l.length⟩) _ (by simp [pdRow_strike']) ⟨by simp; omega, h1, h2⟩ (by simp; omega)
    · rw [List.filter_cons_of_neg hk] at h1 h2
      have hk' : (r.body[i].kind == 1 || r.body[i].kind == 2) = false := by simpa [isAtom] using hk
      simp [ic2113l0, hlt, hk']
      refine r_callVF (rB false) rfl ?_
      simp
      simp (disch := omega) only [wrap64]
      exact hK (i + 1, f) _ (by simp [pdRow_strike']) ⟨by simp; omega, h1, h2⟩ (by simp; omega)
  · rw [List.drop_eq_nil_of_le hge] at h1 h2
    simp [okAll] at h1
    simp [metAll] at h2
    subst h1 h2
    simp [ic2113l0, Nat.not_lt.mpr hge]
    exact ret_st (by simp) (by simp) (by simp) (by simp) (by simp) (by simp)

end Go.Proofs.YtiomojlcnemnhaaGreatDoor

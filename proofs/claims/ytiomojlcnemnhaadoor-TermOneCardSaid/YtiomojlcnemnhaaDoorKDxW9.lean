/- Contracts, on: pairs as a map; a term replaced in its place. -/
import Derived.Test.YtiomojlcnemnhaaDoorKDxW5
import Derived.Test.YtiomojlcnemnhaaDoorKDxU6
import Derived.Test.YtiomojlcnemnhaaDoorKDxIcM
import Derived.Test.YtiomojlcnemnhaaDoorKPedO
namespace Go.Proofs.YtiomojlcnemnhaaDoor
open Go.Fx Go.RowKit Go.Ped
variable {G : World → Prop}

/-- The map of pairs, on. -/
def pairsOn : List Pr → List Pr → List Pr
  | m, [] => m
  | m, p :: l => pairsOn (if nextOf m p.v = none ∧ p.v ≠ [] ∧ p.v ≠ us then m ++ [p] else m) l
abbrev OP (k : Nat) (m : List Pr) : List (Nat × Box) := [(k, ⟨0, 5, m.map nxRow, some (.string, false)⟩)]
attribute [simp] OP
theorem next_keys {m : List Pr} {v : Name} (h : nextOf m v = none) : v ∉ keys m := by
  unfold nextOf at h
  rw [Option.map_eq_none_iff, List.find?_eq_none] at h
  intro hm
  obtain ⟨p, hp, rfl⟩ := List.mem_map.1 hm
  exact h p hp (by simp)

theorem m127 (s : List Pr) (sp : Sp) (hl : s.length ≤ maxLen) : MeetsH Tryd.prog G 127 [.one (.c (.sl (s.map Pr.row) sp))] (hp [] [] F0) (.x (.one (.mapr 8))) (hp (OP 8 (pairsOn [] s)) [] F0) := by
  unfold maxLen at hl
  refine meetsH [] Tryd.func127 ie127 ig127 (Nat.le_of_ble_eq_true rfl) (by simp) (by simp) (by simp) (by simp) (by simp) (sameKeys_refl F0) (by simp [nxRow, Tm.row]) (by simp) ?_
  generalize hR : pairsOn [] s = R
  simp [ic127, ir127]
  refine w_loopA [] [5, 6] [3, 9, 10, 11] (by simp [ownKey])
    (fun z : Nat × List Pr => st [(3, .k true (.x (.one (.mapr 8)))), (9, .k true (.x (.one (.c (.sl (s.map Pr.row) sp))))), (10, tI .i64 s.length), (11, tI .i64 z.1)] [(8, ⟨0, 5, z.2.map nxRow, some (.string, false)⟩)] [] F0) (fun z => s.length - z.1)
    (fun z => z.1 ≤ s.length ∧ R = pairsOn z.2 (s.drop z.1)) (0, []) (by simp) (by simp [hR]) ?_
  rintro ⟨i, m⟩ K hK ⟨hi, hd⟩
  simp only at hi hd
  obtain hlt | hge := Nat.lt_or_ge i s.length
  · have hr : s[i].row = [cS (bs s[i].v), cS (bs s[i].t.v), cI .i8 s[i].t.x.k, cI .i64 s[i].t.x.n, cS (bs s[i].t.x.s)] := rfl
    rw [List.drop_eq_getElem_cons hlt, pairsOn] at hd
    have hput := nx_put s[i].v s[i].t m
    cases hb : nextOf m s[i].v with
    | some y =>
      rw [if_neg (by simp [hb])] at hd
      simp [ic127l0, hlt, hr, nx_get', nx_any', nx_strike', hb]
      simp (disch := omega) only [wrap64]
      exact hK (i + 1, m) _ (by simp [nx_strike']) ⟨by simp only; omega, hd⟩ (by simp only; omega)
    | none =>
      by_cases h0 : s[i].v = []
      · rw [if_neg (by simp [h0])] at hd
        simp [ic127l0, hlt, hr, nx_get', nx_any', nx_strike', hb, h0]
        simp (disch := omega) only [wrap64]
        exact hK (i + 1, m) _ (by simp [nx_strike']) ⟨by simp only; omega, hd⟩ (by simp only; omega)
      by_cases h1 : s[i].v = [95]
      · rw [if_neg (by simp [h1, us])] at hd
        simp [ic127l0, hlt, hr, nx_get', nx_any', nx_strike', hb, h1]
        simp (disch := omega) only [wrap64]
        exact hK (i + 1, m) _ (by simp [nx_strike']) ⟨by simp only; omega, hd⟩ (by simp only; omega)
      · rw [if_pos ⟨hb, h0, h1⟩] at hd
        have hne : s[i].v.isEmpty = false := by simpa using h0
        have hput' : mapPut (m.map nxRow) (.string (bs s[i].v)) [.c (cS (bs s[i].t.v)), .c (cI .i8 s[i].t.x.k), .c (cI .i64 s[i].t.x.n), .c (cS (bs s[i].t.x.s))] = (m ++ [s[i]]).map nxRow := hput (next_keys hb)
        simp [ic127l0, hlt, hr, nx_get', nx_any', nx_strike', hb, h0, h1, hne]
        simp (disch := omega) only [wrap64]
        exact hK (i + 1, m ++ [s[i]]) _ (by simp [nx_strike', nx_strike, hput']) ⟨by simp only; omega, hd⟩ (by simp only; omega)
  · rw [List.drop_eq_nil_of_le hge] at hd
    have hd' : R = m := hd
    subst hd'
    simp [ic127l0, Nat.not_lt.mpr hge]
    exact ret_st (by simp) (by simp) (by simp) (by simp) (by simp) (by simp)

/-- What a term becomes by the map. -/
def putP (m : List Pr) (t : Tm) : Tm := (nextOf m t.v).getD t
abbrev bxT (l : List Tm) : Box := ⟨41, 4, l.map fun t => t.row.map A.c, none⟩
@[simp] theorem strike_tm (ks : List Nat) : (strikeL ks ∘ fun t : Tm => t.row.map A.c) = fun t => t.row.map A.c := funext fun t => strikeL_c ks _
theorem onlyT {p q : Nat → Prop} {l : List Tm} : ∀ r ∈ (bxT l).rows, onlyL p q r := fun r hr => by
  obtain ⟨t, _, rfl⟩ := List.mem_map.1 hr
  exact onlyL_c _
theorem onlyN {p q : Nat → Prop} {m : List Pr} : ∀ r ∈ m.map nxRow, onlyL p q r := fun r hr => by
  obtain ⟨t, _, rfl⟩ := List.mem_map.1 hr
  exact ⟨trivial, onlyL_c _⟩
theorem m128 (m : List Pr) (l : List Tm) (i : Nat) (hi : i < l.length) : MeetsH Tryd.prog G 128 [.one (.mapr 10008), .one (.ref 10016 i 0)] (hp ((10016, bxT l) :: OP 10008 m) [] F0) (.tup []) (hp ((10016, bxT (l.set i (putP m l[i]))) :: OP 10008 m) [] F0) := by
  refine meetsH [] Tryd.func128 ie128 ig128 (Nat.le_of_ble_eq_true rfl) ?_ (by simp) (by simp [ownKey]) (by simp) (by simp) (sameKeys_refl F0) ?_ (by simp) ?_
  · intro z hz
    simp only [OP, List.mem_cons, List.not_mem_nil, or_false] at hz
    rcases hz with rfl | rfl
    · exact ⟨by unfold midKey; omega, onlyT⟩
    · exact ⟨by unfold midKey; omega, onlyN⟩
  · intro z hz
    simp only [OP, List.mem_cons, List.not_mem_nil, or_false] at hz
    rcases hz with rfl | rfl
    · exact onlyT
    · exact onlyN
  have hr : l[i].row = [cS (bs l[i].v), cI .i8 l[i].x.k, cI .i64 l[i].x.n, cS (bs l[i].x.s)] := rfl
  cases hb : nextOf m l[i].v with
  | some y =>
    have hp : putP m l[i] = y := by simp [putP, hb]
    have hn : nxt m l[i].v = y := by simp [nxt, hb]
    simp [ic128, ir128, hi, hr, nx_get', nx_any', nx_strike', hb]
    exact ret_st (by simp) (by simp) (by simp [hp, hn, Tm.row]) (by simp) (by simp) (by simp)
  | none =>
    have hp : putP m l[i] = l[i] := by simp [putP, hb]
    simp [ic128, ir128, hi, hr, nx_get', nx_any', nx_strike', hb]
    exact ret_st (by simp) (by simp) (by simp [hp]) (by simp) (by simp) (by simp)
end Go.Proofs.YtiomojlcnemnhaaDoor

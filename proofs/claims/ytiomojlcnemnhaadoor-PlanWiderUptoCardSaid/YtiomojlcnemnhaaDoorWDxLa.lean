import Derived.Test.YtiomojlcnemnhaaDoorWDxW9
import Derived.Test.YtiomojlcnemnhaaDoorWDxIc5
namespace Go.Proofs.YtiomojlcnemnhaaDoor
open Go.Fx Go.RowKit Go.Ped
variable {G : World → Prop}
abbrev knRow (v : Name) : List A := [.c (cS (bs v))]
abbrev OS (k j : Nat) (body : C) (ns : List Name) : List (Nat × Box) := [(k, ⟨239, 2, [[.c body, .mapr j]], none⟩), (j, ⟨0, 1, ns.map knRow, some (.string, false)⟩)]
attribute [simp] OS
theorem kn_strike (ks : List Nat) (v : Name) : strikeL ks (knRow v) = knRow v := by simp
theorem kn_strike' (ks : List Nat) : strikeL ks ∘ knRow = knRow := funext fun v => kn_strike ks v
theorem kn_ren (f : Nat → Nat) : renL f ∘ knRow = knRow := funext fun v => by simp
theorem kn_key (u v : Name) : keyEq (.string (bs v)) (knRow u) = (u == v) := by simp [keyEq]
theorem kn_any' (v : Name) (ns : List Name) : ns.any (keyEq (.string (bs v)) ∘ knRow) = ns.contains v := by
  rw [List.contains_eq_any_beq]
  congr 1
  funext u
  show keyEq (.string (bs v)) (knRow u) = _
  rw [kn_key, Bool.eq_iff_iff, beq_iff_eq, beq_iff_eq]
  exact eq_comm
theorem kn_any (v : Name) (ns : List Name) : (ns.map knRow).any (keyEq (.string (bs v))) = ns.contains v := by rw [List.any_map, kn_any']
theorem kn_get (v : Name) (ns : List Name) : mapGet (ns.map knRow) (.string (bs v)) [] = [] := by
  unfold mapGet
  split
  · rename_i r h
    obtain ⟨u, _, rfl⟩ := List.mem_map.1 (List.mem_of_find?_eq_some h)
    rfl
  · rfl
def addN (ns : List Name) (v : Name) : List Name := if ns.contains v then ns else ns ++ [v]
theorem kn_put (v : Name) (ns : List Name) : mapPut (ns.map knRow) (.string (bs v)) [] = (addN ns v).map knRow := by
  unfold mapPut addN
  rw [kn_any]
  split
  · rename_i h
    refine List.ext_getElem? fun i => ?_
    rw [List.getElem?_set]
    split
    · rename_i hi
      subst hi
      have hlt : (ns.map knRow).findIdx (keyEq (.string (bs v))) < (ns.map knRow).length := List.findIdx_lt_length_of_exists (by
        rw [← List.any_eq_true]
        rw [kn_any]; exact h)
      have hk := List.findIdx_getElem (w := hlt)
      rw [if_pos hlt, List.getElem?_eq_getElem hlt]
      rw [List.getElem_map] at hk ⊢
      rw [kn_key, beq_iff_eq] at hk
      rw [hk]
    · rfl
  · rw [List.map_append]; rfl
theorem m217 (body : C) (ns : List Name) (v : Name) : MeetsH Tryd.prog G 217 [.one (.ref 10009 0 0), .one (.c (cS (bs v)))] (hp (OS 10009 10007 body ns) [] F0) (rB (ns.contains v)) (hp (OS 10009 10007 body ns) [] F0) := by
  refine meetsH [] Tryd.func217 ie217 ig217 (Nat.le_of_ble_eq_true rfl) (by simp [midKey, ownKey]) (by simp) (by simp [ownKey]) (by simp) (by simp) (sameKeys_refl F0) (by simp) (by simp) ?_
  simp [ic217, ir217, kn_strike', kn_any', kn_get]
  exact ret_st (by simp) (by simp) (by simp) (by simp) (by simp) (by simp)
def learnOn : List Name → List Name → List Name
  | ns, [] => ns
  | ns, v :: l => learnOn (addN ns v) l
theorem m151 (body : C) (ns l : List Name) (sp : Sp) (hl : l.length ≤ maxLen) : MeetsH Tryd.prog G 151 [.one (.ref 10009 0 0), .one (.c (.sl (l.map nmRow) sp))] (hp (OS 10009 10007 body ns) [] F0) (.tup []) (hp (OS 10009 10007 body (learnOn ns l)) [] F0) := by
  unfold maxLen at hl
  refine meetsH [] Tryd.func151 ie151 ig151 (Nat.le_of_ble_eq_true rfl) (by simp [midKey, ownKey]) (by simp) (by simp [ownKey]) (by simp) (by simp) (sameKeys_refl F0) (by simp) (by simp) ?_
  generalize hR : learnOn ns l = R
  simp [ic151, ir151]
  refine w_loopA [] [] [0, 6, 7, 8] (by simp [ownKey])
    (fun z : Nat × List Name => st [(0, .k true (.x (.one (.ref 10009 0 0)))), (6, .k true (.x (.one (.c (.sl (l.map nmRow) sp))))), (7, tI .i64 l.length), (8, tI .i64 z.1)] (OS 10009 10007 body z.2) [] F0) (fun z => l.length - z.1)
    (fun z => z.1 ≤ l.length ∧ R = learnOn z.2 (l.drop z.1)) (0, ns) (by simp) (by simp [hR]) ?_
  rintro ⟨i, m⟩ K hK ⟨hi, hd⟩
  simp only at hi hd
  obtain hlt | hge := Nat.lt_or_ge i l.length
  · rw [List.drop_eq_getElem_cons hlt, learnOn] at hd
    simp [ic151l0, hlt, kn_put]
    simp (disch := omega) only [wrap64]
    exact hK (i + 1, addN m l[i]) _ (by simp [kn_strike']) ⟨by simp only; omega, hd⟩ (by simp only; omega)
  · rw [List.drop_eq_nil_of_le hge, learnOn] at hd
    subst hd
    simp [ic151l0, Nat.not_lt.mpr hge]
    exact ret_st (by simp) (by simp) (by simp) (by simp) (by simp) (by simp)
set_option maxRecDepth 100000 in
theorem m147 (body : List (List C)) (sb : Sp) (l : List Name) (sp : Sp) (hl : l.length ≤ maxLen) : MeetsH Tryd.prog G 147 [.one (.c (.sl body sb)), .one (.c (.sl (l.map nmRow) sp))] (hp [] [] F0) (.x (.one (.ref 9 0 0))) (hp (OS 9 7 (.sl body sb) (learnOn [] l)) [] F0) := by
  have h := (MeetsV.of_fun (m151 (G := G) (.sl body sb) [] l sp hl)).ren (π := nearMid)
  simp [nmF, kn_ren] at h
  generalize learnOn [] l = R at *
  refine meetsH [] Tryd.func147 ie147 ig147 (Nat.le_of_ble_eq_true rfl) (by simp) (by simp) (by simp) (by simp) (by simp) (sameKeys_refl F0) (by simp) (by simp) ?_
  simp [ic147, ir147]
  refine r_callW _ _ [(9, ⟨239, 2, [[.c (.sl body sb), .mapr 7]], none⟩), (7, ⟨0, 1, [], some (.string, false)⟩)] [] _ [(9, ⟨239, 2, [[.c (.sl body sb), .mapr 7]], none⟩), (7, ⟨0, 1, R.map knRow, some (.string, false)⟩)] [] h rfl rfl rfl (by simp [X.fits, A.fits]) (by simp) ?_
  simp
  exact ret_st (by simp) (by simp) (by simp) (by simp) (by simp) (by simp)
end Go.Proofs.YtiomojlcnemnhaaDoor

/- Contracts, on: Apply, of an atom. -/
import Derived.Test.YtiomojlcnemnhaaDoorKDxWb
import Derived.Test.YtiomojlcnemnhaaDoorKDxX13
namespace Go.Proofs.YtiomojlcnemnhaaDoor
open Go.Fx Go.RowKit Go.Ped
variable {G : World → Prop}

theorem closeLL_tm (l : List Tm) : closeLL (l.map fun t => t.row.map A.c) = some (l.map Tm.row) := by
  rw [show (l.map fun t => t.row.map A.c) = (l.map Tm.row).map fun r => r.map A.c by rw [List.map_map]; rfl]
  exact closeLL_c _
theorem nx_ren2 (r : Nat → Nat) : renL r ∘ nxRow = nxRow := funext fun p => by simp [nxRow]
theorem tm_ren (r : Nat → Nat) : (renL r ∘ fun t : Tm => t.row.map A.c) = fun t => t.row.map A.c := funext fun t => renL_c r _
theorem v126 (p : Name) (l : List Tm) (m : List Pr) (hl : l.length ≤ maxLen) : MeetsV Tryd.prog G (fnA 126) [.one (.ifc 169 (.ref 3 0 0)), .one (.clo 128 [.mapr 8] [])] (hp (OW 3 1 8 p l.length l m) [] F0) (.tup []) (hp (OW 3 1 8 p l.length (l.map (putP m)) m) [] F0) := by
  have h0 := MeetsV.of_fun (w126 (G := G) p l m hl)
  generalize l.map (putP m) = l2 at h0 ⊢
  have h := ((h0.ren (π := swR 10003 3)).ren (π := swR 10016 1)).ren (π := swR 10008 8)
  simp [swF, nx_ren2, tm_ren] at h
  simpa using h
theorem w126e (p : Name) (m : List Pr) (sp : Sp) : MeetsH Tryd.prog G 126 [.one (.ifc 169 (.ref 10003 0 0)), .one (.clo 128 [.mapr 10008] [])] (hp [(10003, ⟨24, 2, [[.c (cS (bs p)), .c (.sl [] sp)]], none⟩), (10008, ⟨0, 5, m.map nxRow, some (.string, false)⟩)] [] F0) (.tup []) (hp [(10003, ⟨24, 2, [[.c (cS (bs p)), .c (.sl [] sp)]], none⟩), (10008, ⟨0, 5, m.map nxRow, some (.string, false)⟩)] [] F0) := by
  refine meetsH [] Tryd.func126 ie126 ig126 (Nat.le_of_ble_eq_true rfl) ?_ (by simp) (by simp [ownKey]) (by simp) (by simp) (sameKeys_refl F0) ?_ (by simp) ?_
  · intro z hz
    simp only [List.mem_cons, List.not_mem_nil, or_false] at hz
    rcases hz with rfl | rfl
    · simp [midKey]
    · exact ⟨by unfold midKey; omega, onlyN⟩
  · intro z hz
    simp only [List.mem_cons, List.not_mem_nil, or_false] at hz
    rcases hz with rfl | rfl
    · simp
    · exact onlyN
  simp [ic126, ir126, nx_strike']
  refine w_loopA [] [] [106, 107] (by simp)
    (fun _ : Unit => st [(106, tI .i64 0), (107, tI .i64 0)] [(10003, ⟨24, 2, [[.c (cS (bs p)), .c (.sl [] sp)]], none⟩), (10008, ⟨0, 5, m.map nxRow, some (.string, false)⟩)] [] F0) (fun _ => 0)
    (fun _ => True) () (by simp; try rfl) trivial ?_
  rintro ⟨⟩ K hK -
  simp [ic126l3]
  exact ret_st (by simp) (by simp) (by simp) (by simp) (by simp) (by simp)
theorem v126e (p : Name) (m : List Pr) (sp : Sp) : MeetsV Tryd.prog G (fnA 126) [.one (.ifc 169 (.ref 3 0 0)), .one (.clo 128 [.mapr 8] [])] (hp [(3, ⟨24, 2, [[.c (cS (bs p)), .c (.sl [] sp)]], none⟩), (8, ⟨0, 5, m.map nxRow, some (.string, false)⟩)] [] F0) (.tup []) (hp [(3, ⟨24, 2, [[.c (cS (bs p)), .c (.sl [] sp)]], none⟩), (8, ⟨0, 5, m.map nxRow, some (.string, false)⟩)] [] F0) := by
  have h := ((MeetsV.of_fun (w126e (G := G) p m sp)).ren (π := swR 10003 3)).ren (π := swR 10008 8)
  simp [swF, nx_ren2] at h
  simpa using h

theorem m54 (s : List Pr) (ss : Sp) (p : Name) (ts : List Tm) (sp : Sp) (hs : s.length ≤ maxLen) (ht : ts.length ≤ 1048576) :
    Meets Tryd.prog G 54 [.one (.sl (s.map Pr.row) ss), .agg [cS (bs p), .sl (ts.map Tm.row) sp]] (.x (.agg [cS (bs p), .sl ((ts.map (putP (pairsOn [] s))).map Tm.row) []])) := by
  have h127 := m127 (G := G) s ss hs
  generalize pairsOn [] s = m at *
  refine meetsF [1] Tryd.func54 ie54 ig54 (Nat.le_of_ble_eq_true rfl) ?_
  simp [ic54, ir54]
  by_cases hne : ts = []
  · subst hne
    simp
    refine r_callW _ _ [] [] _ [] [] (plainV (m125 sp) F0) rfl rfl rfl (by simp [CX.open]) (by simp) ?_
    simp [CR.open, CX.open]
    refine r_callW _ _ [] [] _ (OP 8 m) [] (MeetsV.of_fun h127) rfl rfl rfl (by simp) (by simp) ?_
    simp
    refine r_callW _ _ [(3, ⟨24, 2, [[.c (cS (bs p)), .c (.sl [] [])]], none⟩), (8, ⟨0, 5, m.map nxRow, some (.string, false)⟩)] [] _ [(3, ⟨24, 2, [[.c (cS (bs p)), .c (.sl [] [])]], none⟩), (8, ⟨0, 5, m.map nxRow, some (.string, false)⟩)] [] (v126e p m []) rfl rfl rfl (by simp [X.fits, A.fits]) (by simp) ?_
    simp [freeze_st, fzL, freezeO, maxLen, closeL, A.close]
  · refine r_callW _ _ [] [] _ [(1, bxT ts)] [] (MeetsV.of_fun (w125 ts sp hne ht)) rfl rfl rfl (by simp) (by simp) ?_
    simp
    refine r_callW _ _ [] [] _ (OP 8 m) [] (MeetsV.of_fun h127) rfl rfl rfl (by simp) (by simp) ?_
    simp
    refine r_callW _ _ (OW 3 1 8 p ts.length ts m) [] _ (OW 3 1 8 p ts.length (ts.map (putP m)) m) [] (v126 p ts m (by unfold maxLen; omega)) rfl rfl rfl (by simp [X.fits, A.fits]) (by simp) ?_
    have hml : ts.length ≤ 9223372036854775807 := by omega
    have hcl := closeLL_tm (ts.map (putP m))
    have htk : List.take ts.length (List.map (Tm.row ∘ putP m) ts) = List.map (Tm.row ∘ putP m) ts := List.take_of_length_le (by simp)
    rw [List.map_map] at hcl
    simp [freeze_st, fzL, freezeO, maxLen, A.close, hcl, hml, htk]
end Go.Proofs.YtiomojlcnemnhaaDoor

import Derived.Test.YtiomojlcnemnhaaDoorKDxX2
import Derived.Test.YtiomojlcnemnhaaDoorKFxSe
/- Contracts, on: copies of expressions. -/
namespace Go.Proofs.YtiomojlcnemnhaaDoor
open Go.Fx Go.RowKit Go.Ped

/-- The mark behind a list of expressions. -/
def markE : List C := [cI .i8 99, cS (bs (markW 777777)), cI .i8 0, cI .i64 0, cS (bs []), .sl [] []]

theorem m189 : Meets Tryd.prog GT 189 [.one (cI .i64 777777)] (.x (.agg markE)) := by
  refine meets Tryd.func189 ie189 ig189 (Nat.le_of_ble_eq_true rfl) ?_
  simp [ic189, ir189]
  refine r_call 172 true _ _ (m172 777777 (by omega) (by omega) itoa777) rfl rfl rfl rfl ?_
  simp [markE]

theorem m142 (kids : List Ex) (sp : List (List C)) (hl : kids.length ≤ 1048576) (he : ∀ k ∈ kids, Meets Tryd.prog GT 74 [.agg k.row] (.x (.agg (k.twin markE).row))) :
    Meets Tryd.prog GT 142 [.one (.sl (kids.map Ex.row) sp)] (.x (.one (.sl (kids.map fun k => (k.twin markE).row) [markE]))) :=
  twF_gen Ex.row (fun k => (k.twin markE).row) (fun x => Ex.row_length x) (fun x => Ex.row_length _) rfl Tryd.func142 ie142 ig142 (Nat.le_of_ble_eq_true rfl) rfl (by omega) m189 kids sp hl he

theorem m74 : ∀ e : Ex, e.small 1048576 → Meets Tryd.prog GT 74 [.agg e.row] (.x (.agg (e.twin markE).row)) := by
  refine Ex.ind fun op t kids sp ih hs => ?_
  obtain ⟨hl, hk⟩ := Ex.small_mk.1 hs
  have h := m142 kids sp hl (fun k hk' => ih k hk' (hk k hk'))
  refine meets Tryd.func74 ie74 ig74 (Nat.le_of_ble_eq_true rfl) ?_
  rw [Ex.twin_mk, Ex.row_mk, Ex.row_mk]
  simp [ic74, ir74]
  refine r_call 142 true _ _ h rfl rfl rfl rfl ?_
  simp
end Go.Proofs.YtiomojlcnemnhaaDoor

/- Contracts, on: copies of expressions, looked at again. -/
namespace Go.Proofs.YtiomojlcnemnhaaDoor
open Go.Fx Go.RowKit Go.Ped

theorem m190 : Meets Tryd.prog GT 190 [.agg markE, .one (cI .i64 777777)] (.x (.one (cB true))) := by
  refine meets Tryd.func190 ie190 ig190 (Nat.le_of_ble_eq_true rfl) ?_
  simp [ic190, ir190, markE]
  refine r_call 172 true _ _ (m172 777777 (by omega) (by omega) itoa777) rfl rfl rfl rfl ?_
  simp

theorem m144 (kids : List Ex) (sp : List (List C)) (hl : kids.length ≤ 1048576) (he : ∀ k ∈ kids, Meets Tryd.prog GT 76 [.agg (k.twin markE).row, .agg k.row] (.x (.one (cB true)))) :
    Meets Tryd.prog GT 144 [.one (.sl (kids.map fun k => (k.twin markE).row) [markE]), .one (.sl (kids.map Ex.row) sp)] (.x (.one (cB true))) := by
  refine meets Tryd.func144 ie144 ig144 (Nat.le_of_ble_eq_true rfl) ?_
  simp [ic144, ir144]
  refine w_loopK (fun n σ => ∃ (i : Nat) (t10 t14 t26 : T), i + n = kids.length ∧ σ = ks144 (.k true (.x (.one (.c (.sl (kids.map fun k => (k.twin markE).row) [markE]))))) (.k true (.x (.one (.c (.sl (kids.map Ex.row) sp))))) t10 (tI .i64 i) t14 t26 (tB false) [] [] F0)
    kids.length ⟨0, _, _, _, by simp, rfl⟩ ?_
  rintro n σ1 K hK ⟨i, t10, t14, t26, hi, rfl⟩
  have hw1 : IntKind.i64.wrap ((kids.length : Int) + 1) = (kids.length : Int) + 1 := by rw [Go.IntWalk.i64_in _ (by omega)]
  obtain hlt | hge := Nat.lt_or_ge i kids.length
  · have hI : ∀ t10 t14 t26, K (ks144 (.k true (.x (.one (.c (.sl (kids.map fun k => (k.twin markE).row) [markE]))))) (.k true (.x (.one (.c (.sl (kids.map Ex.row) sp))))) t10 (tI .i64 (i + 1)) t14 t26 (tB false) [] [] F0) :=
      fun t10 t14 t26 => hK _ (n - 1) (by omega) ⟨i + 1, t10, t14, t26, by omega, rfl⟩
    clear hK
    have hm := he kids[i] (List.getElem_mem hlt)
    have k1 : (kids[i].row.map A.c).take 6 = kids[i].row.map A.c := List.take_of_length_le (by simp)
    have k2 : ((kids[i].twin markE).row.map A.c).take 6 = (kids[i].twin markE).row.map A.c := List.take_of_length_le (by simp)
    simp [ic144l0, hlt, k1, k2]
    refine r_call 76 true _ _ hm rfl rfl rfl (by simp [closeArgs, X.close, closeL_c]) ?_
    simp [wrap_next hlt (by omega)]
    exact hI _ _ _
  · simp [ic144l0, Nat.not_lt.mpr hge, hw1]
    refine ⟨⟨by omega, ?_⟩, ⟨by omega, rfl⟩, Nat.le_refl 6, ?_⟩
    · rintro e (⟨a, _, rfl⟩ | rfl)
      · exact Ex.row_length _
      · rfl
    refine r_call 190 true _ _ m190 rfl rfl rfl rfl ?_
    simp

set_option maxHeartbeats 4000000 in
theorem m76 : ∀ e : Ex, e.small 1048576 → Meets Tryd.prog GT 76 [.agg (e.twin markE).row, .agg e.row] (.x (.one (cB true))) := by
  refine Ex.ind fun op t kids sp ih hs => ?_
  obtain ⟨hl, hk⟩ := Ex.small_mk.1 hs
  have h := m144 kids sp hl (fun k hk' => ih k hk' (hk k hk'))
  refine meets Tryd.func76 ie76 ig76 (Nat.le_of_ble_eq_true rfl) ?_
  rw [Ex.twin_mk, Ex.row_mk, Ex.row_mk]
  have e : (kids.map (Ex.twin markE)).map Ex.row = kids.map fun k => (k.twin markE).row := by rw [List.map_map]; rfl
  rw [e]
  generalize (kids.map fun k => (k.twin markE).row) = rs at *
  simp (config := { maxSteps := 4000000 }) [ic76, ir76]
  refine r_call 144 true _ _ h rfl rfl rfl rfl ?_
  simp
end Go.Proofs.YtiomojlcnemnhaaDoor

/- Contracts, on: copies of literals. -/
namespace Go.Proofs.YtiomojlcnemnhaaDoor
open Go.Fx Go.RowKit Go.Ped

end Go.Proofs.YtiomojlcnemnhaaDoor

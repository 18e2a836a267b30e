import Derived.Test.YtiomojlcnemnhaaDoorMDxM3
import Derived.Test.YtiomojlcnemnhaaDoorMDxItoa
import Derived.Test.YtiomojlcnemnhaaDoorMFxSc
/- Contracts, on: the marks. -/
namespace Go.Proofs.YtiomojlcnemnhaaDoor
open Go.Fx Go.RowKit
variable {G : World → Prop}
end Go.Proofs.YtiomojlcnemnhaaDoor

/- Contracts, on: copies of lists of terms, values, binds, and looking at them again. -/
namespace Go.Proofs.YtiomojlcnemnhaaDoor
open Go.Fx Go.RowKit Go.Ped
variable {G : World → Prop}

end Go.Proofs.YtiomojlcnemnhaaDoor

/- Contracts, on: the document's atoms, variables, and what is bound. -/
namespace Go.Proofs.YtiomojlcnemnhaaDoor
open Go.Fx Go.RowKit Go.Ped
variable {G : World → Prop}

theorem m91 (p : Name) (l : List Tm) (sp : List (List C)) :
    Meets Tryd.prog G 91 [.agg [cS (bs p), .sl (l.map Tm.row) sp]] (.x (.one (cB (atomOk p l)))) := by
  refine meets Tryd.func91 ie91 ig91 (Nat.le_of_ble_eq_true rfl) ?_
  simp [ic91, ir91]
  refine r_call 156 true _ _ (m156 _) rfl rfl rfl rfl ?_
  simp
  refine ⟨fun h => by simp [atomOk, h], fun h1 => ⟨fun h => ?_, fun h2 => ?_⟩⟩
  · have : ¬ l.length ≤ 24 := by omega
    simp [atomOk, this]
  refine w_loopK (fun n σ => ∃ (i : Nat) (t13 t18 t27 : T), i + n = l.length ∧ (l.all Tm.ok = (l.drop i).all Tm.ok) ∧ σ = ks91 (.k true (.x (.agg [.c (cS (bs p)), .c (.sl (l.map Tm.row) sp)]))) (.k true (.x (.one (.ref 1 0 0)))) t13 (tI .i64 i) t18 t27 (tB false) [(1, ⟨24, 2, [[.c (cS (bs p)), .c (.sl (l.map Tm.row) sp)]], none⟩)] [] F0)
    l.length ⟨0, _, _, _, by simp, by simp, rfl⟩ ?_
  rintro n σ1 K hK ⟨i, t13, t18, t27, hi, hd, rfl⟩
  have hat : atomOk p l = l.all Tm.ok := by simp only [atomOk, h1, Bool.true_and, decide_eq_true (show l.length ≤ 24 by omega)]
  obtain hlt | hge := Nat.lt_or_ge i l.length
  · obtain ⟨c, hc, hdr⟩ := at_list hlt
    obtain ⟨_, rfl⟩ := List.getElem?_eq_some_iff.1 hc
    rw [hdr] at hd
    have hI : ∀ t13 t18 t27, l.all Tm.ok = (l.drop (i + 1)).all Tm.ok → K (ks91 (.k true (.x (.agg [.c (cS (bs p)), .c (.sl (l.map Tm.row) sp)]))) (.k true (.x (.one (.ref 1 0 0)))) t13 (tI .i64 (i + 1)) t18 t27 (tB false) [(1, ⟨24, 2, [[.c (cS (bs p)), .c (.sl (l.map Tm.row) sp)]], none⟩)] [] F0) :=
      fun t13 t18 t27 h => hK _ (n - 1) (by omega) ⟨i + 1, t13, t18, t27, by omega, h, rfl⟩
    clear hK
    simp only [List.all_cons] at hd
    simp [ic91l0, hlt, Tm.row_length]
    refine r_call 157 true _ _ (m157 l[i].v l[i].x.k l[i].x.n l[i].x.s) rfl rfl rfl rfl ?_
    simp [wrap_next hlt (by omega)]
    have hok : termOk l[i].v l[i].x.k l[i].x.n l[i].x.s = l[i].ok := rfl
    rw [hok, hat]
    refine ⟨fun h => ?_, fun h => ?_⟩
    · rw [hd, h]; rfl
    · rw [h, Bool.true_and] at hd
      exact hI _ _ _ hd
  · simp [ic91l0, Nat.not_lt.mpr hge]
    rw [hat, hd, List.drop_eq_nil_of_le hge]; rfl

abbrev nmRow (v : Name) : List C := [cS (bs v)]

end Go.Proofs.YtiomojlcnemnhaaDoor

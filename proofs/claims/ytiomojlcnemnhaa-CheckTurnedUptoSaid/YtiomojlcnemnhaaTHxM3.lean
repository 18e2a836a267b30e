/- Contracts, on: lists of terms, atoms. -/
import Derived.Test.YtiomojlcnemnhaaTPedB
namespace Go.Proofs.Ytiomojlcnemnhaa
open Go.Fx Go.RowKit Go.Ped
variable {G : World → Prop}

def _root_.Go.Ped.Val.row (x : Val) : List C := [cI .i8 x.k, cI .i64 x.n, cS (bs x.s)]
def _root_.Go.Ped.Tm.row (t : Tm) : List C := [cS (bs t.v), cI .i8 t.x.k, cI .i64 t.x.n, cS (bs t.x.s)]
def _root_.Go.Ped.Tm.ok (t : Tm) : Bool := termOk t.v t.x.k t.x.n t.x.s
def _root_.Go.Ped.Val.ok (x : Val) : Bool := valOk x.k x.n x.s
def idxOr {α : Type} (p : α → Bool) : Nat → List α → Int
  | _, [] => -1
  | i, t :: l => if p t then i else idxOr p (i + 1) l

theorem idxOr_nonneg {α : Type} (p : α → Bool) : ∀ (l : List α) (i : Nat), (0 ≤ idxOr p i l ↔ l.any p = true)
  | [], i => by simp [idxOr]
  | t :: l, i => by
    unfold idxOr
    by_cases h : p t = true
    · simp [h]
    · simp [h, idxOr_nonneg p l (i + 1)]

theorem m169 {H : FHp} {fv : A} (hfv : fv.only farKey (fun k => H.toks k ≠ none)) (p : List C → Bool) (l sp : List (List C)) (hl : l.length ≤ maxLen) (hs : ∀ r ∈ l, r.length = 4)
    (hf : ∀ r ∈ l, MeetsV Try.prog G fv [.agg (r.map A.c)] (hp [] [] H) (rB (p r)) (hp [] [] H)) :
    MeetsH Try.prog G 121 [.one (.c (.sl l sp)), .one fv] (hp [] [] H) (rI .i64 (idxOr p 0 l)) (hp [] [] H) := by
  refine meetsH [] Try.func121 ie169 ig169 (Nat.le_of_ble_eq_true rfl) (by simp) (by simp) ?_ (by simp) (by simp) (sameKeys_refl H) (by simp) (by simp) ?_
  · simp
    exact A.only_mono (fun _ => far_not_own) (fun _ h => h) hfv
  simp [ic169, ir169]
  refine w_loopK (fun n σ => ∃ (i : Nat) (t9 t5 t16 : T), i + n = l.length ∧ idxOr p 0 l = idxOr p i (l.drop i) ∧ σ = ks169 (.k true (.x (.one (.c (.sl l sp))))) (tI .i64 i) (tI .i64 l.length) t9 (.k true (.x (.one fv))) t5 t16 (tI .i64 0) [] [] H)
    l.length ⟨0, _, _, _, by simp, by simp, rfl⟩ ?_
  rintro n σ1 K hK ⟨i, t9, t5, t16, hi, hd, rfl⟩
  obtain hn | hn := Nat.lt_or_ge i l.length
  · obtain ⟨c, hc, hdr⟩ := at_list hn
    rw [hdr] at hd
    have hI : ∀ t9 t5 t16, idxOr p 0 l = idxOr p (i + 1) (l.drop (i + 1)) → K (ks169 (.k true (.x (.one (.c (.sl l sp))))) (tI .i64 (i + 1)) (tI .i64 l.length) t9 (.k true (.x (.one fv))) t5 t16 (tI .i64 0) [] [] H) :=
      fun t9 t5 t16 h => hK _ (n - 1) (by omega) ⟨i + 1, t9, t5, t16, by omega, h, rfl⟩
    clear hK
    obtain ⟨_, rfl⟩ := List.getElem?_eq_some_iff.1 hc
    have h4 := hs l[i] (List.getElem_mem hn)
    have htk : (l[i].map A.c).take 4 = l[i].map A.c := List.take_of_length_le (by simp [h4])
    simp [ic169l0, hn, h4]
    refine r_call0 (hf l[i] (List.getElem_mem hn)) rfl rfl rfl (by simp [htk]) (by simp) (by simp) ?_
    simp [wrap_next hn (by unfold maxLen at hl; omega)]
    rw [show ∀ t r, idxOr p i (t :: r) = if p t then (i : Int) else idxOr p (i + 1) r from fun _ _ => rfl] at hd
    refine ⟨fun h => ?_, fun h => ?_⟩
    · rw [if_pos h] at hd
      rw [hd]
      exact ret_st (by simp) (by simp) (by simp) (by simp) (by simp) (by simp)
    · rw [if_neg (by simp [h])] at hd; exact hI _ _ _ hd
  · simp [ic169l0, Nat.not_lt.mpr hn]
    rw [hd, List.drop_eq_nil_of_le hn]
    exact ret_st (by simp) (by simp [idxOr]) (by simp) (by simp) (by simp) (by simp)

theorem m115 {H : FHp} {fv : A} (hfv : fv.only farKey (fun k => H.toks k ≠ none)) (p : List C → Bool) (l sp : List (List C)) (hl : l.length ≤ maxLen) (hs : ∀ r ∈ l, r.length = 4)
    (hf : ∀ r ∈ l, MeetsV Try.prog G fv [.agg (r.map A.c)] (hp [] [] H) (rB (p r)) (hp [] [] H)) :
    MeetsH Try.prog G 86 [.one (.c (.sl l sp)), .one fv] (hp [] [] H) (rB (l.any p)) (hp [] [] H) := by
  refine meetsH [] Try.func86 ie115 ig115 (Nat.le_of_ble_eq_true rfl) (by simp) (by simp) ?_ (by simp) (by simp) (sameKeys_refl H) (by simp) (by simp) ?_
  · simp
    exact A.only_mono (fun _ => far_not_own) (fun _ h => h) hfv
  simp [ic115, ir115]
  refine r_call0 (MeetsV.of_fun (m169 hfv p l sp hl hs hf)) rfl rfl rfl (by simp) (by simp) (by simp) ?_
  simp
  refine ret_st (by simp) ?_ (by simp) (by simp) (by simp) (by simp)
  have := idxOr_nonneg p l 0
  simp
  rw [show (l.any p) = decide (0 ≤ idxOr p 0 l) from by rw [Bool.eq_iff_iff, decide_eq_true_iff, this]]
  exact X.fits_refl _

/-- Is it an atom as it may be? -/
def atomOk (p : List UInt8) (l : List Tm) : Bool := nameOk p && decide (l.length ≤ 24) && l.all Tm.ok

/-- A row, read back. -/
def _root_.Go.Ped.Tm.of : List C → Tm
  | [.v (.string a), .v (.int _ k), .v (.int _ n), .v (.string b)] => ⟨a.data.toList, ⟨k, n, b.data.toList⟩⟩
  | _ => ⟨[], ⟨0, 0, []⟩⟩
@[simp] theorem _root_.Go.Ped.Tm.of_row (t : Tm) : Tm.of t.row = t := by simp [Tm.row, Tm.of]
@[simp] theorem _root_.Go.Ped.Tm.row_length (t : Tm) : t.row.length = 4 := rfl

/-- A plain function handed to ContainsFunc. -/
theorem any_term {f : FuncId} {p : Tm → Bool} (hf : ∀ t, Meets Try.prog G f [.agg t.row] (.x (.one (cB (p t))))) (l : List Tm) (sp : List (List C)) (hl : l.length ≤ maxLen) :
    MeetsV Try.prog G (fnA 86) [.one (.c (.sl (l.map Tm.row) sp)), .one (fnA f)] (hp [] [] F0) (rB (l.any p)) (hp [] [] F0) := by
  have h := m115 (G := G) (H := F0) (fv := fnA f) trivial (fun r => p (Tm.of r)) (l.map Tm.row) sp (by simpa using hl) (by simp) (fun r hr => by
    obtain ⟨t, _, rfl⟩ := List.mem_map.1 hr
    simpa [CX.open, CR.open] using plainV (hf t) F0)
  have e : (l.map Tm.row).any (fun r => p (Tm.of r)) = l.any p := by simp [List.any_map, Function.comp_def]
  rw [e] at h
  exact MeetsV.of_fun h

theorem m44 (p : List UInt8) (l : List Tm) (sp : List (List C)) (hl : l.length ≤ maxLen) :
    Meets Try.prog G 37 [.agg [cS (bs p), .sl (l.map Tm.row) sp]] (.x (.one (cI .i64 (if atomOk p l then 0 else 40)))) := by
  refine meets Try.func37 ie44 ig44 (Nat.le_of_ble_eq_true rfl) ?_
  have h116 : ∀ t : Tm, Meets Try.prog G 87 [.agg t.row] (.x (.one (cB (!t.ok)))) := fun t => m116 t.v t.x.k t.x.n t.x.s
  have hany : (l.any fun t => !t.ok) = !l.all Tm.ok := by simp [List.any_eq_not_all_not]
  simp [ic44, ir44]
  repeat' (first
    | apply And.intro
    | intro _
    | (refine r_callF (.x (.one (cB false))) rfl ?_; try simp)
    | (refine r_callVF (rB false) rfl ?_; try simp)
    | (refine r_call 85 true _ _ (m114 _) rfl rfl rfl rfl ?_; try simp)
    | (refine r_call0 (any_term h116 l sp hl) rfl rfl rfl (by simp) (by simp) (by simp) ?_; try simp)
    | (refine r_call 40 true _ _ (m113 _) rfl rfl rfl rfl ?_; try simp))
  all_goals grind [atomOk]
end Go.Proofs.Ytiomojlcnemnhaa

import Derived.Test.YtiomojlcnemnhaaDoorKDxM3
import Derived.Test.YtiomojlcnemnhaaDoorKDxItoa
import Derived.Test.YtiomojlcnemnhaaDoorKFxSb
import Derived.Test.YtiomojlcnemnhaaDoorKFxSd
/- Contracts, on: the marks. -/
namespace Go.Proofs.YtiomojlcnemnhaaDoor
open Go.Fx Go.RowKit
variable {G : World → Prop}
abbrev GT : World → Prop := tab10 Tryd.prog

/-- The mark's word: # and the number. -/
def markW (n : Int) : List UInt8 := 35 :: Lib.itoa n

theorem m172 (n : Int) (h0 : -9223372036854775808 ≤ n) (h1 : n ≤ 9223372036854775807) (hl : (Lib.itoa n).length ≤ 100) : Meets Tryd.prog GT 172 [.one (cI .i64 n)] (.x (.one (cS (bs (markW n))))) := by
  refine meets Tryd.func172 ie172 ig172 (Nat.le_of_ble_eq_true rfl) ?_
  simp [ic172, ir172]
  refine r_call 207 true _ _ (m207 n h0 h1) rfl rfl rfl rfl ?_
  simp [markW]
  omega
end Go.Proofs.YtiomojlcnemnhaaDoor

/- Contracts, on: copies of lists of terms, values, binds, and looking at them again. -/
namespace Go.Proofs.YtiomojlcnemnhaaDoor
open Go.Fx Go.RowKit Go.Ped
variable {G : World → Prop}

theorem itoa777 : (Lib.itoa 777777).length ≤ 100 := by decide +kernel
def markT : Tm := ⟨markW 777777, zeroV⟩
def encT : Enc Tm 4 [.s, .i .i8, .i .i64, .s] where
  row := Tm.row
  len := fun _ => rfl
  eq := fun x y _ => by
    obtain ⟨a, k, n, s⟩ := x
    obtain ⟨b, l, m, t⟩ := y
    simp [Tm.row]
    rw [Bool.eq_iff_iff]
    simp
theorem m39 (l m : List Tm) (sp sq : List (List C)) (hl : l.length ≤ maxLen) : Meets Tryd.prog G 39 [.one (.sl (l.map Tm.row) sp), .one (.sl (m.map Tm.row) sq)] (.x (.one (cB (decide (l = m))))) :=
  same_gen encT Tryd.func39 ie39 ig39 (Nat.le_of_ble_eq_true rfl) l m sp sq hl
end Go.Proofs.YtiomojlcnemnhaaDoor

/- Contracts, on: the document's atoms, variables, and what is bound. -/
namespace Go.Proofs.YtiomojlcnemnhaaDoor
open Go.Fx Go.RowKit Go.Ped
variable {G : World → Prop}

abbrev nmRow (v : Name) : List C := [cS (bs v)]

/-- What binds say of a term: its value, and whether it is one. -/
def boundOf (out : List Tm) (t : Tm) : Val × Bool :=
  if t.v = [] then (t.x, true) else match out.find? (·.v == t.v) with | some p => (p.x, p.x.ok) | none => (zeroV, false)

theorem m107 (out : List Tm) (sp : List (List C)) (t : Tm) (hl : out.length ≤ maxLen) :
    Meets Tryd.prog G 107 [.one (.sl (out.map Tm.row) sp), .agg t.row] (.tup [.agg (boundOf out t).1.row, .one (cB (boundOf out t).2)]) := by
  refine meets Tryd.func107 ie107 ig107 (Nat.le_of_ble_eq_true rfl) ?_
  obtain ⟨v, x⟩ := t
  by_cases h0 : v = []
  · simp [ic107, ir107, Tm.row, boundOf, h0, Val.row]
  simp [ic107, ir107, Tm.row, h0]
  let k : T → T → T → T → S := fun t9 t6 t15 t25 => ks107 (.k true (.x (.agg [.c (cS (bs v)), .c (cI .i8 x.k), .c (cI .i64 x.n), .c (cS (bs x.s))]))) (.k true (.x (.one (.ref 3 0 0)))) t9 (.k true (.x (.one (.ref 4 0 0)))) t6 (.k true (.x (.one (.c (.sl (out.map Tm.row) sp))))) t15 t25 (tB false)
    [(4, ⟨39, 3, [[.c (cI .i8 0), .c (cI .i64 0), .c (cS (bs []))]], none⟩), (3, ⟨41, 4, [[.c (cS (bs v)), .c (cI .i8 x.k), .c (cI .i64 x.n), .c (cS (bs x.s))]], none⟩)] [] F0
  refine w_loopK (fun n σ => ∃ (i : Nat) (t9 t15 t25 : T), i + n = out.length ∧ out.find? (·.v == v) = (out.drop i).find? (·.v == v) ∧ σ = k t9 (tI .i64 i) t15 t25)
    out.length ⟨0, _, _, _, by simp, by simp, rfl⟩ ?_
  rintro n σ1 K hK ⟨i, t9, t15, t25, hi, hd, rfl⟩
  obtain hlt | hge := Nat.lt_or_ge i out.length
  · obtain ⟨c, hc, hdr⟩ := at_list hlt
    obtain ⟨_, rfl⟩ := List.getElem?_eq_some_iff.1 hc
    rw [hdr] at hd
    have hI : ∀ t9 t15 t25, out.find? (·.v == v) = (out.drop (i + 1)).find? (·.v == v) → K (k t9 (tI .i64 (i + 1)) t15 t25) :=
      fun t9 t15 t25 h1 => hK _ (n - 1) (by omega) ⟨i + 1, t9, t15, t25, by omega, h1, rfl⟩
    clear hK
    simp only [List.find?_cons] at hd
    generalize hp : out[i] = p at *
    obtain ⟨pv, px⟩ := p
    simp only [k] at hI ⊢
    simp [ic107l0, hlt, hp, Tm.row]
    refine ⟨fun h => ?_, fun h => ?_⟩
    · refine r_call 29 true _ _ (m29 px.k px.n px.s) rfl rfl rfl rfl ?_
      have hb : boundOf out ⟨v, x⟩ = (px, px.ok) := by simp [boundOf, h0, hd, h]
      simp [hb, Val.row, Val.ok]
      cases valOk px.k px.n px.s <;> rfl
    · simp [wrap_next hlt (by unfold maxLen at hl; omega)]
      have h2 : (pv == v) = false := by simpa using h
      exact hI _ _ _ (by rw [hd]; simp only [h2])
  · have hb : boundOf out ⟨v, x⟩ = (zeroV, false) := by rw [List.drop_eq_nil_of_le hge] at hd; simp [boundOf, h0, hd]
    simp only [k]
    simp [ic107l0, Nat.not_lt.mpr hge, hb, zeroV, Val.row]
end Go.Proofs.YtiomojlcnemnhaaDoor

/- Contracts, on: the document's matching. -/
namespace Go.Proofs.YtiomojlcnemnhaaDoor
open Go.Fx Go.RowKit Go.Ped
variable {G : World → Prop}

end Go.Proofs.YtiomojlcnemnhaaDoor

/- Contracts, on: the program's matching. -/
namespace Go.Proofs.YtiomojlcnemnhaaDoor
open Go.Fx Go.RowKit Go.Ped
variable {G : World → Prop}

/-- A bind as the program's map keeps it. -/
def mpRow (t : Tm) : List A := .c (cS (bs t.v)) :: t.x.row.map A.c
abbrev zRow : List A := [.c (cI .i8 0), .c (cI .i64 0), .c (cS (bs []))]

theorem strikeL_mpRow (l : List Nat) (t : Tm) : strikeL l (mpRow t) = mpRow t := by simp [mpRow, Val.row]
theorem strikeL_mpRow' (l : List Nat) : strikeL l ∘ mpRow = mpRow := funext fun t => strikeL_mpRow l t
theorem keyEq_mpRow (v : Name) (t : Tm) : keyEq (.string (bs v)) (mpRow t) = (t.v == v) := by
  simp [keyEq, mpRow]
theorem mapFind_binds (v : Name) (out : List Tm) : (out.map mpRow).find? (keyEq (.string (bs v))) = (out.find? (·.v == v)).map mpRow := by
  rw [List.find?_map]
  congr 1
  congr 1
  funext t
  exact keyEq_mpRow v t
theorem mapGet_binds (v : Name) (out : List Tm) : mapGet (out.map mpRow) (.string (bs v)) zRow = ((bindOf out v).getD zeroV).row.map A.c := by
  unfold mapGet bindOf
  rw [mapFind_binds]
  cases out.find? (·.v == v) <;> simp [mpRow, zeroV, Val.row]
end Go.Proofs.YtiomojlcnemnhaaDoor

/- Contracts, on: the program's matching, where the fact's values are memory that is handed over. -/
namespace Go.Proofs.YtiomojlcnemnhaaDoor
open Go.Fx Go.RowKit Go.Ped
variable {G : World → Prop}

@[simp] theorem strike_val (ks : List Nat) : (strikeL ks ∘ fun v : Val => v.row.map A.c) = fun v => v.row.map A.c := funext fun v => strikeL_c ks _
end Go.Proofs.YtiomojlcnemnhaaDoor

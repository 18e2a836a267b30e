import Derived.Test.YtiomojlcnemnhaaGreatDoorPGxM3
import Derived.Test.YtiomojlcnemnhaaGreatDoorPGxItoa
import Derived.Test.YtiomojlcnemnhaaGreatDoorPFxSb
/- Contracts, on: the marks. -/
namespace Go.Proofs.YtiomojlcnemnhaaGreatDoor
open Go.Fx Go.RowKit
variable {G : World → Prop}
abbrev GT : World → Prop := tab10 Tryz.prog

/-- The mark's word: # and the number. -/
def markW (n : Int) : List UInt8 := 35 :: Lib.itoa n

theorem m172 (n : Int) (h0 : -9223372036854775808 ≤ n) (h1 : n ≤ 9223372036854775807) (hl : (Lib.itoa n).length ≤ 100) : Meets Tryz.prog GT 171 [.one (cI .i64 n)] (.x (.one (cS (bs (markW n))))) := by
  refine meets Tryz.func171 ie172 ig172 (Nat.le_of_ble_eq_true rfl) ?_
  simp [ic172, ir172]
  refine r_call 99 true _ _ (m207 n h0 h1) rfl rfl rfl rfl ?_
  simp [markW]
  omega
theorem m164 (n : Int) : Meets Tryz.prog G 269 [.one (cI .i64 n)] (.x (.agg [cI .i8 99, cI .i64 n, cS (bs [])])) := by
  refine meets Tryz.func269 ie164 ig164 (Nat.le_of_ble_eq_true rfl) ?_
  simp [ic164, ir164]
theorem m167 (k m : Int) (s : List UInt8) (n : Int) : Meets Tryz.prog G 274 [.agg [cI .i8 k, cI .i64 m, cS (bs s)], .one (cI .i64 n)] (.x (.one (cB (k == 99 && m == n && s == [])))) := by
  refine meets Tryz.func274 ie167 ig167 (Nat.le_of_ble_eq_true rfl) ?_
  simp [ic167, ir167]
  grind
end Go.Proofs.YtiomojlcnemnhaaGreatDoor

/- Contracts, on: copies of lists of terms, values, binds, and looking at them again. -/
namespace Go.Proofs.YtiomojlcnemnhaaGreatDoor
open Go.Fx Go.RowKit Go.Ped
variable {G : World → Prop}

theorem itoa777 : (Lib.itoa 777777).length ≤ 100 := by decide +kernel
def markT : Tm := ⟨markW 777777, zeroV⟩
def markV : Val := ⟨99, 777777, []⟩

def encT : Enc Tm 4 [.s, .i .i8, .i .i64, .s] where
  row := Tm.row
  len := fun _ => rfl
  eq := fun x y _ => by
    obtain ⟨a, k, n, s⟩ := x
    obtain ⟨b, l, m, t⟩ := y
    simp [Tm.row]
    rw [Bool.eq_iff_iff]
    simp
def encV : Enc Val 3 [.i .i8, .i .i64, .s] where
  row := Val.row
  len := fun _ => rfl
  eq := fun x y _ => by
    obtain ⟨k, n, s⟩ := x
    obtain ⟨l, m, t⟩ := y
    simp [Val.row]
    rw [Bool.eq_iff_iff]
    simp

theorem m129 (l m : List Tm) (sp sq : List (List C)) (hl : l.length ≤ maxLen) : Meets Tryz.prog G 84 [.one (.sl (l.map Tm.row) sp), .one (.sl (m.map Tm.row) sq)] (.x (.one (cB (decide (l = m))))) :=
  same_gen encT Tryz.func84 ie129 ig129 (Nat.le_of_ble_eq_true rfl) l m sp sq hl
theorem m166 (l m : List Val) (sp sq : List (List C)) (hl : l.length ≤ maxLen) : Meets Tryz.prog G 273 [.one (.sl (l.map Val.row) sp), .one (.sl (m.map Val.row) sq)] (.x (.one (cB (decide (l = m))))) :=
  same_gen encV Tryz.func273 ie166 ig166 (Nat.le_of_ble_eq_true rfl) l m sp sq hl
theorem m129' (l : List Tm) (sp sq : List (List C)) (hl : l.length ≤ maxLen) : Meets Tryz.prog G 84 [.one (.sl (l.map Tm.row) sp), .one (.sl (l.map Tm.row) sq)] (.x (.one (cB true))) := by
  have := m129 (G := G) l l sp sq hl
  simpa using this
theorem m166' (l : List Val) (sp sq : List (List C)) (hl : l.length ≤ maxLen) : Meets Tryz.prog G 273 [.one (.sl (l.map Val.row) sp), .one (.sl (l.map Val.row) sq)] (.x (.one (cB true))) := by
  have := m166 (G := G) l l sp sq hl
  simpa using this
theorem m163 : Meets Tryz.prog GT 172 [.one (cI .i64 777777)] (.x (.agg markT.row)) := by
  refine meets Tryz.func172 ie163 ig163 (Nat.le_of_ble_eq_true rfl) ?_
  simp [ic163, ir163]
  refine r_call 171 true _ _ (m172 777777 (by omega) (by omega) itoa777) rfl rfl rfl rfl ?_
  simp [markT, Tm.row, zeroV]
theorem m165 : Meets Tryz.prog GT 180 [.agg markT.row, .one (cI .i64 777777)] (.x (.one (cB true))) := by
  refine meets Tryz.func180 ie165 ig165 (Nat.le_of_ble_eq_true rfl) ?_
  simp [ic165, ir165, markT, Tm.row, zeroV]
  refine r_call 171 true _ _ (m172 777777 (by omega) (by omega) itoa777) rfl rfl rfl rfl ?_
  simp
theorem m108 (l : List Tm) (sp : List (List C)) (hl : l.length ≤ 1048576) : Meets Tryz.prog GT 75 [.one (.sl (l.map Tm.row) sp)] (.x (.one (.sl (l.map Tm.row) [markT.row]))) :=
  twin_gen (x := markT) encT Tryz.func75 ie108 ig108 (Nat.le_of_ble_eq_true rfl) rfl (by omega) m163 l sp hl
theorem m109 (l : List Val) (sp : List (List C)) (hl : l.length ≤ 1048576) : Meets Tryz.prog G 203 [.one (.sl (l.map Val.row) sp)] (.x (.one (.sl (l.map Val.row) [markV.row]))) :=
  twin_gen (x := markV) encV Tryz.func203 ie109 ig109 (Nat.le_of_ble_eq_true rfl) rfl (by omega) (m164 777777) l sp hl
theorem m110 (l : List Tm) (sp : List (List C)) (hl : l.length ≤ 1048576) : Meets Tryz.prog GT 90 [.one (.sl (l.map Tm.row) [markT.row]), .one (.sl (l.map Tm.row) sp)] (.x (.one (cB true))) :=
  left_gen (x := markT) encT Tryz.func90 ie110 ig110 (Nat.le_of_ble_eq_true rfl) l sp hl (m129' l [markT.row] sp (by unfold maxLen; omega)) m165
theorem m111 (l : List Val) (sp : List (List C)) (hl : l.length ≤ 1048576) : Meets Tryz.prog G 216 [.one (.sl (l.map Val.row) [markV.row]), .one (.sl (l.map Val.row) sp)] (.x (.one (cB true))) :=
  left_gen (x := markV) encV Tryz.func216 ie111 ig111 (Nat.le_of_ble_eq_true rfl) l sp hl (m166' l [markV.row] sp (by unfold maxLen; omega)) (m167 99 777777 [] 777777)
theorem m37 (p : Name) (l : List Tm) (sp : List (List C)) (hl : l.length ≤ 1048576) : Meets Tryz.prog GT 15 [.agg [cS (bs p), .sl (l.map Tm.row) sp]] (.x (.agg [cS (bs p), .sl (l.map Tm.row) [markT.row]])) := by
  refine meets Tryz.func15 ie37 ig37 (Nat.le_of_ble_eq_true rfl) ?_
  simp [ic37, ir37]
  refine r_call 75 true _ _ (m108 l sp hl) rfl rfl rfl rfl ?_
  simp
theorem m38 (p : Name) (l : List Val) (sp : List (List C)) (hl : l.length ≤ 1048576) : Meets Tryz.prog G 107 [.agg [cS (bs p), .sl (l.map Val.row) sp]] (.x (.agg [cS (bs p), .sl (l.map Val.row) [markV.row]])) := by
  refine meets Tryz.func107 ie38 ig38 (Nat.le_of_ble_eq_true rfl) ?_
  simp [ic38, ir38]
  refine r_call 203 true _ _ (m109 l sp hl) rfl rfl rfl rfl ?_
  simp
theorem m40 (p : Name) (l : List Tm) (sp : List (List C)) (hl : l.length ≤ 1048576) : Meets Tryz.prog GT 24 [.agg [cS (bs p), .sl (l.map Tm.row) [markT.row]], .agg [cS (bs p), .sl (l.map Tm.row) sp]] (.x (.one (cB true))) := by
  refine meets Tryz.func24 ie40 ig40 (Nat.le_of_ble_eq_true rfl) ?_
  simp [ic40, ir40]
  refine r_call 90 true _ _ (m110 l sp hl) rfl rfl rfl rfl ?_
  simp
theorem m41 (p : Name) (l : List Val) (sp : List (List C)) (hl : l.length ≤ 1048576) : Meets Tryz.prog G 129 [.agg [cS (bs p), .sl (l.map Val.row) [markV.row]], .agg [cS (bs p), .sl (l.map Val.row) sp]] (.x (.one (cB true))) := by
  refine meets Tryz.func129 ie41 ig41 (Nat.le_of_ble_eq_true rfl) ?_
  simp [ic41, ir41]
  refine r_call 216 true _ _ (m111 l sp hl) rfl rfl rfl rfl ?_
  simp

end Go.Proofs.YtiomojlcnemnhaaGreatDoor

/- Fx, part Sc: a list under appends, first nil. -/
namespace Go.Fx
open Go.RowKit
section
variable {P : Program} {G : World → Prop} {L : List (Nat × T)} {O : List (Nat × Box)} {U : List (Nat × Tok)} {H : FHp} {l : List IOper} {K : S → Prop} {d : Nat}

/-- A list that appends of rows at one place have made: nil, or its own. The row of the last append may be told yet. -/
def AccS (k j : Nat) (ty : TypeId) (size : Nat) (es : List (List C)) (a : A) (U : List (Nat × Tok)) : Prop :=
  (es = [] ∧ a = .nil ∧ U = []) ∨ (a = .own k es ∧ U = [(k, ⟨ty, size, es.length⟩), (j, ⟨ty, size, 1⟩)]) ∨ (a = .own k es ∧ U = [(j, ⟨ty, size, 1⟩), (k, ⟨ty, size, es.length⟩)])

theorem AccS.nil {k j size : Nat} {ty : TypeId} : AccS k j ty size [] .nil [] := .inl ⟨rfl, rfl, rfl⟩
theorem AccS.own {k j size : Nat} {ty : TypeId} {es : List (List C)} {n : Nat} (h : n = es.length) : AccS k j ty size es (.own k es) [(k, ⟨ty, size, n⟩), (j, ⟨ty, size, 1⟩)] := .inr (.inl ⟨rfl, by rw [h]⟩)
theorem AccS.close {k j size : Nat} {ty : TypeId} {es : List (List C)} {t : A} {U : List (Nat × Tok)} (h : AccS k j ty size es t U) : t.close = some (.sl es []) := by
  rcases h with ⟨rfl, rfl, rfl⟩ | ⟨rfl, rfl⟩ | ⟨rfl, rfl⟩ <;> rfl
theorem AccS.args {k j size : Nat} {ty : TypeId} {es : List (List C)} {t : A} {U : List (Nat × Tok)} (h : AccS k j ty size es t U) : (X.one t).close = some (.one (.sl es [])) := by
  simp only [X.close, h.close, Option.map_some]
theorem AccS.strike {k j size : Nat} {ty : TypeId} {es : List (List C)} {t : A} {U : List (Nat × Tok)} (h : AccS k j ty size es t U) {l : Nat} (hl : l ≠ k) : A.strike [l] t = t := by
  rcases h with ⟨rfl, rfl, rfl⟩ | ⟨rfl, rfl⟩ | ⟨rfl, rfl⟩
  · rfl
  all_goals simp [Ne.symm hl]
theorem AccS.strikeU {k j size : Nat} {ty : TypeId} {es : List (List C)} {t : A} {U : List (Nat × Tok)} (h : AccS k j ty size es t U) {l : Nat} (hl : l ≠ k) (hj : l ≠ j) : strikeU [l] U = U := by
  rcases h with ⟨rfl, rfl, rfl⟩ | ⟨rfl, rfl⟩ | ⟨rfl, rfl⟩
  · rfl
  all_goals simp [Ne.symm hl, Ne.symm hj]
end
end Go.Fx

/- Contracts, on: the document's atoms, variables, and what is bound. -/
namespace Go.Proofs.YtiomojlcnemnhaaGreatDoor
open Go.Fx Go.RowKit Go.Ped
variable {G : World → Prop}

abbrev nmRow (v : Name) : List C := [cS (bs v)]

end Go.Proofs.YtiomojlcnemnhaaGreatDoor

import Derived.Test.YtiomojlcnemnhaaGreatDoorPGxX13
import Derived.Test.YtiomojlcnemnhaaGreatDoorPGxIcH
/- Contracts, on: the program's walk over a rule; a rule's terms and variables. -/
namespace Go.Proofs.YtiomojlcnemnhaaGreatDoor
open Go.Fx Go.RowKit Go.Ped
variable {G : World → Prop}

end Go.Proofs.YtiomojlcnemnhaaGreatDoor

/- Contracts, on: rules: what they may be. -/
namespace Go.Proofs.YtiomojlcnemnhaaGreatDoor
open Go.Fx Go.RowKit Go.Ped
variable {G : World → Prop}

end Go.Proofs.YtiomojlcnemnhaaGreatDoor

/- Contracts, on: copies of rules, looked at again; heads; the law on rules. -/
namespace Go.Proofs.YtiomojlcnemnhaaGreatDoor
open Go.Fx Go.RowKit Go.Ped
variable {G : World → Prop}

def exZ : Ex := .mk 0 zeroT [] []
def litMark : Lit := ⟨99, markW 777777, [], [], 0, exZ, exZ⟩
def argMark : Arg := ⟨0, markT⟩
theorem exZ_row : exZ.row = [cI .i8 0, cS (bs []), cI .i8 0, cI .i64 0, cS (bs []), .sl [] []] := by rw [exZ, Ex.row_mk]; rfl
theorem litMark_row : litMark.row = [cI .i8 99, cS (bs (markW 777777)), .sl [] [], cI .i8 0, cI .i8 0, cS (bs []), cI .i8 0, cI .i64 0, cS (bs []), .sl [] [], cI .i8 0, cS (bs []), cI .i8 0, cI .i64 0, cS (bs []), .sl [] []] := by
  simp [litMark, Lit.row, exZ_row]
theorem argMark_row : argMark.row = [cI .i8 0, cS (bs (markW 777777)), cI .i8 0, cI .i64 0, cS (bs [])] := rfl

theorem m172' : Meets Tryz.prog GT 171 [.one (cI .i64 777777)] (.x (.one (cS (bs (markW 777777))))) := m172 777777 (by omega) (by omega) itoa777

theorem m120 : Meets Tryz.prog GT 163 [.one (cI .i64 777777)] (.x (.agg litMark.row)) := by
  refine meets Tryz.func163 ie120 ig120 (Nat.le_of_ble_eq_true rfl) ?_
  simp [ic120, ir120]
  refine call_of m172' ?_
  simp [litMark_row]
theorem m124 : Meets Tryz.prog GT 183 [.agg litMark.row, .one (cI .i64 777777)] (.x (.one (cB true))) := by
  refine meets Tryz.func183 ie124 ig124 (Nat.le_of_ble_eq_true rfl) ?_
  simp [ic124, ir124, litMark_row]
  refine call_of m172' ?_
  simp
theorem m182 : Meets Tryz.prog GT 173 [.one (cI .i64 777777)] (.x (.agg argMark.row)) := by
  refine meets Tryz.func173 ie182 ig182 (Nat.le_of_ble_eq_true rfl) ?_
  simp [ic182, ir182]
  refine call_of m172' ?_
  simp [argMark_row]
theorem m185 : Meets Tryz.prog GT 181 [.agg argMark.row, .one (cI .i64 777777)] (.x (.one (cB true))) := by
  refine meets Tryz.func181 ie185 ig185 (Nat.le_of_ble_eq_true rfl) ?_
  simp [ic185, ir185, argMark_row]
  refine call_of m172' ?_
  simp

def encA : Enc Arg 5 [.i .i8, .s, .i .i8, .i .i64, .s] where
  row := Arg.row
  len := fun _ => rfl
  eq := fun x y _ => by
    obtain ⟨g, a, k, n, s⟩ := x
    obtain ⟨h, b, l, m, t⟩ := y
    simp [Arg.row, Tm.row]
    rw [Bool.eq_iff_iff]
    simp

theorem m139 (l m : List Arg) (sp sq : List (List C)) (hl : l.length ≤ maxLen) : Meets Tryz.prog G 86 [.one (.sl (l.map Arg.row) sp), .one (.sl (m.map Arg.row) sq)] (.x (.one (cB (decide (l = m))))) :=
  same_gen encA Tryz.func86 ie139 ig139 (Nat.le_of_ble_eq_true rfl) l m sp sq hl
theorem m139' (l : List Arg) (sp sq : List (List C)) (hl : l.length ≤ maxLen) : Meets Tryz.prog G 86 [.one (.sl (l.map Arg.row) sp), .one (.sl (l.map Arg.row) sq)] (.x (.one (cB true))) := by
  have := m139 (G := G) l l sp sq hl
  simpa using this
theorem m133 (l : List Arg) (sp : List (List C)) (hl : l.length ≤ 1048576) : Meets Tryz.prog GT 76 [.one (.sl (l.map Arg.row) sp)] (.x (.one (.sl (l.map Arg.row) [argMark.row]))) :=
  twin_gen (x := argMark) encA Tryz.func76 ie133 ig133 (Nat.le_of_ble_eq_true rfl) rfl (by omega) m182 l sp hl
theorem m137 (l : List Arg) (sp : List (List C)) (hl : l.length ≤ 1048576) : Meets Tryz.prog GT 91 [.one (.sl (l.map Arg.row) [argMark.row]), .one (.sl (l.map Arg.row) sp)] (.x (.one (cB true))) :=
  left_gen (x := argMark) encA Tryz.func91 ie137 ig137 (Nat.le_of_ble_eq_true rfl) l sp hl (m139' l [argMark.row] sp (by unfold maxLen; omega)) m185

abbrev Lit.tw (x : Lit) : Lit := x.twin markT.row markE
theorem m49 (l : List Lit) (sp : List (List C)) (hl : l.length ≤ 1048576) (hs : ∀ x ∈ l, x.small 1048576) : Meets Tryz.prog GT 64 [.one (.sl (l.map Lit.row) sp)] (.x (.one (.sl ((l.map Lit.tw).map Lit.row) [litMark.row]))) := by
  have h := twF_gen Lit.row (fun k => k.tw.row) (fun x => Lit.row_length x) (fun x => Lit.row_length _) (Lit.row_length litMark) Tryz.func64 ie49 ig49 (Nat.le_of_ble_eq_true rfl) rfl (by omega) m120 l sp hl (fun x hx => m56 x (hs x hx))
  simpa [Function.comp_def] using h

theorem m52 (l : List Lit) (sp : List (List C)) (hl : l.length ≤ 1048576) (hs : ∀ x ∈ l, x.small 1048576) : Meets Tryz.prog GT 92 [.one (.sl ((l.map Lit.tw).map Lit.row) [litMark.row]), .one (.sl (l.map Lit.row) sp)] (.x (.one (cB true))) := by
  refine meets Tryz.func92 ie52 ig52 (Nat.le_of_ble_eq_true rfl) ?_
  simp [ic52, ir52]
  refine w_loopA [] [] [0, 1, 5] (by simp)
    (fun i : Nat => st [(0, .k true (.x (.one (.c (.sl (l.map (Lit.row ∘ Lit.tw)) [litMark.row]))))), (1, .k true (.x (.one (.c (.sl (l.map Lit.row) sp))))), (5, tI .i64 i)] [] [] F0) (fun i => l.length - i) (fun i => i ≤ l.length) 0 (by simp) (by simp) ?_
  rintro i K hK hi
  obtain hlt | hge := Nat.lt_or_ge i l.length
  · simp [ic52l0, hlt]
    refine call_of (m61 l[i] (hs _ (List.getElem_mem hlt))) ?_
    simp
    simp (disch := omega) only [wrap64]
    exact hK (i + 1) _ (by simp) (by omega) (by omega)
  · simp [ic52l0, Nat.not_lt.mpr hge]
    simp (disch := omega) [wrap64]
    refine ⟨⟨by omega, ?_⟩, ?_⟩
    · rintro e (⟨a, _, rfl⟩ | rfl) <;> exact Lit.row_length _
    refine call_of m124 ?_
    simp

def Rule.tw (r : Rule) : Rule := ⟨r.p, r.head, [argMark.row], r.body.map Lit.tw, [litMark.row]⟩
theorem Rule.tw_row (r : Rule) : r.tw.row = [cS (bs r.p), .sl (r.head.map Arg.row) [argMark.row], .sl ((r.body.map Lit.tw).map Lit.row) [litMark.row]] := rfl
theorem Rule.small_tw {r : Rule} (h : r.small 1048576) : r.tw.small 1048576 := ⟨h.1, by simpa [Rule.tw] using h.2.1, fun x hx => by
  obtain ⟨y, hy, rfl⟩ := List.mem_map.1 hx; exact Lit.small_twin (h.2.2 y hy)⟩
theorem Rule.terms_tw (r : Rule) : r.tw.terms = r.terms := by
  simp only [Rule.terms, Rule.tw]
  congr 1
  rw [List.flatMap_map]
  congr 1
  funext x; exact Lit.terms_twin _ _ x
theorem m63 (r : Rule) (hs : r.small 1048576) : Meets Tryz.prog GT 16 [.agg r.row] (.x (.agg r.tw.row)) := by
  refine meets Tryz.func16 ie63 ig63 (Nat.le_of_ble_eq_true rfl) ?_
  rw [Rule.tw_row]
  simp [ic63, ir63, Rule.row]
  refine call_of (m133 r.head r.hsp hs.1) ?_
  simp
  refine call_of (m49 r.body r.bsp hs.2.1 hs.2.2) ?_
  simp

theorem m70 (r : Rule) (hs : r.small 1048576) : Meets Tryz.prog GT 25 [.agg r.tw.row, .agg r.row] (.x (.one (cB true))) := by
  refine meets Tryz.func25 ie70 ig70 (Nat.le_of_ble_eq_true rfl) ?_
  rw [Rule.tw_row]
  simp only [Rule.row]
  have h2 := m52 r.body r.bsp hs.2.1 hs.2.2
  generalize (r.body.map Lit.tw).map Lit.row = X at *
  simp [ic70, ir70]
  refine call_of (m137 r.head r.hsp hs.1) ?_
  simp
  refine call_of h2 ?_
  simp

end Go.Proofs.YtiomojlcnemnhaaGreatDoor

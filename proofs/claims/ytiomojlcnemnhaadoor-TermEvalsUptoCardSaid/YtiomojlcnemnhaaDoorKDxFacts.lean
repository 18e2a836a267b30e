import Derived.Test.YtiomojlcnemnhaaDoorKDxHc
import Derived.Test.YtiomojlcnemnhaaDoorKDxX13
import Derived.Test.YtiomojlcnemnhaaDoorKDxX2
import Derived.Test.YtiomojlcnemnhaaDoorKDxItoa
import Derived.Test.YtiomojlcnemnhaaDoorCards
import Derived.Test.YtiomojlcnemnhaaDoorTie
import Derived.WalkKit
import Derived.ProofKit
import Derived.OpenShut
import Derived.Deep.DeepHandedRow
import Derived.Lib.LaidTab
import Derived.Lib.AppendIntMem
import Derived.Stop.LaidErr
import Derived.LaidMore
/- The law TermEvals. -/
namespace Go.Proofs.YtiomojlcnemnhaaDoor
open Go.Fx Go.RowKit Go.Ped
variable {G : World → Prop}

/-- Both kinds of tables that the laws read. -/
abbrev GE : World → Prop := fun w => GT w ∧ GK w
theorem Meets.of_imp {P : Program} {G G' : World → Prop} {f : FuncId} {cs : List CX} {res : CR} (hi : ∀ w, G' w → G w) (h : Meets P G f cs res) : Meets P G' f cs res :=
  ⟨h.1, fun w V vs hG hV ha => h.2 w V vs (fun w' hb => hi w' (hG w' hb)) hV ha⟩
theorem toT {f : FuncId} {cs : List CX} {res : CR} (h : Meets Tryd.prog GT f cs res) : Meets Tryd.prog GE f cs res := Meets.of_imp (fun _ h => h.1) h
theorem toK {f : FuncId} {cs : List CX} {res : CR} (h : Meets Tryd.prog GK f cs res) : Meets Tryd.prog GE f cs res := Meets.of_imp (fun _ h => h.2) h

theorem m14 (e : Ex) (L : List Tm) (sq : Sp) (hs : e.small 1048576) (hL : L.length ≤ 1048576) (he : e.fitN) (hm : ∀ t ∈ L, t.x.fitN) : Meets Tryd.prog GE 14 [.agg e.row, .one (.sl (L.map Tm.row) sq)] (.x (.one (cB true))) := by
  have h25 := m25 (G := GE) e hs
  generalize decide (exParts e 1048576 > 1048576) = big at h25
  have h73 := m73 (G := GE) e L sq hs hL he hm
  have h74 := toT (m74 e hs)
  have h75 := toT (m75 L sq hL)
  have h26 := toK (m26 (e.twin markE) L [markT.row] (Ex.small_twin e hs) hL)
  have h76 := toT (m76 e hs)
  have h77 := toT (m77 L sq hL)
  rw [exOk_twin, Ex.val_twin] at h26
  generalize (if exOk 8 e = true then e.val L else none) = R at h73 h26
  generalize he' : e.twin markE = e2 at h74 h26 h76
  rw [Ex.row_eq e] at h25 h73 h74 h76 ⊢
  rw [Ex.row_eq e2] at h74 h26 h76
  refine meets Tryd.func14 ie14 ig14 (Nat.le_of_ble_eq_true rfl) ?_
  simp [ic14, ir14]
  refine call_of h25 ?_
  cases big with
  | true => simp
  | false =>
  simp
  refine call_of h73 ?_
  simp [Val.row]
  refine call_of h74 ?_
  simp
  refine call_of h75 ?_
  simp
  refine call_of h26 ?_
  simp [Val.row]
  refine call_of h76 ?_
  simp
  refine call_of h77 ?_
  simp
end Go.Proofs.YtiomojlcnemnhaaDoor

/- The arguments of the laws, opened by their types. -/
namespace Go.Proofs.YtiomojlcnemnhaaDoor
open Go.Fx Go.RowKit Go.Ped

theorem ty_str {cs : List C} (h : Typed Tryd.prog 9 cs) : ∃ s, cs = [cS (bs s)] := by
  obtain ⟨s, rfl, _⟩ := h.asStr Tryd.underlying9
  exact ⟨s, rfl⟩
/- Sizes. -/
theorem rows_len {α : Type} {row : α → List C} (h : ∀ t, 1 ≤ rowBulk (row t)) : ∀ l : List α, l.length ≤ rowsBulk (l.map row)
  | [] => Nat.zero_le _
  | t :: l => by have := rows_len h l; have := h t; simp only [List.map_cons, rowsBulk, List.length_cons]; omega
theorem rows_mem {α : Type} {row : α → List C} {t : α} : ∀ {l : List α}, t ∈ l → rowBulk (row t) ≤ rowsBulk (l.map row)
  | x :: l, h => by
    simp only [List.map_cons, rowsBulk]
    rcases List.mem_cons.1 h with rfl | h
    · omega
    · have := rows_mem (row := row) h; omega
theorem tm_bulk (t : Tm) : 1 ≤ rowBulk t.row := by simp only [Tm.row, rowBulk, C.bulk]; omega
theorem ex_bulk (e : Ex) : 1 ≤ rowBulk e.row := by rw [Ex.row_eq]; simp only [rowBulk, C.bulk]; omega
theorem ex_small {N : Nat} : ∀ e : Ex, rowBulk e.row ≤ N → e.small N := by
  refine Ex.ind fun op t kids sp ih h => ?_
  rw [Ex.row_mk] at h
  simp only [rowBulk, C.bulk] at h
  refine Ex.small_mk.2 ⟨?_, fun k hk => ih k hk ?_⟩
  · have := rows_len ex_bulk kids; omega
  · have := rows_mem (row := Ex.row) hk; omega
end Go.Proofs.YtiomojlcnemnhaaDoor

/- What the laws' rows and cards share: the laid tables, the bound on what is read, the witness' world. -/
namespace Go.Proofs.YtiomojlcnemnhaaDoor
open Go.Fx Go.RowKit Go.Ped

theorem own : ownKnob Tryd.prog.godebug = none := by kernel_rfl
theorem laidOut : laidOutB Tryd.prog = true := by kernel_rfl

/- The bound. -/
mutual
theorem bulk_le {H : Type} : ∀ d : DataW H, bulkD d ≤ Rows.uptoBulk d
  | .lit l => by cases l <;> simp [bulkD, Rows.uptoBulk]
  | .nil => by simp [bulkD, Rows.uptoBulk]
  | .ptr d => by simp [bulkD]
  | .slice a b => by have := bulks_le a; have := bulks_le b; simp only [bulkD, Rows.uptoBulk]; omega
  | .agg a => by have := bulks_le a; simp only [bulkD, Rows.uptoBulk]; omega
  | .iface t d => by simp [bulkD]
  | .map e => by simp [bulkD]
  | .held h => by simp [bulkD]
theorem bulks_le {H : Type} : ∀ l : List (DataW H), bulkDs l ≤ Rows.uptoBulkAll l
  | [] => by simp [bulkDs]
  | d :: l => by have := bulk_le d; have := bulks_le l; simp only [bulkDs, Rows.uptoBulkAll]; omega
end
theorem upto_bound {H : Type} {ds gs : List (DataW H)} (hk : Rows.uptoSmall H (ds ++ gs) = true) : bulkDs ds ≤ 1048576 := by
  have h : Rows.uptoBulkAll (ds ++ gs) ≤ 1048576 := of_decide_eq_true hk
  have h2 := bulks_le (ds ++ gs)
  have h3 : ∀ a b : List (DataW H), bulkDs a ≤ bulkDs (a ++ b) := by
    intro a b
    induction a with
    | nil => simp [bulkDs]
    | cons x a ih => simp only [List.cons_append, bulkDs]; omega
  have := h3 ds gs
  omega

/- The table of powers. -/
theorem gPow : Tryd.prog.globalNamed "internal/strconv.uint64pow10" = some 2 := by kernel_rfl
theorem gPowType : (Tryd.prog.globals[2]?).map (·.type) = some 279 := by kernel_rfl
theorem cells279 : Tryd.prog.cellsOf 279 = 20 := by kernel_rfl
theorem cells270 : Tryd.prog.cellsOf 270 = 1 := by kernel_rfl
theorem powData : (Rows.laid_internal_strconv_uint64pow10 : DataW Unit) = Lib.tabData .u64 Lib.pow10Tab := by rfl
theorem tab_of {r : List (String × DataW Unit)} {W : World} (h : laidMet Tryd.prog (("internal/strconv.uint64pow10", Rows.laid_internal_strconv_uint64pow10) :: r) W) : Held (tab10 Tryd.prog) W := by
  rw [powData] at h
  exact Lib.tabBelow_of_tabIs (Lib.tabIs_of_head gPow gPowType Tryd.underlying279 Tryd.underlying270 cells270 cells279 h)
theorem plain_laid {l : List (String × DataW Unit)} {W : World} (hp : (l.all fun x => x.2.handleName?.isNone) = true) (h : laidMetH Tryd.prog l W) : laidMet Tryd.prog l W := by
  rw [MakeChecks.laidMetH_plain _ _ _ hp] at h
  exact h
/-- A world for the witness: what the door's own run leaves. -/
noncomputable abbrev wit (os : Os) : World := World.doorLaid Tryd.prog 29 os
end Go.Proofs.YtiomojlcnemnhaaDoor

/- What the rows' closed facts say of the program alone. -/
namespace Go.Proofs.YtiomojlcnemnhaaDoor
open Go.Fx Go.RowKit Go.Ped

theorem mapsRowedT : mapsRowed Tryd.prog = true := by kernel_rfl
theorem stopsT : (Tryd.prog.stops == []) = true := by kernel_rfl
theorem stopKnobsT : (Tryd.prog.stopKnobs == []) = true := by kernel_rfl
theorem stopsHeardT : Tryd.prog.stopsHeard = true := by kernel_rfl
theorem mayEnterT : Tryd.prog.mayEnter = true := by kernel_rfl
theorem liftsFinalT : (Rows.termMatchesUptoRow.lifted == Tryd.prog.liftsFinal) = true := by kernel_rfl
theorem makeT : (Tryd.prog.make == some Rows.termMatchesUptoRow.make) = true := by kernel_rfl
end Go.Proofs.YtiomojlcnemnhaaDoor

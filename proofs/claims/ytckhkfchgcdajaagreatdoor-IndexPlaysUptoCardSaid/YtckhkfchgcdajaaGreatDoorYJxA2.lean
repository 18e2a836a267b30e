import Derived.Test.YtckhkfchgcdajaaGreatDoorYFxWc
import Derived.Test.YtckhkfchgcdajaaGreatDoorProg
import Derived.WalkSpells
import Derived.KernelRfl
import Derived.DeepKeys
import Derived.Maps.Keyed
import Derived.Lib.SliceRun
import Derived.Laws.CopyOwn
import Derived.Laws.Slices
import Derived.Laws.Rows
import Derived.Laws.Tables
namespace Go.Fx
open Go.RowKit
section
variable {P : Program} {G : World → Prop} {L : List (Nat × T)} {O : List (Nat × Box)} {U : List (Nat × Tok)} {H : FHp} {l : List IOper} {K : S → Prop} {d : Nat}
end
end Go.Fx

namespace Go.Fx
open Go.RowKit
section
variable {P : Program} {G : World → Prop}
theorem MeetsH.of_below {f : FuncId} {args : List X} {h : Hp} {res : CR} (hcl : callable P f = true) (hx : ∀ x ∈ args, x.only (fun _ => True) (fun k => h.toks k ≠ none)) (ho : h.only (fun _ => True) (fun k => h.toks k ≠ none))
    (hm : ∀ (w : World) (env : Env) (F : Nat → Prop) (vs : List Value), HMem env h F w → All2 (RepX env h.toks w) args vs → Calls P f vs.toArray w fun e w' => ∃ v, e = .returned v ∧ RepCR (fun b o => env.V b o ∨ w.heap.size ≤ b) w' res v ∧ Below w.heap.size w w') :
    MeetsH P G f args h res.open h := by
  refine ⟨hcl, hx, ho, fun w env F vs _ hmem _ ha => ?_⟩
  refine (hm w env F vs hmem ha).mono ?_
  rintro e w' ⟨v, rfl, hr, hb⟩
  have hcell : ∀ b o, env.V b o → w'.cell? ⟨b, o, none⟩ = w.cell? ⟨b, o, none⟩ := fun b o hv => hb.cell (p := ⟨b, o, none⟩) (hmem.vlt b o hv)
  let env' : Env := { env with V := fun b o => env.V b o ∨ (w.heap.size ≤ b ∧ b < w'.heap.size) }
  have hle : env.Le env' h.toks h.toks w w' := ⟨fun _ _ x => .inl x, hcell, fun _ _ x => x, fun _ t x => ⟨t, x, rfl, Nat.le_refl _, fun _ => rfl⟩⟩
  have hV : ∀ b o, b < w.heap.size → env'.V b o → env.V b o := fun b o hlt hv => hv.elim id fun h => absurd hlt (Nat.not_lt.mpr h.1)
  refine ⟨v, env', F, rfl, openR_rep (fun b o h => h.1.elim .inl fun hh => .inr ⟨hh, h.2⟩) hr.bound, {
    mem := {
      vlt := fun b o hv => hv.elim (fun h => Nat.lt_of_lt_of_le (hmem.vlt b o h) hb.size) fun h => h.2
      ρlt := fun k b s hk => Nat.lt_of_lt_of_le (hmem.ρlt k b s hk) hb.size
      τlt := fun k v b hk hv => Nat.lt_of_lt_of_le (hmem.τlt k v b hk hv) hb.size
      objs := fun k x hk => by
        obtain ⟨b, us, g1, g2, g3, g4, g5⟩ := hmem.objs k x hk
        exact ⟨b, us, g1, g2.of (hb.block b g2.lt), g3.imp fun _ _ _ => RepA.mono hle, g4, fun o hv => g5 o (hV b o g2.lt hv)⟩
      inj := hmem.inj
      toks := fun k t hk => by
        obtain ⟨v, xs, g1, g2, g3⟩ := hmem.toks k t hk
        exact ⟨v, xs, g1, ownsRow_of_block g2 fun b hv => hb.block b (g2.lt b hv).2, fun b hv => ⟨fun o ho hh => (g3 b hv).1 o ho (hV b o (g2.lt b hv).2 hh), (g3 b hv).2⟩⟩
      tinj := hmem.tinj
      sep := hmem.sep
      ext := h.ext.mono (w := w) (fun _ _ x => .inl x) hcell (fun b hF => hb.block b (hmem.flt b hF).1) hmem.ext
      flt := fun b hF => by
        obtain ⟨g1, g2, g3, g4⟩ := hmem.flt b hF
        exact ⟨Nat.lt_of_lt_of_le g1 hb.size, fun o hv => g2 o (hV b o g1 hv), g3, g4⟩ }
    kept := KeptBut.of_below hb
    owned := fun b hb => .inr hb
    vold := fun b o hv => .inl hv
    vcell := hcell
    vnew := fun b o hv => hv.imp id fun h => .inl h.1
    ρold := fun _ _ x => x
    ρnew := fun _ _ x => .inl x
    τold := fun _ _ _ => rfl
    τnew := fun k v hk => .inl (by rw [show env.τ k = some v from hk]; simp)
    tok := fun k t t' h1 h2 => by rw [h1] at h2; injection h2 with h2; subst h2; exact ⟨rfl, Nat.le_refl _, fun _ => rfl⟩ }⟩
section
variable {P : Program} {G : World → Prop} {L : List (Nat × T)} {O : List (Nat × Box)} {U : List (Nat × Tok)} {H : FHp} {l : List IOper} {K : S → Prop} {d : Nat}
end
end
end Go.Fx

namespace Go.Fx
open Go.RowKit
section
variable {P : Program} {G : World → Prop}
end
end Go.Fx

namespace Go.Fx
open Go.RowKit
section
variable {P : Program} {G : World → Prop}
end
end Go.Fx

namespace Go.Proofs.YtckhkfchgcdajaaGreatDoor
open Go.Fx Go.RowKit
structure RelCells (w : World) (b pb mb : Nat) (lv : Value) (arity gone : Int) : Prop where
  h0 : w.cell? ⟨b, 0, none⟩ = some (.int .i64 arity)
  h1 : w.cell? ⟨b, 1, none⟩ = some (.int .i64 gone)
  h2 : w.cell? ⟨b, 2, none⟩ = some (.pointer (some ⟨pb, 0, none⟩))
  p0 : w.cell? ⟨pb, 0, none⟩ = some lv
  p1 : w.cell? ⟨pb, 1, none⟩ = some (.map (some mb))
  lb : b < w.heap.size
  lp : pb < w.heap.size
theorem RelCells.frame {w w' : World} {b pb mb : Nat} {lv : Value} {arity gone : Int} (h : RelCells w b pb mb lv arity gone) (hb : Below w.heap.size w w') : RelCells w' b pb mb lv arity gone :=
  ⟨(hb.cell (p := ⟨b, 0, none⟩) h.lb).trans h.h0, (hb.cell (p := ⟨b, 1, none⟩) h.lb).trans h.h1, (hb.cell (p := ⟨b, 2, none⟩) h.lb).trans h.h2, (hb.cell (p := ⟨pb, 0, none⟩) h.lp).trans h.p0, (hb.cell (p := ⟨pb, 1, none⟩) h.lp).trans h.p1,
    Nat.lt_of_lt_of_le h.lb hb.size, Nat.lt_of_lt_of_le h.lp hb.size⟩
set_option maxRecDepth 100000 in
theorem there_calls {w : World} {b : Nat} {a : Addr} (h2 : w.cell? ⟨b, 2, none⟩ = some (.pointer (some a))) :
    Calls Tryz.prog 19 #[.pointer (some ⟨b, 0, none⟩)] w fun e w' => e = .returned (.bool true) ∧ Below w.heap.size w w' := by
  go_enter Tryz.func19, Tryz.ntmps19
  go_wp2_with fail
  simp [bodyPost, results, Tryz.results19, go_sem]
  exact Below.refl _ w
set_option maxRecDepth 100000 in
theorem there_nil (w : World) : Calls Tryz.prog 19 #[.pointer none] w fun e w' => e = .returned (.bool false) ∧ Below w.heap.size w w' := by
  go_enter Tryz.func19, Tryz.ntmps19
  go_wp2_with fail
  simp [bodyPost, results, Tryz.results19, go_sem]
  exact Below.refl _ w
set_option maxRecDepth 100000 in
theorem arity_calls {w : World} {b pb mb : Nat} {lv : Value} {arity gone : Int} (h : RelCells w b pb mb lv arity gone) :
    Calls Tryz.prog 219 #[.pointer (some ⟨b, 0, none⟩)] w fun e w' => e = .returned (.int .i64 arity) ∧ Below w.heap.size w w' := by
  have hth := there_calls h.h2
  go_enter Tryz.func219, Tryz.ntmps219
  go_wp2_with fail
  refine hth.mono ?_
  rintro e w' ⟨rfl, hb⟩
  have h0 := (h.frame hb).h0
  go_wp2_with fail
  simp [bodyPost, results, Tryz.results219, go_sem]
  exact hb
set_option maxRecDepth 100000 in
theorem len_calls {w : World} {b pb mb : Nat} {ad : Option Addr} {n cap : Nat} {arity gone : Int} (h : RelCells w b pb mb (.slice ad n cap) arity gone) :
    Calls Tryz.prog 6 #[.pointer (some ⟨b, 0, none⟩)] w fun e w' => e = .returned (.int .i64 n) ∧ Below w.heap.size w w' := by
  have hth := there_calls h.h2
  go_enter Tryz.func6, Tryz.ntmps6
  go_wp2_with fail
  refine hth.mono ?_
  rintro e w' ⟨rfl, hb⟩
  have h2 := (h.frame hb).h2
  have p0 := (h.frame hb).p0
  go_wp2_with fail
  simp [bodyPost, results, Tryz.results6, go_sem]
  exact hb
abbrev symV (n : Int) : Value := .int .i32 n
abbrev rowV (x : List Int) : Value := .agg (x.map symV).toArray
abbrev zRow : List Int := List.replicate 24 0
end Go.Proofs.YtckhkfchgcdajaaGreatDoor

namespace Go.Proofs.YtckhkfchgcdajaaGreatDoor
open Go.Fx Go.RowKit
def RowOk (x : List Int) : Prop := x.length = 24 ∧ ∀ n ∈ x, (Lit.int .i32 n).wf = true
abbrev rowLits (x : List Int) : List Lit := x.map fun n => Lit.int .i32 n
theorem mapM_get {α β : Type} (f : Nat → Option β) (g : α → β) : ∀ (x : List α) (o : Nat), (∀ i (h : i < x.length), f (o + i) = some (g x[i])) → (List.range' o x.length).mapM f = some (x.map g)
  | [], o, _ => rfl
  | a :: x, o, h => by
    have h0 := h 0 (by simp)
    have ih := mapM_get f g x (o + 1) (fun i hi => by
      have := h (i + 1) (by simpa using hi)
      rw [List.getElem_cons_succ] at this
      rw [← this]; congr 1; omega)
    rw [List.length_cons, List.range'_succ, List.mapM_cons, Nat.add_zero] at *
    rw [h0, ih]
    rfl
theorem row_lits {x : List Int} (hx : RowOk x) (D : Nat) : Tryz.prog.keyLits (D + 2) 64 (x.map symV) = some (rowLits x) := by
  obtain ⟨hl, hw⟩ := hx
  have h1 : Tryz.prog.cellsOf 62 = 1 := by kernel_rfl
  have h2 : Tryz.prog.cellsOf 64 = 24 := by kernel_rfl
  unfold Program.keyLits
  simp only [Tryz.underlying64, List.length_map, hl, h1, h2, if_true, Nat.mul_one]
  have := mapM_get (fun i => Tryz.prog.keyLits (D + 1) 62 ((List.drop i (x.map symV)).take 1)) (fun n => [Lit.int .i32 n]) x 0 (fun i hi => by
    rw [Nat.zero_add, List.drop_eq_getElem_cons (by simpa using hi), List.take_succ_cons, List.take_zero, List.getElem_map]
    unfold Program.keyLits
    simp only [Tryz.underlying62, true_and]
    rw [if_pos (hw _ (List.getElem_mem hi))])
  rw [hl] at this
  rw [List.range_eq_range', this]
  simp only [Option.map_some, Option.some.injEq]
  clear this hl hw h1 h2
  induction x with
  | nil => rfl
  | cons a x ih => rw [List.map_cons, List.flatten_cons, ih]; rfl
theorem rowLits_inj {x y : List Int} (h : rowLits x = rowLits y) : x = y := by
  induction x generalizing y with
  | nil => cases y with | nil => rfl | cons b y => cases h
  | cons a x ih =>
    cases y with
    | nil => cases h
    | cons b y =>
      injection h with h1 h2
      injection h1 with _ h1
      rw [h1, ih h2]
theorem row_formed {x : List Int} (hx : RowOk x) : (rowV x).formed Tryz.prog 64 = true := by
  have h2 : Tryz.prog.cellsOf 64 = 24 := by kernel_rfl
  simp [Value.formed, Tryz.underlying64, hx.1, h2]
theorem run_eqIn_row {x y : List Int} (hx : RowOk x) (hy : RowOk y) (w : World) : (Op.equalIn 10000 64 (rowV x) (rowV y)).run Tryz.prog w = .ok (decide (x = y)) w := by
  obtain ⟨r, hr, hiff⟩ := run_equalIn_deep (P := Tryz.prog) 9998 2 64 (by kernel_rfl) w 2 2 (rowV x) (rowV y) (rowLits x) (rowLits y) (row_formed hx) (row_formed hy) (row_lits hx 0) (row_lits hy 0)
  have : r = decide (x = y) := by
    rw [Bool.eq_iff_iff, hiff, decide_eq_true_iff]
    exact ⟨rowLits_inj, fun e => by rw [e]⟩
  subst this
  exact hr
theorem zRow_ok : RowOk zRow := ⟨by simp, fun n hn => by rw [List.eq_of_mem_replicate hn]; rfl⟩
end Go.Proofs.YtckhkfchgcdajaaGreatDoor

namespace Go.Proofs.YtckhkfchgcdajaaGreatDoor
open Go.Fx Go.RowKit
def minOf (a : Int) : List Int → Int
  | [] => a
  | x :: l => minOf (min a x) l
theorem minOf_take (a : Int) (l : List Int) (i : Nat) (h : i < l.length) : minOf a (l.take (i + 1)) = min (minOf a (l.take i)) l[i] := by
  induction l generalizing a i with
  | nil => exact absurd h (Nat.not_lt_zero _)
  | cons x l ih =>
    cases i with
    | zero => simp [minOf]
    | succ i =>
      rw [List.take_succ_cons, List.take_succ_cons, minOf, minOf, ih _ i (by simpa using h), List.getElem_cons_succ]
set_option maxRecDepth 100000 in
set_option maxHeartbeats 1000000 in
theorem min_calls {w : World} {blk cap : Nat} (x : Int) (l : List Int) (h0 : w.cell? ⟨blk, 0, none⟩ = some (symV x)) (hl : ∀ (j : Nat) (hj : j < l.length), w.cell? ⟨blk, j + 1, none⟩ = some (symV l[j])) (hb : blk < w.heap.size) (hn : l.length ≤ 100) (hc : l.length + 1 ≤ cap) :
    Calls Tryz.prog 167 #[.slice (some ⟨blk, 0, none⟩) (l.length + 1) cap] w fun e w' => e = .returned (symV (minOf x l)) ∧ Below w.heap.size w w' := by
  go_enter Tryz.func167, Tryz.ntmps167
  go_wp2_with fail
  go_loopw [3, 4] (fun m n w' => ∃ i : Nat, n = .int .i64 ((i : Int) + 1) ∧ i ≤ l.length ∧ m = symV (minOf x (l.take i)) ∧ Below w.heap.size w w') (fun _ n _ => match n with | .int _ k => l.length + 1 - k.toNat | _ => 0)
  case atStart => exact ⟨0, rfl, Nat.zero_le _, rfl, Below.refl _ _⟩
  case round =>
    obtain ⟨i, rfl, hi, rfl, hbl⟩ := hrel
    by_cases hlt : i < l.length
    · have hlt' : (i : Int) + 1 < (l.length : Int) + 1 := by omega
      have hcl : wr.cell? ⟨blk, i + 1, none⟩ = some (symV l[i]) := (hbl.cell (p := ⟨blk, i + 1, none⟩) hb).trans (hl i hlt)
      have hm := minOf_take x l i hlt
      go_wp2_with fail
      refine ⟨⟨i + 1, congrArg (Value.int .i64) (by omega), by omega, congrArg (Value.int .i32) ?_, hbl⟩, ?_⟩
      · rw [hm]
        split <;> omega
      · show l.length + 1 - ((i : Int) + 1 + 1).toNat < l.length + 1 - ((i : Int) + 1).toNat
        omega
    · go_wp2_with fail
      rw [List.take_of_length_le (by omega)]
      simp [bodyPost, results, Tryz.results167, go_sem]
      exact hbl
def rightRow (arity : Nat) (x : List Int) : Bool := x.all (fun n => decide (0 ≤ n)) && (x.drop arity).all fun n => decide (n = 0)
theorem minOf_neg (a : Int) : ∀ l : List Int, minOf a l < 0 ↔ a < 0 ∨ ∃ x ∈ l, x < 0
  | [] => by simp [minOf]
  | x :: l => by
    rw [minOf, minOf_neg]
    simp only [List.mem_cons, exists_eq_or_imp]
    constructor
    · rintro (h | h)
      · by_cases h1 : a < 0
        · exact .inl h1
        · exact .inr (.inl (by omega))
      · exact .inr (.inr h)
    · rintro (h | h | h)
      · exact .inl (by omega)
      · exact .inl (by omega)
      · exact .inr h
theorem infoRow : (Tryz.prog.info? 64).map (·.size) = some 24 := by kernel_rfl
theorem row_one (x : List Int) : (x.map symV).toArray.all (·.oneCell') = true := by
  rw [List.all_toArray, List.all_eq_true]
  intro v hv
  obtain ⟨n, _, rfl⟩ := List.mem_map.1 hv
  rfl
theorem run_clear_syms {w : World} {g n c : Nat} {ty : TypeId} {us : List Value} (t : TypeId) (hg : w.heap[g]? = some (.cells us.toArray ty (0, 0))) (hn : n ≤ us.length) :
    ∃ w', (Builtin.clear_ #[312] t #[.slice (some ⟨g, 0, none⟩) n c]).run Tryz.prog w = .ok (.tuple #[]) w' ∧ w'.heap[g]? = some (.cells (over us 0 (List.replicate n (symV 0))).toArray ty (0, 0)) ∧ Below g w w' := by
  cases n with
  | zero => exact ⟨w, by simp [Builtin.clear_, run_underlying Tryz.underlying312], by simpa [over] using hg, Below.refl _ _⟩
  | succ m =>
    obtain ⟨w', hr, hh, hb, _⟩ := run_storeCells (P := Tryz.prog) g 0 ty (List.replicate (m + 1) (symV 0)) 0 w us hg (by simpa using hn) (fun v hv => by rw [List.eq_of_mem_replicate hv]; rfl)
    refine ⟨w', ?_, hh, hb⟩
    have hz : (zeroValue 62).run Tryz.prog w = .ok (symV 0) w := Tryz.zeroValue62 w
    have hzc : (Builtin.zeroCells #[symV 0] (m + 1)).toList = List.replicate (m + 1) (symV 0) := by
      simp [Builtin.zeroCells]
      apply List.ext_getElem
      · simp
      · intro i h1 h2
        simp [Nat.mod_one]
    simp [Builtin.clear_, run_underlying Tryz.underlying312, hz, hzc, hr, Value.cells]
set_option maxRecDepth 100000 in
set_option maxHeartbeats 4000000 in
theorem right_calls {w : World} {b pb mb : Nat} {lv : Value} {arity : Nat} {gone : Int} (h : RelCells w b pb mb lv arity gone) (x : List Int) (hx : RowOk x) (ha : arity ≤ 24) :
    Calls Tryz.prog 57 #[.pointer (some ⟨b, 0, none⟩), rowV x] w fun e w' => e = .returned (.bool (rightRow arity x)) ∧ Below w.heap.size w w' := by
  obtain ⟨x0, l, rfl⟩ : ∃ x0 l, x = x0 :: l := by cases x with | nil => cases hx.1 | cons a l => exact ⟨a, l, rfl⟩
  have hl : l.length = 23 := by simpa using hx.1
  go_enter Tryz.func57, Tryz.ntmps57
  go_wp2_with fail
  have halloc := MapKept.heap_alloc w (Obj.cells (symV x0 :: List.map symV l).toArray 64)
  have hbw1 : Below w.heap.size w (w.alloc (Obj.cells (symV x0 :: List.map symV l).toArray 64)) := (Below.refl _ w).alloc (Nat.le_refl _) _
  generalize w.alloc (Obj.cells (symV x0 :: List.map symV l).toArray 64) = w1 at *
  have hlt1 : w.heap.size < w1.heap.size := (Array.getElem?_eq_some_iff.1 halloc.1).1
  have hmin := min_calls (w := w1) (blk := w.heap.size) (cap := 24) x0 l (by simp [World.cell?, halloc.1]) (fun j hj => by simp [World.cell?, halloc.1, hj]) hlt1 (by omega) (by omega)
  rw [hl] at hmin
  refine hmin.mono ?_
  rintro e w2 ⟨rfl, hb2⟩
  have hlt2 : w.heap.size < w2.heap.size := Nat.lt_of_lt_of_le hlt1 hb2.size
  have hblk : w2.heap[w.heap.size]? = some (Obj.cells (symV x0 :: List.map symV l).toArray 64) := (hb2.block _ hlt1).trans halloc.1
  have hbw2 : Below w.heap.size w w2 := hbw1.trans (hb2.mono hbw1.size)
  have hsz : (Tryz.prog.info? 64).map (·.size) = some (symV x0 :: List.map symV l).toArray.size := by
    rw [infoRow]; simp [hl]
  by_cases hneg : minOf x0 l < 0
  · go_wp2_with fail
    simp [bodyPost, results, Tryz.results57, go_sem]
    refine ⟨?_, hbw2⟩
    rw [minOf_neg] at hneg
    unfold rightRow
    have : (x0 :: l).all (fun n => decide (0 ≤ n)) = false := by
      rw [← Bool.not_eq_true, List.all_eq_true]
      intro hall
      rcases hneg with hneg | ⟨y, hy, hneg⟩
      · have := hall x0 (List.mem_cons_self ..)
        simp at this; omega
      · have := hall y (List.mem_cons_of_mem _ hy)
        simp at this; omega
    rw [this]
    rfl
  · have hz := (MapKept.heap_alloc w2 (Obj.cells (List.replicate 24 (Value.int .i32 0)).toArray 64)).1
    have hal : Below w2.heap.size w2 (w2.alloc (Obj.cells (List.replicate 24 (Value.int .i32 0)).toArray 64)) := (Below.refl _ w2).alloc (Nat.le_refl _) _
    have hone := row_one (x0 :: l)
    have hg3 := setRow_heap _ _ _ (symV x0 :: List.map symV l).toArray _ _ hz
    have hb3 : Below w2.heap.size w2 ((w2.alloc (Obj.cells (List.replicate 24 (Value.int .i32 0)).toArray 64)).setRow w2.heap.size (symV x0 :: List.map symV l).toArray) := below_setRow hal (Nat.le_refl _) _
    obtain ⟨w3, hw3⟩ : ∃ w3, (w2.alloc (Obj.cells (List.replicate 24 (Value.int .i32 0)).toArray 64)).setRow w2.heap.size (symV x0 :: List.map symV l).toArray = w3 := ⟨_, rfl⟩
    rw [hw3] at hg3 hb3
    simp only [List.replicate] at hw3 hz
    have hbw3 : Below w.heap.size w w3 := hbw2.trans (hb3.mono hbw2.size)
    have h0 := (h.frame hbw3).h0
    obtain ⟨w4, hclr, hg4, hb4⟩ := run_clear_syms (n := arity) (c := 24) (us := symV x0 :: List.map symV l) 0 hg3 (by simp [hl]; omega)
    have hal1 : (arity : Int) ≤ Tryz.prog.arrayLen 64 := by rw [show Tryz.prog.arrayLen 64 = 24 from by kernel_rfl]; omega
    have hslc : (Instr.sliceAt 64 (.pointer (some ⟨w2.heap.size, 0, none⟩)) none (some (.int .i64 (arity : Int))) none).run Tryz.prog w3 = .ok (.slice (some ⟨w2.heap.size, 0, none⟩) arity 24) w3 := by
      rw [run_sliceAt_array_h w3 64 ⟨w2.heap.size, 0, none⟩ (by rw [show Tryz.prog.arrayLen 64 = 24 from by kernel_rfl, show Tryz.prog.elem 64 = 62 from by kernel_rfl]; exact Tryz.underlying64) .i64 arity (by omega) hal1, show Tryz.prog.elem 64 = 62 from by kernel_rfl, show Tryz.prog.arrayLen 64 = 24 from by kernel_rfl, Tryz.sizeOf62]
      simp [slicedAt, Addr.add]
    obtain ⟨y, hy⟩ : ∃ y, List.replicate arity 0 ++ (x0 :: l).drop arity = y := ⟨_, rfl⟩
    have hover : over (symV x0 :: List.map symV l) 0 (List.replicate arity (symV 0)) = y.map symV := by
      rw [← hy]
      simp [over, List.map_drop]
    have hyl : y.length = 24 := by rw [← hy]; simp [hl]; omega
    have hyr : RowOk y := ⟨hyl, fun n hn => by
      rw [← hy] at hn
      rcases List.mem_append.1 hn with hn | hn
      · rw [List.eq_of_mem_replicate hn]; rfl
      · exact hx.2 n (List.mem_of_mem_drop hn)⟩
    rw [hover] at hg4
    have hsz4 : (Tryz.prog.info? 64).map (·.size) = some (y.map symV).toArray.size := by rw [infoRow]; simp [hyl]
    have heq := run_eqIn_row hyr zRow_ok w4
    simp only [zRow, rowV, List.replicate, List.map] at heq
    go_wp2_with (first | (refine wpList_load_row rfl 64 _ rfl w.heap.size rfl 64 _ (0, 0) _ hblk Tryz.underlying64 rfl hsz ?_) | (refine wpList_store_row rfl 64 _ _ rfl w2.heap.size _ rfl rfl 64 _ hz hsz (by simp [hl]) hone ?_; rw [hw3]) | (refine wpList_load_row rfl 64 _ rfl w2.heap.size rfl 64 _ (0, 0) _ hg4 Tryz.underlying64 rfl hsz4 ?_))
    simp [bodyPost, results, Tryz.results57, go_sem]
    refine ⟨?_, hbw3.trans (hb4.mono hbw2.size)⟩
    have hneg : ¬ minOf x0 l < 0 := by omega
    rw [minOf_neg] at hneg
    have hpos : (x0 :: l).all (fun n => decide (0 ≤ n)) = true := by
      rw [List.all_eq_true]
      intro n hn
      rcases List.mem_cons.1 hn with rfl | hn
      · simp only [decide_eq_true_eq]; exact Int.not_lt.1 fun h => hneg (.inl h)
      · simp only [decide_eq_true_eq]; exact Int.not_lt.1 fun h => hneg (.inr ⟨n, hn, h⟩)
    unfold rightRow
    rw [hpos, Bool.true_and, Bool.eq_iff_iff, decide_eq_true_iff, List.all_eq_true]
    show y = List.replicate 24 0 ↔ _
    have h24 : (24 : Nat) = arity + ((x0 :: l).drop arity).length := by simp [hl]; omega
    rw [← hy, List.eq_replicate_iff]
    constructor
    · rintro ⟨_, h⟩ n hn
      simpa using h n (List.mem_append_right _ hn)
    · intro h
      refine ⟨by rw [List.length_append, List.length_replicate]; exact h24.symm, fun n hn => ?_⟩
      rcases List.mem_append.1 hn with hn | hn
      · exact List.eq_of_mem_replicate hn
      · simpa using h n hn
end Go.Proofs.YtckhkfchgcdajaaGreatDoor

import Derived.Test.YtiomojlcnemnhaaDoorWDxHd
import Derived.Test.YtiomojlcnemnhaaDoorWPedO
import Derived.Test.YtiomojlcnemnhaaDoorWDxZ4
import Derived.Test.YtiomojlcnemnhaaDoorWDxIcQ
import Derived.OwnWalk
import Derived.Deep.WholeRow
import Derived.Deep.MidRow
import Derived.Maps.AppendAt
import Derived.Test.YtiomojlcnemnhaaDoorWDxH8
import Derived.Test.YtiomojlcnemnhaaDoorWDxW9
import Derived.Test.YtiomojlcnemnhaaDoorWDxN3
import Derived.Test.YtiomojlcnemnhaaDoorWDxW5
import Derived.Test.YtiomojlcnemnhaaDoorWDxM8
import Derived.Shelf.SlicesE.Clone
namespace Go.Proofs.YtiomojlcnemnhaaDoor
open Go.Fx Go.RowKit Go.Ped
variable {G : World → Prop}
mutual
def Ex.put (s : List Pr) : Ex → Ex
  | .mk op t kids _ => .mk op (putS s t) (exPuts s kids) []
def exPuts (s : List Pr) : List Ex → List Ex
  | [] => []
  | e :: l => e.put s :: exPuts s l
end
theorem exPuts_map (s : List Pr) : ∀ l : List Ex, exPuts s l = l.map (Ex.put s)
  | [] => rfl
  | e :: l => by rw [exPuts, exPuts_map s l]; rfl
theorem Ex.put_mk (s : List Pr) (op : Int) (t : Tm) (kids : List Ex) (sp : Sp) : (Ex.mk op t kids sp).put s = .mk op (putS s t) (kids.map (Ex.put s)) [] := by rw [Ex.put, exPuts_map]
end Go.Proofs.YtiomojlcnemnhaaDoor

namespace Go.Proofs.YtiomojlcnemnhaaDoor
open Go.Fx Go.RowKit Go.Ped
inductive Nd where
  | mk (op : Int) (t : Tm) (blk cap : Nat) (kids : List Nd)
  deriving Inhabited
def Nd.op : Nd → Int | .mk op _ _ _ _ => op
def Nd.t : Nd → Tm | .mk _ t _ _ _ => t
def Nd.blk : Nd → Nat | .mk _ _ b _ _ => b
def Nd.cap : Nd → Nat | .mk _ _ _ c _ => c
def Nd.kids : Nd → List Nd | .mk _ _ _ _ kids => kids
mutual
theorem Nd.ind {Q : Nd → Prop} (h : ∀ op t b c kids, (∀ k ∈ kids, Q k) → Q (.mk op t b c kids)) : ∀ n, Q n
  | .mk op t b c kids => h op t b c kids (Nd.indL h kids)
theorem Nd.indL {Q : Nd → Prop} (h : ∀ op t b c kids, (∀ k ∈ kids, Q k) → Q (.mk op t b c kids)) : ∀ l : List Nd, ∀ k ∈ l, Q k
  | [], _, hk => by cases hk
  | n :: l, k, hk => match List.mem_cons.1 hk with
    | .inl e1 => e1 ▸ Nd.ind h n
    | .inr hk => Nd.indL h l k hk
end
def slV (b cap : Nat) (n : Nat) : Value := if n = 0 then .slice none 0 0 else .slice (some ⟨b, 0, none⟩) n cap
def Nd.sl : Nd → Value | .mk _ _ b cap kids => slV b cap kids.length
def tmCells (t : Tm) : List Value := [.string (bs t.v), .int .i8 t.x.k, .int .i64 t.x.n, .string (bs t.x.s)]
def Nd.cells (n : Nd) : List Value := .int .i8 n.op :: (tmCells n.t ++ [n.sl])
@[simp] theorem Nd.cells_length (n : Nd) : n.cells.length = 6 := rfl
@[simp] theorem tmCells_length (t : Tm) : (tmCells t).length = 4 := rfl
mutual
def Nd.ex : Nd → Ex
  | .mk op t _ _ kids => .mk op t (ndsEx kids) []
def ndsEx : List Nd → List Ex
  | [] => []
  | k :: l => k.ex :: ndsEx l
end
theorem putS_nil (t : Tm) : putS [] t = t := by unfold putS; split <;> rfl
abbrev Ex.bare (e : Ex) : Ex := e.put []
theorem Ex.bare_mk (op : Int) (t : Tm) (kids : List Ex) (sp : Sp) : (Ex.mk op t kids sp).bare = .mk op t (kids.map Ex.bare) [] := by unfold Ex.bare; rw [Ex.put_mk, putS_nil]
end Go.Proofs.YtiomojlcnemnhaaDoor

namespace Go.Proofs.YtiomojlcnemnhaaDoor
open Go.Fx Go.RowKit Go.Ped
@[irreducible] def Stop (p : Prop) : Prop := p
def exCells (e : Ex) (v : Value) : List Value := .int .i8 e.op :: (tmCells e.t ++ [v])
def KidsRep (V : Nat → Nat → Prop) (w : World) (e : Ex) (v : Value) : Prop := RepC V w (.sl (e.kids.map Ex.row) e.sp) v
theorem kids_slice {V : Nat → Nat → Prop} {w : World} {e : Ex} {v : Value} (h : KidsRep V w e v) : ∃ ad cap, v = .slice ad e.kids.length cap := by
  unfold KidsRep at h
  generalize hr : e.kids.map Ex.row = rows at h
  have hl : rows.length = e.kids.length := by rw [← hr, List.length_map]
  generalize e.sp = sp at h
  cases h with
  | nil c => exact ⟨none, 0, by rw [← hl]; rfl⟩
  | emp a => exact ⟨some a, 0, by rw [← hl]; rfl⟩
  | sl _ _ s b o n cap us hn _ _ _ _ _ _ => exact ⟨some ⟨b, o, none⟩, cap, by rw [hn, hl]⟩
theorem ownsRow_block {w : World} {base : Nat} {e : TypeId} {size : Nat} {v : Value} {n : Nat} {xs : List Value} (h : w.ownsRow base e size v n xs) : ∀ g, v.ownBlock = some g → base ≤ g ∧ g < w.heap.size := by
  intro g hg
  rcases h.2 with ⟨rfl, _⟩ | ⟨g', cap, cur, rfl, e2, e3, _⟩
  · cases hg
  · obtain rfl : g' = g := Option.some.inj hg
    exact ⟨e2, (Array.getElem?_eq_some_iff.1 e3).1⟩
end Go.Proofs.YtiomojlcnemnhaaDoor

namespace Go.Proofs.YtiomojlcnemnhaaDoor
open Go.Fx Go.RowKit Go.Ped
variable {G : World → Prop}
abbrev OW (a b c : Nat) (p : Name) (n : Nat) (l : List Tm) (m : List Pr) : List (Nat × Box) := [(a, ⟨24, 2, [[.c (cS (bs p)), .arr b 0 n n]], none⟩), (b, bxT l), (c, ⟨0, 5, m.map nxRow, some (.string, false)⟩)]
attribute [simp] OW
end Go.Proofs.YtiomojlcnemnhaaDoor

namespace Go.Fx
open Go.RowKit
section
variable {P : Program} {G : World → Prop}
end
end Go.Fx

namespace Go.Proofs
def Tryd.lays125_ren : Go.Shelf.Ren := ⟨fun | 41 => 125 | n => n, fun | 22 => 22 | 23 => 41 | 4 => 4 | n => n, fun | n => n⟩
theorem Tryd.lays125 : Go.Proofs.SlLaysE0.n41 Tryd.prog Tryd.lays125_ren := {
  mixed := by kernel_rfl
  f41 := ⟨Tryd.f125.name, by decide, Tryd.func125.trans (congrArg some (by kernel_rfl))⟩
  t4 := Tryd.underlying4
  a4 := Tryd.isAgg4
  z4 := Tryd.sizeOf4
  v4 := Tryd.zeroValue4
  t22 := Tryd.underlying22
  a22 := Tryd.isAgg22
  z22 := Tryd.sizeOf22
  v22 := Tryd.zeroValue22 }
section
open Go.Shelf Go.RowKit Go.Lib
variable {P : Program} {ρ : Ren}
set_option maxHeartbeats 2000000 in
set_option maxRecDepth 100000 in
theorem clone_zero (L : SlLaysE0.n41 P ρ) (i0 : TypeInfo) (z : Value) (size bytes : Nat) (hi : P.info? (ρ.t 23) = some i0) (hz0 : i0.zero = some z) (hz1 : i0.size = size) (hz2 : i0.bytes = bytes) (hzs : z.cells.size = size) (hsz : 0 < size)
    (z23 : ∀ w, (Go.sizeOf (ρ.t 23)).run P w = .ok size w) (a : Addr) (c : Nat) (w : World) :
    Calls P (ρ.f 41) #[.slice (some a) 0 c] w fun e w' => ∃ v', e = .returned v' ∧ w'.ownsRow w.heap.size (ρ.t 23) size v' 0 [] ∧ v' ≠ .slice none 0 0 ∧ Below w.heap.size w w' := by
  have mixed := L.mixed; have t4 := L.t4; have a4 := L.a4; have z4 := L.z4; have v4 := L.v4; have t22 := L.t22; have a22 := L.a22; have z22 := L.z22; have v22 := L.v22
  have q22 : ∀ (w : World) (a : Option Addr) (n c n' c' : Nat), (binOp .eql (ρ.t 22) (.slice a n c) (.slice none n' c')).run P w = .ok (.bool a.isNone) w := fun w a n c n' c' => Lib.run_eql_slice_nil w _ _ a n c n' c' L.t22
  have u22 : ∀ w, Sem.run P (underlying (ρ.t 22)) w = .ok (TypeDesc.slice (ρ.t 23)) w := run_underlying t22
  obtain ⟨_, _, FG⟩ := L.f41
  go_enter FG, SlBodyN.n41_ntmps ρ
  go_wp2_with (at_builtin; refine wpList_append_own _ rfl _ _ (ρ.t 22) rfl w.heap.size (ρ.t 23) i0 z size bytes t22 hi hz0 hz1 hz2 hzs hsz _ _ _ rfl (World.ownsRow_made w #[] 0 (Nat.le_refl _) (Nat.zero_le _) (by simp)) a 0 c [] rfl (by simp) (by intro j u hj; simp at hj) (by intro u hu; cases hu) (by unfold maxLen; omega) (by omega) (by simp) ?_)
  intro v' w1 hown hgrow hnil
  go_wp2
  go_ret
  refine ⟨v', rfl, by simpa using hown, ?_, ?_⟩
  · first | exact hnil | (intro e; exact absurd (hnil.1 e).1 (by simp))
  · exact ((Below.refl _ w).alloc (Nat.le_refl _) _).grown hgrow (by simp) (by intro k hk; simp [Value.ownBlock] at hk; omega)
end
end Go.Proofs
namespace Go.Proofs.YtiomojlcnemnhaaDoor
open Go.Fx Go.RowKit Go.Ped
variable {G : World → Prop}
theorem info41 : ∃ i0 z, Tryd.prog.info? 41 = some i0 ∧ i0.zero = some z ∧ i0.size = 4 ∧ i0.bytes = 48 ∧ z.cells.size = 4 := by
  have e1 : (Tryd.prog.info? 41).map (·.bytes) = some 48 := by kernel_rfl
  have e2 : (Tryd.prog.info? 41).map (·.size) = some 4 := by kernel_rfl
  have e3 : ((Tryd.prog.info? 41).bind fun i => i.zero.map fun z => z.cells.size) = some 4 := by kernel_rfl
  obtain ⟨i0, h, h1⟩ := Option.map_eq_some_iff.1 e1
  rw [h] at e2 e3
  obtain ⟨z, h3, h4⟩ := Option.map_eq_some_iff.1 (show i0.zero.map (fun z => z.cells.size) = some 4 from e3)
  exact ⟨i0, z, h, h3, by simpa using e2, h1, h4⟩
end Go.Proofs.YtiomojlcnemnhaaDoor

namespace Go.Proofs
def Tryd.lays197_ren : Go.Shelf.Ren := ⟨fun | 41 => 197 | n => n, fun | 22 => 94 | 23 => 189 | 4 => 4 | n => n, fun | n => n⟩
theorem Tryd.lays197 : Go.Proofs.SlLaysE0.n41 Tryd.prog Tryd.lays197_ren := {
  mixed := by kernel_rfl
  f41 := ⟨Tryd.f197.name, by decide, Tryd.func197.trans (congrArg some (by kernel_rfl))⟩
  t4 := Tryd.underlying4
  a4 := Tryd.isAgg4
  z4 := Tryd.sizeOf4
  v4 := Tryd.zeroValue4
  t22 := Tryd.underlying94
  a22 := Tryd.isAgg94
  z22 := Tryd.sizeOf94
  v22 := Tryd.zeroValue94 }
def Tryd.lays193b_ren : Go.Shelf.Ren := ⟨fun | 41 => 193 | n => n, fun | 22 => 78 | 23 => 88 | 4 => 4 | n => n, fun | n => n⟩
theorem Tryd.lays193b : Go.Proofs.SlLaysE0.n41 Tryd.prog Tryd.lays193b_ren := {
  mixed := by kernel_rfl
  f41 := ⟨Tryd.f193.name, by decide, Tryd.func193.trans (congrArg some (by kernel_rfl))⟩
  t4 := Tryd.underlying4
  a4 := Tryd.isAgg4
  z4 := Tryd.sizeOf4
  v4 := Tryd.zeroValue4
  t22 := Tryd.underlying78
  a22 := Tryd.isAgg78
  z22 := Tryd.sizeOf78
  v22 := Tryd.zeroValue78 }
end Go.Proofs
namespace Go.Proofs.YtiomojlcnemnhaaDoor
open Go.Fx Go.RowKit Go.Ped
theorem clone_any {ρ : Go.Shelf.Ren} (L : SlLaysE0.n41 Tryd.prog ρ) (i0 : TypeInfo) (z : Value) (size bytes : Nat) (hi : Tryd.prog.info? (ρ.t 23) = some i0) (hz0 : i0.zero = some z) (hz1 : i0.size = size) (hz2 : i0.bytes = bytes) (hzs : z.cells.size = size) (hsz : 0 < size)
    (z23 : ∀ w, (Go.sizeOf (ρ.t 23)).run Tryd.prog w = .ok size w) (rows : List (List C)) (sp : Sp) (hw : ∀ r ∈ rows, r.length = size) (hbig : rows.length * bytes ≤ 140737488355328) {V : Nat → Nat → Prop} {w : World} {v : Value} (hv : RepC V w (.sl rows sp) v) :
    Calls Tryd.prog (ρ.f 41) #[v] w fun e w' => ∃ v' xs, e = .returned v' ∧ w'.ownsRow w.heap.size (ρ.t 23) size v' rows.length xs ∧ All2 (RepC V w) rows.flatten xs ∧ Below w.heap.size w w' := by
  have fin : ∀ (a : Addr) (c : Nat), Calls Tryd.prog (ρ.f 41) #[.slice (some a) 0 c] w fun e w' => ∃ v' xs, e = .returned v' ∧ w'.ownsRow w.heap.size (ρ.t 23) size v' 0 xs ∧ All2 (RepC V w) [] xs ∧ Below w.heap.size w w' := fun a c => by
    refine (clone_zero L i0 z size bytes hi hz0 hz1 hz2 hzs hsz z23 a c w).mono ?_
    rintro e w' ⟨v', rfl, hown, _, hb⟩
    exact ⟨v', [], rfl, hown, .nil, hb⟩
  have hfl : rows.flatten.length = rows.length * size := length_flatten _ hw
  cases hv with
  | nil c =>
    refine (AnyE.slices_Clone_nil L 0 0 w).mono ?_
    rintro e w' ⟨rfl, rfl⟩
    exact ⟨_, [], rfl, World.ownsRow_nil _ _ _ _, .nil, Below.refl _ _⟩
  | emp a => exact fin a 0
  | sl _ _ s b o n cap us hn hc hm hw' hul hu hr =>
    subst hn
    have hcat : (rows ++ sp).flatten = rows.flatten ++ sp.flatten := List.flatten_append
    have hus : rows.flatten.length ≤ us.length := by rw [hul, hcat, List.length_append]; omega
    have hat : ∀ (j : Nat) (u : Value), (us.take rows.flatten.length)[j]? = some u → us[j]? = some u ∧ j < rows.flatten.length := fun j u h => by
      rw [List.getElem?_take] at h
      split at h
      · rename_i hj; exact ⟨h, hj⟩
      · cases h
    have hrep : All2 (RepC V w) rows.flatten (us.take rows.flatten.length) := by
      refine ⟨by rw [List.length_take]; omega, fun j c u h1 h2 => ?_⟩
      obtain ⟨h3, h4⟩ := hat j u h2
      exact hr j c u (by rw [hcat, List.getElem?_append_left h4]; exact h1) h3
    have hcall := AnyE.slices_Clone L i0 z size bytes hi hz0 hz1 hz2 hzs hsz z23 b o rows.length cap (us.take rows.flatten.length) w (by rw [List.length_take]; omega) (by unfold maxLen at *; omega) hbig
      (fun j u h => (hu j u (hat j u h).1).1) (fun u hm => by
        obtain ⟨j, hj, rfl⟩ := List.mem_iff_getElem.1 hm
        have hj' : j < rows.flatten.length := by rw [List.length_take] at hj; omega
        exact (hrep.2 j _ _ (List.getElem?_eq_getElem hj') (List.getElem?_eq_getElem hj)).oneCell)
    refine hcall.mono ?_
    rintro e w' ⟨v', rfl, hown, _, hb⟩
    exact ⟨v', _, rfl, hown, hrep, hb⟩
theorem info_of (t s b : Nat) (e1 : (Tryd.prog.info? t).map (·.bytes) = some b) (e2 : (Tryd.prog.info? t).map (·.size) = some s) (e3 : ((Tryd.prog.info? t).bind fun i => i.zero.map fun z => z.cells.size) = some s) :
    ∃ i0 z, Tryd.prog.info? t = some i0 ∧ i0.zero = some z ∧ i0.size = s ∧ i0.bytes = b ∧ z.cells.size = s := by
  obtain ⟨i0, h, h1⟩ := Option.map_eq_some_iff.1 e1
  rw [h] at e2 e3
  obtain ⟨z, h3, h4⟩ := Option.map_eq_some_iff.1 (show i0.zero.map (fun z => z.cells.size) = some s from e3)
  exact ⟨i0, z, h, h3, by simpa using e2, h1, h4⟩
theorem clone125 (l : List Tm) (sp : Sp) (hl : l.length ≤ 1048576) {V : Nat → Nat → Prop} {w : World} {v : Value} (hv : RepC V w (.sl (l.map Tm.row) sp) v) :
    Calls Tryd.prog 125 #[v] w fun e w' => ∃ v' xs, e = .returned v' ∧ w'.ownsRow w.heap.size 41 4 v' l.length xs ∧ All2 (RepC V w) (l.map Tm.row).flatten xs ∧ Below w.heap.size w w' := by
  obtain ⟨i0, z, hi, hz0, hz1, hz2, hzs⟩ := info41
  have h := clone_any Tryd.lays125 i0 z 4 48 hi hz0 hz1 hz2 hzs (by decide) (fun w => Tryd.sizeOf41 w) (l.map Tm.row) sp (fun r hr => by obtain ⟨t, _, rfl⟩ := List.mem_map.1 hr; rfl) (by rw [List.length_map]; omega) hv
  rw [List.length_map] at h
  exact h
theorem clone197 (l : List Arg) (sp : Sp) (hl : l.length ≤ 1048576) {V : Nat → Nat → Prop} {w : World} {v : Value} (hv : RepC V w (.sl (l.map Arg.row) sp) v) :
    Calls Tryd.prog 197 #[v] w fun e w' => ∃ v' xs, e = .returned v' ∧ w'.ownsRow w.heap.size 189 5 v' l.length xs ∧ All2 (RepC V w) (l.map Arg.row).flatten xs ∧ Below w.heap.size w w' := by
  obtain ⟨i0, z, hi, hz0, hz1, hz2, hzs⟩ := info_of 189 5 56 (by kernel_rfl) (by kernel_rfl) (by kernel_rfl)
  have h := clone_any Tryd.lays197 i0 z 5 56 hi hz0 hz1 hz2 hzs (by decide) (fun w => Tryd.sizeOf189 w) (l.map Arg.row) sp (fun r hr => by obtain ⟨t, _, rfl⟩ := List.mem_map.1 hr; rfl) (by rw [List.length_map]; omega) hv
  rw [List.length_map] at h
  exact h
theorem clone193 (l : List Lit) (sp : Sp) (hl : l.length ≤ 1048576) {V : Nat → Nat → Prop} {w : World} {v : Value} (hv : RepC V w (.sl (l.map Lit.row) sp) v) :
    Calls Tryd.prog 193 #[v] w fun e w' => ∃ v' xs, e = .returned v' ∧ w'.ownsRow w.heap.size 88 16 v' l.length xs ∧ All2 (RepC V w) (l.map Lit.row).flatten xs ∧ Below w.heap.size w w' := by
  obtain ⟨i0, z, hi, hz0, hz1, hz2, hzs⟩ := info_of 88 16 216 (by kernel_rfl) (by kernel_rfl) (by kernel_rfl)
  have h := clone_any Tryd.lays193b i0 z 16 216 hi hz0 hz1 hz2 hzs (by decide) (fun w => Tryd.sizeOf88 w) (l.map Lit.row) sp (fun r hr => by obtain ⟨t, _, rfl⟩ := List.mem_map.1 hr; exact Lit.row_length _) (by rw [List.length_map]; omega) hv
  rw [List.length_map] at h
  exact h
theorem tm_cells_rep {V : Nat → Nat → Prop} {w : World} (t : Tm) : All2 (RepC V w) t.row (tmCells t) :=
  .cons (.v _ rfl) (.cons (.v _ rfl) (.cons (.v _ rfl) (.cons (.v _ rfl) .nil)))
theorem tm_cells_of {V : Nat → Nat → Prop} {w : World} {t : Tm} {us : List Value} (h : All2 (RepC V w) t.row us) : us = tmCells t := by
  obtain ⟨_, _, rfl, h1, h⟩ := h.head
  obtain ⟨_, _, rfl, h2, h⟩ := h.head
  obtain ⟨_, _, rfl, h3, h⟩ := h.head
  obtain ⟨_, _, rfl, h4, h⟩ := h.head
  obtain rfl := h.nil_left
  cases h1; cases h2; cases h3; cases h4
  rfl
theorem all2_split {α β : Type} {p : α → β → Prop} {l l' : List α} {m : List β} (h : All2 p (l ++ l') m) : ∃ m1 m2, m = m1 ++ m2 ∧ All2 p l m1 ∧ All2 p l' m2 := by
  refine ⟨m.take l.length, m.drop l.length, (List.take_append_drop _ _).symm, ?_, ?_⟩
  · have := h.take l.length; rwa [List.take_left] at this
  · have := h.drop l.length; rwa [List.drop_left] at this
theorem tms_cells_of {V : Nat → Nat → Prop} {w : World} : ∀ {l : List Tm} {us : List Value}, All2 (RepC V w) (l.map Tm.row).flatten us → us = l.flatMap tmCells
  | [], us, h => h.nil_left
  | t :: l, us, h => by
    rw [List.map_cons, List.flatten_cons] at h
    obtain ⟨m1, m2, rfl, h1, h2⟩ := all2_split h
    rw [tm_cells_of h1, tms_cells_of h2, List.flatMap_cons]
theorem tms_cells_rep {V : Nat → Nat → Prop} {w : World} : ∀ (l : List Tm), All2 (RepC V w) (l.map Tm.row).flatten (l.flatMap tmCells)
  | [] => .nil
  | t :: l => by rw [List.map_cons, List.flatten_cons, List.flatMap_cons]; exact (tm_cells_rep t).append (tms_cells_rep l)
def argCells (a : Arg) : List Value := .int .i8 a.agg :: tmCells a.t
@[simp] theorem argCells_length (a : Arg) : (argCells a).length = 5 := rfl
theorem args_cells_of {V : Nat → Nat → Prop} {w : World} : ∀ {l : List Arg} {us : List Value}, All2 (RepC V w) (l.map Arg.row).flatten us → us = l.flatMap argCells
  | [], us, h => h.nil_left
  | t :: l, us, h => by
    rw [List.map_cons, List.flatten_cons] at h
    obtain ⟨m1, m2, rfl, h1, h2⟩ := all2_split h
    rw [args_cells_of h2, List.flatMap_cons]
    obtain ⟨_, _, rfl, h3, h1⟩ := h1.head
    rw [tm_cells_of h1]
    cases h3
    rfl
theorem args_cells_rep {V : Nat → Nat → Prop} {w : World} : ∀ (l : List Arg), All2 (RepC V w) (l.map Arg.row).flatten (l.flatMap argCells)
  | [] => .nil
  | t :: l => by rw [List.map_cons, List.flatten_cons, List.flatMap_cons]; exact (All2.cons (.v _ rfl) (tm_cells_rep t.t)).append (args_cells_rep l)
theorem ownsRow_rep {V : Nat → Nat → Prop} {w : World} {base : Nat} {e : TypeId} {size : Nat} {v : Value} {xs : List Value} {rows : List (List C)} (h : w.ownsRow base e size v rows.length xs) (hw : ∀ r ∈ rows, r.length = size) (hr : All2 (RepC V w) rows.flatten xs)
    (hV : ∀ b, v.ownBlock = some b → ∀ o, V b o) : RepC V w (.sl rows []) v := by
  obtain ⟨hl, ⟨rfl, h0⟩ | ⟨g, cap, cur, rfl, _, hg, hn, hm, hsz, htk⟩⟩ := h
  · obtain rfl := List.length_eq_zero_iff.1 h0
    exact .nil 0
  · refine .sl rows [] size g 0 _ cap xs rfl (by simpa using hn) hm (by simpa using hw) (by rw [List.append_nil]; exact hr.1.symm) (fun j u hj => ⟨?_, hV g rfl _⟩) (fun j c u hj hu => hr.2 j c u (by simpa using hj) hu)
    rw [← htk, List.getElem?_take] at hj
    split at hj
    · simp only [World.cell?, hg, Nat.zero_add]
      simpa using hj
    · cases hj
def svB (v : Value) : List Nat := v.ownBlock.toList
structure LitM where
  kind : Int
  p : Name
  sv : Value
  l : List Tm
  rel : Int
  left : Nd
  right : Nd
  deriving Inhabited
def LitM.cells (x : LitM) : List Value := .int .i8 x.kind :: .string (bs x.p) :: x.sv :: .int .i8 x.rel :: (x.left.cells ++ x.right.cells)
@[simp] theorem LitM.cells_length (x : LitM) : x.cells.length = 16 := rfl
def LitM.lit (x : LitM) : Lit := ⟨x.kind, x.p, x.l, [], x.rel, x.left.ex, x.right.ex⟩
theorem svB_mem {v : Value} {b : Nat} : b ∈ svB v ↔ v.ownBlock = some b := by unfold svB; simp
theorem ownsRow_frame' {w w' : World} {base base' : Nat} {e : TypeId} {size : Nat} {v : Value} {n : Nat} {xs : List Value} (h : w.ownsRow base e size v n xs) (hbase : base' ≤ base) (hb : ∀ g ∈ svB v, w'.heap[g]? = w.heap[g]?) : w'.ownsRow base' e size v n xs :=
  ⟨h.1, h.2.imp id fun ⟨g, cap, cur, e1, e2, e3, r⟩ => ⟨g, cap, cur, e1, Nat.le_trans hbase e2, (hb g (by rw [e1]; exact svB_mem.2 rfl)).trans e3, r⟩⟩
structure RuleM where
  p : Name
  hv : Value
  hs : List Arg
  bv : Value
  ls : List LitM
  deriving Inhabited
def RuleM.cells (r : RuleM) : List Value := [.string (bs r.p), r.hv, r.bv]
theorem lit_cells_of {V : Nat → Nat → Prop} {w : World} {x : Lit} {us : List Value} (h : All2 (RepC V w) x.row us) : ∃ u vl vr, us = .int .i8 x.kind :: .string (bs x.p) :: u :: .int .i8 x.rel :: (exCells x.left vl ++ exCells x.right vr) ∧ RepC V w (.sl (x.l.map Tm.row) x.sp) u ∧ KidsRep V w x.left vl ∧ KidsRep V w x.right vr := by
  unfold Lit.row at h
  rw [List.append_assoc] at h
  obtain ⟨m1, m2, rfl, h1, h2⟩ := all2_split h
  obtain ⟨m3, m4, rfl, h3, h4⟩ := all2_split h2
  obtain ⟨_, _, rfl, a1, h1⟩ := h1.head
  obtain ⟨_, _, rfl, a2, h1⟩ := h1.head
  obtain ⟨u, _, rfl, a3, h1⟩ := h1.head
  obtain ⟨_, _, rfl, a4, h1⟩ := h1.head
  obtain rfl := h1.nil_left
  have six : ∀ {e : Ex} {us : List Value}, All2 (RepC V w) e.row us → ∃ v, us = exCells e v ∧ KidsRep V w e v := fun {e us} h => by
    rw [Ex.row_eq] at h
    obtain ⟨_, _, rfl, b1, h⟩ := h.head
    obtain ⟨_, _, rfl, b2, h⟩ := h.head
    obtain ⟨_, _, rfl, b3, h⟩ := h.head
    obtain ⟨_, _, rfl, b4, h⟩ := h.head
    obtain ⟨_, _, rfl, b5, h⟩ := h.head
    obtain ⟨v, _, rfl, b6, h⟩ := h.head
    obtain rfl := h.nil_left
    cases b1; cases b2; cases b3; cases b4; cases b5
    exact ⟨v, rfl, b6⟩
  obtain ⟨vl, rfl, k1⟩ := six h3
  obtain ⟨vr, rfl, k2⟩ := six h4
  cases a1; cases a2; cases a4
  exact ⟨u, vl, vr, rfl, a3, k1, k2⟩
end Go.Proofs.YtiomojlcnemnhaaDoor

import Derived.Test.YtiomojlcnemnhaaGreatDoorLGxU2
import Derived.Test.YtiomojlcnemnhaaGreatDoorLGxW4
import Derived.Test.YtiomojlcnemnhaaGreatDoorLPedO
import Derived.Test.YtiomojlcnemnhaaGreatDoorLGxN3
import Derived.Test.YtiomojlcnemnhaaGreatDoorLGxItoa
import Derived.Shelf.SlicesE.Clone
import Derived.Test.YtiomojlcnemnhaaGreatDoorLGxJ2
namespace Go.Proofs.YtiomojlcnemnhaaGreatDoor
open Go.Fx Go.RowKit Go.Ped
variable {G : World → Prop}
theorem nx_put (v : Name) (y : Tm) (c : List Pr) (h : v ∉ keys c) : mapPut (c.map nxRow) (.string (bs v)) (y.row.map A.c) = (c ++ [(⟨v, y⟩ : Pr)]).map nxRow := by
  unfold mapPut
  rw [nx_any, next_out h]
  simp [nxRow]
def pairsOn : List Pr → List Pr → List Pr
  | m, [] => m
  | m, p :: l => pairsOn (if nextOf m p.v = none ∧ p.v ≠ [] ∧ p.v ≠ us then m ++ [p] else m) l
abbrev OP (k : Nat) (m : List Pr) : List (Nat × Box) := [(k, ⟨0, 5, m.map nxRow, some (.string, false)⟩)]
attribute [simp] OP
theorem next_keys {m : List Pr} {v : Name} (h : nextOf m v = none) : v ∉ keys m := by
  unfold nextOf at h
  rw [Option.map_eq_none_iff, List.find?_eq_none] at h
  intro hm
  obtain ⟨p, hp, rfl⟩ := List.mem_map.1 hm
  exact h p hp (by simp)
theorem m127 (s : List Pr) (sp : Sp) (hl : s.length ≤ maxLen) : MeetsH Tryz.prog G 81 [.one (.c (.sl (s.map Pr.row) sp))] (hp [] [] F0) (.x (.one (.mapr 8))) (hp (OP 8 (pairsOn [] s)) [] F0) := by
  unfold maxLen at hl
  refine meetsH [] Tryz.func81 ie127 ig127 (Nat.le_of_ble_eq_true rfl) (by simp) (by simp) (by simp) (by simp) (by simp) (sameKeys_refl F0) (by simp [nxRow, Tm.row]) (by simp) ?_
  generalize hR : pairsOn [] s = R
  simp [ic127, ir127]
  refine w_loopA [] [5, 6] [3, 9, 10, 11] (by simp [ownKey])
    (fun z : Nat × List Pr => st [(3, .k true (.x (.one (.mapr 8)))), (9, .k true (.x (.one (.c (.sl (s.map Pr.row) sp))))), (10, tI .i64 s.length), (11, tI .i64 z.1)] [(8, ⟨0, 5, z.2.map nxRow, some (.string, false)⟩)] [] F0) (fun z => s.length - z.1)
    (fun z => z.1 ≤ s.length ∧ R = pairsOn z.2 (s.drop z.1)) (0, []) (by simp) (by simp [hR]) ?_
  rintro ⟨i, m⟩ K hK ⟨hi, hd⟩
  simp only at hi hd
  obtain hlt | hge := Nat.lt_or_ge i s.length
  · have hr : s[i].row = [cS (bs s[i].v), cS (bs s[i].t.v), cI .i8 s[i].t.x.k, cI .i64 s[i].t.x.n, cS (bs s[i].t.x.s)] := rfl
    rw [List.drop_eq_getElem_cons hlt, pairsOn] at hd
    have hput := nx_put s[i].v s[i].t m
    cases hb : nextOf m s[i].v with
    | some y =>
      rw [if_neg (by simp [hb])] at hd
      simp [ic127l0, hlt, hr, nx_get', nx_any', nx_strike', hb]
      simp (disch := omega) only [wrap64]
      exact hK (i + 1, m) _ (by simp [nx_strike']) ⟨by simp only; omega, hd⟩ (by simp only; omega)
    | none =>
      by_cases h0 : s[i].v = []
      · rw [if_neg (by simp [h0])] at hd
        simp [ic127l0, hlt, hr, nx_get', nx_any', nx_strike', hb, h0]
        simp (disch := omega) only [wrap64]
        exact hK (i + 1, m) _ (by simp [nx_strike']) ⟨by simp only; omega, hd⟩ (by simp only; omega)
      by_cases h1 : s[i].v = [95]
      · rw [if_neg (by simp [h1, us])] at hd
        simp [ic127l0, hlt, hr, nx_get', nx_any', nx_strike', hb, h1]
        simp (disch := omega) only [wrap64]
        exact hK (i + 1, m) _ (by simp [nx_strike']) ⟨by simp only; omega, hd⟩ (by simp only; omega)
      · rw [if_pos ⟨hb, h0, h1⟩] at hd
        have hne : s[i].v.isEmpty = false := by simpa using h0
        have hput' : mapPut (m.map nxRow) (.string (bs s[i].v)) [.c (cS (bs s[i].t.v)), .c (cI .i8 s[i].t.x.k), .c (cI .i64 s[i].t.x.n), .c (cS (bs s[i].t.x.s))] = (m ++ [s[i]]).map nxRow := hput (next_keys hb)
        simp [ic127l0, hlt, hr, nx_get', nx_any', nx_strike', hb, h0, h1, hne]
        simp (disch := omega) only [wrap64]
        exact hK (i + 1, m ++ [s[i]]) _ (by simp [nx_strike', nx_strike, hput']) ⟨by simp only; omega, hd⟩ (by simp only; omega)
  · rw [List.drop_eq_nil_of_le hge] at hd
    have hd' : R = m := hd
    subst hd'
    simp [ic127l0, Nat.not_lt.mpr hge]
    exact ret_st (by simp) (by simp) (by simp) (by simp) (by simp) (by simp)
def putP (m : List Pr) (t : Tm) : Tm := (nextOf m t.v).getD t
abbrev bxT (l : List Tm) : Box := ⟨73, 4, l.map fun t => t.row.map A.c, none⟩
@[simp] theorem strike_tm (ks : List Nat) : (strikeL ks ∘ fun t : Tm => t.row.map A.c) = fun t => t.row.map A.c := funext fun t => strikeL_c ks _
theorem onlyN {p q : Nat → Prop} {m : List Pr} : ∀ r ∈ m.map nxRow, onlyL p q r := fun r hr => by
  obtain ⟨t, _, rfl⟩ := List.mem_map.1 hr
  exact ⟨trivial, onlyL_c _⟩
end Go.Proofs.YtiomojlcnemnhaaGreatDoor

namespace Go.Proofs.YtiomojlcnemnhaaGreatDoor
open Go.Fx Go.RowKit Go.Ped
variable {G : World → Prop}
abbrev OW (a b c : Nat) (p : Name) (n : Nat) (l : List Tm) (m : List Pr) : List (Nat × Box) := [(a, ⟨25, 2, [[.c (cS (bs p)), .arr b 0 n n]], none⟩), (b, bxT l), (c, ⟨0, 5, m.map nxRow, some (.string, false)⟩)]
attribute [simp] OW
end Go.Proofs.YtiomojlcnemnhaaGreatDoor

namespace Go.Fx
open Go.RowKit
section
variable {P : Program} {G : World → Prop}
end
end Go.Fx

namespace Go.Proofs
def Tryz.slc125_ren : Go.Shelf.Ren := ⟨fun | 41 => 79 | n => n, fun | 22 => 23 | 23 => 73 | 4 => 4 | n => n, fun | n => n⟩
theorem Tryz.slc125 : Go.Proofs.SlLaysE0.n41 Tryz.prog Tryz.slc125_ren := {
  mixed := by kernel_rfl
  f41 := ⟨Tryz.f79.name, by decide, Tryz.func79.trans (congrArg some (by kernel_rfl))⟩
  t4 := Tryz.underlying4
  a4 := Tryz.isAgg4
  z4 := Tryz.sizeOf4
  v4 := Tryz.zeroValue4
  t22 := Tryz.underlying23
  a22 := Tryz.isAgg23
  z22 := Tryz.sizeOf23
  v22 := Tryz.zeroValue23 }
section
open Go.Shelf Go.RowKit Go.Lib
variable {P : Program} {ρ : Ren}
set_option maxHeartbeats 2000000 in
set_option maxRecDepth 100000 in
theorem clone_zero (L : SlLaysE0.n41 P ρ) (i0 : TypeInfo) (z : Value) (size bytes : Nat) (hi : P.info? (ρ.t 23) = some i0) (hz0 : i0.zero = some z) (hz1 : i0.size = size) (hz2 : i0.bytes = bytes) (hzs : z.cells.size = size) (hsz : 0 < size)
    (z23 : ∀ w, (Go.sizeOf (ρ.t 23)).run P w = .ok size w) (a : Addr) (c : Nat) (w : World) :
    Calls P (ρ.f 41) #[.slice (some a) 0 c] w fun e w' => ∃ v', e = .returned v' ∧ w'.ownsRow w.heap.size (ρ.t 23) size v' 0 [] ∧ v' ≠ .slice none 0 0 ∧ Below w.heap.size w w' := by
  have mixed := L.mixed; have t4 := L.t4; have a4 := L.a4; have z4 := L.z4; have v4 := L.v4; have t22 := L.t22; have a22 := L.a22; have z22 := L.z22; have v22 := L.v22
  have q22 : ∀ (w : World) (a : Option Addr) (n c n' c' : Nat), (binOp .eql (ρ.t 22) (.slice a n c) (.slice none n' c')).run P w = .ok (.bool a.isNone) w := fun w a n c n' c' => Lib.run_eql_slice_nil w _ _ a n c n' c' L.t22
  have u22 : ∀ w, Sem.run P (underlying (ρ.t 22)) w = .ok (TypeDesc.slice (ρ.t 23)) w := run_underlying t22
  obtain ⟨_, _, FG⟩ := L.f41
  go_enter FG, SlBodyN.n41_ntmps ρ
  go_wp2_with (at_builtin; refine wpList_append_own _ rfl _ _ (ρ.t 22) rfl w.heap.size (ρ.t 23) i0 z size bytes t22 hi hz0 hz1 hz2 hzs hsz _ _ _ rfl (World.ownsRow_made w #[] 0 (Nat.le_refl _) (Nat.zero_le _) (by simp)) a 0 c [] rfl (by simp) (by intro j u hj; simp at hj) (by intro u hu; cases hu) (by unfold maxLen; omega) (by omega) (by simp) ?_)
  intro v' w1 hown hgrow hnil
  go_wp2
  go_ret
  refine ⟨v', rfl, by simpa using hown, ?_, ?_⟩
  · first | exact hnil | (intro e; exact absurd (hnil.1 e).1 (by simp))
  · exact ((Below.refl _ w).alloc (Nat.le_refl _) _).grown hgrow (by simp) (by intro k hk; simp [Value.ownBlock] at hk; omega)
end
end Go.Proofs
namespace Go.Proofs.YtiomojlcnemnhaaGreatDoor
open Go.Fx Go.RowKit Go.Ped
variable {G : World → Prop}
theorem info41 : ∃ i0 z, Tryz.prog.info? 73 = some i0 ∧ i0.zero = some z ∧ i0.size = 4 ∧ i0.bytes = 48 ∧ z.cells.size = 4 := by
  have e1 : (Tryz.prog.info? 73).map (·.bytes) = some 48 := by kernel_rfl
  have e2 : (Tryz.prog.info? 73).map (·.size) = some 4 := by kernel_rfl
  have e3 : ((Tryz.prog.info? 73).bind fun i => i.zero.map fun z => z.cells.size) = some 4 := by kernel_rfl
  obtain ⟨i0, h, h1⟩ := Option.map_eq_some_iff.1 e1
  rw [h] at e2 e3
  obtain ⟨z, h3, h4⟩ := Option.map_eq_some_iff.1 (show i0.zero.map (fun z => z.cells.size) = some 4 from e3)
  exact ⟨i0, z, h, h3, by simpa using e2, h1, h4⟩
end Go.Proofs.YtiomojlcnemnhaaGreatDoor

namespace Go.Proofs
def Tryz.slc197_ren : Go.Shelf.Ren := ⟨fun | 41 => 255 | n => n, fun | 22 => 26 | 23 => 137 | 4 => 4 | n => n, fun | n => n⟩
theorem Tryz.slc197 : Go.Proofs.SlLaysE0.n41 Tryz.prog Tryz.slc197_ren := {
  mixed := by kernel_rfl
  f41 := ⟨Tryz.f255.name, by decide, Tryz.func255.trans (congrArg some (by kernel_rfl))⟩
  t4 := Tryz.underlying4
  a4 := Tryz.isAgg4
  z4 := Tryz.sizeOf4
  v4 := Tryz.zeroValue4
  t22 := Tryz.underlying26
  a22 := Tryz.isAgg26
  z22 := Tryz.sizeOf26
  v22 := Tryz.zeroValue26 }
def Tryz.slc193b_ren : Go.Shelf.Ren := ⟨fun | 41 => 227 | n => n, fun | 22 => 27 | 23 => 107 | 4 => 4 | n => n, fun | n => n⟩
theorem Tryz.slc193b : Go.Proofs.SlLaysE0.n41 Tryz.prog Tryz.slc193b_ren := {
  mixed := by kernel_rfl
  f41 := ⟨Tryz.f227.name, by decide, Tryz.func227.trans (congrArg some (by kernel_rfl))⟩
  t4 := Tryz.underlying4
  a4 := Tryz.isAgg4
  z4 := Tryz.sizeOf4
  v4 := Tryz.zeroValue4
  t22 := Tryz.underlying27
  a22 := Tryz.isAgg27
  z22 := Tryz.sizeOf27
  v22 := Tryz.zeroValue27 }
end Go.Proofs
namespace Go.Proofs.YtiomojlcnemnhaaGreatDoor
open Go.Fx Go.RowKit Go.Ped
theorem clone_any {ρ : Go.Shelf.Ren} (L : SlLaysE0.n41 Tryz.prog ρ) (i0 : TypeInfo) (z : Value) (size bytes : Nat) (hi : Tryz.prog.info? (ρ.t 23) = some i0) (hz0 : i0.zero = some z) (hz1 : i0.size = size) (hz2 : i0.bytes = bytes) (hzs : z.cells.size = size) (hsz : 0 < size)
    (z23 : ∀ w, (Go.sizeOf (ρ.t 23)).run Tryz.prog w = .ok size w) (rows : List (List C)) (sp : Sp) (hw : ∀ r ∈ rows, r.length = size) (hbig : rows.length * bytes ≤ 140737488355328) {V : Nat → Nat → Prop} {w : World} {v : Value} (hv : RepC V w (.sl rows sp) v) :
    Calls Tryz.prog (ρ.f 41) #[v] w fun e w' => ∃ v' xs, e = .returned v' ∧ w'.ownsRow w.heap.size (ρ.t 23) size v' rows.length xs ∧ All2 (RepC V w) rows.flatten xs ∧ Below w.heap.size w w' := by
  have fin : ∀ (a : Addr) (c : Nat), Calls Tryz.prog (ρ.f 41) #[.slice (some a) 0 c] w fun e w' => ∃ v' xs, e = .returned v' ∧ w'.ownsRow w.heap.size (ρ.t 23) size v' 0 xs ∧ All2 (RepC V w) [] xs ∧ Below w.heap.size w w' := fun a c => by
    refine (clone_zero L i0 z size bytes hi hz0 hz1 hz2 hzs hsz z23 a c w).mono ?_
    rintro e w' ⟨v', rfl, hown, _, hb⟩
    exact ⟨v', [], rfl, hown, .nil, hb⟩
  have hfl : rows.flatten.length = rows.length * size := length_flatten _ hw
  cases hv with
  | nil c =>
    refine (AnyE.slices_Clone_nil L 0 0 w).mono ?_
    rintro e w' ⟨rfl, rfl⟩
    exact ⟨_, [], rfl, World.ownsRow_nil _ _ _ _, .nil, Below.refl _ _⟩
  | emp a => exact fin a 0
  | sl _ _ s b o n cap us hn hc hm hw' hul hu hr =>
    subst hn
    have hcat : (rows ++ sp).flatten = rows.flatten ++ sp.flatten := List.flatten_append
    have hus : rows.flatten.length ≤ us.length := by rw [hul, hcat, List.length_append]; omega
    have hat : ∀ (j : Nat) (u : Value), (us.take rows.flatten.length)[j]? = some u → us[j]? = some u ∧ j < rows.flatten.length := fun j u h => by
      rw [List.getElem?_take] at h
      split at h
      · rename_i hj; exact ⟨h, hj⟩
      · cases h
    have hrep : All2 (RepC V w) rows.flatten (us.take rows.flatten.length) := by
      refine ⟨by rw [List.length_take]; omega, fun j c u h1 h2 => ?_⟩
      obtain ⟨h3, h4⟩ := hat j u h2
      exact hr j c u (by rw [hcat, List.getElem?_append_left h4]; exact h1) h3
    have hcall := AnyE.slices_Clone L i0 z size bytes hi hz0 hz1 hz2 hzs hsz z23 b o rows.length cap (us.take rows.flatten.length) w (by rw [List.length_take]; omega) (by unfold maxLen at *; omega) hbig
      (fun j u h => (hu j u (hat j u h).1).1) (fun u hm => by
        obtain ⟨j, hj, rfl⟩ := List.mem_iff_getElem.1 hm
        have hj' : j < rows.flatten.length := by rw [List.length_take] at hj; omega
        exact (hrep.2 j _ _ (List.getElem?_eq_getElem hj') (List.getElem?_eq_getElem hj)).oneCell)
    refine hcall.mono ?_
    rintro e w' ⟨v', rfl, hown, _, hb⟩
    exact ⟨v', _, rfl, hown, hrep, hb⟩
theorem info_of (t s b : Nat) (e1 : (Tryz.prog.info? t).map (·.bytes) = some b) (e2 : (Tryz.prog.info? t).map (·.size) = some s) (e3 : ((Tryz.prog.info? t).bind fun i => i.zero.map fun z => z.cells.size) = some s) :
    ∃ i0 z, Tryz.prog.info? t = some i0 ∧ i0.zero = some z ∧ i0.size = s ∧ i0.bytes = b ∧ z.cells.size = s := by
  obtain ⟨i0, h, h1⟩ := Option.map_eq_some_iff.1 e1
  rw [h] at e2 e3
  obtain ⟨z, h3, h4⟩ := Option.map_eq_some_iff.1 (show i0.zero.map (fun z => z.cells.size) = some s from e3)
  exact ⟨i0, z, h, h3, by simpa using e2, h1, h4⟩
theorem clone125 (l : List Tm) (sp : Sp) (hl : l.length ≤ 1048576) {V : Nat → Nat → Prop} {w : World} {v : Value} (hv : RepC V w (.sl (l.map Tm.row) sp) v) :
    Calls Tryz.prog 79 #[v] w fun e w' => ∃ v' xs, e = .returned v' ∧ w'.ownsRow w.heap.size 73 4 v' l.length xs ∧ All2 (RepC V w) (l.map Tm.row).flatten xs ∧ Below w.heap.size w w' := by
  obtain ⟨i0, z, hi, hz0, hz1, hz2, hzs⟩ := info41
  have h := clone_any Tryz.slc125 i0 z 4 48 hi hz0 hz1 hz2 hzs (by decide) (fun w => Tryz.sizeOf73 w) (l.map Tm.row) sp (fun r hr => by obtain ⟨t, _, rfl⟩ := List.mem_map.1 hr; rfl) (by rw [List.length_map]; omega) hv
  rw [List.length_map] at h
  exact h
theorem clone197 (l : List Arg) (sp : Sp) (hl : l.length ≤ 1048576) {V : Nat → Nat → Prop} {w : World} {v : Value} (hv : RepC V w (.sl (l.map Arg.row) sp) v) :
    Calls Tryz.prog 255 #[v] w fun e w' => ∃ v' xs, e = .returned v' ∧ w'.ownsRow w.heap.size 137 5 v' l.length xs ∧ All2 (RepC V w) (l.map Arg.row).flatten xs ∧ Below w.heap.size w w' := by
  obtain ⟨i0, z, hi, hz0, hz1, hz2, hzs⟩ := info_of 137 5 56 (by kernel_rfl) (by kernel_rfl) (by kernel_rfl)
  have h := clone_any Tryz.slc197 i0 z 5 56 hi hz0 hz1 hz2 hzs (by decide) (fun w => Tryz.sizeOf137 w) (l.map Arg.row) sp (fun r hr => by obtain ⟨t, _, rfl⟩ := List.mem_map.1 hr; rfl) (by rw [List.length_map]; omega) hv
  rw [List.length_map] at h
  exact h
theorem clone193 (l : List Lit) (sp : Sp) (hl : l.length ≤ 1048576) {V : Nat → Nat → Prop} {w : World} {v : Value} (hv : RepC V w (.sl (l.map Lit.row) sp) v) :
    Calls Tryz.prog 227 #[v] w fun e w' => ∃ v' xs, e = .returned v' ∧ w'.ownsRow w.heap.size 107 16 v' l.length xs ∧ All2 (RepC V w) (l.map Lit.row).flatten xs ∧ Below w.heap.size w w' := by
  obtain ⟨i0, z, hi, hz0, hz1, hz2, hzs⟩ := info_of 107 16 216 (by kernel_rfl) (by kernel_rfl) (by kernel_rfl)
  have h := clone_any Tryz.slc193b i0 z 16 216 hi hz0 hz1 hz2 hzs (by decide) (fun w => Tryz.sizeOf107 w) (l.map Lit.row) sp (fun r hr => by obtain ⟨t, _, rfl⟩ := List.mem_map.1 hr; exact Lit.row_length _) (by rw [List.length_map]; omega) hv
  rw [List.length_map] at h
  exact h
theorem tm_cells_rep {V : Nat → Nat → Prop} {w : World} (t : Tm) : All2 (RepC V w) t.row (tmCells t) :=
  .cons (.v _ rfl) (.cons (.v _ rfl) (.cons (.v _ rfl) (.cons (.v _ rfl) .nil)))
theorem tm_cells_of {V : Nat → Nat → Prop} {w : World} {t : Tm} {us : List Value} (h : All2 (RepC V w) t.row us) : us = tmCells t := by
  obtain ⟨_, _, rfl, h1, h⟩ := h.head
  obtain ⟨_, _, rfl, h2, h⟩ := h.head
  obtain ⟨_, _, rfl, h3, h⟩ := h.head
  obtain ⟨_, _, rfl, h4, h⟩ := h.head
  obtain rfl := h.nil_left
  cases h1; cases h2; cases h3; cases h4
  rfl
theorem all2_split {α β : Type} {p : α → β → Prop} {l l' : List α} {m : List β} (h : All2 p (l ++ l') m) : ∃ m1 m2, m = m1 ++ m2 ∧ All2 p l m1 ∧ All2 p l' m2 := by
  refine ⟨m.take l.length, m.drop l.length, (List.take_append_drop _ _).symm, ?_, ?_⟩
  · have := h.take l.length; rwa [List.take_left] at this
  · have := h.drop l.length; rwa [List.drop_left] at this
theorem tms_cells_of {V : Nat → Nat → Prop} {w : World} : ∀ {l : List Tm} {us : List Value}, All2 (RepC V w) (l.map Tm.row).flatten us → us = l.flatMap tmCells
  | [], us, h => h.nil_left
  | t :: l, us, h => by
    rw [List.map_cons, List.flatten_cons] at h
    obtain ⟨m1, m2, rfl, h1, h2⟩ := all2_split h
    rw [tm_cells_of h1, tms_cells_of h2, List.flatMap_cons]
theorem tms_cells_rep {V : Nat → Nat → Prop} {w : World} : ∀ (l : List Tm), All2 (RepC V w) (l.map Tm.row).flatten (l.flatMap tmCells)
  | [] => .nil
  | t :: l => by rw [List.map_cons, List.flatten_cons, List.flatMap_cons]; exact (tm_cells_rep t).append (tms_cells_rep l)
def argCells (a : Arg) : List Value := .int .i8 a.agg :: tmCells a.t
@[simp] theorem argCells_length (a : Arg) : (argCells a).length = 5 := rfl
theorem args_cells_of {V : Nat → Nat → Prop} {w : World} : ∀ {l : List Arg} {us : List Value}, All2 (RepC V w) (l.map Arg.row).flatten us → us = l.flatMap argCells
  | [], us, h => h.nil_left
  | t :: l, us, h => by
    rw [List.map_cons, List.flatten_cons] at h
    obtain ⟨m1, m2, rfl, h1, h2⟩ := all2_split h
    rw [args_cells_of h2, List.flatMap_cons]
    obtain ⟨_, _, rfl, h3, h1⟩ := h1.head
    rw [tm_cells_of h1]
    cases h3
    rfl
theorem args_cells_rep {V : Nat → Nat → Prop} {w : World} : ∀ (l : List Arg), All2 (RepC V w) (l.map Arg.row).flatten (l.flatMap argCells)
  | [] => .nil
  | t :: l => by rw [List.map_cons, List.flatten_cons, List.flatMap_cons]; exact (All2.cons (.v _ rfl) (tm_cells_rep t.t)).append (args_cells_rep l)
theorem ownsRow_rep {V : Nat → Nat → Prop} {w : World} {base : Nat} {e : TypeId} {size : Nat} {v : Value} {xs : List Value} {rows : List (List C)} (h : w.ownsRow base e size v rows.length xs) (hw : ∀ r ∈ rows, r.length = size) (hr : All2 (RepC V w) rows.flatten xs)
    (hV : ∀ b, v.ownBlock = some b → ∀ o, V b o) : RepC V w (.sl rows []) v := by
  obtain ⟨hl, ⟨rfl, h0⟩ | ⟨g, cap, cur, rfl, _, hg, hn, hm, hsz, htk⟩⟩ := h
  · obtain rfl := List.length_eq_zero_iff.1 h0
    exact .nil 0
  · refine .sl rows [] size g 0 _ cap xs rfl (by simpa using hn) hm (by simpa using hw) (by rw [List.append_nil]; exact hr.1.symm) (fun j u hj => ⟨?_, hV g rfl _⟩) (fun j c u hj hu => hr.2 j c u (by simpa using hj) hu)
    rw [← htk, List.getElem?_take] at hj
    split at hj
    · simp only [World.cell?, hg, Nat.zero_add]
      simpa using hj
    · cases hj
def svB (v : Value) : List Nat := v.ownBlock.toList
structure LitM where
  kind : Int
  p : Name
  sv : Value
  l : List Tm
  rel : Int
  left : Nd
  right : Nd
  deriving Inhabited
def LitM.cells (x : LitM) : List Value := .int .i8 x.kind :: .string (bs x.p) :: x.sv :: .int .i8 x.rel :: (x.left.cells ++ x.right.cells)
@[simp] theorem LitM.cells_length (x : LitM) : x.cells.length = 16 := rfl
structure LitM.In (w : World) (x : LitM) : Prop where
  row : w.ownsRow 0 73 4 x.sv x.l.length (x.l.flatMap tmCells)
  left : x.left.In w
  right : x.right.In w
def LitM.blks (x : LitM) : List Nat := svB x.sv ++ (x.left.blks ++ x.right.blks)
def LitM.lit (x : LitM) : Lit := ⟨x.kind, x.p, x.l, [], x.rel, x.left.ex, x.right.ex⟩
theorem svB_mem {v : Value} {b : Nat} : b ∈ svB v ↔ v.ownBlock = some b := by unfold svB; simp
theorem ownsRow_frame' {w w' : World} {base base' : Nat} {e : TypeId} {size : Nat} {v : Value} {n : Nat} {xs : List Value} (h : w.ownsRow base e size v n xs) (hbase : base' ≤ base) (hb : ∀ g ∈ svB v, w'.heap[g]? = w.heap[g]?) : w'.ownsRow base' e size v n xs :=
  ⟨h.1, h.2.imp id fun ⟨g, cap, cur, e1, e2, e3, r⟩ => ⟨g, cap, cur, e1, Nat.le_trans hbase e2, (hb g (by rw [e1]; exact svB_mem.2 rfl)).trans e3, r⟩⟩
theorem LitM.In.frame {w w' : World} {x : LitM} (h : x.In w) (hb : ∀ b ∈ x.blks, w'.heap[b]? = w.heap[b]?) : x.In w' :=
  ⟨ownsRow_frame' h.row (Nat.le_refl _) fun g hg => hb g (List.mem_append_left _ hg), h.left.frame _ fun b hb' => hb b (List.mem_append_right _ (List.mem_append_left _ hb')), h.right.frame _ fun b hb' => hb b (List.mem_append_right _ (List.mem_append_right _ hb'))⟩
theorem LitM.In.lt {w : World} {x : LitM} (h : x.In w) : ∀ b ∈ x.blks, b < w.heap.size := fun b hb => by
  rcases List.mem_append.1 hb with hb | hb
  · exact (ownsRow_block h.row b (svB_mem.1 hb)).2
  · rcases List.mem_append.1 hb with hb | hb
    · exact h.left.lt _ b hb
    · exact h.right.lt _ b hb
theorem nd_cells_rep {V : Nat → Nat → Prop} {w : World} (n : Nd) (h : n.In w) (hV : ∀ b ∈ n.blks, ∀ o, V b o) : All2 (RepC V w) n.ex.row n.cells := by
  have hrep := Nd.rep (V := V) n h hV
  cases n with
  | mk op t b c kids =>
    rw [Nd.ex_mk, Ex.row_mk, List.map_map]
    exact .cons (.v _ rfl) (.cons (.v _ rfl) (.cons (.v _ rfl) (.cons (.v _ rfl) (.cons (.v _ rfl) (.cons hrep .nil)))))
theorem LitM.rep {V : Nat → Nat → Prop} {w : World} {x : LitM} (h : x.In w) (hV : ∀ b ∈ x.blks, ∀ o, V b o) : All2 (RepC V w) x.lit.row x.cells := by
  have h1 : RepC V w (.sl (x.l.map Tm.row) []) x.sv := ownsRow_rep (rows := x.l.map Tm.row) (by rw [List.length_map]; exact h.row) (fun r hr => by obtain ⟨t, _, rfl⟩ := List.mem_map.1 hr; rfl) (tms_cells_rep _) fun b hb => hV b (List.mem_append_left _ (svB_mem.2 hb))
  have h2 := nd_cells_rep x.left h.left fun b hb => hV b (List.mem_append_right _ (List.mem_append_left _ hb))
  have h3 := nd_cells_rep x.right h.right fun b hb => hV b (List.mem_append_right _ (List.mem_append_right _ hb))
  show All2 (RepC V w) ([cI .i8 x.kind, cS (bs x.p), .sl (x.l.map Tm.row) [], cI .i8 x.rel] ++ x.left.ex.row ++ x.right.ex.row) _
  rw [List.append_assoc]
  exact .cons (.v _ rfl) (.cons (.v _ rfl) (.cons h1 (.cons (.v _ rfl) (h2.append h3))))
structure RuleM where
  p : Name
  hv : Value
  hs : List Arg
  bv : Value
  ls : List LitM
  deriving Inhabited
def RuleM.cells (r : RuleM) : List Value := [.string (bs r.p), r.hv, r.bv]
def RuleM.blks (r : RuleM) : List Nat := svB r.hv ++ (svB r.bv ++ r.ls.flatMap LitM.blks)
structure RuleM.In (w : World) (r : RuleM) : Prop where
  head : w.ownsRow 0 137 5 r.hv r.hs.length (r.hs.flatMap argCells)
  body : w.ownsRow 0 107 16 r.bv r.ls.length (r.ls.flatMap LitM.cells)
  lits : ∀ x ∈ r.ls, x.In w
  nd : r.blks.Nodup
def RuleM.rule (r : RuleM) : Rule := ⟨r.p, r.hs, [], r.ls.map LitM.lit, []⟩
theorem lits_rep {V : Nat → Nat → Prop} {w : World} : ∀ (l : List LitM), (∀ x ∈ l, x.In w) → (∀ x ∈ l, ∀ b ∈ x.blks, ∀ o, V b o) → All2 (RepC V w) ((l.map LitM.lit).map Lit.row).flatten (l.flatMap LitM.cells)
  | [], _, _ => .nil
  | x :: l, h, hV => by
    rw [List.map_cons, List.map_cons, List.flatten_cons, List.flatMap_cons]
    exact (LitM.rep (h x (List.mem_cons_self ..)) (hV x (List.mem_cons_self ..))).append (lits_rep l (fun y hy => h y (List.mem_cons_of_mem _ hy)) fun y hy => hV y (List.mem_cons_of_mem _ hy))
theorem RuleM.rep {V : Nat → Nat → Prop} {w : World} {r : RuleM} (h : r.In w) (hV : ∀ b ∈ r.blks, ∀ o, V b o) : All2 (RepC V w) r.rule.row r.cells := by
  refine .cons (.v _ rfl) (.cons ?_ (.cons ?_ .nil))
  · exact ownsRow_rep (rows := r.hs.map Arg.row) (by rw [List.length_map]; exact h.head) (fun x hx => by obtain ⟨t, _, rfl⟩ := List.mem_map.1 hx; rfl) (args_cells_rep _) fun b hb => hV b (List.mem_append_left _ (svB_mem.2 hb))
  · exact ownsRow_rep (rows := (r.ls.map LitM.lit).map Lit.row) (by rw [List.length_map, List.length_map]; exact h.body) (fun x hx => by obtain ⟨t, _, rfl⟩ := List.mem_map.1 hx; exact Lit.row_length _)
      (lits_rep _ h.lits fun x hx b hb => hV b (List.mem_append_right _ (List.mem_append_right _ (List.mem_flatMap.2 ⟨x, hx, hb⟩)))) fun b hb => hV b (List.mem_append_right _ (List.mem_append_left _ (svB_mem.2 hb)))
theorem RuleM.In.frame {w w' : World} {r : RuleM} (h : r.In w) (hb : ∀ b ∈ r.blks, w'.heap[b]? = w.heap[b]?) : r.In w' :=
  ⟨ownsRow_frame' h.head (Nat.le_refl _) fun g hg => hb g (List.mem_append_left _ hg), ownsRow_frame' h.body (Nat.le_refl _) fun g hg => hb g (List.mem_append_right _ (List.mem_append_left _ hg)),
    fun x hx => (h.lits x hx).frame fun b hx' => hb b (List.mem_append_right _ (List.mem_append_right _ (List.mem_flatMap.2 ⟨x, hx, hx'⟩))), h.nd⟩
theorem lit_cells_of {V : Nat → Nat → Prop} {w : World} {x : Lit} {us : List Value} (h : All2 (RepC V w) x.row us) : ∃ u vl vr, us = .int .i8 x.kind :: .string (bs x.p) :: u :: .int .i8 x.rel :: (exCells x.left vl ++ exCells x.right vr) ∧ RepC V w (.sl (x.l.map Tm.row) x.sp) u ∧ KidsRep V w x.left vl ∧ KidsRep V w x.right vr := by
  unfold Lit.row at h
  rw [List.append_assoc] at h
  obtain ⟨m1, m2, rfl, h1, h2⟩ := all2_split h
  obtain ⟨m3, m4, rfl, h3, h4⟩ := all2_split h2
  obtain ⟨_, _, rfl, a1, h1⟩ := h1.head
  obtain ⟨_, _, rfl, a2, h1⟩ := h1.head
  obtain ⟨u, _, rfl, a3, h1⟩ := h1.head
  obtain ⟨_, _, rfl, a4, h1⟩ := h1.head
  obtain rfl := h1.nil_left
  have six : ∀ {e : Ex} {us : List Value}, All2 (RepC V w) e.row us → ∃ v, us = exCells e v ∧ KidsRep V w e v := fun {e us} h => by
    rw [Ex.row_eq] at h
    obtain ⟨_, _, rfl, b1, h⟩ := h.head
    obtain ⟨_, _, rfl, b2, h⟩ := h.head
    obtain ⟨_, _, rfl, b3, h⟩ := h.head
    obtain ⟨_, _, rfl, b4, h⟩ := h.head
    obtain ⟨_, _, rfl, b5, h⟩ := h.head
    obtain ⟨v, _, rfl, b6, h⟩ := h.head
    obtain rfl := h.nil_left
    cases b1; cases b2; cases b3; cases b4; cases b5
    exact ⟨v, rfl, b6⟩
  obtain ⟨vl, rfl, k1⟩ := six h3
  obtain ⟨vr, rfl, k2⟩ := six h4
  cases a1; cases a2; cases a4
  exact ⟨u, vl, vr, rfl, a3, k1, k2⟩
end Go.Proofs.YtiomojlcnemnhaaGreatDoor

/- Contracts, on: a list's copy as memory. -/
import Derived.Test.YtiomojlcnemnhaaDoorKFxWf
import Derived.Test.YtiomojlcnemnhaaDoorKDxItoa
import Derived.Shelf.SlicesE.Clone
namespace Go.Proofs
def Tryd.lays125_ren : Go.Shelf.Ren := ⟨fun | 41 => 125 | n => n, fun | 22 => 22 | 23 => 41 | 4 => 4 | n => n, fun | n => n⟩
theorem Tryd.lays125 : Go.Proofs.SlLaysE0.n41 Tryd.prog Tryd.lays125_ren := {
  mixed := by kernel_rfl
  f41 := ⟨Tryd.f125.name, by decide, Tryd.func125.trans (congrArg some (by kernel_rfl))⟩
  t4 := Tryd.underlying4
  a4 := Tryd.isAgg4
  z4 := Tryd.sizeOf4
  v4 := Tryd.zeroValue4
  t22 := Tryd.underlying22
  a22 := Tryd.isAgg22
  z22 := Tryd.sizeOf22
  v22 := Tryd.zeroValue22 }
section
open Go.Shelf Go.RowKit Go.Lib
variable {P : Program} {ρ : Ren}
set_option maxHeartbeats 2000000 in
set_option maxRecDepth 100000 in
/-- slices.Clone of what is empty and not nil, whatever its address. -/
theorem clone_zero (L : SlLaysE0.n41 P ρ) (i0 : TypeInfo) (z : Value) (size bytes : Nat) (hi : P.info? (ρ.t 23) = some i0) (hz0 : i0.zero = some z) (hz1 : i0.size = size) (hz2 : i0.bytes = bytes) (hzs : z.cells.size = size) (hsz : 0 < size)
    (z23 : ∀ w, (Go.sizeOf (ρ.t 23)).run P w = .ok size w) (a : Addr) (c : Nat) (w : World) :
    Calls P (ρ.f 41) #[.slice (some a) 0 c] w fun e w' => ∃ v', e = .returned v' ∧ w'.ownsRow w.heap.size (ρ.t 23) size v' 0 [] ∧ v' ≠ .slice none 0 0 ∧ Below w.heap.size w w' := by
  have mixed := L.mixed; have t4 := L.t4; have a4 := L.a4; have z4 := L.z4; have v4 := L.v4; have t22 := L.t22; have a22 := L.a22; have z22 := L.z22; have v22 := L.v22
  have q22 : ∀ (w : World) (a : Option Addr) (n c n' c' : Nat), (binOp .eql (ρ.t 22) (.slice a n c) (.slice none n' c')).run P w = .ok (.bool a.isNone) w := fun w a n c n' c' => Lib.run_eql_slice_nil w _ _ a n c n' c' L.t22
  have u22 : ∀ w, Sem.run P (underlying (ρ.t 22)) w = .ok (TypeDesc.slice (ρ.t 23)) w := run_underlying t22
  obtain ⟨_, _, FG⟩ := L.f41
  go_enter FG, SlBodyN.n41_ntmps ρ
  go_wp2_with (at_builtin; refine wpList_append_own _ rfl _ _ (ρ.t 22) rfl w.heap.size (ρ.t 23) i0 z size bytes t22 hi hz0 hz1 hz2 hzs hsz _ _ _ rfl (World.ownsRow_made w #[] 0 (Nat.le_refl _) (Nat.zero_le _) (by simp)) a 0 c [] rfl (by simp) (by intro j u hj; simp at hj) (by intro u hu; cases hu) (by unfold maxLen; omega) (by omega) (by simp) ?_)
  intro v' w1 hown hgrow hnil
  go_wp2
  go_ret
  refine ⟨v', rfl, by simpa using hown, ?_, ?_⟩
  · first | exact hnil | (intro e; exact absurd (hnil.1 e).1 (by simp))
  · exact ((Below.refl _ w).alloc (Nat.le_refl _) _).grown hgrow (by simp) (by intro k hk; simp [Value.ownBlock] at hk; omega)
end
end Go.Proofs
namespace Go.Proofs.YtiomojlcnemnhaaDoor
open Go.Fx Go.RowKit Go.Ped
variable {G : World → Prop}

theorem info41 : ∃ i0 z, Tryd.prog.info? 41 = some i0 ∧ i0.zero = some z ∧ i0.size = 4 ∧ i0.bytes = 48 ∧ z.cells.size = 4 := by
  have e1 : (Tryd.prog.info? 41).map (·.bytes) = some 48 := by kernel_rfl
  have e2 : (Tryd.prog.info? 41).map (·.size) = some 4 := by kernel_rfl
  have e3 : ((Tryd.prog.info? 41).bind fun i => i.zero.map fun z => z.cells.size) = some 4 := by kernel_rfl
  obtain ⟨i0, h, h1⟩ := Option.map_eq_some_iff.1 e1
  rw [h] at e2 e3
  obtain ⟨z, h3, h4⟩ := Option.map_eq_some_iff.1 (show i0.zero.map (fun z => z.cells.size) = some 4 from e3)
  exact ⟨i0, z, h, h3, by simpa using e2, h1, h4⟩

theorem w125 (l : List Tm) (sp : Sp) (hne : l ≠ []) (hl : l.length ≤ 1048576) : MeetsH Tryd.prog G 125 [.one (.c (.sl (l.map Tm.row) sp))] (hp [] [] F0) (.x (.one (.arr 1 0 l.length l.length))) (hp [(1, bxT l)] [] F0) := by
  have hrows : (l.map Tm.row).length = l.length := List.length_map ..
  have key := MeetsH.of_new (P := Tryd.prog) (G := G) (f := 125) (args := [.one (.c (.sl (l.map Tm.row) sp))]) (k := 1) (ty := 41) (size := 4) (rows := l.map Tm.row) (by kernel_rfl) (by simp) (fun r hr => by obtain ⟨t, _, rfl⟩ := List.mem_map.1 hr; rfl) ?_
  · rw [hrows, List.map_map] at key
    exact key
  intro w env vs hV ha
  obtain ⟨v, vs', rfl, hv, ha'⟩ := ha.head
  obtain rfl := ha'.nil_left
  obtain ⟨i0, z, hi, hz0, hz1, hz2, hzs⟩ := info41
  have hv' : RepC env.V w (.sl (l.map Tm.row) sp) v := hv
  generalize hR : l.map Tm.row = R at hv' hrows
  have hR4 : ∀ r ∈ R, r.length = 4 := fun r hr => by rw [← hR] at hr; obtain ⟨t, _, rfl⟩ := List.mem_map.1 hr; rfl
  have hRne : R ≠ [] := fun e => hne (by rw [e] at hR; simpa using hR)
  have hfl : R.flatten.length = R.length * 4 := by
    clear hR hrows hv' hRne
    induction R with
    | nil => rfl
    | cons r R ih =>
      rw [List.flatten_cons, List.length_append, hR4 r (List.mem_cons_self ..), ih fun x hx => hR4 x (List.mem_cons_of_mem _ hx), List.length_cons]
      omega
  cases hv' with
  | nil c => exact absurd rfl hRne
  | emp a => exact absurd rfl hRne
  | sl _ _ s b o n cap us hn hc hm hw hul hu hr =>
    have hcat : (R ++ sp).flatten = R.flatten ++ sp.flatten := List.flatten_append
    have hus : R.flatten.length ≤ us.length := by rw [hul, hcat, List.length_append]; omega
    have hat : ∀ (j : Nat) (u : Value), (us.take R.flatten.length)[j]? = some u → us[j]? = some u ∧ j < R.flatten.length := fun j u h => by
      rw [List.getElem?_take] at h
      split at h
      · rename_i hj; exact ⟨h, hj⟩
      · cases h
    have hrep : All2 (RepC env.V w) R.flatten (us.take R.flatten.length) := by
      refine ⟨by rw [List.length_take]; omega, fun j c u h1 h2 => ?_⟩
      obtain ⟨h3, h4⟩ := hat j u h2
      exact hr j c u (by rw [hcat, List.getElem?_append_left h4]; exact h1) h3
    have hcall := AnyE.slices_Clone Tryd.lays125 i0 z 4 48 hi hz0 hz1 hz2 hzs (by decide) (fun w => Tryd.sizeOf41 w) b o n cap (us.take R.flatten.length) w (by rw [List.length_take, hn]; omega) (by rw [hn]; unfold maxLen at *; omega) (by rw [hn]; omega)
      (fun j u h => (hu j u (hat j u h).1).1) (fun u hm => by
        obtain ⟨j, hj, rfl⟩ := List.mem_iff_getElem.1 hm
        have hj' : j < R.flatten.length := by rw [List.length_take] at hj; omega
        exact (hrep.2 j _ _ (List.getElem?_eq_getElem hj') (List.getElem?_eq_getElem hj)).oneCell)
    refine hcall.mono ?_
    rintro e w' ⟨v', rfl, hown, hne', hb⟩
    refine ⟨v', _, rfl, hne', ?_, hrep, hb⟩
    rw [← hn]
    exact hown

theorem repC_none {V : Nat → Nat → Prop} {w : World} {base : Nat} {e : TypeId} {size : Nat} {v : Value} (h : w.ownsRow base e size v 0 []) : RepC V w (.sl [] []) v := by
  obtain ⟨_, ⟨rfl, _⟩ | ⟨g, cap, cur, rfl, hbase, hg, hn, hm, hsz, htk⟩⟩ := h
  · exact .nil 0
  · exact .sl [] [] 0 g 0 0 cap [] rfl (by simp) hm (by simp) rfl (fun j u h => by simp at h) (fun j c u h => by simp at h)
theorem m125 (sp : Sp) : Meets Tryd.prog G 125 [.one (.sl [] sp)] (.x (.one (.sl [] []))) := by
  refine ⟨by kernel_rfl, fun w V vs _ _ ha => ?_⟩
  obtain ⟨v, vs', rfl, hv, ha'⟩ := ha.head
  obtain rfl := ha'.nil_left
  obtain ⟨i0, z, hi, hz0, hz1, hz2, hzs⟩ := info41
  have hv' : RepC V w (.sl [] sp) v := hv
  have fin : ∀ (a : Addr) (c : Nat), Calls Tryd.prog 125 #[.slice (some a) 0 c] w fun e w' => ∃ v, e = .returned v ∧ RepCR (fun b o => V b o ∨ w.heap.size ≤ b) w' (.x (.one (.sl [] []))) v ∧ Below w.heap.size w w' := fun a c => by
    have hcall := clone_zero Tryd.lays125 i0 z 4 48 hi hz0 hz1 hz2 hzs (by decide) (fun w => Tryd.sizeOf41 w) a c w
    refine hcall.mono ?_
    rintro e w' ⟨v', rfl, hown, _, hb⟩
    exact ⟨v', rfl, repC_none hown, hb⟩
  generalize hE : ([] : List (List C)) = E at hv'
  cases hv' with
  | nil c =>
    refine (AnyE.slices_Clone_nil Tryd.lays125 0 0 w).mono ?_
    rintro e w' ⟨rfl, rfl⟩
    exact ⟨_, rfl, .nil 0, Below.refl _ _⟩
  | emp a => exact fin a 0
  | sl _ _ s b o n cap us hn hc hm hw hul hu hr =>
    subst hE
    simp at hn
    subst hn
    exact fin ⟨b, o, none⟩ cap
end Go.Proofs.YtiomojlcnemnhaaDoor

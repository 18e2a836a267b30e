import Derived.Test.YtiomojlcnemnhaaGreatDoorWGxZ2
import Derived.Test.YtiomojlcnemnhaaGreatDoorWGxW1
import Derived.Test.YtiomojlcnemnhaaGreatDoorWGxIcL
import Derived.Test.YtiomojlcnemnhaaGreatDoorWPedF
import Derived.Test.YtiomojlcnemnhaaGreatDoorWGxX13
import Derived.Test.YtiomojlcnemnhaaGreatDoorWGxX2
import Derived.Lib.LaidTab
import Derived.Lib.AppendIntMem
/- Fx, part We: a call that looks at a heap and leaves it as it is, out of what it does to worlds. -/
namespace Go.Fx
open Go.RowKit

section
variable {P : Program} {G : World → Prop}

/-- It looks at the heap, hands back what lies in what nobody writes or in new memory, and leaves all as it was. -/
theorem MeetsH.of_below {f : FuncId} {args : List X} {h : Hp} {res : CR} (hcl : callable P f = true) (hx : ∀ x ∈ args, x.only (fun _ => True) (fun k => h.toks k ≠ none)) (ho : h.only (fun _ => True) (fun k => h.toks k ≠ none))
    (hm : ∀ (w : World) (env : Env) (F : Nat → Prop) (vs : List Value), HMem env h F w → All2 (RepX env h.toks w) args vs → Calls P f vs.toArray w fun e w' => ∃ v, e = .returned v ∧ RepCR (fun b o => env.V b o ∨ w.heap.size ≤ b) w' res v ∧ Below w.heap.size w w') :
    MeetsH P G f args h res.open h := by
  refine ⟨hcl, hx, ho, fun w env F vs _ hmem _ ha => ?_⟩
  refine (hm w env F vs hmem ha).mono ?_
  rintro e w' ⟨v, rfl, hr, hb⟩
  have hcell : ∀ b o, env.V b o → w'.cell? ⟨b, o, none⟩ = w.cell? ⟨b, o, none⟩ := fun b o hv => hb.cell (p := ⟨b, o, none⟩) (hmem.vlt b o hv)
  let env' : Env := { env with V := fun b o => env.V b o ∨ (w.heap.size ≤ b ∧ b < w'.heap.size) }
  have hle : env.Le env' h.toks h.toks w w' := ⟨fun _ _ x => .inl x, hcell, fun _ _ x => x, fun _ t x => ⟨t, x, rfl, Nat.le_refl _, fun _ => rfl⟩⟩
  have hV : ∀ b o, b < w.heap.size → env'.V b o → env.V b o := fun b o hlt hv => hv.elim id fun h => absurd hlt (Nat.not_lt.mpr h.1)
  refine ⟨v, env', F, rfl, openR_rep (fun b o h => h.1.elim .inl fun hh => .inr ⟨hh, h.2⟩) hr.bound, {
    mem := {
      vlt := fun b o hv => hv.elim (fun h => Nat.lt_of_lt_of_le (hmem.vlt b o h) hb.size) fun h => h.2
      ρlt := fun k b s hk => Nat.lt_of_lt_of_le (hmem.ρlt k b s hk) hb.size
      τlt := fun k v b hk hv => Nat.lt_of_lt_of_le (hmem.τlt k v b hk hv) hb.size
      objs := fun k x hk => by
        obtain ⟨b, us, g1, g2, g3, g4, g5⟩ := hmem.objs k x hk
        exact ⟨b, us, g1, g2.of (hb.block b g2.lt), g3.imp fun _ _ _ => RepA.mono hle, g4, fun o hv => g5 o (hV b o g2.lt hv)⟩
      inj := hmem.inj
      toks := fun k t hk => by
        obtain ⟨v, xs, g1, g2, g3⟩ := hmem.toks k t hk
        exact ⟨v, xs, g1, ownsRow_of_block g2 fun b hv => hb.block b (g2.lt b hv).2, fun b hv => ⟨fun o ho hh => (g3 b hv).1 o ho (hV b o (g2.lt b hv).2 hh), (g3 b hv).2⟩⟩
      tinj := hmem.tinj
      sep := hmem.sep
      ext := h.ext.mono (w := w) (fun _ _ x => .inl x) hcell (fun b hF => hb.block b (hmem.flt b hF).1) hmem.ext
      flt := fun b hF => by
        obtain ⟨g1, g2, g3, g4⟩ := hmem.flt b hF
        exact ⟨Nat.lt_of_lt_of_le g1 hb.size, fun o hv => g2 o (hV b o g1 hv), g3, g4⟩ }
    kept := KeptBut.of_below hb
    owned := fun b hb => .inr hb
    vold := fun b o hv => .inl hv
    vcell := hcell
    vnew := fun b o hv => hv.imp id fun h => .inl h.1
    ρold := fun _ _ x => x
    ρnew := fun _ _ x => .inl x
    τold := fun _ _ _ => rfl
    τnew := fun k v hk => .inl (by rw [show env.τ k = some v from hk]; simp)
    tok := fun k t t' h1 h2 => by rw [h1] at h2; injection h2 with h2; subst h2; exact ⟨rfl, Nat.le_refl _, fun _ => rfl⟩ }⟩

section
variable {P : Program} {G : World → Prop} {L : List (Nat × T)} {O : List (Nat × Box)} {U : List (Nat × Tok)} {H : FHp} {l : List IOper} {K : S → Prop} {d : Nat}
end
end
end Go.Fx

/- Contracts, on: what a variable is by a list; the fact that an atom becomes. -/
namespace Go.Proofs.YtiomojlcnemnhaaGreatDoor
open Go.Fx Go.RowKit Go.Ped
variable {G : World → Prop}

theorem m89 (n : Int) : Meets Tryz.prog G 137 [.one (cI .i64 n)] (.x (.agg [cI .i8 1, cI .i64 n, cS (bs [])])) := by
  refine meets Tryz.func137 ie89 ig89 (Nat.le_of_ble_eq_true rfl) ?_
  simp [ic89, ir89]
end Go.Proofs.YtiomojlcnemnhaaGreatDoor

/- Contracts, on: some expressions' values. -/
namespace Go.Proofs.YtiomojlcnemnhaaGreatDoor
open Go.Fx Go.RowKit Go.Ped
variable {G : World → Prop}

/-- What the operations take, as the program has it. -/
abbrev takesTab : List Int := [0, 1, 2, 2, 2, 2, 2, 4, 3, 3, 3]
abbrev GK : World → Prop := fun w => Lib.TabIs Tryz.prog w "pedigree/value.takes" .i8 takesTab
theorem gTakes : Tryz.prog.globalNamed "pedigree/value.takes" = some 0 := by kernel_rfl
theorem takes_at (i : Nat) (hi : i < 11) : ∀ w, GK w → w.cell? ⟨0, i, none⟩ = some (.int .i8 (takesTab.getD i 0)) := fun _ h => h.cell gTakes i hi

theorem w1 : IntKind.i64.wrap 1 = 1 := by decide
theorem w2 : IntKind.i64.wrap 2 = 2 := by decide
abbrev nmR (n : Int) : List C := [cI .i8 1, cI .i64 n, cS (bs [])]
theorem m102 (n : Int) : Meets Tryz.prog G 320 [.one (cI .i64 n)] (.tup [.agg (nmR n), .one (cB true)]) := by
  refine meets Tryz.func320 ie102 ig102 (Nat.le_of_ble_eq_true rfl) ?_
  simp [ic102, ir102]
/-- The map of what is bound, handed over. -/
abbrev OB (m : List Tm) : List (Nat × Box) := [(10040, ⟨0, 4, m.map mpRow, some (.string, false)⟩)]
attribute [simp] OB
theorem midB {U : List (Nat × Tok)} {H : FHp} (m : List Tm) : ∀ p ∈ OB m, midKey p.1 ∧ ∀ r ∈ p.2.rows, onlyL (fun k => ¬ ownKey k) (fun k => (lookT U k).or (H.toks k) ≠ none) r := by
  intro p hp
  simp only [List.mem_singleton] at hp
  subst hp
  refine ⟨by unfold midKey; omega, fun r hr => ?_⟩
  obtain ⟨q, _, rfl⟩ := List.mem_map.1 hr
  simp [mpRow, Val.row]
theorem midB2 {O2 : List (Nat × Box)} {U2 : List (Nat × Tok)} {H2 : FHp} (m : List Tm) : ∀ p ∈ OB m, ∀ r ∈ p.2.rows, onlyL (fun k => ¬ ownKey k ∨ lookO O2 k ≠ none) (fun k => (lookT U2 k).or (H2.toks k) ≠ none) r := by
  intro p hp r hr
  simp only [List.mem_singleton] at hp
  subst hp
  obtain ⟨q, _, rfl⟩ := List.mem_map.1 hr
  simp [mpRow, Val.row]
abbrev lfR (v : Name) (x : Val) (ks : Sp) : List C := [cI .i8 0, cS (bs v), cI .i8 x.k, cI .i64 x.n, cS (bs x.s), .sl [] ks]
abbrev vR (x : Val) : List C := [cI .i8 x.k, cI .i64 x.n, cS (bs x.s)]

/-- A value by itself. -/
theorem e96c (X : XP) (m : List Tm) (x : Val) (ks : Sp) : MeetsH Tryz.prog G 222 [.agg ((lfR [] x ks).map A.c), .one (.mapr 10040)] (hp (OB m) [] (FX X)) (.tup [.agg ((vR x).map A.c), .one (.c (cB true))]) (hp (OB m) [] (FX X)) := by
  refine meetsH [] Tryz.func222 ie96 ig96 (Nat.le_of_ble_eq_true rfl) (midB m) (by simp) (by simp [ownKey]) (by simp) (by simp) (sameKeys_refl _) (midB2 _) (by simp) ?_
  simp [ic96, ir96, strikeL_mpRow]
  exact ret_st (by simp) (by simp) (by simp [strikeL_mpRow, strikeL_mpRow']) (by simp) (by simp) (by simp)
/-- A variable that is bound. -/
theorem e96v (X : XP) (m : List Tm) (v : Name) (x w : Val) (ks : Sp) (hv : v ≠ []) (hb : bindOf m v = some w) (hw : Val.ok w = true) : MeetsH Tryz.prog G 222 [.agg ((lfR v x ks).map A.c), .one (.mapr 10040)] (hp (OB m) [] (FX X)) (.tup [.agg ((vR w).map A.c), .one (.c (cB true))]) (hp (OB m) [] (FX X)) := by
  refine meetsH [] Tryz.func222 ie96 ig96 (Nat.le_of_ble_eq_true rfl) (midB m) (by simp) (by simp [ownKey]) (by simp) (by simp) (sameKeys_refl _) (midB2 _) (by simp) ?_
  have hg := mapGet_binds v m
  rw [hb] at hg
  have h92 := m92 (G := G) w.k w.n w.s
  rw [show valOk w.k w.n w.s = true from hw] at h92
  simp only [Option.getD_some, Val.row, List.map_cons, List.map_nil] at hg
  have hne : v.isEmpty = false := by simpa using hv
  simp [ic96, ir96, hv, hne, hg, strikeL_mpRow, strikeL_mpRow']
  refine call_of h92 ?_
  simp
  exact ret_st (by simp) (by simp) (by simp [strikeL_mpRow, strikeL_mpRow']) (by simp) (by simp) (by simp)
end Go.Proofs.YtiomojlcnemnhaaGreatDoor

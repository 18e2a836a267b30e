import Derived.Test.YtiomojlcnemnhaaAFxWc
namespace Go.Fx
open Go.RowKit
section
variable {P : Program} {G : World → Prop} {L : List (Nat × T)} {O : List (Nat × Box)} {U : List (Nat × Tok)} {H : FHp} {l : List IOper} {K : S → Prop} {d : Nat}
end
end Go.Fx

namespace Go.Fx
open Go.RowKit
section
variable {P : Program} {G : World → Prop}
theorem MeetsH.of_below {f : FuncId} {args : List X} {h : Hp} {res : CR} (hcl : callable P f = true) (hx : ∀ x ∈ args, x.only (fun _ => True) (fun k => h.toks k ≠ none)) (ho : h.only (fun _ => True) (fun k => h.toks k ≠ none))
    (hm : ∀ (w : World) (env : Env) (F : Nat → Prop) (vs : List Value), HMem env h F w → All2 (RepX env h.toks w) args vs → Calls P f vs.toArray w fun e w' => ∃ v, e = .returned v ∧ RepCR (fun b o => env.V b o ∨ w.heap.size ≤ b) w' res v ∧ Below w.heap.size w w') :
    MeetsH P G f args h res.open h := by
  refine ⟨hcl, hx, ho, fun w env F vs _ hmem _ ha => ?_⟩
  refine (hm w env F vs hmem ha).mono ?_
  rintro e w' ⟨v, rfl, hr, hb⟩
  have hcell : ∀ b o, env.V b o → w'.cell? ⟨b, o, none⟩ = w.cell? ⟨b, o, none⟩ := fun b o hv => hb.cell (p := ⟨b, o, none⟩) (hmem.vlt b o hv)
  let env' : Env := { env with V := fun b o => env.V b o ∨ (w.heap.size ≤ b ∧ b < w'.heap.size) }
  have hle : env.Le env' h.toks h.toks w w' := ⟨fun _ _ x => .inl x, hcell, fun _ _ x => x, fun _ t x => ⟨t, x, rfl, Nat.le_refl _, fun _ => rfl⟩⟩
  have hV : ∀ b o, b < w.heap.size → env'.V b o → env.V b o := fun b o hlt hv => hv.elim id fun h => absurd hlt (Nat.not_lt.mpr h.1)
  refine ⟨v, env', F, rfl, openR_rep (fun b o h => h.1.elim .inl fun hh => .inr ⟨hh, h.2⟩) hr.bound, {
    mem := {
      vlt := fun b o hv => hv.elim (fun h => Nat.lt_of_lt_of_le (hmem.vlt b o h) hb.size) fun h => h.2
      ρlt := fun k b s hk => Nat.lt_of_lt_of_le (hmem.ρlt k b s hk) hb.size
      τlt := fun k v b hk hv => Nat.lt_of_lt_of_le (hmem.τlt k v b hk hv) hb.size
      objs := fun k x hk => by
        obtain ⟨b, us, g1, g2, g3, g4, g5⟩ := hmem.objs k x hk
        exact ⟨b, us, g1, g2.of (hb.block b g2.lt), g3.imp fun _ _ _ => RepA.mono hle, g4, fun o hv => g5 o (hV b o g2.lt hv)⟩
      inj := hmem.inj
      toks := fun k t hk => by
        obtain ⟨v, xs, g1, g2, g3⟩ := hmem.toks k t hk
        exact ⟨v, xs, g1, ownsRow_of_block g2 fun b hv => hb.block b (g2.lt b hv).2, fun b hv => ⟨fun o ho hh => (g3 b hv).1 o ho (hV b o (g2.lt b hv).2 hh), (g3 b hv).2⟩⟩
      tinj := hmem.tinj
      sep := hmem.sep
      ext := h.ext.mono (w := w) (fun _ _ x => .inl x) hcell (fun b hF => hb.block b (hmem.flt b hF).1) hmem.ext
      flt := fun b hF => by
        obtain ⟨g1, g2, g3, g4⟩ := hmem.flt b hF
        exact ⟨Nat.lt_of_lt_of_le g1 hb.size, fun o hv => g2 o (hV b o g1 hv), g3, g4⟩ }
    kept := KeptBut.of_below hb
    owned := fun b hb => .inr hb
    vold := fun b o hv => .inl hv
    vcell := hcell
    vnew := fun b o hv => hv.imp id fun h => .inl h.1
    ρold := fun _ _ x => x
    ρnew := fun _ _ x => .inl x
    τold := fun _ _ _ => rfl
    τnew := fun k v hk => .inl (by rw [show env.τ k = some v from hk]; simp)
    tok := fun k t t' h1 h2 => by rw [h1] at h2; injection h2 with h2; subst h2; exact ⟨rfl, Nat.le_refl _, fun _ => rfl⟩ }⟩
section
variable {P : Program} {G : World → Prop} {L : List (Nat × T)} {O : List (Nat × Box)} {U : List (Nat × Tok)} {H : FHp} {l : List IOper} {K : S → Prop} {d : Nat}
end
end
end Go.Fx

import Derived.Test.YtiomojlcnemnhaaGreatDoorCGxRow
import Derived.Test.YtiomojlcnemnhaaGreatDoorCGxM3
import Derived.Test.YtiomojlcnemnhaaGreatDoorCGxY3
import Derived.Test.YtiomojlcnemnhaaGreatDoorCGxIcI
import Derived.Test.YtiomojlcnemnhaaGreatDoorCPedF
import Derived.Test.YtiomojlcnemnhaaGreatDoorCGxX13
import Derived.Lib.LaidTab
import Derived.Lib.AppendIntMem
import Derived.Test.YtiomojlcnemnhaaGreatDoorCGxX11
namespace Go.Fx
open Go.RowKit
section
variable {P : Program} {G : World → Prop} {L : List (Nat × T)} {O : List (Nat × Box)} {U : List (Nat × Tok)} {H : FHp} {l : List IOper} {K : S → Prop} {d : Nat}
theorem r_callW {f : D} {args : List D} {gd : Option (Nat × Bool)} (fv : A) (xs : List X) (O1 : List (Nat × Box)) (U1 : List (Nat × Tok)) (res : R) (O2 : List (Nat × Box)) (U2 : List (Nat × Tok)) (hm : MeetsV P G fv xs (hp O1 U1 H) res (hp O2 U2 H))
    (hg : guardO (st L O U H) gd = some true) (hf : f.val (st L O U H) = .k true (.x (.one fv))) (ha : (args.all fun d => (d.val (st L O U H)).g) = true) (hx : fitsR (args.map fun d => (d.val (st L O U H)).r) xs)
    (hc : ((∀ p ∈ O1, lookO O p.1 = some p.2 ∧ p.1 < 15000) ∧ (∀ p ∈ U1, lookT U p.1 = some p.2 ∧ p.1 < 15000) ∧ (∀ p ∈ O, p.1 < 15000) ∧ (∀ p ∈ U, p.1 < 15000)) ∧
      (∀ p ∈ O1, lookO O2 p.1 ≠ none) ∧ (∀ p ∈ U1, lookT U2 p.1 ≠ none) ∧ (∀ p ∈ O2, lookO O1 p.1 = none → lookO O p.1 = none ∧ p.1 < 10000) ∧ ∀ p ∈ U2, lookT U1 p.1 = none → lookT U p.1 = none ∧ p.1 < 10000)
    (h : atK P G l ((d, .k true res) :: L) (updsO O2 O) (updsT U2 U) H K) : runK P G (⟨some d, .call f args, gd, none⟩ :: l) (st L O U H) K :=
  r_callV fv xs O1 U1 res O2 U2 H hm hg hf ha hx hc.1.1 hc.1.2.1 hc.1.2.2.1 hc.1.2.2.2 hc.2.1 hc.2.2.1 hc.2.2.2.1 hc.2.2.2.2 (sameKeys_refl H) rfl h
theorem hp_objs0 (O : List (Nat × Box)) (U : List (Nat × Tok)) (k : Nat) : (hp O U F0).objs k = lookO O k := by
  show (lookO O k).or none = _
  simp
end
end Go.Fx

namespace Go.Ped
structure Eqn where
  left : Name
  right : Name
  lefts : List Name
  rights : List Name
  deriving DecidableEq, Inhabited
def allIn (l f : List Name) : Bool := l.all fun v => f.contains v
def take (f : List Name) (q : Eqn) : Option Name :=
  if q.left != [] && !f.contains q.left && allIn q.rights f then some q.left
  else if q.right != [] && !f.contains q.right && allIn q.lefts f then some q.right
  else none
def Eqn.wf (q : Eqn) : Prop := (q.left ≠ [] → q.lefts = [q.left]) ∧ (q.right ≠ [] → q.rights = [q.right])
def Dead (f : List Name) (q : Eqn) : Prop := ∀ f', (∀ v ∈ f, v ∈ f') → take f' q = none
theorem Dead.mono {f f' : List Name} {q : Eqn} (h : ∀ v ∈ f, v ∈ f') (hd : Dead f q) : Dead f' q := fun g hg => hd g fun v hv => hg v (h v hv)
inductive Waits (f : List Name) : List Eqn → List Eqn → Prop
  | nil : Waits f [] []
  | keep {q : Eqn} {l w : List Eqn} (h : Waits f l w) : Waits f (q :: l) (q :: w)
  | gone {q : Eqn} {l w : List Eqn} (hd : Dead f q) (h : Waits f l w) : Waits f (q :: l) w
theorem Waits.mono {f f' : List Name} (hf : ∀ v ∈ f, v ∈ f') {l w : List Eqn} (h : Waits f l w) : Waits f' l w := by
  induction h with
  | nil => exact .nil
  | keep _ ih => exact .keep ih
  | gone hd _ ih => exact .gone (hd.mono hf) ih
theorem Waits.refl (f : List Name) : ∀ l, Waits f l l
  | [] => .nil
  | _ :: l => .keep (Waits.refl f l)
end Go.Ped

namespace Go.Proofs.YtiomojlcnemnhaaGreatDoor
open Go.Fx Go.RowKit Go.Ped
variable {G : World → Prop}
abbrev OF (a b c : Nat) (acc : List Name) : List (Nat × Box) := [(a, ⟨203, 2, [[.own c (acc.map nmRow), .mapr b]], none⟩), (b, ⟨0, 2, thr 0 acc, some (.string, true)⟩)]
abbrev UF (c : Nat) (acc : List Name) : List (Nat × Fx.Tok) := [(c, ⟨9, 1, acc.length⟩)]
attribute [simp] thr_strike thr_get OF UF
end Go.Proofs.YtiomojlcnemnhaaGreatDoor

namespace Go.Proofs.YtiomojlcnemnhaaGreatDoor
open Go.Fx Go.RowKit Go.Ped
variable {G : World → Prop}
def Eqn.row (q : Eqn) : List C := [cS (bs q.left), cS (bs q.right), .sl (q.lefts.map nmRow) [], .sl (q.rights.map nmRow) []]
@[simp] theorem eqn_len (q : Eqn) : (Eqn.row q).length = 4 := rfl
end Go.Proofs.YtiomojlcnemnhaaGreatDoor

namespace Go.Fx
open Go.RowKit
section
variable {P : Program} {G : World → Prop}
theorem MeetsH.of_below {f : FuncId} {args : List X} {h : Hp} {res : CR} (hcl : callable P f = true) (hx : ∀ x ∈ args, x.only (fun _ => True) (fun k => h.toks k ≠ none)) (ho : h.only (fun _ => True) (fun k => h.toks k ≠ none))
    (hm : ∀ (w : World) (env : Env) (F : Nat → Prop) (vs : List Value), HMem env h F w → All2 (RepX env h.toks w) args vs → Calls P f vs.toArray w fun e w' => ∃ v, e = .returned v ∧ RepCR (fun b o => env.V b o ∨ w.heap.size ≤ b) w' res v ∧ Below w.heap.size w w') :
    MeetsH P G f args h res.open h := by
  refine ⟨hcl, hx, ho, fun w env F vs _ hmem _ ha => ?_⟩
  refine (hm w env F vs hmem ha).mono ?_
  rintro e w' ⟨v, rfl, hr, hb⟩
  have hcell : ∀ b o, env.V b o → w'.cell? ⟨b, o, none⟩ = w.cell? ⟨b, o, none⟩ := fun b o hv => hb.cell (p := ⟨b, o, none⟩) (hmem.vlt b o hv)
  let env' : Env := { env with V := fun b o => env.V b o ∨ (w.heap.size ≤ b ∧ b < w'.heap.size) }
  have hle : env.Le env' h.toks h.toks w w' := ⟨fun _ _ x => .inl x, hcell, fun _ _ x => x, fun _ t x => ⟨t, x, rfl, Nat.le_refl _, fun _ => rfl⟩⟩
  have hV : ∀ b o, b < w.heap.size → env'.V b o → env.V b o := fun b o hlt hv => hv.elim id fun h => absurd hlt (Nat.not_lt.mpr h.1)
  refine ⟨v, env', F, rfl, openR_rep (fun b o h => h.1.elim .inl fun hh => .inr ⟨hh, h.2⟩) hr.bound, {
    mem := {
      vlt := fun b o hv => hv.elim (fun h => Nat.lt_of_lt_of_le (hmem.vlt b o h) hb.size) fun h => h.2
      ρlt := fun k b s hk => Nat.lt_of_lt_of_le (hmem.ρlt k b s hk) hb.size
      τlt := fun k v b hk hv => Nat.lt_of_lt_of_le (hmem.τlt k v b hk hv) hb.size
      objs := fun k x hk => by
        obtain ⟨b, us, g1, g2, g3, g4, g5⟩ := hmem.objs k x hk
        exact ⟨b, us, g1, g2.of (hb.block b g2.lt), g3.imp fun _ _ _ => RepA.mono hle, g4, fun o hv => g5 o (hV b o g2.lt hv)⟩
      inj := hmem.inj
      toks := fun k t hk => by
        obtain ⟨v, xs, g1, g2, g3⟩ := hmem.toks k t hk
        exact ⟨v, xs, g1, ownsRow_of_block g2 fun b hv => hb.block b (g2.lt b hv).2, fun b hv => ⟨fun o ho hh => (g3 b hv).1 o ho (hV b o (g2.lt b hv).2 hh), (g3 b hv).2⟩⟩
      tinj := hmem.tinj
      sep := hmem.sep
      ext := h.ext.mono (w := w) (fun _ _ x => .inl x) hcell (fun b hF => hb.block b (hmem.flt b hF).1) hmem.ext
      flt := fun b hF => by
        obtain ⟨g1, g2, g3, g4⟩ := hmem.flt b hF
        exact ⟨Nat.lt_of_lt_of_le g1 hb.size, fun o hv => g2 o (hV b o g1 hv), g3, g4⟩ }
    kept := KeptBut.of_below hb
    owned := fun b hb => .inr hb
    vold := fun b o hv => .inl hv
    vcell := hcell
    vnew := fun b o hv => hv.imp id fun h => .inl h.1
    ρold := fun _ _ x => x
    ρnew := fun _ _ x => .inl x
    τold := fun _ _ _ => rfl
    τnew := fun k v hk => .inl (by rw [show env.τ k = some v from hk]; simp)
    tok := fun k t t' h1 h2 => by rw [h1] at h2; injection h2 with h2; subst h2; exact ⟨rfl, Nat.le_refl _, fun _ => rfl⟩ }⟩
section
variable {P : Program} {G : World → Prop} {L : List (Nat × T)} {O : List (Nat × Box)} {U : List (Nat × Tok)} {H : FHp} {l : List IOper} {K : S → Prop} {d : Nat}
end
end
end Go.Fx

namespace Go.Proofs.YtiomojlcnemnhaaGreatDoor
open Go.Fx Go.RowKit Go.Ped
variable {G : World → Prop}
end Go.Proofs.YtiomojlcnemnhaaGreatDoor

namespace Go.Proofs.YtiomojlcnemnhaaGreatDoor
open Go.Fx Go.RowKit Go.Ped
variable {G : World → Prop}
abbrev takesTab : List Int := [0, 1, 2, 2, 2, 2, 2, 4, 3, 3, 3]
theorem w1 : IntKind.i64.wrap 1 = 1 := by decide
theorem w2 : IntKind.i64.wrap 2 = 2 := by decide
abbrev OB (m : List Tm) : List (Nat × Box) := [(10040, ⟨0, 4, m.map mpRow, some (.string, false)⟩)]
attribute [simp] OB
end Go.Proofs.YtiomojlcnemnhaaGreatDoor

namespace Go.Proofs.YtiomojlcnemnhaaGreatDoor
open Go.Fx Go.RowKit Go.Ped
variable {G : World → Prop}
abbrev OY (a b : Nat) (m : List Tm) : List (Nat × Box) := [(a, ⟨252, 1, [[.mapr b]], none⟩), (b, ⟨0, 4, m.map mpRow, some (.string, false)⟩)]
attribute [simp] OY
abbrev bX : Tm := ⟨[88], ⟨1, 1, []⟩⟩
end Go.Proofs.YtiomojlcnemnhaaGreatDoor

import Derived.Test.YtiomojlcnemnhaaGreatDoorLGxRow
import Derived.Test.YtiomojlcnemnhaaGreatDoorLGxM3
import Derived.Test.YtiomojlcnemnhaaGreatDoorLGxY3
import Derived.Test.YtiomojlcnemnhaaGreatDoorLGxIcI
import Derived.Test.YtiomojlcnemnhaaGreatDoorLGxW1
import Derived.Test.YtiomojlcnemnhaaGreatDoorLPedF
import Derived.Test.YtiomojlcnemnhaaGreatDoorLGxX13
import Derived.Lib.LaidTab
import Derived.Lib.AppendIntMem
import Derived.Test.YtiomojlcnemnhaaGreatDoorLGxX11
namespace Go.Fx
open Go.RowKit
section
variable {P : Program} {G : World → Prop} {L : List (Nat × T)} {O : List (Nat × Box)} {U : List (Nat × Tok)} {H : FHp} {l : List IOper} {K : S → Prop} {d : Nat}
theorem r_callW {f : D} {args : List D} {gd : Option (Nat × Bool)} (fv : A) (xs : List X) (O1 : List (Nat × Box)) (U1 : List (Nat × Tok)) (res : R) (O2 : List (Nat × Box)) (U2 : List (Nat × Tok)) (hm : MeetsV P G fv xs (hp O1 U1 H) res (hp O2 U2 H))
    (hg : guardO (st L O U H) gd = some true) (hf : f.val (st L O U H) = .k true (.x (.one fv))) (ha : (args.all fun d => (d.val (st L O U H)).g) = true) (hx : fitsR (args.map fun d => (d.val (st L O U H)).r) xs)
    (hc : ((∀ p ∈ O1, lookO O p.1 = some p.2 ∧ p.1 < 15000) ∧ (∀ p ∈ U1, lookT U p.1 = some p.2 ∧ p.1 < 15000) ∧ (∀ p ∈ O, p.1 < 15000) ∧ (∀ p ∈ U, p.1 < 15000)) ∧
      (∀ p ∈ O1, lookO O2 p.1 ≠ none) ∧ (∀ p ∈ U1, lookT U2 p.1 ≠ none) ∧ (∀ p ∈ O2, lookO O1 p.1 = none → lookO O p.1 = none ∧ p.1 < 10000) ∧ ∀ p ∈ U2, lookT U1 p.1 = none → lookT U p.1 = none ∧ p.1 < 10000)
    (h : atK P G l ((d, .k true res) :: L) (updsO O2 O) (updsT U2 U) H K) : runK P G (⟨some d, .call f args, gd, none⟩ :: l) (st L O U H) K :=
  r_callV fv xs O1 U1 res O2 U2 H hm hg hf ha hx hc.1.1 hc.1.2.1 hc.1.2.2.1 hc.1.2.2.2 hc.2.1 hc.2.2.1 hc.2.2.2.1 hc.2.2.2.2 (sameKeys_refl H) rfl h
theorem hp_objs0 (O : List (Nat × Box)) (U : List (Nat × Tok)) (k : Nat) : (hp O U F0).objs k = lookO O k := by
  show (lookO O k).or none = _
  simp
theorem hp_toks0 (O : List (Nat × Box)) (U : List (Nat × Tok)) (k : Nat) : (hp O U F0).toks k = lookT U k := by
  show (lookT U k).or none = _
  simp
theorem r_callN {f : D} {args : List D} {gd : Option (Nat × Bool)} (ks : List Nat) (fv : A) (xs : List X) (O1 : List (Nat × Box)) (U1 : List (Nat × Tok)) (res : R) (O2 : List (Nat × Box)) (U2 : List (Nat × Tok)) (hm : MeetsV P G fv xs (hp O1 U1 F0) res (hp O2 U2 F0))
    (hg : guardO (st L O U F0) gd = some true) (hf : f.val (st L O U F0) = .k true (.x (.one fv))) (ha : (args.all fun d => (d.val (st L O U F0)).g) = true) (hx : fitsR (args.map fun d => (d.val (st L O U F0)).r) xs)
    (hc : ((∀ p ∈ O1, lookO O p.1 = some p.2 ∧ p.1 < 15000) ∧ (∀ p ∈ U1, lookT U p.1 = some p.2 ∧ p.1 < 15000) ∧ (∀ p ∈ O, p.1 < 15000) ∧ (∀ p ∈ U, p.1 < 15000)) ∧
      (∀ p ∈ O1, lookO O2 p.1 ≠ none) ∧ (∀ p ∈ U1, lookT U2 p.1 ≠ none) ∧ (∀ p ∈ O2, lookO O1 p.1 = none → lookO O p.1 = none ∧ p.1 < 10000) ∧ ∀ p ∈ U2, lookT U1 p.1 = none → lookT U p.1 = none ∧ p.1 < 10000)
    (hk : (∀ p ∈ O1, p.1 ∈ ks) ∧ (∀ p ∈ U1, p.1 ∈ ks) ∧ (∀ p ∈ O2, p.1 ∈ ks) ∧ ∀ p ∈ U2, p.1 ∈ ks)
    (h : atK P G l ((d, .k true res) :: L) (updsO O2 O) (updsT U2 U) F0 K) : runK P G (⟨some d, .call f args, gd, some ks⟩ :: l) (st L O U F0) K := by
  have hs := sameKeys_refl F0
  have e := over_st (L := L) (O2 := O2) (U2 := U2) hc.1.2.2.1 hc.1.2.2.2 (fun k hk => fun e => hk ((hs.1 k).1.2 e)) (fun k hk => fun e => hk ((hs.1 k).2.2 e))
  refine ⟨_, ⟨trivial, true, hg, fv, xs, true, _, res, _, fun _ => ⟨ha, hx, hf, hm, lends_st hc.1.1 hc.1.2.1 hc.1.2.2.1 hc.1.2.2.2 hc.2.1 hc.2.2.1 hc.2.2.2.1 hc.2.2.2.2 (fun k hk => fun e => hk ((hs.1 k).1.2 e)) (fun k hk => fun e => hk ((hs.1 k).2.2 e)) (fun k hk => fun e => hk ((hs.1 k).1.1 e)) (fun k hk => fun e => hk ((hs.1 k).2.1 e)) hs.2, fun k hn => ?_⟩, rfl⟩, by simpa only [if_true, e, put_st, atK_eq] using h⟩
  show k ∈ ks
  rw [hp_objs0, hp_toks0, hp_objs0, hp_toks0] at hn
  have go : ∀ (A : List (Nat × Box)), (∀ p ∈ A, p.1 ∈ ks) → lookO A k ≠ none → k ∈ ks := fun A hA hn => by
    cases hb : lookO A k with
    | none => exact absurd hb hn
    | some b => exact hA _ (lookO_mem hb)
  have gt : ∀ (A : List (Nat × Tok)), (∀ p ∈ A, p.1 ∈ ks) → lookT A k ≠ none → k ∈ ks := fun A hA hn => by
    cases hb : lookT A k with
    | none => exact absurd hb hn
    | some b => exact hA _ (lookT_mem hb)
  rcases hn with hn | hn | hn | hn
  · exact go _ hk.1 hn
  · exact gt _ hk.2.1 hn
  · exact go _ hk.2.2.1 hn
  · exact gt _ hk.2.2.2 hn
end
end Go.Fx

namespace Go.Ped
structure Eqn where
  left : Name
  right : Name
  lefts : List Name
  rights : List Name
  deriving DecidableEq, Inhabited
def allIn (l f : List Name) : Bool := l.all fun v => f.contains v
def take (f : List Name) (q : Eqn) : Option Name :=
  if q.left != [] && !f.contains q.left && allIn q.rights f then some q.left
  else if q.right != [] && !f.contains q.right && allIn q.lefts f then some q.right
  else none
def Eqn.wf (q : Eqn) : Prop := (q.left ≠ [] → q.lefts = [q.left]) ∧ (q.right ≠ [] → q.rights = [q.right])
def Dead (f : List Name) (q : Eqn) : Prop := ∀ f', (∀ v ∈ f, v ∈ f') → take f' q = none
theorem Dead.mono {f f' : List Name} {q : Eqn} (h : ∀ v ∈ f, v ∈ f') (hd : Dead f q) : Dead f' q := fun g hg => hd g fun v hv => hg v (h v hv)
inductive Waits (f : List Name) : List Eqn → List Eqn → Prop
  | nil : Waits f [] []
  | keep {q : Eqn} {l w : List Eqn} (h : Waits f l w) : Waits f (q :: l) (q :: w)
  | gone {q : Eqn} {l w : List Eqn} (hd : Dead f q) (h : Waits f l w) : Waits f (q :: l) w
theorem Waits.mono {f f' : List Name} (hf : ∀ v ∈ f, v ∈ f') {l w : List Eqn} (h : Waits f l w) : Waits f' l w := by
  induction h with
  | nil => exact .nil
  | keep _ ih => exact .keep ih
  | gone hd _ ih => exact .gone (hd.mono hf) ih
theorem Waits.refl (f : List Name) : ∀ l, Waits f l l
  | [] => .nil
  | _ :: l => .keep (Waits.refl f l)
end Go.Ped

namespace Go.Proofs.YtiomojlcnemnhaaGreatDoor
open Go.Fx Go.RowKit Go.Ped
variable {G : World → Prop}
abbrev OF (a b c : Nat) (acc : List Name) : List (Nat × Box) := [(a, ⟨203, 2, [[.own c (acc.map nmRow), .mapr b]], none⟩), (b, ⟨0, 2, thr 0 acc, some (.string, true)⟩)]
abbrev UF (c : Nat) (acc : List Name) : List (Nat × Fx.Tok) := [(c, ⟨9, 1, acc.length⟩)]
attribute [simp] thr_strike thr_get OF UF
end Go.Proofs.YtiomojlcnemnhaaGreatDoor

namespace Go.Proofs.YtiomojlcnemnhaaGreatDoor
open Go.Fx Go.RowKit Go.Ped
variable {G : World → Prop}
def Eqn.row (q : Eqn) : List C := [cS (bs q.left), cS (bs q.right), .sl (q.lefts.map nmRow) [], .sl (q.rights.map nmRow) []]
@[simp] theorem eqn_len (q : Eqn) : (Eqn.row q).length = 4 := rfl
end Go.Proofs.YtiomojlcnemnhaaGreatDoor

namespace Go.Fx
open Go.RowKit
section
variable {P : Program} {G : World → Prop}
theorem MeetsH.of_below {f : FuncId} {args : List X} {h : Hp} {res : CR} (hcl : callable P f = true) (hx : ∀ x ∈ args, x.only (fun _ => True) (fun k => h.toks k ≠ none)) (ho : h.only (fun _ => True) (fun k => h.toks k ≠ none))
    (hm : ∀ (w : World) (env : Env) (F : Nat → Prop) (vs : List Value), HMem env h F w → All2 (RepX env h.toks w) args vs → Calls P f vs.toArray w fun e w' => ∃ v, e = .returned v ∧ RepCR (fun b o => env.V b o ∨ w.heap.size ≤ b) w' res v ∧ Below w.heap.size w w') :
    MeetsH P G f args h res.open h := by
  refine ⟨hcl, hx, ho, fun w env F vs _ hmem _ ha => ?_⟩
  refine (hm w env F vs hmem ha).mono ?_
  rintro e w' ⟨v, rfl, hr, hb⟩
  have hcell : ∀ b o, env.V b o → w'.cell? ⟨b, o, none⟩ = w.cell? ⟨b, o, none⟩ := fun b o hv => hb.cell (p := ⟨b, o, none⟩) (hmem.vlt b o hv)
  let env' : Env := { env with V := fun b o => env.V b o ∨ (w.heap.size ≤ b ∧ b < w'.heap.size) }
  have hle : env.Le env' h.toks h.toks w w' := ⟨fun _ _ x => .inl x, hcell, fun _ _ x => x, fun _ t x => ⟨t, x, rfl, Nat.le_refl _, fun _ => rfl⟩⟩
  have hV : ∀ b o, b < w.heap.size → env'.V b o → env.V b o := fun b o hlt hv => hv.elim id fun h => absurd hlt (Nat.not_lt.mpr h.1)
  refine ⟨v, env', F, rfl, openR_rep (fun b o h => h.1.elim .inl fun hh => .inr ⟨hh, h.2⟩) hr.bound, {
    mem := {
      vlt := fun b o hv => hv.elim (fun h => Nat.lt_of_lt_of_le (hmem.vlt b o h) hb.size) fun h => h.2
      ρlt := fun k b s hk => Nat.lt_of_lt_of_le (hmem.ρlt k b s hk) hb.size
      τlt := fun k v b hk hv => Nat.lt_of_lt_of_le (hmem.τlt k v b hk hv) hb.size
      objs := fun k x hk => by
        obtain ⟨b, us, g1, g2, g3, g4, g5⟩ := hmem.objs k x hk
        exact ⟨b, us, g1, g2.of (hb.block b g2.lt), g3.imp fun _ _ _ => RepA.mono hle, g4, fun o hv => g5 o (hV b o g2.lt hv)⟩
      inj := hmem.inj
      toks := fun k t hk => by
        obtain ⟨v, xs, g1, g2, g3⟩ := hmem.toks k t hk
        exact ⟨v, xs, g1, ownsRow_of_block g2 fun b hv => hb.block b (g2.lt b hv).2, fun b hv => ⟨fun o ho hh => (g3 b hv).1 o ho (hV b o (g2.lt b hv).2 hh), (g3 b hv).2⟩⟩
      tinj := hmem.tinj
      sep := hmem.sep
      ext := h.ext.mono (w := w) (fun _ _ x => .inl x) hcell (fun b hF => hb.block b (hmem.flt b hF).1) hmem.ext
      flt := fun b hF => by
        obtain ⟨g1, g2, g3, g4⟩ := hmem.flt b hF
        exact ⟨Nat.lt_of_lt_of_le g1 hb.size, fun o hv => g2 o (hV b o g1 hv), g3, g4⟩ }
    kept := KeptBut.of_below hb
    owned := fun b hb => .inr hb
    vold := fun b o hv => .inl hv
    vcell := hcell
    vnew := fun b o hv => hv.imp id fun h => .inl h.1
    ρold := fun _ _ x => x
    ρnew := fun _ _ x => .inl x
    τold := fun _ _ _ => rfl
    τnew := fun k v hk => .inl (by rw [show env.τ k = some v from hk]; simp)
    tok := fun k t t' h1 h2 => by rw [h1] at h2; injection h2 with h2; subst h2; exact ⟨rfl, Nat.le_refl _, fun _ => rfl⟩ }⟩
section
variable {P : Program} {G : World → Prop} {L : List (Nat × T)} {O : List (Nat × Box)} {U : List (Nat × Tok)} {H : FHp} {l : List IOper} {K : S → Prop} {d : Nat}
end
end
end Go.Fx

namespace Go.Proofs.YtiomojlcnemnhaaGreatDoor
open Go.Fx Go.RowKit Go.Ped
variable {G : World → Prop}
theorem m89 (n : Int) : Meets Tryz.prog G 137 [.one (cI .i64 n)] (.x (.agg [cI .i8 1, cI .i64 n, cS (bs [])])) := by
  refine meets Tryz.func137 ie89 ig89 (Nat.le_of_ble_eq_true rfl) ?_
  simp [ic89, ir89]
theorem m87 (s : Name) : Meets Tryz.prog G 49 [.one (cS (bs s))] (.x (.agg [cS (bs s), cI .i8 0, cI .i64 0, cS (bs [])])) := by
  refine meets Tryz.func49 ie87 ig87 (Nat.le_of_ble_eq_true rfl) ?_
  simp [ic87, ir87]
theorem m88 (n : Int) : Meets Tryz.prog G 136 [.one (cI .i64 n)] (.x (.agg [cS (bs []), cI .i8 1, cI .i64 n, cS (bs [])])) := by
  refine meets Tryz.func136 ie88 ig88 (Nat.le_of_ble_eq_true rfl) ?_
  simp [ic88, ir88]
  refine call_of (m89 n) ?_
  simp
end Go.Proofs.YtiomojlcnemnhaaGreatDoor

namespace Go.Proofs.YtiomojlcnemnhaaGreatDoor
open Go.Fx Go.RowKit Go.Ped
variable {G : World → Prop}
abbrev takesTab : List Int := [0, 1, 2, 2, 2, 2, 2, 4, 3, 3, 3]
abbrev GK : World → Prop := fun w => Lib.TabIs Tryz.prog w "pedigree/value.takes" .i8 takesTab
theorem gTakes : Tryz.prog.globalNamed "pedigree/value.takes" = some 0 := by kernel_rfl
theorem takes_at (i : Nat) (hi : i < 11) : ∀ w, GK w → w.cell? ⟨0, i, none⟩ = some (.int .i8 (takesTab.getD i 0)) := fun _ h => h.cell gTakes i hi
theorem w1 : IntKind.i64.wrap 1 = 1 := by decide
theorem w2 : IntKind.i64.wrap 2 = 2 := by decide
abbrev nmR (n : Int) : List C := [cI .i8 1, cI .i64 n, cS (bs [])]
theorem m102 (n : Int) : Meets Tryz.prog G 320 [.one (cI .i64 n)] (.tup [.agg (nmR n), .one (cB true)]) := by
  refine meets Tryz.func320 ie102 ig102 (Nat.le_of_ble_eq_true rfl) ?_
  simp [ic102, ir102]
theorem m101 (a b : Int) (sp : Sp) : Meets Tryz.prog G 319 [.one (cI .i8 2), .one (.sl [nmR a, nmR b] sp)] (.x (.one (cB true))) := by
  refine meets Tryz.func319 ie101 ig101 (Nat.le_of_ble_eq_true rfl) ?_
  have ha := m92 (G := G) 1 a []
  have hb := m92 (G := G) 1 b []
  simp only [valOk] at ha hb
  simp [ic101, ir101]
  refine w_loopA [] [8] [4, 6, 22, 23, 24] (by simp [ownKey])
    (fun i : Nat => st [(4, .k true (rB false)), (6, tI .i8 1), (22, .k true (.x (.one (.c (.sl [nmR a, nmR b] sp))))), (23, tI .i64 2), (24, tI .i64 i)] [] [] F0) (fun i => 2 - i)
    (fun i => i ≤ 2) 0 (by simp) (by simp) ?_
  rintro i K hK hi
  have h3 : i = 0 ∨ i = 1 ∨ i = 2 := by omega
  rcases h3 with rfl | rfl | rfl
  · simp [ic101l0]
    refine call_of ha ?_
    simp
    exact hK 1 _ (by simp [w1]) (by omega) (by omega)
  · simp [ic101l0]
    refine call_of hb ?_
    simp
    exact hK 2 _ (by simp [w2]) (by omega) (by omega)
  · simp [ic101l0]
theorem m33a (a b : Int) (sp : Sp) (h1 : -9223372036854775808 ≤ a + b) (h2 : a + b ≤ 9223372036854775807) : Meets Tryz.prog GK 280 [.one (cI .i8 2), .one (.sl [nmR a, nmR b] sp)] (.tup [.agg (nmR (a + b)), .one (cB true)]) := by
  refine meets Tryz.func280 ie33 ig33 (Nat.le_of_ble_eq_true rfl) ?_
  simp [ic33, ir33]
  rw [w2]
  simp
  refine k_gload (.int .i8 2) rfl rfl rfl (takes_at 2 (by decide)) ?_
  simp
  refine call_of (m101 a b sp) ?_
  simp
  rw [wrap64 h1 h2]
  refine call_of (m102 (a + b)) ?_
  simp
abbrev OB (m : List Tm) : List (Nat × Box) := [(10040, ⟨0, 4, m.map mpRow, some (.string, false)⟩)]
attribute [simp] OB
theorem midB {U : List (Nat × Fx.Tok)} {H : FHp} (m : List Tm) : ∀ p ∈ OB m, midKey p.1 ∧ ∀ r ∈ p.2.rows, onlyL (fun k => ¬ ownKey k) (fun k => (lookT U k).or (H.toks k) ≠ none) r := by
  intro p hp
  simp only [List.mem_singleton] at hp
  subst hp
  refine ⟨by unfold midKey; omega, fun r hr => ?_⟩
  obtain ⟨q, _, rfl⟩ := List.mem_map.1 hr
  simp [mpRow, Val.row]
theorem midB2 {O2 : List (Nat × Box)} {U2 : List (Nat × Fx.Tok)} {H2 : FHp} (m : List Tm) : ∀ p ∈ OB m, ∀ r ∈ p.2.rows, onlyL (fun k => ¬ ownKey k ∨ lookO O2 k ≠ none) (fun k => (lookT U2 k).or (H2.toks k) ≠ none) r := by
  intro p hp r hr
  simp only [List.mem_singleton] at hp
  subst hp
  obtain ⟨q, _, rfl⟩ := List.mem_map.1 hr
  simp [mpRow, Val.row]
abbrev lfR (v : Name) (x : Val) (ks : Sp) : List C := [cI .i8 0, cS (bs v), cI .i8 x.k, cI .i64 x.n, cS (bs x.s), .sl [] ks]
abbrev vR (x : Val) : List C := [cI .i8 x.k, cI .i64 x.n, cS (bs x.s)]
theorem e96c (X : XP) (m : List Tm) (x : Val) (ks : Sp) : MeetsH Tryz.prog G 222 [.agg ((lfR [] x ks).map A.c), .one (.mapr 10040)] (hp (OB m) [] (FX X)) (.tup [.agg ((vR x).map A.c), .one (.c (cB true))]) (hp (OB m) [] (FX X)) := by
  refine meetsH [] Tryz.func222 ie96 ig96 (Nat.le_of_ble_eq_true rfl) (midB m) (by simp) (by simp [ownKey]) (by simp) (by simp) (sameKeys_refl _) (midB2 _) (by simp) ?_
  simp [ic96, ir96, strikeL_mpRow]
  exact ret_st (by simp) (by simp) (by simp [strikeL_mpRow, strikeL_mpRow']) (by simp) (by simp) (by simp)
theorem e96v (X : XP) (m : List Tm) (v : Name) (x w : Val) (ks : Sp) (hv : v ≠ []) (hb : bindOf m v = some w) (hw : Val.ok w = true) : MeetsH Tryz.prog G 222 [.agg ((lfR v x ks).map A.c), .one (.mapr 10040)] (hp (OB m) [] (FX X)) (.tup [.agg ((vR w).map A.c), .one (.c (cB true))]) (hp (OB m) [] (FX X)) := by
  refine meetsH [] Tryz.func222 ie96 ig96 (Nat.le_of_ble_eq_true rfl) (midB m) (by simp) (by simp [ownKey]) (by simp) (by simp) (sameKeys_refl _) (midB2 _) (by simp) ?_
  have hg := mapGet_binds v m
  rw [hb] at hg
  have h92 := m92 (G := G) w.k w.n w.s
  rw [show valOk w.k w.n w.s = true from hw] at h92
  simp only [Option.getD_some, Val.row, List.map_cons, List.map_nil] at hg
  have hne : v.isEmpty = false := by simpa using hv
  simp [ic96, ir96, hv, hne, hg, strikeL_mpRow, strikeL_mpRow']
  refine call_of h92 ?_
  simp
  exact ret_st (by simp) (by simp) (by simp [strikeL_mpRow, strikeL_mpRow']) (by simp) (by simp) (by simp)
theorem e96a (X : XP) (m : List Tm) (r1 r2 : List C) (a b : Int) (sp : Sp) (hr1 : r1.length = 6) (hr2 : r2.length = 6) (h1 : -9223372036854775808 ≤ a + b) (h2 : a + b ≤ 9223372036854775807)
    (k1 : MeetsH Tryz.prog GK 222 [.agg (r1.map A.c), .one (.mapr 10040)] (hp (OB m) [] (FX X)) (.tup [.agg ((nmR a).map A.c), .one (.c (cB true))]) (hp (OB m) [] (FX X)))
    (k2 : MeetsH Tryz.prog GK 222 [.agg (r2.map A.c), .one (.mapr 10040)] (hp (OB m) [] (FX X)) (.tup [.agg ((nmR b).map A.c), .one (.c (cB true))]) (hp (OB m) [] (FX X))) :
    MeetsH Tryz.prog GK 222 [.agg [.c (cI .i8 2), .c (cS (bs [])), .c (cI .i8 0), .c (cI .i64 0), .c (cS (bs [])), .c (.sl [r1, r2] sp)], .one (.mapr 10040)] (hp (OB m) [] (FX X)) (.tup [.agg ((nmR (a + b)).map A.c), .one (.c (cB true))]) (hp (OB m) [] (FX X)) := by
  refine meetsH [] Tryz.func222 ie96 ig96 (Nat.le_of_ble_eq_true rfl) (midB m) (by simp) (by simp [ownKey]) (by simp) (by simp) (sameKeys_refl _) (midB2 _) (by simp) ?_
  obtain ⟨x1, x2, x3, x4, x5, x6, rfl⟩ : ∃ x1 x2 x3 x4 x5 x6, r1 = [x1, x2, x3, x4, x5, x6] := by
    match r1, hr1 with
    | [x1, x2, x3, x4, x5, x6], _ => exact ⟨x1, x2, x3, x4, x5, x6, rfl⟩
  obtain ⟨y1, y2, y3, y4, y5, y6, rfl⟩ : ∃ x1 x2 x3 x4 x5 x6, r2 = [x1, x2, x3, x4, x5, x6] := by
    match r2, hr2 with
    | [x1, x2, x3, x4, x5, x6], _ => exact ⟨x1, x2, x3, x4, x5, x6, rfl⟩
  have h33 := m33a a b [] h1 h2
  simp [ic96, ir96, strikeL_mpRow']
  refine w_loopA [.t 300 7 71 3] [9, 10, 50] [1, 2, 4, 5, 7, 33, 34, 35] (by simp [ownKey])
    (fun z : Nat × List (List C) => st [(1, .k true (.x (.one (.mapr 10040)))), (2, .k true (.x (.one (.ref 2 0 0)))), (4, .k true (.x (.one (.ref 4 0 0)))), (5, tB false), (7, .k true (.x (.one (.own 300 z.2)))), (33, .k true (.x (.one (.c (.sl [[x1, x2, x3, x4, x5, x6], [y1, y2, y3, y4, y5, y6]] sp))))), (34, tI .i64 2), (35, tI .i64 z.1)]
      [(4, ⟨71, 3, [[.c (cI .i8 0), .c (cI .i64 0), .c (cS (bs []))]], none⟩), (2, ⟨105, 6, [[.c (cI .i8 2), .c (cS (bs [])), .c (cI .i8 0), .c (cI .i64 0), .c (cS (bs [])), .c (.sl [[x1, x2, x3, x4, x5, x6], [y1, y2, y3, y4, y5, y6]] sp)]], none⟩), (10040, ⟨0, 4, m.map mpRow, some (.string, false)⟩)] [(300, ⟨71, 3, z.2.length⟩)] (FX X)) (fun z => 2 - z.1)
    (fun z => z.1 ≤ 2 ∧ z.2 = [nmR a, nmR b].take z.1) (0, []) (by simp; try rfl) (by simp) ?_
  rintro ⟨i, E⟩ K hK ⟨hi, hE⟩
  simp only at hi hE
  have h3 : i = 0 ∨ i = 1 ∨ i = 2 := by omega
  rcases h3 with rfl | rfl | rfl
  · simp only [List.take_zero] at hE
    subst hE
    simp [ic96l0, strikeL_mpRow']
    refine r_callW _ _ (OB m) [] _ (OB m) [] (MeetsV.of_fun k1) rfl rfl rfl (by simp [Fx.X.fits, A.fits]) (by simp) ?_
    simp [strikeL_mpRow']
    refine ⟨by unfold maxLen; omega, by unfold maxBytes; omega, ?_⟩
    exact hK (1, [nmR a]) _ (by simp [w1, strikeL_mpRow']; try rfl) ⟨by simp only; omega, rfl⟩ (by simp)
  · simp only [List.take_succ_cons, List.take_zero] at hE
    subst hE
    simp [ic96l0, strikeL_mpRow']
    refine r_callW _ _ (OB m) [] _ (OB m) [] (MeetsV.of_fun k2) rfl rfl rfl (by simp [Fx.X.fits, A.fits]) (by simp) ?_
    simp [strikeL_mpRow']
    refine ⟨by unfold maxLen; omega, by unfold maxBytes; omega, ?_⟩
    exact hK (2, [nmR a, nmR b]) _ (by simp [w2, strikeL_mpRow']; try rfl) ⟨by simp only; omega, rfl⟩ (by simp)
  · simp only [List.take_succ_cons, List.take_zero] at hE
    subst hE
    simp [ic96l0, strikeL_mpRow']
    refine call_of h33 ?_
    simp
    exact ret_st (by simp) (by simp) (by simp [strikeL_mpRow, strikeL_mpRow']) (by simp) (by simp) (by simp)
end Go.Proofs.YtiomojlcnemnhaaGreatDoor

namespace Go.Proofs.YtiomojlcnemnhaaGreatDoor
open Go.Fx Go.RowKit Go.Ped
theorem gTakesType : (Tryz.prog.globals[0]?).map (·.type) = some 328 := by kernel_rfl
theorem cells149 : Tryz.prog.cellsOf 328 = 11 := by kernel_rfl
theorem cells36 : Tryz.prog.cellsOf 52 = 1 := by kernel_rfl
theorem takesData : (Rows.laid_pedigree_value_takes : DataW Unit) = Lib.tabData .i8 takesTab := by rfl
end Go.Proofs.YtiomojlcnemnhaaGreatDoor

namespace Go.Proofs.YtiomojlcnemnhaaGreatDoor
open Go.Fx Go.RowKit Go.Ped
variable {G : World → Prop}
theorem hp_renX (π : Ren) (O : List (Nat × Box)) (U : List (Nat × Fx.Tok)) (E : XP) : (hp O U (FX E)).ren π = hp (O.map fun p => (π.f p.1, p.2.ren π.f)) (U.map fun p => (π.f p.1, p.2)) (FX E) := by
  unfold Hp.ren hp
  simp only [Hp.mk.injEq]
  refine ⟨funext fun k => ?_, funext fun k => ?_, trivial⟩
  · rw [lookO_ren]
    show ((lookO O (π.g k)).or none).map _ = ((lookO O (π.g k)).map _).or none
    simp
  · rw [lookT_ren]; rfl
theorem m95 (rows : List (List C)) (sp : Sp) : MeetsH Tryz.prog G 221 [.one (.c (.sl rows sp))] (hp [] [] F0) (.x (.one (.clo 279 [] [.ref 1 0 0]))) (hp [(1, ⟨108, 1, [[.c (.sl rows sp)]], none⟩)] [] F0) := by
  refine meetsH [] Tryz.func221 ie95 ig95 (Nat.le_of_ble_eq_true rfl) (by simp) (by simp) (by simp) (by simp) (by simp) (sameKeys_refl F0) (by simp) (by simp) ?_
  simp [ic95, ir95]
  exact ret_st (by simp) (by simp) (by simp) (by simp) (by simp) (by simp)
abbrev OY (a b : Nat) (m : List Tm) : List (Nat × Box) := [(a, ⟨252, 1, [[.mapr b]], none⟩), (b, ⟨0, 4, m.map mpRow, some (.string, false)⟩)]
attribute [simp] OY
theorem ren_mpRow (r : Nat → Nat) (t : Tm) : renL r (mpRow t) = mpRow t := by simp [mpRow, Val.row]
theorem ren_mpRow' (r : Nat → Nat) : renL r ∘ mpRow = mpRow := funext fun t => ren_mpRow r t
theorem m159 (Z : XP) (l : Nat) (ta : Array Value) (t : Tm) (sp : Sp) (m1 m2 : List Tm)
    (hY : MeetsV Tryz.prog G (.yld l ta [6] [.ref 10006 0 0]) [.one (.c (cI .i64 0)), .agg (t.row.map A.c)] (hp (OY 10006 10013 m1) [] (FX Z)) (rB true) (hp (OY 10006 10013 m2) [] (FX Z))) :
    MeetsH Tryz.prog G 279 [.one (.yld l ta [6] [.ref 10006 0 0]), .one (.ref 10001 0 0)] (hp ((10001, ⟨108, 1, [[.c (.sl [t.row] sp)]], none⟩) :: OY 10006 10013 m1) [] (FX Z)) (.tup []) (hp ((10001, ⟨108, 1, [[.c (.sl [t.row] sp)]], none⟩) :: OY 10006 10013 m2) [] (FX Z)) := by
  refine meetsH [] Tryz.func279 ie159 ig159 (Nat.le_of_ble_eq_true rfl) ?_ (by simp) (by simp [ownKey]) (by simp) (by simp) (sameKeys_refl _) ?_ (by simp) ?_
  · simp [midKey, ownKey, mpRow, Val.row]
  · simp [mpRow, Val.row]
  have hr : t.row = [cS (bs t.v), cI .i8 t.x.k, cI .i64 t.x.n, cS (bs t.x.s)] := rfl
  simp [ic159, ir159]
  refine w_loopA [] [] [0, 1, 3] (by simp)
    (fun b : Bool => st [(0, .k true (.x (.one (.yld l ta [6] [.ref 10006 0 0])))), (1, .k true (.x (.one (.ref 10001 0 0)))), (3, tI .i64 (bif b then -1 else 0))] ((10001, ⟨108, 1, [[.c (.sl [t.row] sp)]], none⟩) :: OY 10006 10013 (bif b then m2 else m1)) [] (FX Z)) (fun b => bif b then 0 else 1)
    (fun _ => True) false (by simp; try rfl) trivial ?_
  rintro b K hK -
  cases b with
  | false =>
    simp [ic159l0]
    refine r_callW _ _ (OY 10006 10013 m1) [] _ (OY 10006 10013 m2) [] hY rfl rfl rfl (by simp [X.fits, A.fits]) (by simp) ?_
    simp
    exact hK true _ (by simp [show IntKind.i64.wrap (0 - 1) = -1 by decide, show IntKind.i64.wrap (-1) = -1 by decide]) trivial (by simp)
  | true =>
    simp [ic159l0]
    exact ret_st (by simp) (by simp) (by simp) (by simp) (by simp) (by simp)
theorem v159 (Z : XP) (l : Nat) (ta : Array Value) (t : Tm) (sp : Sp) (m1 m2 : List Tm)
    (hY : MeetsV Tryz.prog G (.yld l ta [6] [.ref 10006 0 0]) [.one (.c (cI .i64 0)), .agg (t.row.map A.c)] (hp (OY 10006 10013 m1) [] (FX Z)) (rB true) (hp (OY 10006 10013 m2) [] (FX Z))) :
    MeetsV Tryz.prog G (.clo 279 [] [.ref 1 0 0]) [.one (.yld l ta [6] [.ref 6 0 0])] (hp ((1, ⟨108, 1, [[.c (.sl [t.row] sp)]], none⟩) :: OY 6 13 m1) [] (FX Z)) (.tup []) (hp ((1, ⟨108, 1, [[.c (.sl [t.row] sp)]], none⟩) :: OY 6 13 m2) [] (FX Z)) := by
  have h := (((clo_of (f := 279) (fs := []) (args := [.one (.yld l ta [6] [.ref 10006 0 0])]) (cs := [.ref 10001 0 0]) rfl (m159 Z l ta t sp m1 m2 hY)).ren (π := swR 10001 1)).ren (π := swR 10006 6)).ren (π := swR 10013 13)
  simp [swF, hp_renX, ren_mpRow'] at h
  simpa using h
abbrev sumR : List C := [cI .i8 2, cS (bs []), cI .i8 0, cI .i64 0, cS (bs []), .sl [lfR [88] zeroV [], lfR [] ⟨1, 2, []⟩ []] []]
abbrev bX : Tm := ⟨[88], ⟨1, 1, []⟩⟩
theorem v96 (Z : XP) : MeetsV Tryz.prog GK (fnA 222) [.agg (sumR.map A.c), .one (.mapr 13)] (hp [(13, ⟨0, 4, [bX].map mpRow, some (.string, false)⟩)] [] (FX Z)) (.tup [.agg ((nmR 3).map A.c), .one (.c (cB true))]) (hp [(13, ⟨0, 4, [bX].map mpRow, some (.string, false)⟩)] [] (FX Z)) := by
  have h := (MeetsV.of_fun (e96a Z [bX] (lfR [88] zeroV []) (lfR [] ⟨1, 2, []⟩ []) 1 2 [] rfl rfl (by decide) (by decide) (e96v Z [bX] [88] zeroV ⟨1, 1, []⟩ [] (by simp) rfl rfl) (e96c Z [bX] ⟨1, 2, []⟩ []))).ren (π := swR 10040 13)
  simp [swF, hp_renX, ren_mpRow] at h
  simpa using h
def sumE : Ex := .mk 2 ⟨[], zeroV⟩ [.mk 0 ⟨[88], zeroV⟩ [] [], .mk 0 ⟨[], ⟨1, 2, []⟩⟩ [] []] []
theorem sumE_row : sumE.row = sumR := by simp [sumE, Ex.row_mk, zeroV]
theorem sumE_ok : exOk 8 sumE = true := by kernel_rfl
theorem sumE_small : sumE.small 1048576 := by
  refine Ex.small_mk.2 ⟨by simp, fun k hk => ?_⟩
  simp only [List.mem_cons, List.not_mem_nil, or_false] at hk
  rcases hk with rfl | rfl <;> exact Ex.small_mk.2 ⟨by simp, by simp⟩
theorem m26a (sp : Sp) : Meets Tryz.prog GK 139 [.agg sumR, .one (.sl [bX.row] sp)] (.tup [.agg (nmR 3), .one (cB true)]) := by
  have h94 := m94 (G := GK) sumE sumE_small
  rw [sumE_ok, sumE_row, if_pos rfl] at h94
  refine meets Tryz.func139 ie26 ig26 (Nat.le_of_ble_eq_true rfl) ?_
  simp [ic26, ir26]
  refine call_of h94 ?_
  simp
  refine r_callW _ _ [] [] _ _ [] (MeetsV.of_fun (m95 [bX.row] sp)) rfl rfl rfl (by simp) (by simp) ?_
  simp
  refine w_rangeF [6] [.ref 6 0 0] rfl trivial rfl ?_ (by simp) (by simp)
  intro l ta E B m hE hB hR
  have hY := hR [.ref 10006 0 0] [.one (.c (cI .i64 0)), .agg (bX.row.map A.c)] (OY 10006 10013 []) [] (OY 10006 10013 [bX]) [] .normal rfl rfl trivial ?_ ?_
  · refine ⟨_, [], _, [], _, .normal, v159 (E .normal) l ta bX sp [] [bX] hY, ?_, trivial, fun Z hZ => ?_⟩
    · simp
    · simp
      refine r_callW _ _ [(13, ⟨0, 4, [bX].map mpRow, some (.string, false)⟩)] [] _ [(13, ⟨0, 4, [bX].map mpRow, some (.string, false)⟩)] [] (v96 Z) rfl rfl rfl (by simp [X.fits, A.fits]) (by simp) ?_
      simp [hZ]
  · refine ⟨?_, by simp, by simp [Tm.row], by simp [ownKey], by simp, by simp, ?_⟩
    · simp [midKey, ownKey]
    · simp [ownKey, mpRow, Val.row]
  · simp [ic26a0, roundL]
    refine roundA_mk ?_
    simp [ic26l0]
    exact ⟨rfl, roundQ_mk (by simp [mapPut, mpRow, Val.row]) (by simp)⟩
end Go.Proofs.YtiomojlcnemnhaaGreatDoor

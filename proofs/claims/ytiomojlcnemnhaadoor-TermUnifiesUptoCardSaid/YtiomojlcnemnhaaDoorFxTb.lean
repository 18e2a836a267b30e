/- Fx, part Tb: contracts of function values, of closures, of plain functions. -/
import Derived.Test.YtiomojlcnemnhaaDoorFxTa
namespace Go.Fx
open Go.RowKit

section
variable {P : Program} {G : World → Prop} {env env' : Env} {w w' : World} {toks : Nat → Option Tok}

abbrev fnA (f : FuncId) : A := .c (.v (.func (.func f) #[] #[]))

theorem MeetsV.of_fun {f : FuncId} {args : List X} {h : Hp} {res : R} {h' : Hp} (hm : MeetsH P G f args h res h') : MeetsV P G (fnA f) args h res h' := by
  obtain ⟨m1, m2, m3, m4⟩ := hm
  refine ⟨trivial, m2, m3, fun w env F v vs hG hmem hfr hv ha => ?_⟩
  cases hv
  refine ⟨m1, ?_⟩
  have := m4 w env F vs hG hmem hfr ha
  simpa using this

theorem repAs_map {xs : List A} {vs : List Value} (h : RepAs env toks w xs vs) : All2 (RepX env toks w) (xs.map X.one) vs := All2.map_left (repAs_iff.1 h)

theorem MeetsV.of_clo {f : FuncId} {fs cs : List A} {args : List X} {h : Hp} {res : R} {h' : Hp} (hm : MeetsH P G f (fs.map X.one ++ args ++ cs.map X.one) h res h') : MeetsV P G (.clo f fs cs) args h res h' := by
  obtain ⟨m1, m2, m3, m4⟩ := hm
  have hone : ∀ l : List A, (∀ a ∈ l, X.one a ∈ fs.map X.one ++ args ++ cs.map X.one) → onlyL (fun _ => True) (fun k => h.toks k ≠ none) l := fun l hl => onlyL_iff.2 fun a ha => m2 (.one a) (hl a ha)
  refine ⟨⟨hone fs fun a ha => by simp [ha], hone cs fun a ha => by simp [ha]⟩, fun x hx => m2 x (by simp [hx]), m3, fun w env F v vs hG hmem hfr hv ha => ?_⟩
  obtain ⟨us, ws, rfl, h1, h2⟩ := hv
  refine ⟨m1, ?_⟩
  have := m4 w env F (us ++ vs ++ ws) hG hmem hfr (((repAs_map h1).append ha).append (repAs_map h2))
  simpa using this

def Hp.emp : Hp := ⟨fun _ => none, fun _ => none, XP.emp⟩

theorem CX.only_open {p q : Nat → Prop} (c : CX) : c.open.only p q := by
  cases c with
  | one x => trivial
  | agg cs => exact onlyL_iff.2 fun a ha => by obtain ⟨c, _, rfl⟩ := List.mem_map.1 ha; trivial
theorem CR.only_open {p q : Nat → Prop} (c : CR) : c.open.only p q := by
  cases c with
  | x y => exact CX.only_open y
  | tup xs => intro x hx; obtain ⟨c, _, rfl⟩ := List.mem_map.1 hx; exact CX.only_open c

theorem RepCX.open {V : Nat → Nat → Prop} (hV : ∀ b o, V b o → env.V b o) {c : CX} {v : Value} (h : RepCX V w c v) : RepX env toks w c.open v := open_rep hV h

theorem open_close {c : CX} {v : Value} (h : RepX env toks w c.open v) : RepCX env.V w c v := by
  cases c with
  | one x => exact h
  | agg cs => obtain ⟨us, e, hu⟩ := h; exact ⟨us, e, (All2.of_map_left (f := A.c) (p := RepA env toks w) hu).imp fun _ _ _ h => h⟩
theorem openR_close {c : CR} {v : Value} (h : RepR env toks w c.open v) : RepCR env.V w c v := by
  cases c with
  | x y => exact open_close h
  | tup xs => obtain ⟨us, e, hu⟩ := h; exact ⟨us, e, (All2.of_map_left hu).imp fun _ _ _ => open_close⟩

/-- A function that asks for nothing is a plain one. -/
theorem MeetsH.plain {f : FuncId} {cs : List CX} {res : CR} (hm : MeetsH P G f (cs.map CX.open) Hp.emp res.open Hp.emp) : Meets P G f cs res := by
  obtain ⟨m1, m2, m3, m4⟩ := hm
  refine ⟨m1, fun w V vs hG hV ha => ?_⟩
  let env : Env := ⟨V, fun _ => none, fun _ => none⟩
  have hno : ∀ b, ¬ Owned env Hp.emp (fun _ => False) b := by
    rintro b (⟨k, s, h1, _⟩ | ⟨k, v, h1, _⟩ | h)
    · exact h1 rfl
    · exact h1 rfl
    · exact h
  have hmem : HMem env Hp.emp (fun _ => False) w := {
    vlt := hV
    ρlt := fun k b s h => by cases h
    τlt := fun k v b h => by cases h
    objs := fun k x h => by cases h
    inj := fun k k' b s s' h => by cases h
    toks := fun k t h => by cases h
    tinj := fun k k' v v' b h => by cases h
    sep := fun k k' v b s h => by cases h
    ext := fun _ h => h
    flt := fun b h => h.elim }
  refine (m4 w env (fun _ => False) vs (fun w' hk => hG w' ⟨hk.os, hk.tape, hk.output, hk.size, fun i hi => hk.block i hi (hno i)⟩) hmem ⟨fun _ _ _ => rfl, fun _ _ _ => rfl⟩ (All2.map_left (ha.imp fun _ _ _ h => open_rep (fun _ _ x => x) h))).mono ?_
  rintro e w' ⟨v, env', F', rfl, hr, hl⟩
  refine ⟨v, rfl, ?_, ⟨hl.kept.os, hl.kept.tape, hl.kept.output, hl.kept.size, fun i hi => hl.kept.block i hi (hno i)⟩⟩
  have hc := openR_close hr
  have hmono : ∀ b o, env'.V b o → V b o ∨ w.heap.size ≤ b := fun b o h => (hl.vnew b o h).imp id fun h => h.elim id fun h => absurd h (hno b)
  cases res with
  | x y =>
    cases y with
    | one c => exact RepC.mono hmono (fun _ _ _ => rfl) hc
    | agg cs => obtain ⟨us, e, hu⟩ := hc; exact ⟨us, e, hu.imp fun _ _ _ h => RepC.mono hmono (fun _ _ _ => rfl) h⟩
  | tup ys =>
    obtain ⟨vs, e, hu⟩ := hc
    refine ⟨vs, e, hu.imp fun y _ _ h => ?_⟩
    cases y with
    | one c => exact RepC.mono hmono (fun _ _ _ => rfl) h
    | agg cs => obtain ⟨us, e, hu⟩ := h; exact ⟨us, e, hu.imp fun _ _ _ h => RepC.mono hmono (fun _ _ _ => rfl) h⟩

/-- A plain function leaves every heap alone. -/
theorem MeetsH.of_plain {f : FuncId} {cs : List CX} {res : CR} {h : Hp} (hm : Meets P G f cs res) (ho : h.only (fun _ => True) (fun k => h.toks k ≠ none)) : MeetsH P G f (cs.map CX.open) h res.open h := by
  refine ⟨hm.1, fun x hx => ?_, ho, fun w env F vs hG hmem hfr ha => ?_⟩
  · obtain ⟨c, _, rfl⟩ := List.mem_map.1 hx; exact CX.only_open c
  have hcall := hm.2 w env.V vs (fun w' hb => hG w' (KeptBut.of_below hb)) hmem.vlt ((All2.of_map_left ha).imp fun _ _ _ h => open_close h)
  refine hcall.mono ?_
  rintro e w' ⟨v, rfl, hr, hb⟩
  have hcell : ∀ b o, env.V b o → w'.cell? ⟨b, o, none⟩ = w.cell? ⟨b, o, none⟩ := fun b o hv => hb.cell (p := ⟨b, o, none⟩) (hmem.vlt b o hv)
  let env' : Env := { env with V := fun b o => env.V b o ∨ (w.heap.size ≤ b ∧ b < w'.heap.size) }
  have hle : env.Le env' h.toks h.toks w w' := ⟨fun _ _ x => .inl x, hcell, fun _ _ x => x, fun _ t x => ⟨t, x, rfl, Nat.le_refl _, fun _ => rfl⟩⟩
  have hV : ∀ b o, b < w.heap.size → env'.V b o → env.V b o := fun b o hlt hv => hv.elim id fun h => absurd hlt (Nat.not_lt.mpr h.1)
  refine ⟨v, env', F, rfl, openR_rep (fun b o h => h.1.elim .inl fun hh => .inr ⟨hh, h.2⟩) hr.bound, {
    mem := {
      vlt := fun b o hv => hv.elim (fun h => Nat.lt_of_lt_of_le (hmem.vlt b o h) hb.size) fun h => h.2
      ρlt := fun k b s hk => Nat.lt_of_lt_of_le (hmem.ρlt k b s hk) hb.size
      τlt := fun k v b hk hv => Nat.lt_of_lt_of_le (hmem.τlt k v b hk hv) hb.size
      objs := fun k x hk => by
        obtain ⟨b, us, g1, g2, g3, g4, g5⟩ := hmem.objs k x hk
        exact ⟨b, us, g1, g2.of (hb.block b g2.lt), g3.imp fun _ _ _ => RepA.mono hle, g4, fun o hv => g5 o (hV b o g2.lt hv)⟩
      inj := hmem.inj
      toks := fun k t hk => by
        obtain ⟨v, xs, g1, g2, g3⟩ := hmem.toks k t hk
        exact ⟨v, xs, g1, ownsRow_of_block g2 fun b hv => hb.block b (g2.lt b hv).2, fun b hv => ⟨fun o ho hh => (g3 b hv).1 o ho (hV b o (g2.lt b hv).2 hh), (g3 b hv).2⟩⟩
      tinj := hmem.tinj
      sep := hmem.sep
      ext := h.ext.mono (w := w) (fun _ _ x => .inl x) hcell (fun b hF => hb.block b (hmem.flt b hF).1) hmem.ext
      flt := fun b hF => by
        obtain ⟨g1, g2, g3, g4⟩ := hmem.flt b hF
        exact ⟨Nat.lt_of_lt_of_le g1 hb.size, fun o hv => g2 o (hV b o g1 hv), g3, g4⟩ }
    kept := KeptBut.of_below hb
    owned := fun b hb => .inr hb
    vold := fun b o hv => .inl hv
    vcell := hcell
    vnew := fun b o hv => hv.imp id fun h => .inl h.1
    ρold := fun _ _ x => x
    ρnew := fun _ _ x => .inl x
    τold := fun _ _ _ => rfl
    τnew := fun k v hk => .inl (by rw [show env.τ k = some v from hk]; simp)
    tok := fun k t t' h1 h2 => by rw [h1] at h2; injection h2 with h2; subst h2; exact ⟨rfl, Nat.le_refl _, fun _ => rfl⟩ }⟩

theorem Hp.emp_outer : Hp.emp.Outer := ⟨fun _ _ => ⟨rfl, rfl⟩, fun k b h => by cases h⟩

/-- A PLAIN CONTRACT OUT OF A WALK. -/
theorem meets_of {f : FuncId} {fn : Func} {fl : Notes} {K : List Nat} {ic : IC} {ress : List IRes} {args : List CX} {res : CR} (hf : P.funcs[f]? = some fn) (hc : cmpFunc P fl fn K = some ic) (hr : cmpRes P fn.results.toList = some ress)
    (hn : args.length ≤ fn.ntmps) (hw : ∀ Q : Exit → S → Prop, (∀ σ, retH ress res.open Hp.emp σ → Q .ret σ) → (∀ σ, retH ress res.open Hp.emp σ → Q .normal σ) → wpI P G ic Q (S.init (args.map CX.open) Hp.emp)) : Meets P G f args res :=
  MeetsH.plain (meetsH_of hf hc hr (by simpa using hn) rfl Hp.emp_outer (fun x hx => by obtain ⟨c, _, rfl⟩ := List.mem_map.1 hx; exact CX.only_open c) (fun _ h => h) (fun _ h => h) (fun k b h => by cases h) (CR.only_open res) hw)

end
end Go.Fx

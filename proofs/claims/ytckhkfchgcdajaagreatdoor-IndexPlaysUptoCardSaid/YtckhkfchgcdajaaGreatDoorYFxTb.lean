import Derived.Test.YtckhkfchgcdajaaGreatDoorYFxT
import Derived.RangeFuncRecord
namespace Go.Fx
open Go.RowKit
section
variable {P : Program} {G : World → Prop} {w0 : World} {V0 : Base} {N : Nat} {env : Env} {σ σ' τ : S} {a a' : Act} {w w' : World} {fl : Notes} {rd : Option Nat} {rn : Nat}
theorem Sim.turn {e' : XP} (h : Sim w0 V0 N env σ a w) (ht : a'.tmps = a.tmps)
    (hb : ∀ F, σ.ext.holds env.V F w → KeptBut F w w' ∧ ∃ F', e'.holds env.V F' w' ∧ ∀ c, F' c → F c ∨ (w.heap.size ≤ c ∧ c < w'.heap.size))
    (hd : (e'.mark = V0.h.ext.mark ∨ V0.h.ext.mark = none) ∧ (a'.defers = [] ∨ ∃ r, e'.mark = some r ∧ a'.defers = [markD r] ∧ V0.h.ext.mark = none)) : Sim w0 V0 N env { σ with ext := e' } a' w' := by
  obtain ⟨F, f1, f2⟩ := h.ext
  obtain ⟨hk, F', g1, g2⟩ := hb F f1
  have hcell : ∀ b o, env.V b o → w'.cell? ⟨b, o, none⟩ = w.cell? ⟨b, o, none⟩ := fun b o hv => World.cell?_of_block (a := ⟨b, o, none⟩) (hk.block b (h.vlt b o hv) fun hf => (f2 b hf).2.2.1 o hv)
  have hle : env.Le env σ.toks σ.toks w w' := ⟨fun _ _ x => x, hcell, fun _ _ x => x, fun _ t x => ⟨t, x, rfl, Nat.le_refl _, fun _ => rfl⟩⟩
  exact {
    below := h.below.trans hk fun b hf => (f2 b hf).1
    defers := hd
    size := by rw [ht]; exact h.size
    nn := h.nn
    vlt := fun b o hv => Nat.lt_of_lt_of_le (h.vlt b o hv) hk.size
    vnew := h.vnew
    vold := h.vold
    v0 := h.v0
    vcell := fun b o hv => (hcell b o (h.vold b o hv)).trans (h.vcell b o hv)
    tmps := fun t => by rw [ht]; exact (h.tmps t).mono hle
    objs := fun k x hx => by
      obtain ⟨b, us, h1, h2, h3, h4, h5, h6⟩ := h.objs k x hx
      exact ⟨b, us, h1, h2, h3.of (hk.block b h3.lt fun hf => (f2 b hf).2.2.2.1 k _ h1), h4.imp fun _ _ _ => RepA.mono hle, h5, h6⟩
    dom := h.dom
    ρlt := fun k b s x => Nat.lt_of_lt_of_le (h.ρlt k b s x) hk.size
    inj := h.inj
    toks := fun k t hx => by
      obtain ⟨v, xs, h1, h2, h3⟩ := h.toks k t hx
      exact ⟨v, xs, h1, ownsRow_of_block h2 fun b hv => hk.block b (h2.lt b hv).2 fun hf => (f2 b hf).2.2.2.2 k v h1 hv, h3⟩
    tdom := h.tdom
    τlt := fun k v b x y => Nat.lt_of_lt_of_le (h.τlt k v b x y) hk.size
    tinj := h.tinj
    sep := h.sep
    ext := ⟨F', g1, fun c hc => by
      rcases g2 c hc with hf | ⟨hge, hlt⟩
      · obtain ⟨q1, q2, q3, q4, q5⟩ := f2 c hf
        exact ⟨q1, Nat.lt_of_lt_of_le q2 hk.size, q3, q4, q5⟩
      · refine ⟨.inl (Nat.le_trans h.below.size hge), hlt, fun o hv => ?_, fun k s hr => ?_, fun k v hr hv => ?_⟩
        · have := h.vlt c o hv; omega
        · have := h.ρlt k c s hr; omega
        · have := h.τlt k v c hr hv; omega⟩
    own := h.own
    keepO := h.keepO
    keepN := h.keepN
    keepT := h.keepT }
theorem keptBut_put {w : World} {b : Nat} {ob : Obj} {F : Nat → Prop} (hF : F b) : KeptBut F w (w.putObj b ob) :=
  ⟨rfl, rfl, rfl, by rw [World.putObj_size]; exact Nat.le_refl _, fun i _ hn => World.putObj_heap_other fun e => hn (e ▸ hF)⟩
end
end Go.Fx

namespace Go.Fx
open Go.RowKit
section
variable {P : Program} {G : World → Prop} {w0 : World} {V0 : Base} {N : Nat} {env : Env} {σ σ' τ : S} {a a' : Act} {w w' : World} {fl : Notes} {rd : Option Nat} {rn : Nat}
end
end Go.Fx

namespace Go.Fx
open Go.RowKit
section
variable {P : Program} {G : World → Prop} {w0 : World} {V0 : Base} {N : Nat} {env : Env} {σ σ' τ : S} {a : Act} {w : World} {fl : Notes}
end
end Go.Fx

namespace Go.Fx
open Go.RowKit
structure Ren where
  f : Nat → Nat
  g : Nat → Nat
  fg : ∀ k, f (g k) = k
  gf : ∀ k, g (f k) = k
def Ren.symm (π : Ren) : Ren := ⟨π.g, π.f, π.gf, π.fg⟩
mutual
def A.ren (r : Nat → Nat) : A → A
  | .own k es => .own (r k) es
  | .ref k i off => .ref (r k) i off
  | .arr k off n c => .arr (r k) off n c
  | .mapr k => .mapr (r k)
  | .clo f fs cs => .clo f (renL r fs) (renL r cs)
  | .yld l ta ks xs => .yld l ta ks (renL r xs)
  | .ifc t a => .ifc t (a.ren r)
  | .c x => .c x
  | .nil => .nil
  | .elem es sp i off => .elem es sp i off
  | .lost => .lost
def renL (r : Nat → Nat) : List A → List A
  | [] => []
  | a :: l => a.ren r :: renL r l
end
theorem renL_map (r : Nat → Nat) : ∀ l, renL r l = l.map (A.ren r)
  | [] => rfl
  | a :: l => by rw [renL, renL_map r l]; rfl
def X.ren (r : Nat → Nat) : X → X
  | .one a => .one (a.ren r)
  | .agg cs => .agg (renL r cs)
def R.ren (r : Nat → Nat) : R → R
  | .x y => .x (y.ren r)
  | .tup xs => .tup (xs.map (X.ren r))
def Box.ren (r : Nat → Nat) (b : Box) : Box := { b with rows := b.rows.map (renL r) }
def Hp.ren (π : Ren) (h : Hp) : Hp := ⟨fun k => (h.objs (π.g k)).map (Box.ren π.f), fun k => h.toks (π.g k), h.ext⟩
def Env.ren (π : Ren) (env : Env) : Env := ⟨env.V, fun k => env.ρ (π.g k), fun k => env.τ (π.g k)⟩
section
variable {P : Program} {G : World → Prop} {env env' : Env} {w w' : World} {toks : Nat → Option Tok} {p q : Nat → Prop} (π : Ren)
theorem Env.ren_symm : (env.ren π.symm).ren π = env := by
  unfold Env.ren Ren.symm
  simp only [π.fg]
mutual
theorem A.ren_ren : ∀ (a : A), (a.ren π.f).ren π.g = a
  | .own k es => by simp only [A.ren, π.gf]
  | .ref k i off => by simp only [A.ren, π.gf]
  | .arr k off n c => by simp only [A.ren, π.gf]
  | .mapr k => by simp only [A.ren, π.gf]
  | .clo f fs cs => by simp only [A.ren, renL_renL fs, renL_renL cs]
  | .yld l ta ks xs => by simp only [A.ren, renL_renL xs]
  | .ifc t a => by simp only [A.ren, A.ren_ren a]
  | .c x => rfl
  | .nil => rfl
  | .elem es sp i off => rfl
  | .lost => rfl
theorem renL_renL : ∀ (l : List A), renL π.g (renL π.f l) = l
  | [] => rfl
  | a :: l => by simp only [renL, A.ren_ren a, renL_renL l]
end
theorem Hp.ren_symm (h : Hp) : (h.ren π).ren π.symm = h := by
  obtain ⟨o, t, e⟩ := h
  unfold Hp.ren
  simp only [Ren.symm, π.gf, Hp.mk.injEq, and_true]
  funext k
  cases o k with
  | none => rfl
  | some b =>
    simp only [Option.map_some, Box.ren, List.map_map, Option.some.injEq]
    have : (renL π.g ∘ renL π.f) = id := funext fun l => renL_renL π l
    rw [this, List.map_id]
mutual
theorem RepA.ren : ∀ {a : A} {v : Value}, RepA env toks w a v ↔ RepA (env.ren π) (fun k => toks (π.g k)) w (a.ren π.f) v
  | .c x, v => Iff.rfl
  | .own k es, v => by simp only [RepA, A.ren, Env.ren, π.gf]
  | .nil, v => Iff.rfl
  | .ref k i off, v => by simp only [RepA, A.ren, Env.ren, π.gf]
  | .arr k off n cap, v => by simp only [RepA, A.ren, Env.ren, π.gf]
  | .mapr k, v => by simp only [RepA, A.ren, Env.ren, π.gf]
  | .elem es sp i off, v => Iff.rfl
  | .clo f fs cs, v => by
    simp only [RepA, A.ren]
    constructor
    · rintro ⟨us, vs, h1, h2, h3⟩; exact ⟨us, vs, h1, RepAs.ren.1 h2, RepAs.ren.1 h3⟩
    · rintro ⟨us, vs, h1, h2, h3⟩; exact ⟨us, vs, h1, RepAs.ren.2 h2, RepAs.ren.2 h3⟩
  | .yld l ta ks xs, v => by
    simp only [RepA, A.ren]
    constructor
    · rintro ⟨h1, h2⟩; exact ⟨h1, RepAs.ren.1 h2⟩
    · rintro ⟨h1, h2⟩; exact ⟨h1, RepAs.ren.2 h2⟩
  | .ifc t a, v => by
    simp only [RepA, A.ren]
    constructor
    · rintro ⟨u, h1, h2⟩; exact ⟨u, h1, RepA.ren.1 h2⟩
    · rintro ⟨u, h1, h2⟩; exact ⟨u, h1, RepA.ren.2 h2⟩
  | .lost, v => Iff.rfl
theorem RepAs.ren : ∀ {xs : List A} {vs : List Value}, RepAs env toks w xs vs ↔ RepAs (env.ren π) (fun k => toks (π.g k)) w (renL π.f xs) vs
  | [], [] => Iff.rfl
  | [], _ :: _ => Iff.rfl
  | _ :: _, [] => Iff.rfl
  | _ :: _, _ :: _ => by simp only [RepAs, renL]; exact and_congr RepA.ren RepAs.ren
end
theorem all2_ren {α β γ : Type} {p : α → β → Prop} {q : γ → β → Prop} {f : α → γ} (h : ∀ x y, p x y ↔ q (f x) y) {l : List α} {m : List β} : All2 p l m ↔ All2 q (l.map f) m := by
  constructor
  · intro hl; exact All2.map_left (hl.imp fun x y _ hp => (h x y).1 hp)
  · intro hl; exact (All2.of_map_left hl).imp fun x y _ hp => (h x y).2 hp
theorem RepX.ren {x : X} {v : Value} : RepX env toks w x v ↔ RepX (env.ren π) (fun k => toks (π.g k)) w (x.ren π.f) v := by
  cases x with
  | one a => exact RepA.ren π
  | agg cs =>
    simp only [RepX, X.ren, renL_map]
    constructor
    · rintro ⟨us, e, h⟩; exact ⟨us, e, (all2_ren fun x y => RepA.ren π).1 h⟩
    · rintro ⟨us, e, h⟩; exact ⟨us, e, (all2_ren fun x y => RepA.ren π).2 h⟩
theorem RepR.ren {r : R} {v : Value} : RepR env toks w r v ↔ RepR (env.ren π) (fun k => toks (π.g k)) w (r.ren π.f) v := by
  cases r with
  | x x => exact RepX.ren π
  | tup xs =>
    simp only [RepR, R.ren]
    constructor
    · rintro ⟨us, e, h⟩; exact ⟨us, e, (all2_ren fun x y => RepX.ren π).1 h⟩
    · rintro ⟨us, e, h⟩; exact ⟨us, e, (all2_ren fun x y => RepX.ren π).2 h⟩
mutual
theorem A.only_ren : ∀ {a : A}, a.only (fun k => p (π.f k)) (fun k => q (π.f k)) → (a.ren π.f).only p q
  | .c _, _ => trivial
  | .nil, _ => trivial
  | .own _ _, h => h
  | .ref _ _ _, h => h
  | .arr _ _ _ _, h => h
  | .mapr _, h => h
  | .elem _ _ _ _, _ => trivial
  | .clo _ _ _, h => ⟨onlyL_ren h.1, onlyL_ren h.2⟩
  | .yld _ _ _ xs, h => onlyL_ren (l := xs) h
  | .ifc _ a, h => A.only_ren (a := a) h
  | .lost, _ => trivial
theorem onlyL_ren : ∀ {l : List A}, onlyL (fun k => p (π.f k)) (fun k => q (π.f k)) l → onlyL p q (renL π.f l)
  | [], _ => trivial
  | _ :: _, h => ⟨A.only_ren h.1, onlyL_ren h.2⟩
end
theorem X.only_ren {x : X} (h : x.only (fun k => p (π.f k)) (fun k => q (π.f k))) : (x.ren π.f).only p q := by
  cases x with
  | one a => exact A.only_ren π h
  | agg cs => exact onlyL_ren π h
theorem Hp.ren_objs {h : Hp} {k : Nat} : (h.ren π).objs k ≠ none ↔ h.objs (π.g k) ≠ none := by simp [Hp.ren]
theorem Hp.only_ren {h : Hp} (ho : h.only (fun k => p (π.f k)) (fun k => q (π.f k))) : (h.ren π).only p q := by
  intro k b hk r hr
  simp only [Hp.ren] at hk
  cases hb : h.objs (π.g k) with
  | none => rw [hb] at hk; cases hk
  | some b' =>
    rw [hb] at hk
    simp only [Option.map_some, Option.some.injEq] at hk
    subst hk
    obtain ⟨r', hr', rfl⟩ := List.mem_map.1 hr
    exact onlyL_ren π (ho (π.g k) b' hb r' hr')
theorem HMem.ren {h : Hp} {F : Nat → Prop} (hm : HMem env h F w) : HMem (env.ren π) (h.ren π) F w where
  vlt := hm.vlt
  ρlt := fun k b s hk => hm.ρlt (π.g k) b s hk
  τlt := fun k v b hk hv => hm.τlt (π.g k) v b hk hv
  objs := fun k x hk => by
    simp only [Hp.ren] at hk
    cases hb : h.objs (π.g k) with
    | none => rw [hb] at hk; cases hk
    | some y =>
      rw [hb] at hk
      simp only [Option.map_some, Option.some.injEq] at hk
      subst hk
      obtain ⟨b, us, g1, g2, g3, g4, g5⟩ := hm.objs (π.g k) y hb
      refine ⟨b, us, g1, g2.mapped (f := renL π.f) (fun r hr => ?_), ?_, fun r hr => ?_, g5⟩
      · obtain ⟨z, t, rfl⟩ := hr; exact ⟨z, renL π.f t, rfl⟩
      · have : (y.rows.map (renL π.f)).flatten = y.rows.flatten.map (A.ren π.f) := by
          rw [List.map_flatten]; congr 1; exact List.map_congr_left fun r _ => renL_map _ r
        show All2 _ (y.rows.map (renL π.f)).flatten us
        rw [this]
        exact (all2_ren fun x y => RepA.ren π).1 g3
      · obtain ⟨r', hr', rfl⟩ := List.mem_map.1 hr
        rw [renL_map, List.length_map]; exact g4 r' hr'
  inj := fun k k' b s s' hk hk' => by
    have := hm.inj (π.g k) (π.g k') b s s' hk hk'
    rw [← π.fg k, this, π.fg]
  toks := fun k t hk => by
    obtain ⟨v, xs, g1, g2, g3⟩ := hm.toks (π.g k) t hk
    exact ⟨v, xs, g1, g2, fun b hb => ⟨(g3 b hb).1, fun k' s => (g3 b hb).2 (π.g k') s⟩⟩
  tinj := fun k k' v v' b hk hk' hv hv' => by
    have := hm.tinj (π.g k) (π.g k') v v' b hk hk' hv hv'
    rw [← π.fg k, this, π.fg]
  sep := fun k k' v b s hk hv => hm.sep (π.g k) (π.g k') v b s hk hv
  ext := hm.ext
  flt := fun b hb => ⟨(hm.flt b hb).1, (hm.flt b hb).2.1, fun k s => (hm.flt b hb).2.2.1 (π.g k) s, fun k v => (hm.flt b hb).2.2.2 (π.g k) v⟩
theorem Owned.ren {h : Hp} {F : Nat → Prop} {b : Nat} : Owned (env.ren π) (h.ren π) F b ↔ Owned env h F b := by
  constructor
  · rintro (⟨k, s, q1, q2⟩ | ⟨k, v, q1, q2, q3⟩ | q)
    · exact .inl ⟨π.g k, s, (Hp.ren_objs π).1 q1, q2⟩
    · exact .inr (.inl ⟨π.g k, v, q1, q2, q3⟩)
    · exact .inr (.inr q)
  · rintro (⟨k, s, q1, q2⟩ | ⟨k, v, q1, q2, q3⟩ | q)
    · exact .inl ⟨π.f k, s, (Hp.ren_objs π).2 (by rw [π.gf]; exact q1), by simp only [Env.ren, π.gf]; exact q2⟩
    · exact .inr (.inl ⟨π.f k, v, by simp only [Hp.ren, π.gf]; exact q1, by simp only [Env.ren, π.gf]; exact q2, q3⟩)
    · exact .inr (.inr q)
theorem Left.ren {h h' : Hp} {F F' : Nat → Prop} (hl : Left env h F w env' h' F' w') : Left (env.ren π) (h.ren π) F w (env'.ren π) (h'.ren π) F' w' where
  mem := hl.mem.ren π
  kept := hl.kept.mono fun b hb => (Owned.ren π).2 hb
  owned := fun b hb => (hl.owned b ((Owned.ren π).1 hb)).imp id (Owned.ren π).2
  vold := hl.vold
  vcell := hl.vcell
  vnew := fun b o hv => (hl.vnew b o hv).imp id fun h => h.imp id (Owned.ren π).2
  ρold := fun k p hk => hl.ρold (π.g k) p hk
  ρnew := fun k p hk => (hl.ρnew (π.g k) p hk).imp id fun h => ⟨(Hp.ren_objs π).2 h.1, by simp [Hp.ren, h.2]⟩
  τold := fun k h1 h2 => hl.τold (π.g k) h1 h2
  τnew := fun k v hk => hl.τnew (π.g k) v hk
  tok := fun k t t' h1 h2 => hl.tok (π.g k) t t' h1 h2
theorem MeetsV.ren {fv : A} {args : List X} {h : Hp} {res : R} {h' : Hp} (hm : MeetsV P G fv args h res h') : MeetsV P G (fv.ren π.f) (args.map (X.ren π.f)) (h.ren π) (res.ren π.f) (h'.ren π) := by
  obtain ⟨m1, m2, m3, m4⟩ := hm
  have hq : ∀ k, h.toks k ≠ none → (h.ren π).toks (π.f k) ≠ none := fun k hk => by simp only [Hp.ren, π.gf]; exact hk
  refine ⟨A.only_ren π (A.only_mono (fun _ _ => trivial) hq m1), fun x hx => ?_, Hp.only_ren π fun k b hk r hr => onlyL_mono (fun _ _ => trivial) hq (m3 k b hk r hr), ?_⟩
  · obtain ⟨y, hy, rfl⟩ := List.mem_map.1 hx
    exact X.only_ren π (X.only_mono (fun _ _ => trivial) hq (m2 y hy))
  intro w env F v vs hG hmem hfr hv ha
  have hmem' : HMem (env.ren π.symm) h F w := by
    have := hmem.ren π.symm
    rwa [Hp.ren_symm] at this
  have hown : ∀ b, Owned (env.ren π.symm) h F b ↔ Owned env (h.ren π) F b := fun b => by
    have := Owned.ren (env := env.ren π.symm) (h := h) (F := F) (b := b) π
    rw [Env.ren_symm] at this
    exact this.symm
  have hfr' : Fresh (env.ren π.symm) h h' := ⟨fun k h1 h2 => by
      have := hfr.1 (π.f k) (by simp only [Hp.ren, π.gf]; simpa using h1) (by simp only [Hp.ren, π.gf, h2]; rfl)
      exact this, fun k h1 h2 => by
      have := hfr.2 (π.f k) (by simp only [Hp.ren, π.gf]; exact h1) (by simp only [Hp.ren, π.gf]; exact h2)
      exact this⟩
  have hv' : RepA (env.ren π.symm) h.toks w fv v := by
    have := (RepA.ren (env := env.ren π.symm) (toks := h.toks) (w := w) π (a := fv) (v := v)).2
    rw [Env.ren_symm] at this
    exact this hv
  have ha' : All2 (RepX (env.ren π.symm) h.toks w) args vs := by
    have := (all2_ren (l := args) (m := vs) fun x y => RepX.ren (env := env.ren π.symm) (toks := h.toks) (w := w) π (x := x) (v := y)).2
    rw [Env.ren_symm] at this
    exact this ha
  have hc := m4 w (env.ren π.symm) F v vs (fun w' hk => hG w' (hk.mono fun b hb => (hown b).1 hb)) hmem' hfr' hv' ha'
  have fin : ∀ (e : Ending) (w' : World), (∃ v env' F', e = .returned v ∧ RepR env' h'.toks w' res v ∧ Left (env.ren π.symm) h F w env' h' F' w') →
      ∃ v env' F', e = .returned v ∧ RepR env' (h'.ren π).toks w' (res.ren π.f) v ∧ Left env (h.ren π) F w env' (h'.ren π) F' w' := by
    rintro e w' ⟨u, env1, F1, he, hr, hl⟩
    have hl' := hl.ren π
    rw [Env.ren_symm] at hl'
    exact ⟨u, env1.ren π, F1, he, (RepR.ren π).1 hr, hl'⟩
  unfold CallsV at hc ⊢
  split at hc
  · exact ⟨hc.1, hc.2.mono fin⟩
  · obtain ⟨e1, e2, fn, tmps, assign, body, hy, hr⟩ := hc
    exact ⟨e1, e2, fn, tmps, assign, body, hy, fun n => (hr n).mono fin⟩
  · exact hc
end
end Go.Fx

namespace Go.Fx
open Go.RowKit
section
variable {P : Program} {G : World → Prop} {env env' : Env} {w w' : World} {toks : Nat → Option Tok}
def Hp.emp : Hp := ⟨fun _ => none, fun _ => none, XP.emp⟩
theorem RepCX.open {V : Nat → Nat → Prop} (hV : ∀ b o, V b o → env.V b o) {c : CX} {v : Value} (h : RepCX V w c v) : RepX env toks w c.open v := open_rep hV h
theorem open_close {c : CX} {v : Value} (h : RepX env toks w c.open v) : RepCX env.V w c v := by
  cases c with
  | one x => exact h
  | agg cs => obtain ⟨us, e, hu⟩ := h; exact ⟨us, e, (All2.of_map_left (f := A.c) (p := RepA env toks w) hu).imp fun _ _ _ h => h⟩
theorem openR_close {c : CR} {v : Value} (h : RepR env toks w c.open v) : RepCR env.V w c v := by
  cases c with
  | x y => exact open_close h
  | tup xs => obtain ⟨us, e, hu⟩ := h; exact ⟨us, e, (All2.of_map_left hu).imp fun _ _ _ => open_close⟩
theorem MeetsH.plain {f : FuncId} {cs : List CX} {res : CR} (hm : MeetsH P G f (cs.map CX.open) Hp.emp res.open Hp.emp) : Meets P G f cs res := by
  obtain ⟨m1, m2, m3, m4⟩ := hm
  refine ⟨m1, fun w V vs hG hV ha => ?_⟩
  let env : Env := ⟨V, fun _ => none, fun _ => none⟩
  have hno : ∀ b, ¬ Owned env Hp.emp (fun _ => False) b := by
    rintro b (⟨k, s, h1, _⟩ | ⟨k, v, h1, _⟩ | h)
    · exact h1 rfl
    · exact h1 rfl
    · exact h
  have hmem : HMem env Hp.emp (fun _ => False) w := {
    vlt := hV
    ρlt := fun k b s h => by cases h
    τlt := fun k v b h => by cases h
    objs := fun k x h => by cases h
    inj := fun k k' b s s' h => by cases h
    toks := fun k t h => by cases h
    tinj := fun k k' v v' b h => by cases h
    sep := fun k k' v b s h => by cases h
    ext := fun _ h => h
    flt := fun b h => h.elim }
  refine (m4 w env (fun _ => False) vs (fun w' hk => hG w' ⟨hk.os, hk.tape, hk.output, hk.size, fun i hi => hk.block i hi (hno i)⟩) hmem ⟨fun _ _ _ => rfl, fun _ _ _ => rfl⟩ (All2.map_left (ha.imp fun _ _ _ h => open_rep (fun _ _ x => x) h))).mono ?_
  rintro e w' ⟨v, env', F', rfl, hr, hl⟩
  refine ⟨v, rfl, ?_, ⟨hl.kept.os, hl.kept.tape, hl.kept.output, hl.kept.size, fun i hi => hl.kept.block i hi (hno i)⟩⟩
  have hc := openR_close hr
  have hmono : ∀ b o, env'.V b o → V b o ∨ w.heap.size ≤ b := fun b o h => (hl.vnew b o h).imp id fun h => h.elim id fun h => absurd h (hno b)
  cases res with
  | x y =>
    cases y with
    | one c => exact RepC.mono hmono (fun _ _ _ => rfl) hc
    | agg cs => obtain ⟨us, e, hu⟩ := hc; exact ⟨us, e, hu.imp fun _ _ _ h => RepC.mono hmono (fun _ _ _ => rfl) h⟩
  | tup ys =>
    obtain ⟨vs, e, hu⟩ := hc
    refine ⟨vs, e, hu.imp fun y _ _ h => ?_⟩
    cases y with
    | one c => exact RepC.mono hmono (fun _ _ _ => rfl) h
    | agg cs => obtain ⟨us, e, hu⟩ := h; exact ⟨us, e, hu.imp fun _ _ _ h => RepC.mono hmono (fun _ _ _ => rfl) h⟩
end
end Go.Fx

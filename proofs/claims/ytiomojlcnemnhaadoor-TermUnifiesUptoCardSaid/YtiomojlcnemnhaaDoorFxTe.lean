/- Fx, part Te: what is held beside may turn; marks; rounds of ranges over functions. -/
import Derived.Test.YtiomojlcnemnhaaDoorFxT
import Derived.RangeFuncRecord
namespace Go.Fx
open Go.RowKit

section
variable {P : Program} {G : World → Prop} {w0 : World} {V0 : Base} {N : Nat} {env : Env} {σ σ' τ : S} {a a' : Act} {w w' : World} {fl : Notes} {rd : Option Nat} {rn : Nat}

/-- What is held beside turns, and nothing else. -/
theorem Sim.turn {e' : XP} (h : Sim w0 V0 N env σ a w) (ht : a'.tmps = a.tmps)
    (hb : ∀ F, σ.ext.holds env.V F w → KeptBut F w w' ∧ ∃ F', e'.holds env.V F' w' ∧ ∀ c, F' c → F c ∨ (w.heap.size ≤ c ∧ c < w'.heap.size))
    (hd : (e'.mark = V0.h.ext.mark ∨ V0.h.ext.mark = none) ∧ (a'.defers = [] ∨ ∃ r, e'.mark = some r ∧ a'.defers = [markD r] ∧ V0.h.ext.mark = none)) : Sim w0 V0 N env { σ with ext := e' } a' w' := by
  obtain ⟨F, f1, f2⟩ := h.ext
  obtain ⟨hk, F', g1, g2⟩ := hb F f1
  have hcell : ∀ b o, env.V b o → w'.cell? ⟨b, o, none⟩ = w.cell? ⟨b, o, none⟩ := fun b o hv => World.cell?_of_block (a := ⟨b, o, none⟩) (hk.block b (h.vlt b o hv) fun hf => (f2 b hf).2.2.1 o hv)
  have hle : env.Le env σ.toks σ.toks w w' := ⟨fun _ _ x => x, hcell, fun _ _ x => x, fun _ t x => ⟨t, x, rfl, Nat.le_refl _, fun _ => rfl⟩⟩
  exact {
    below := h.below.trans hk fun b hf => (f2 b hf).1
    defers := hd
    size := by rw [ht]; exact h.size
    nn := h.nn
    vlt := fun b o hv => Nat.lt_of_lt_of_le (h.vlt b o hv) hk.size
    vnew := h.vnew
    vold := h.vold
    v0 := h.v0
    vcell := fun b o hv => (hcell b o (h.vold b o hv)).trans (h.vcell b o hv)
    tmps := fun t => by rw [ht]; exact (h.tmps t).mono hle
    objs := fun k x hx => by
      obtain ⟨b, us, h1, h2, h3, h4, h5, h6⟩ := h.objs k x hx
      exact ⟨b, us, h1, h2, h3.of (hk.block b h3.lt fun hf => (f2 b hf).2.2.2.1 k _ h1), h4.imp fun _ _ _ => RepA.mono hle, h5, h6⟩
    dom := h.dom
    ρlt := fun k b s x => Nat.lt_of_lt_of_le (h.ρlt k b s x) hk.size
    inj := h.inj
    toks := fun k t hx => by
      obtain ⟨v, xs, h1, h2, h3⟩ := h.toks k t hx
      exact ⟨v, xs, h1, ownsRow_of_block h2 fun b hv => hk.block b (h2.lt b hv).2 fun hf => (f2 b hf).2.2.2.2 k v h1 hv, h3⟩
    tdom := h.tdom
    τlt := fun k v b x y => Nat.lt_of_lt_of_le (h.τlt k v b x y) hk.size
    tinj := h.tinj
    sep := h.sep
    ext := ⟨F', g1, fun c hc => by
      rcases g2 c hc with hf | ⟨hge, hlt⟩
      · obtain ⟨q1, q2, q3, q4, q5⟩ := f2 c hf
        exact ⟨q1, Nat.lt_of_lt_of_le q2 hk.size, q3, q4, q5⟩
      · refine ⟨.inl (Nat.le_trans h.below.size hge), hlt, fun o hv => ?_, fun k s hr => ?_, fun k v hr hv => ?_⟩
        · have := h.vlt c o hv; omega
        · have := h.ρlt k c s hr; omega
        · have := h.τlt k v c hr hv; omega⟩
    own := h.own
    keepO := h.keepO
    keepN := h.keepN
    keepT := h.keepT }

/-- What is held beside is forgotten. -/
theorem Sim.forget (h : Sim w0 V0 N env σ a w) (hd : a.defers = []) (hm : V0.h.ext.mark = none) : Sim w0 V0 N env { σ with ext := XP.emp } a w :=
  h.turn rfl (fun _ _ => ⟨KeptBut.refl _ _, fun _ => False, fun _ x => x, fun _ hc => hc.elim⟩) ⟨.inr hm, .inl hd⟩

theorem keptBut_put {w : World} {b : Nat} {ob : Obj} {F : Nat → Prop} (hF : F b) : KeptBut F w (w.putObj b ob) :=
  ⟨rfl, rfl, rfl, by rw [World.putObj_size]; exact Nat.le_refl _, fun i _ hn => World.putObj_heap_other fun e => hn (e ▸ hF)⟩

/-- The mark is come to at the end. -/
theorem Sim.leaves (h : Sim w0 V0 N env σ a w) {h' : Hp} (hx : h'.ext = σ.ext ∨ (σ.ext.mark ≠ none ∧ h'.ext = XP.emp)) (hm : h'.ext.mark = V0.h.ext.mark) {fn : Func} {R : Ending → World → Prop}
    (hr : ∀ (w' : World) (a' : Act), a'.tmps = a.tmps → Sim w0 V0 N env { σ with ext := h'.ext } a' w' → ∃ v, (results fn a.tmps).run P w' = .ok v w' ∧ R (.returned v) w') :
    LeavesInM Fence.wide 0 P fn a.tmps R a.defers .returning w := by
  have plain : a.defers = [] → LeavesInM Fence.wide 0 P fn a.tmps R a.defers .returning w := fun hd => by
    rw [hd]
    show ∃ v, _
    refine hr w a rfl ?_
    rcases hx with e | ⟨_, e⟩
    · rw [e]; exact h
    · rw [e]; exact h.forget hd (by rw [← hm, e]; rfl)
  rcases h.defers.2 with hd | ⟨r, h1, h2, h3⟩
  · exact plain hd
  · rw [h2]
    obtain ⟨F, f1, f2⟩ := h.ext
    obtain ⟨g1, g2⟩ := σ.ext.law h1 f1
    refine ⟨(fun e => by cases e), .inl ⟨r, w.putObj r (.deferred none), rfl, run_takeDeferred g2, ?_⟩⟩
    show ∃ v, _
    refine hr _ { a with defers := [] } rfl ?_
    have he : h'.ext = XP.emp := by
      rcases hx with e | ⟨_, e⟩
      · rw [e, h1, h3] at hm; cases hm
      · exact e
    rw [he]
    refine h.turn rfl (fun F' hF' => ?_) ⟨.inr h3, .inl rfl⟩
    obtain ⟨q1, _⟩ := σ.ext.law h1 hF'
    exact ⟨keptBut_put q1, fun _ => False, fun _ x => x, fun c hc => hc.elim⟩

/-- The record of a range over a function, and the block for the rounds' deferred calls. -/
def recX (l r : Nat) (o : Loop) (_ho : o.defers = r) : XP where
  holds := fun _ F w => (∀ b, F b ↔ b = l ∨ b = r) ∧ l ≠ r ∧ w.heap[l]? = some (.loop o) ∧ w.heap[r]? = some (.deferred (some []))
  mono := fun _ _ hF h => ⟨h.1, h.2.1, (hF l ((h.1 l).2 (.inl rfl))).trans h.2.2.1, (hF r ((h.1 r).2 (.inr rfl))).trans h.2.2.2⟩
  mark := some r
  law := fun e h => by injection e with e; subst e; exact ⟨(h.1 _).2 (.inr rfl), h.2.2.2⟩

/-- What is pending behind a round. -/
def pendOf : Exit → Option Code
  | .ret => some .ret
  | .exit id => some (.exit id)
  | _ => none

/-- The record's states. -/
def _root_.Go.Loop.behind (o : Loop) (e : Exit) : Loop := { o with state := if (pendOf e).isNone then .ready else .done, pending := pendOf e }

end
end Go.Fx

/- Fx, part E: what the operations that make or turn memory do to the telling. -/
import Derived.Test.YtiomojlcnemnhaaDoorFxD
import Derived.Laws.IdiomStrings
namespace Go.Fx
open Go.RowKit

section
variable {w0 : World} {V0 : Base} {N : Nat} {env : Env} {σ : S} {a : Act} {w : World}

theorem heap_lt {w : World} {b : Nat} {x : Obj} (h : w.heap[b]? = some x) : b < w.heap.size := (Array.getElem?_eq_some_iff.1 h).1

/-- A new box. -/
theorem Sim.allocO (h : Sim w0 V0 N env σ a w) {d : Nat} (hd : σ.objs d = none) (hk : ownKey d) (ty size : Nat) (rows : List (List A)) (mp : Option (TypeDesc × Bool)) (ob : Obj) (us : List Value) (hO : Holds ⟨ty, size, rows, mp⟩ us ob) (hu : All2 (RepA env σ.toks w) rows.flatten us)
    (hs : ∀ r ∈ rows, r.length = size) :
    Sim w0 V0 N { env with ρ := fun k => if k = d then some (w.heap.size, size) else env.ρ k } (σ.setObj d ⟨ty, size, rows, mp⟩) a (w.alloc ob) := by
  have hdn := h.dom d hk hd
  have hb : Below w.heap.size w (w.alloc ob) := (Below.refl _ _).alloc (Nat.le_refl _) _
  have he : env.Le { env with ρ := fun k => if k = d then some (w.heap.size, size) else env.ρ k } σ.toks σ.toks w (w.alloc ob) :=
    ⟨fun _ _ x => x, fun b o x => hb.cell (p := ⟨b, o, none⟩) (h.vlt b o x), fun k b x => by
      have hk : k ≠ d := fun e => by rw [e, hdn] at x; cases x
      show (if k = d then _ else _) = _
      rw [if_neg hk]; exact x, fun _ t x => ⟨t, x, rfl, Nat.le_refl _, fun _ => rfl⟩⟩
  have hρlt : ∀ k b s, env.ρ k = some (b, s) → b < w.heap.size := h.ρlt
  exact {
    below := h.below.trans (KeptBut.of_below (M := fun _ => False) hb) (fun _ x => x.elim)
    defers := h.defers
    size := h.size
    nn := h.nn
    vlt := fun b o hv => Nat.lt_of_lt_of_le (h.vlt b o hv) hb.size
    vnew := h.vnew
    vold := h.vold
    vcell := fun b o x => (hb.cell (p := ⟨b, o, none⟩) (h.vlt b o (h.vold b o x))).trans (h.vcell b o x)
    v0 := h.v0
    tmps := fun t => (h.tmps t).mono he
    objs := fun k x hx => by
      simp only [S.setObj] at hx
      by_cases e : k = d
      · rw [if_pos e] at hx
        injection hx with hx
        subst hx
        refine ⟨w.heap.size, us, by simp [e], .inl h.below.size, ⟨ob, heap_alloc_new w _, hO⟩, hu.imp fun _ _ _ => RepA.mono he, hs, fun o hv => ?_⟩
        have := h.vlt _ o hv
        omega
      · rw [if_neg e] at hx
        obtain ⟨b, us', h1, h2, h3, h4, h5⟩ := h.objs k x hx
        exact ⟨b, us', by simp only [if_neg e]; exact h1, h2, h3.of (Below.heap_alloc w _ b h3.lt), h4.imp fun _ _ _ => RepA.mono he, h5⟩
    dom := fun k ho hk => by
      simp only [S.setObj] at hk
      by_cases e : k = d
      · rw [if_pos e] at hk; cases hk
      · rw [if_neg e] at hk
        simp only [if_neg e]
        exact h.dom k ho hk
    ρlt := fun k b s hk => by
      simp only at hk
      by_cases e : k = d
      · rw [if_pos e] at hk; injection hk with hk; injection hk with hk _; subst hk
        exact heap_lt (heap_alloc_new w ob)
      · rw [if_neg e] at hk
        exact Nat.lt_of_lt_of_le (h.ρlt k b s hk) hb.size
    τlt := fun k v b x y => Nat.lt_of_lt_of_le (h.τlt k v b x y) hb.size
    inj := fun k k' b s s' hk hk' => by
      simp only at hk hk'
      by_cases e : k = d
      · by_cases e' : k' = d
        · rw [e, e']
        · rw [if_pos e] at hk
          rw [if_neg e'] at hk'
          injection hk with hk; injection hk with hk _
          have := hρlt k' b s' hk'
          omega
      · by_cases e' : k' = d
        · rw [if_pos e'] at hk'
          rw [if_neg e] at hk
          injection hk' with hk'; injection hk' with hk' _
          have := hρlt k b s hk
          omega
        · rw [if_neg e] at hk
          rw [if_neg e'] at hk'
          exact h.inj k k' b s s' hk hk'
    toks := fun k t ht => by
      obtain ⟨v, xs, h1, h2, h3⟩ := h.toks k t ht
      refine ⟨v, xs, h1, h2.alloc _, fun b hv => ⟨(h3 b hv).1, (h3 b hv).2.1, fun k' s => ?_⟩⟩
      simp only
      by_cases e : k' = d
      · rw [if_pos e]
        intro hh
        injection hh with hh; injection hh with hh _
        have := (h2.lt b hv).2
        omega
      · rw [if_neg e]; exact (h3 b hv).2.2 k' s
    tdom := h.tdom
    tinj := h.tinj
    sep := fun k k' v b s hk hv hr => by
      simp only at hr
      by_cases e : k' = d
      · rw [if_pos e] at hr; injection hr with hr; injection hr with hr _
        have := h.τlt k v b hk hv
        omega
      · rw [if_neg e] at hr; exact h.sep k k' v b s hk hv hr
    ext := by
      obtain ⟨F, h1, h2⟩ := h.ext
      refine ⟨F, σ.ext.mono (w := w) (fun _ _ x => x) (fun b o x => hb.cell (p := ⟨b, o, none⟩) (h.vlt b o x)) (fun b x => hb.block b (h2 b x).2.1) h1, fun b x => ?_⟩
      obtain ⟨g1, g2, g3, g4, g5⟩ := h2 b x
      refine ⟨g1, Nat.lt_of_lt_of_le g2 hb.size, g3, fun k s => ?_, g5⟩
      simp only
      by_cases e : k = d
      · rw [if_pos e]
        intro hh
        injection hh with hh; injection hh with hh _
        omega
      · rw [if_neg e]; exact g4 k s
    own := h.own
    keepO := fun k hn => by
      have e : k ≠ d := fun e => hn (e ▸ hk)
      simp only [if_neg e]
      exact h.keepO k hn
    keepN := h.keepN
    keepT := h.keepT }

theorem Sim.alloc (h : Sim w0 V0 N env σ a w) {d : Nat} (hd : σ.objs d = none) (hk : ownKey d) (ty size : Nat) (rows : List (List A)) (us : List Value) (hu : All2 (RepA env σ.toks w) rows.flatten us)
    (hs : ∀ r ∈ rows, r.length = size) :
    Sim w0 V0 N { env with ρ := fun k => if k = d then some (w.heap.size, size) else env.ρ k } (σ.setObj d ⟨ty, size, rows, none⟩) a (w.alloc (.cells us.toArray ty)) :=
  h.allocO hd hk ty size rows none (.cells us.toArray ty) us ⟨[], by simp⟩ hu hs

/-- A cell of a box is written: the box's row i, from off on. -/
theorem Sim.write (h : Sim w0 V0 N env σ a w) {k : Nat} {x : Box} (hx : σ.objs k = some x) {b : Nat} (hb : env.ρ k = some (b, x.size)) {rows' : List (List A)} {us' : List Value}
    {w' : World} (hw : Below b w w') (hw' : ∀ j, j ≠ b → w'.heap[j]? = w.heap[j]?) (hcell : BoxIn w' { x with rows := rows' } b us')
    (hu : All2 (RepA env σ.toks w) rows'.flatten us') (hs : ∀ r ∈ rows', r.length = x.size) :
    Sim w0 V0 N env (σ.setObj k { x with rows := rows' }) a w' := by
  obtain ⟨b', us, h1, h2, h3, h4, h5, h6⟩ := h.objs k x hx
  rw [h1] at hb
  injection hb with hb; injection hb with hb _
  subst hb
  have he : env.Le env σ.toks σ.toks w w' :=
    ⟨fun _ _ x => x, fun i o hv => by
      have hne : i ≠ b' := fun e => h6 o (e ▸ hv)
      exact World.cell?_of_block (a := ⟨i, o, none⟩) (hw' i hne), fun _ _ x => x, fun _ t x => ⟨t, x, rfl, Nat.le_refl _, fun _ => rfl⟩⟩
  exact {
    below := h.below.trans (M' := fun j => j = b') ⟨hw.os, hw.tape, hw.output, hw.size, fun i _ hn => hw' i hn⟩ (fun j e => e ▸ h2)
    defers := h.defers
    size := h.size
    nn := h.nn
    vlt := fun i o hv => Nat.lt_of_lt_of_le (h.vlt i o hv) hw.size
    vnew := h.vnew
    vold := h.vold
    vcell := fun i o x => (World.cell?_of_block (a := ⟨i, o, none⟩) (hw' i fun e => h6 o (e ▸ h.vold i o x))).trans (h.vcell i o x)
    v0 := h.v0
    tmps := fun t => (h.tmps t).mono he
    objs := fun k' y hy => by
      simp only [S.setObj] at hy
      by_cases e : k' = k
      · rw [if_pos e] at hy
        injection hy with hy
        subst hy
        exact ⟨b', us', by rw [e]; exact h1, h2, hcell, hu.imp fun _ _ _ => RepA.mono he, hs, h6⟩
      · rw [if_neg e] at hy
        obtain ⟨b2, us2, g1, g2, g3, g4, g5⟩ := h.objs k' y hy
        have hne : b2 ≠ b' := fun e2 => e (h.inj k' k b' y.size x.size (by rw [g1, e2]) h1)
        exact ⟨b2, us2, g1, g2, g3.of (hw' b2 hne), g4.imp fun _ _ _ => RepA.mono he, g5⟩
    dom := fun k' ho hk => by
      simp only [S.setObj] at hk
      by_cases e : k' = k
      · rw [if_pos e] at hk; cases hk
      · rw [if_neg e] at hk; exact h.dom k' ho hk
    ρlt := fun k b s x => Nat.lt_of_lt_of_le (h.ρlt k b s x) hw.size
    τlt := fun k v b x y => Nat.lt_of_lt_of_le (h.τlt k v b x y) hw.size
    inj := h.inj
    toks := fun k' t ht => by
      obtain ⟨v, xs, g1, g2, g3⟩ := h.toks k' t ht
      refine ⟨v, xs, g1, ?_, g3⟩
      refine g2.kept (row := some b') ⟨hw.os, hw.tape, hw.output, hw.size, fun i hi hne => hw' i (fun e => hne (by rw [e]))⟩ ?_
      cases hv : v.ownBlock with
      | none => exact .inl rfl
      | some i =>
        refine .inr fun e => ?_
        injection e with e
        exact (g3 i hv).2.2 k x.size (by rw [e]; exact h1)
    tdom := h.tdom
    tinj := h.tinj
    sep := h.sep
    ext := by
      obtain ⟨F, f1, f2⟩ := h.ext
      have hne : ∀ i, F i → i ≠ b' := fun i x e => (f2 i x).2.2.2.1 k _ (e ▸ h1)
      refine ⟨F, σ.ext.mono (w := w) (fun _ _ x => x) (fun i o x => World.cell?_of_block (a := ⟨i, o, none⟩) (hw' i fun e => h6 o (e ▸ x))) (fun i x => hw' i (hne i x)) f1, fun i x => ?_⟩
      obtain ⟨g1, g2, g3, g4, g5⟩ := f2 i x
      exact ⟨g1, Nat.lt_of_lt_of_le g2 hw.size, g3, g4, g5⟩
    own := h.own
    keepO := h.keepO
    keepN := h.keepN
    keepT := h.keepT }

/-- A token is made, or grows: the row that it owned (none: a new one) is written behind its cells, or a new row is made. -/
theorem Sim.token (h : Sim w0 V0 N env σ a w) {k : Nat} {t' : Tok} (hk : σ.toks k = none → ownKey k) {v v' : Value} {xs' : List Value} {w' : World}
    (hold : (σ.toks k = none ∧ v.ownBlock = none ∧ t'.n = t'.n) ∨ ∃ t, σ.toks k = some t ∧ env.τ k = some v ∧ t'.ty = t.ty ∧ t'.size = t.size ∧ t.n ≤ t'.n ∧ (t.n = t'.n → v' = v))
    (hg : w.grownBy w' v.ownBlock) (hown : w'.ownsRow 0 t'.ty t'.size v' t'.n xs')
    (hcells : ∀ b o, env.V b o → w'.cell? ⟨b, o, none⟩ = w.cell? ⟨b, o, none⟩)
    (hb : v'.ownBlock = v.ownBlock ∨ v'.ownBlock = some w.heap.size) :
    Sim w0 V0 N { env with V := fun b o => env.V b o ∨ (v'.ownBlock = some b ∧ o < t'.n * t'.size), τ := fun j => if j = k then some v' else env.τ j } (σ.setTok k t') a w' := by
  have hvown : ∀ b, v.ownBlock = some b → New w0 V0 b ∧ b < w.heap.size ∧ (∀ k' s, env.ρ k' ≠ some (b, s)) ∧ (∀ k' u, env.τ k' = some u → u.ownBlock = some b → k' = k) := by
    intro b hv
    rcases hold with ⟨_, hn, _⟩ | ⟨t, ht, hτ, _⟩
    · rw [hn] at hv; cases hv
    · obtain ⟨v1, xs1, g1, g2, g3⟩ := h.toks k t ht
      rw [hτ] at g1
      injection g1 with g1
      subst g1
      exact ⟨(g3 b hv).1, (g2.lt b hv).2, (g3 b hv).2.2, fun k' u hu hub => h.tinj k' k u v b hu hτ hub hv⟩
  have hτlt : ∀ j u b, env.τ j = some u → u.ownBlock = some b → b < w.heap.size := h.τlt
  have hρlt : ∀ j b s, env.ρ j = some (b, s) → b < w.heap.size := h.ρlt
  -- the block that is owned now is no box's, and no other token's
  have hnew : ∀ b, v'.ownBlock = some b → (∀ k' s, env.ρ k' ≠ some (b, s)) ∧ (∀ k' u, env.τ k' = some u → u.ownBlock = some b → k' = k) ∧ New w0 V0 b := by
    intro b hv
    rcases hb with e | e
    · rw [e] at hv
      obtain ⟨g1, g2, g3, g4⟩ := hvown b hv
      exact ⟨g3, g4, g1⟩
    · rw [e] at hv
      injection hv with hv
      subst hv
      exact ⟨fun k' s hk => by have := hρlt k' _ s hk; omega, fun k' u hu hub => by have := hτlt k' u _ hu hub; omega, .inl h.below.size⟩
  have hblk : ∀ b, (∀ e, v.ownBlock = some e → b ≠ e) → b < w.heap.size → w'.heap[b]? = w.heap[b]? := fun b hne hlt => hg.block b hlt (fun e => hne b e.symm rfl)
  have he : env.Le { env with V := fun b o => env.V b o ∨ (v'.ownBlock = some b ∧ o < t'.n * t'.size), τ := fun j => if j = k then some v' else env.τ j } σ.toks (σ.setTok k t').toks w w' :=
    ⟨fun _ _ x => .inl x, hcells, fun _ _ x => x, fun j t ht => by
      by_cases e : j = k
      · subst e
        rcases hold with ⟨hn, _⟩ | ⟨t2, ht2, hτ, hty, hsz, hle, heq⟩
        · rw [hn] at ht; cases ht
        · rw [ht2] at ht; injection ht with ht; subst ht
          refine ⟨t', by simp [S.setTok], hsz, hle, fun e => ?_⟩
          simp only [if_true]
          rw [hτ, heq e.symm]
      · exact ⟨t, by simp [S.setTok, e, ht], rfl, Nat.le_refl _, fun _ => by simp only [if_neg e]⟩⟩
  exact {
    below := h.below.trans (M' := fun j => v.ownBlock = some j) ⟨hg.os, hg.tape, hg.output, hg.size, fun i hi hn => hg.block i hi fun e => hn e.symm⟩ (fun b e => (hvown b e).1)
    defers := h.defers
    size := h.size
    nn := h.nn
    vlt := fun b o hv => hv.elim (fun x => Nat.lt_of_lt_of_le (h.vlt b o x) hg.size) fun x => (hown.lt b x.1).2
    vnew := fun b o hv => hv.elim (h.vnew b o) fun x => .inr (hnew b x.1).2.2
    vold := fun b o hv => .inl (h.vold b o hv)
    vcell := fun b o x => (hcells b o (h.vold b o x)).trans (h.vcell b o x)
    v0 := h.v0
    tmps := fun t => (h.tmps t).mono he
    objs := fun j x hx => by
      obtain ⟨b, us, h1, h2, h3, h4, h5, h6⟩ := h.objs j x hx
      have hne : ∀ e, v.ownBlock = some e → b ≠ e := fun e hv e2 => (hvown e hv).2.2.1 j x.size (by rw [← e2]; exact h1)
      refine ⟨b, us, h1, h2, h3.of (hblk b hne h3.lt), h4.imp fun _ _ _ => RepA.mono he, h5, fun o hv => ?_⟩
      rcases hv with hv | ⟨hv, _⟩
      · exact h6 o hv
      · exact (hnew b hv).1 j x.size h1
    dom := h.dom
    inj := h.inj
    toks := fun j t ht => by
      simp only [S.setTok] at ht
      by_cases e : j = k
      · rw [if_pos e] at ht
        injection ht with ht
        subst ht
        refine ⟨v', xs', by simp [e], hown, fun b hv => ⟨(hnew b hv).2.2, fun o ho hh => ?_, (hnew b hv).1⟩⟩
        rcases hh with hh | ⟨_, hlt⟩
        · rcases hb with e2 | e2
          · rw [e2] at hv
            rcases hold with ⟨_, hn, _⟩ | ⟨t2, ht2, hτ, hty, hsz, hle, _⟩
            · rw [hn] at hv; cases hv
            · obtain ⟨v1, xs1, g1, g2, g3⟩ := h.toks k t2 ht2
              rw [hτ] at g1; injection g1 with g1; subst g1
              refine (g3 b hv).2.1 o (Nat.le_trans ?_ ho) hh
              rw [hsz]
              exact Nat.mul_le_mul_right _ hle
          · rw [e2] at hv
            injection hv with hv
            have := h.vlt b o hh
            omega
        · omega
      · rw [if_neg e] at ht
        obtain ⟨v1, xs1, g1, g2, g3⟩ := h.toks j t ht
        have hne : ∀ b, v1.ownBlock = some b → v.ownBlock ≠ some b := fun b hv1 hv => e ((hvown b hv).2.2.2 j v1 g1 hv1)
        refine ⟨v1, xs1, by simp only [if_neg e]; exact g1, g2.kept hg ?_, fun b hv => ⟨(g3 b hv).1, fun o ho hh => ?_, (g3 b hv).2.2⟩⟩
        · cases hv1 : v1.ownBlock with
          | none => exact .inl rfl
          | some b => exact .inr fun e2 => hne b hv1 e2.symm
        · rcases hh with hh | ⟨hh, _⟩
          · exact (g3 b hv).2.1 o ho hh
          · exact e ((hnew b hh).2.1 j v1 g1 hv)
    tdom := fun j ho hj => by
      simp only [S.setTok] at hj
      by_cases e : j = k
      · rw [if_pos e] at hj; cases hj
      · rw [if_neg e] at hj
        simp only [if_neg e]
        exact h.tdom j ho hj
    ρlt := fun j b s x => Nat.lt_of_lt_of_le (h.ρlt j b s x) hg.size
    τlt := fun j u b hj hu => by
      simp only at hj
      by_cases e : j = k
      · rw [if_pos e] at hj; injection hj with hj; subst hj
        exact (hown.lt b hu).2
      · rw [if_neg e] at hj
        exact Nat.lt_of_lt_of_le (h.τlt j u b hj hu) hg.size
    tinj := fun j j' u u' b hj hj' hub hub' => by
      simp only at hj hj'
      by_cases e : j = k
      · by_cases e' : j' = k
        · rw [e, e']
        · rw [if_pos e] at hj; rw [if_neg e'] at hj'
          injection hj with hj; subst hj
          exact e.trans ((hnew b hub).2.1 j' u' hj' hub').symm
      · by_cases e' : j' = k
        · rw [if_pos e'] at hj'; rw [if_neg e] at hj
          injection hj' with hj'; subst hj'
          exact ((hnew b hub').2.1 j u hj hub).trans e'.symm
        · rw [if_neg e] at hj; rw [if_neg e'] at hj'
          exact h.tinj j j' u u' b hj hj' hub hub'
    sep := fun j j' u b s hj hu hr => by
      simp only at hj
      by_cases e : j = k
      · rw [if_pos e] at hj; injection hj with hj; subst hj
        exact (hnew b hu).1 j' s hr
      · rw [if_neg e] at hj; exact h.sep j j' u b s hj hu hr
    ext := by
      obtain ⟨F, f1, f2⟩ := h.ext
      have hFv : ∀ b, F b → v.ownBlock ≠ some b := fun b x e => by
        rcases hold with ⟨_, hn, _⟩ | ⟨t2, ht2, hτ, _⟩
        · rw [hn] at e; cases e
        · exact (f2 b x).2.2.2.2 k v hτ e
      have hFv' : ∀ b, F b → v'.ownBlock ≠ some b := fun b x e => by
        rcases hb with e2 | e2
        · rw [e2] at e; exact hFv b x e
        · rw [e2] at e; injection e with e; have := (f2 b x).2.1; omega
      refine ⟨F, σ.ext.mono (w := w) (fun _ _ x => .inl x) hcells (fun b x => hg.block b (f2 b x).2.1 (fun e => hFv b x e.symm)) f1, fun b x => ?_⟩
      obtain ⟨g1, g2, g3, g4, g5⟩ := f2 b x
      refine ⟨g1, Nat.lt_of_lt_of_le g2 hg.size, fun o hv => hv.elim (g3 o) fun y => hFv' b x y.1, g4, fun j u hu => ?_⟩
      simp only at hu
      by_cases e : j = k
      · rw [if_pos e] at hu; injection hu with hu; subst hu; exact hFv' b x
      · rw [if_neg e] at hu; exact g5 j u hu
    own := h.own
    keepO := h.keepO
    keepN := fun j hn h0 => by
      have e : j ≠ k := fun e => by
        subst e
        rcases hold with ⟨hn2, _⟩ | ⟨t2, ht2, _⟩
        · exact hn (hk hn2)
        · have := (h.keepN j hn h0).2; rw [ht2] at this; cases this
      simp only [S.setTok, if_neg e]
      exact h.keepN j hn h0
    keepT := fun j t0 t1 h0 h1 => by
      simp only [S.setTok] at h1
      by_cases e : j = k
      · rw [if_pos e] at h1; injection h1 with h1; subst h1
        subst e
        rcases hold with ⟨hn, _⟩ | ⟨t2, ht2, hτ, hty, hsz, hle, heq⟩
        · rw [(h.own j (hk hn)).2] at h0; cases h0
        · obtain ⟨g1, g2, g3⟩ := h.keepT j t0 t2 h0 ht2
          refine ⟨hsz.trans g1, Nat.le_trans g2 hle, fun e => ?_⟩
          simp only [if_true]
          rw [← g3 (by omega), hτ, heq (by omega)]
      · rw [if_neg e] at h1
        simp only [if_neg e]
        exact h.keepT j t0 t1 h0 h1 }

end
end Go.Fx

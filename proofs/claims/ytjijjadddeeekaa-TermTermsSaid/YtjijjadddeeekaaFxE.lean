/- Fx, part E: what the operations that make or turn memory do to the telling. -/
import Derived.Test.YtjijjadddeeekaaFxD
import Derived.Laws.IdiomStrings
namespace Go.Fx
open Go.RowKit

section
variable {w0 : World} {V0 : Nat → Nat → Prop} {N : Nat} {env : Env} {σ : S} {a : Act} {w : World}

theorem heap_lt {w : World} {b : Nat} {x : Obj} (h : w.heap[b]? = some x) : b < w.heap.size := (Array.getElem?_eq_some_iff.1 h).1

/-- A new box. -/
theorem Sim.alloc (h : Sim w0 V0 N env σ a w) {d : Nat} (hd : σ.objs d = none) (ty size : Nat) (rows : List (List A)) (us : List Value) (hu : All2 (RepA env σ.toks w) rows.flatten us)
    (hs : ∀ r ∈ rows, r.length = size) :
    Sim w0 V0 N { env with ρ := fun k => if k = d then some (w.heap.size, size) else env.ρ k } (σ.setObj d ⟨ty, size, rows⟩) a (w.alloc (.cells us.toArray ty)) := by
  have hdn := h.dom d hd
  have hb : Below w.heap.size w (w.alloc (.cells us.toArray ty)) := (Below.refl _ _).alloc (Nat.le_refl _) _
  have he : env.Le { env with ρ := fun k => if k = d then some (w.heap.size, size) else env.ρ k } σ.toks σ.toks w (w.alloc (.cells us.toArray ty)) :=
    ⟨fun _ _ x => x, fun b o x => hb.cell (p := ⟨b, o, none⟩) (h.vlt b o x), fun k b x => by
      have hk : k ≠ d := fun e => by rw [e, hdn] at x; cases x
      show (if k = d then _ else _) = _
      rw [if_neg hk]; exact x, fun _ t x => ⟨t, x, rfl, Nat.le_refl _, fun _ => rfl⟩⟩
  have hρlt : ∀ k b s, env.ρ k = some (b, s) → b < w.heap.size := fun k b s hk => by
    cases hx : σ.objs k with
    | none => rw [h.dom k hx] at hk; cases hk
    | some x =>
      obtain ⟨b', us', h1, _, h3, _⟩ := h.objs k x hx
      rw [h1] at hk
      injection hk with hk; injection hk with hk _
      subst hk
      exact heap_lt h3
  exact {
    below := h.below.trans (hb.mono h.below.size)
    defers := h.defers
    size := h.size
    vlt := fun b o hv => Nat.lt_of_lt_of_le (h.vlt b o hv) hb.size
    vnew := h.vnew
    v0 := h.v0
    tmps := fun t => (h.tmps t).mono he
    objs := fun k x hx => by
      simp only [S.setObj] at hx
      by_cases e : k = d
      · rw [if_pos e] at hx
        injection hx with hx
        subst hx
        refine ⟨w.heap.size, us, by simp [e], h.below.size, heap_alloc_new w _, hu.imp fun _ _ _ => RepA.mono he, hs, fun o hv => ?_⟩
        have := h.vlt _ o hv
        omega
      · rw [if_neg e] at hx
        obtain ⟨b, us', h1, h2, h3, h4, h5⟩ := h.objs k x hx
        exact ⟨b, us', by simp only [if_neg e]; exact h1, h2, (Below.heap_alloc w _ b (heap_lt h3)).trans h3, h4.imp fun _ _ _ => RepA.mono he, h5⟩
    dom := fun k hk => by
      simp only [S.setObj] at hk
      by_cases e : k = d
      · rw [if_pos e] at hk; cases hk
      · rw [if_neg e] at hk
        simp only [if_neg e]
        exact h.dom k hk
    inj := fun k k' b s s' hk hk' => by
      simp only at hk hk'
      by_cases e : k = d
      · by_cases e' : k' = d
        · rw [e, e']
        · rw [if_pos e] at hk
          rw [if_neg e'] at hk'
          injection hk with hk; injection hk with hk _
          have := hρlt k' b s' hk'
          omega
      · by_cases e' : k' = d
        · rw [if_pos e'] at hk'
          rw [if_neg e] at hk
          injection hk' with hk'; injection hk' with hk' _
          have := hρlt k b s hk
          omega
        · rw [if_neg e] at hk
          rw [if_neg e'] at hk'
          exact h.inj k k' b s s' hk hk'
    toks := fun k t ht => by
      obtain ⟨v, xs, h1, h2, h3⟩ := h.toks k t ht
      refine ⟨v, xs, h1, h2.alloc _, fun b hv => ⟨(h3 b hv).1, fun k' s => ?_⟩⟩
      simp only
      by_cases e : k' = d
      · rw [if_pos e]
        intro hh
        injection hh with hh; injection hh with hh _
        have := (h2.lt b hv).2
        omega
      · rw [if_neg e]; exact (h3 b hv).2 k' s
    tdom := h.tdom
    tinj := h.tinj }

/-- A cell of a box is written: the box's row i, from off on. -/
theorem Sim.write (h : Sim w0 V0 N env σ a w) {k : Nat} {x : Box} (hx : σ.objs k = some x) {b : Nat} (hb : env.ρ k = some (b, x.size)) {rows' : List (List A)} {us' : List Value}
    {w' : World} (hw : Below b w w') (hw' : ∀ j, j ≠ b → w'.heap[j]? = w.heap[j]?) (hcell : w'.heap[b]? = some (.cells us'.toArray x.ty (0, 0)))
    (hu : All2 (RepA env σ.toks w) rows'.flatten us') (hs : ∀ r ∈ rows', r.length = x.size) :
    Sim w0 V0 N env (σ.setObj k { x with rows := rows' }) a w' := by
  obtain ⟨b', us, h1, h2, h3, h4, h5, h6⟩ := h.objs k x hx
  rw [h1] at hb
  injection hb with hb; injection hb with hb _
  subst hb
  have he : env.Le env σ.toks σ.toks w w' :=
    ⟨fun _ _ x => x, fun i o hv => by
      have hne : i ≠ b' := fun e => h6 o (e ▸ hv)
      exact World.cell?_of_block (a := ⟨i, o, none⟩) (hw' i hne), fun _ _ x => x, fun _ t x => ⟨t, x, rfl, Nat.le_refl _, fun _ => rfl⟩⟩
  exact {
    below := h.below.trans (hw.mono h2)
    defers := h.defers
    size := h.size
    vlt := fun i o hv => Nat.lt_of_lt_of_le (h.vlt i o hv) hw.size
    vnew := h.vnew
    v0 := h.v0
    tmps := fun t => (h.tmps t).mono he
    objs := fun k' y hy => by
      simp only [S.setObj] at hy
      by_cases e : k' = k
      · rw [if_pos e] at hy
        injection hy with hy
        subst hy
        exact ⟨b', us', by rw [e]; exact h1, h2, hcell, hu.imp fun _ _ _ => RepA.mono he, hs, h6⟩
      · rw [if_neg e] at hy
        obtain ⟨b2, us2, g1, g2, g3, g4, g5⟩ := h.objs k' y hy
        have hne : b2 ≠ b' := fun e2 => e (h.inj k' k b' y.size x.size (by rw [g1, e2]) h1)
        exact ⟨b2, us2, g1, g2, (hw' b2 hne).trans g3, g4.imp fun _ _ _ => RepA.mono he, g5⟩
    dom := fun k' hk => by
      simp only [S.setObj] at hk
      by_cases e : k' = k
      · rw [if_pos e] at hk; cases hk
      · rw [if_neg e] at hk; exact h.dom k' hk
    inj := h.inj
    toks := fun k' t ht => by
      obtain ⟨v, xs, g1, g2, g3⟩ := h.toks k' t ht
      refine ⟨v, xs, g1, ?_, g3⟩
      refine g2.kept (row := some b') ⟨hw.os, hw.tape, hw.output, hw.size, fun i hi hne => hw' i (fun e => hne (by rw [e]))⟩ ?_
      cases hv : v.ownBlock with
      | none => exact .inl rfl
      | some i =>
        refine .inr fun e => ?_
        injection e with e
        exact (g3 i hv).2 k x.size (by rw [e]; exact h1)
    tdom := h.tdom
    tinj := h.tinj }

/-- A token is made, or grows: the row that it owned (none: a new one) is written behind its cells, or a new row is made. -/
theorem Sim.token (h : Sim w0 V0 N env σ a w) {k : Nat} {t' : Tok} {v v' : Value} {xs' : List Value} {w' : World}
    (hold : (σ.toks k = none ∧ v.ownBlock = none ∧ t'.n = t'.n) ∨ ∃ t, σ.toks k = some t ∧ env.τ k = some v ∧ t'.ty = t.ty ∧ t'.size = t.size ∧ t.n ≤ t'.n ∧ (t.n = t'.n → v' = v))
    (hg : w.grownBy w' v.ownBlock) (hown : w'.ownsRow w0.heap.size t'.ty t'.size v' t'.n xs')
    (hcells : ∀ b o, env.V b o → w'.cell? ⟨b, o, none⟩ = w.cell? ⟨b, o, none⟩)
    (hb : v'.ownBlock = v.ownBlock ∨ v'.ownBlock = some w.heap.size) :
    Sim w0 V0 N { env with V := fun b o => env.V b o ∨ (v'.ownBlock = some b ∧ o < t'.n * t'.size), τ := fun j => if j = k then some v' else env.τ j } (σ.setTok k t') a w' := by
  have hvown : ∀ b, v.ownBlock = some b → w0.heap.size ≤ b ∧ b < w.heap.size ∧ (∀ k' s, env.ρ k' ≠ some (b, s)) ∧ (∀ k' u, env.τ k' = some u → u.ownBlock = some b → k' = k) := by
    intro b hv
    rcases hold with ⟨_, hn, _⟩ | ⟨t, ht, hτ, _⟩
    · rw [hn] at hv; cases hv
    · obtain ⟨v1, xs1, g1, g2, g3⟩ := h.toks k t ht
      rw [hτ] at g1
      injection g1 with g1
      subst g1
      exact ⟨(g2.lt b hv).1, (g2.lt b hv).2, (g3 b hv).2, fun k' u hu hub => h.tinj k' k u v b hu hτ hub hv⟩
  have hτlt : ∀ j u b, env.τ j = some u → u.ownBlock = some b → b < w.heap.size := fun j u b hj hub => by
    cases hx : σ.toks j with
    | none => rw [h.tdom j hx] at hj; cases hj
    | some t =>
      obtain ⟨v1, xs1, g1, g2, _⟩ := h.toks j t hx
      rw [g1] at hj; injection hj with hj; subst hj
      exact (g2.lt b hub).2
  have hρlt : ∀ j b s, env.ρ j = some (b, s) → b < w.heap.size := fun j b s hk => by
    cases hx : σ.objs j with
    | none => rw [h.dom j hx] at hk; cases hk
    | some x =>
      obtain ⟨b', us', h1, _, h3, _⟩ := h.objs j x hx
      rw [h1] at hk
      injection hk with hk; injection hk with hk _
      subst hk
      exact heap_lt h3
  -- the block that is owned now is no box's, and no other token's
  have hnew : ∀ b, v'.ownBlock = some b → (∀ k' s, env.ρ k' ≠ some (b, s)) ∧ (∀ k' u, env.τ k' = some u → u.ownBlock = some b → k' = k) ∧ w0.heap.size ≤ b := by
    intro b hv
    rcases hb with e | e
    · rw [e] at hv
      obtain ⟨g1, g2, g3, g4⟩ := hvown b hv
      exact ⟨g3, g4, g1⟩
    · rw [e] at hv
      injection hv with hv
      subst hv
      exact ⟨fun k' s hk => by have := hρlt k' _ s hk; omega, fun k' u hu hub => by have := hτlt k' u _ hu hub; omega, h.below.size⟩
  have hblk : ∀ b, (∀ e, v.ownBlock = some e → b ≠ e) → b < w.heap.size → w'.heap[b]? = w.heap[b]? := fun b hne hlt => hg.block b hlt (fun e => hne b e.symm rfl)
  have he : env.Le { env with V := fun b o => env.V b o ∨ (v'.ownBlock = some b ∧ o < t'.n * t'.size), τ := fun j => if j = k then some v' else env.τ j } σ.toks (σ.setTok k t').toks w w' :=
    ⟨fun _ _ x => .inl x, hcells, fun _ _ x => x, fun j t ht => by
      by_cases e : j = k
      · subst e
        rcases hold with ⟨hn, _⟩ | ⟨t2, ht2, hτ, hty, hsz, hle, heq⟩
        · rw [hn] at ht; cases ht
        · rw [ht2] at ht; injection ht with ht; subst ht
          refine ⟨t', by simp [S.setTok], hsz, hle, fun e => ?_⟩
          simp only [if_true]
          rw [hτ, heq e.symm]
      · exact ⟨t, by simp [S.setTok, e, ht], rfl, Nat.le_refl _, fun _ => by simp only [if_neg e]⟩⟩
  exact {
    below := h.below.grown hg h.below.size (fun b e => (hvown b e).1)
    defers := h.defers
    size := h.size
    vlt := fun b o hv => hv.elim (fun x => Nat.lt_of_lt_of_le (h.vlt b o x) hg.size) fun x => (hown.lt b x.1).2
    vnew := fun b o hv => hv.elim (h.vnew b o) fun x => .inr (hnew b x.1).2.2
    v0 := h.v0
    tmps := fun t => (h.tmps t).mono he
    objs := fun j x hx => by
      obtain ⟨b, us, h1, h2, h3, h4, h5, h6⟩ := h.objs j x hx
      have hne : ∀ e, v.ownBlock = some e → b ≠ e := fun e hv e2 => (hvown e hv).2.2.1 j x.size (by rw [← e2]; exact h1)
      refine ⟨b, us, h1, h2, (hblk b hne (heap_lt h3)).trans h3, h4.imp fun _ _ _ => RepA.mono he, h5, fun o hv => ?_⟩
      rcases hv with hv | ⟨hv, _⟩
      · exact h6 o hv
      · exact (hnew b hv).1 j x.size h1
    dom := h.dom
    inj := h.inj
    toks := fun j t ht => by
      simp only [S.setTok] at ht
      by_cases e : j = k
      · rw [if_pos e] at ht
        injection ht with ht
        subst ht
        refine ⟨v', xs', by simp [e], hown, fun b hv => ⟨fun o ho hh => ?_, (hnew b hv).1⟩⟩
        rcases hh with hh | ⟨_, hlt⟩
        · rcases hb with e2 | e2
          · rw [e2] at hv
            rcases hold with ⟨_, hn, _⟩ | ⟨t2, ht2, hτ, hty, hsz, hle, _⟩
            · rw [hn] at hv; cases hv
            · obtain ⟨v1, xs1, g1, g2, g3⟩ := h.toks k t2 ht2
              rw [hτ] at g1; injection g1 with g1; subst g1
              refine (g3 b hv).1 o (Nat.le_trans ?_ ho) hh
              rw [hsz]
              exact Nat.mul_le_mul_right _ hle
          · rw [e2] at hv
            injection hv with hv
            have := h.vlt b o hh
            omega
        · omega
      · rw [if_neg e] at ht
        obtain ⟨v1, xs1, g1, g2, g3⟩ := h.toks j t ht
        have hne : ∀ b, v1.ownBlock = some b → v.ownBlock ≠ some b := fun b hv1 hv => e ((hvown b hv).2.2.2 j v1 g1 hv1)
        refine ⟨v1, xs1, by simp only [if_neg e]; exact g1, g2.kept hg ?_, fun b hv => ⟨fun o ho hh => ?_, (g3 b hv).2⟩⟩
        · cases hv1 : v1.ownBlock with
          | none => exact .inl rfl
          | some b => exact .inr fun e2 => hne b hv1 e2.symm
        · rcases hh with hh | ⟨hh, _⟩
          · exact (g3 b hv).1 o ho hh
          · exact e ((hnew b hh).2.1 j v1 g1 hv)
    tdom := fun j hj => by
      simp only [S.setTok] at hj
      by_cases e : j = k
      · rw [if_pos e] at hj; cases hj
      · rw [if_neg e] at hj
        simp only [if_neg e]
        exact h.tdom j hj
    tinj := fun j j' u u' b hj hj' hub hub' => by
      simp only at hj hj'
      by_cases e : j = k
      · by_cases e' : j' = k
        · rw [e, e']
        · rw [if_pos e] at hj; rw [if_neg e'] at hj'
          injection hj with hj; subst hj
          exact e.trans ((hnew b hub).2.1 j' u' hj' hub').symm
      · by_cases e' : j' = k
        · rw [if_pos e'] at hj'; rw [if_neg e] at hj
          injection hj' with hj'; subst hj'
          exact ((hnew b hub').2.1 j u hj hub).trans e'.symm
        · rw [if_neg e] at hj; rw [if_neg e'] at hj'
          exact h.tinj j j' u u' b hj hj' hub hub' }

end
end Go.Fx

import Derived.Test.YtckhkfchgcdajaaGreatDoorYFxR
import Derived.OrdersIn
import Derived.Sort.LoopGhostIn
namespace Go.Fx
open Go.RowKit
def edgeMask (m : List Nat) (o : Oper) : Nat := o.after.toList.foldl (fun s e => if Region.binds .any e then s ||| (2 ^ e.on ||| m.getD e.on 0) else s) 0
def masksFrom : List Oper → List Nat → List Nat
  | [], acc => acc
  | o :: l, acc => masksFrom l (acc ++ [edgeMask acc o])
section
variable {P : Program} {G : World → Prop} {w0 : World} {V0 : Base} {N : Nat} {env : Env} {σ σ' τ : S} {a : Act} {w : World} {fl : Notes} {rd : Option Nat} {rn : Nat}
theorem masksFrom_pre : ∀ (l : List Oper) (acc : List Nat), ∃ r, masksFrom l acc = acc ++ r ∧ r.length = l.length
  | [], acc => ⟨[], by simp [masksFrom], rfl⟩
  | o :: l, acc => by
    obtain ⟨r, h1, h2⟩ := masksFrom_pre l (acc ++ [edgeMask acc o])
    exact ⟨edgeMask acc o :: r, by simp [masksFrom, h1], by simp [h2]⟩
theorem masks_at : ∀ (l : List Oper) (acc : List Nat) (i : Nat) (o : Oper), l[i]? = some o → (masksFrom l acc).getD (acc.length + i) 0 = edgeMask ((masksFrom l acc).take (acc.length + i)) o
  | [], _, _, _, h => by simp at h
  | x :: l, acc, 0, o, h => by
    simp at h; subst h
    obtain ⟨r, h1, h2⟩ := masksFrom_pre l (acc ++ [edgeMask acc x])
    simp only [masksFrom, Nat.add_zero, h1, List.append_assoc, List.singleton_append]
    rw [List.take_left' rfl, List.getD_eq_getElem?_getD, List.getElem?_append_right (Nat.le_refl _)]
    simp
  | x :: l, acc, i + 1, o, h => by
    have := masks_at l (acc ++ [edgeMask acc x]) i o (by simpa using h)
    simp only [List.length_append, List.length_singleton] at this
    simp only [masksFrom]
    rw [show acc.length + (i + 1) = acc.length + 1 + i by omega]
    exact this
end
end Go.Fx

namespace Go.Fx
open Go.RowKit
section
variable {P : Program} {G : World → Prop} {w0 : World} {V0 : Base} {N : Nat} {env : Env} {σ σ' τ : S} {a : Act} {w : World} {fl : Notes} {rd : Option Nat} {rn : Nat}
theorem Sim.keep (h : Sim w0 V0 N env σ a w) (ks : List Nat) : Sim w0 V0 N env (σ.keep ks) a w :=
  { h with tmps := fun t => (by
      simp only [S.keep]
      split
      · exact h.tmps t
      · trivial) }
def Env.strike (ks : List Nat) (env : Env) : Env := { env with ρ := fun k => if k ∈ ks then none else env.ρ k, τ := fun k => if k ∈ ks then none else env.τ k }
mutual
theorem RepA.strike {ks : List Nat} {toks : Nat → Option Tok} : ∀ {x : A} {v : Value}, RepA env toks w x v → RepA (env.strike ks) (fun k => if k ∈ ks then none else toks k) w (x.strike ks) v
  | .c y, v, h => h
  | .nil, v, h => h
  | .own k es, v, h => by
    simp only [A.strike]
    split
    · exact h.1
    · rename_i hk
      obtain ⟨h1, t, h2, h3, h4, h5⟩ := h
      exact ⟨h1, t, by simp only [if_neg hk]; exact h2, h3, h4, fun e => by simp only [Env.strike, if_neg hk]; exact h5 e⟩
  | .ref k i off, v, h => by
    simp only [A.strike]
    split
    · exact RepA.oneCell h
    · rename_i hk
      obtain ⟨b, s, h1, h2⟩ := h
      exact ⟨b, s, by simp only [Env.strike, if_neg hk]; exact h1, h2⟩
  | .mapr k, v, h => by
    simp only [A.strike]
    split
    · exact RepA.oneCell h
    · rename_i hk
      obtain ⟨b, s, h1, h2⟩ := h
      exact ⟨b, s, by simp only [Env.strike, if_neg hk]; exact h1, h2⟩
  | .arr k off n c, v, h => by
    simp only [A.strike]
    split
    · exact RepA.oneCell h
    · rename_i hk
      obtain ⟨b, s, c', h1, h2⟩ := h
      exact ⟨b, s, c', by simp only [Env.strike, if_neg hk]; exact h1, h2⟩
  | .elem es sp i off, v, h => h
  | .clo f fs cs, v, h => by
    obtain ⟨us, vs, h1, h2, h3⟩ := h
    exact ⟨us, vs, h1, RepAs.strike h2, RepAs.strike h3⟩
  | .yld l ta js xs, v, h => by
    obtain ⟨h1, h2⟩ := h
    exact ⟨h1, RepAs.strike h2⟩
  | .ifc t x, v, h => by
    obtain ⟨u, h1, h2⟩ := h
    exact ⟨u, h1, RepA.strike h2⟩
  | .lost, v, h => h
theorem RepAs.strike {ks : List Nat} {toks : Nat → Option Tok} : ∀ {xs : List A} {vs : List Value}, RepAs env toks w xs vs → RepAs (env.strike ks) (fun k => if k ∈ ks then none else toks k) w (strikeL ks xs) vs
  | [], [], _ => trivial
  | _ :: _, _ :: _, h => ⟨RepA.strike h.1, RepAs.strike h.2⟩
end
theorem RepX.strike {ks : List Nat} {toks : Nat → Option Tok} {x : X} {v : Value} (h : RepX env toks w x v) : RepX (env.strike ks) (fun k => if k ∈ ks then none else toks k) w (x.strike ks) v := by
  cases x with
  | one y => exact RepA.strike h
  | agg cs =>
    obtain ⟨us, e, hu⟩ := h
    refine ⟨us, e, ?_⟩
    rw [strikeL_map]
    exact All2.map_left (hu.imp fun _ _ _ => RepA.strike)
theorem RepT.strike {ks : List Nat} {toks : Nat → Option Tok} {t : T} {v : Value} (h : RepT env toks w t v) : RepT (env.strike ks) (fun k => if k ∈ ks then none else toks k) w (t.strike ks) v := by
  cases t with
  | lost => trivial
  | k g r =>
    cases g with
    | false => exact h
    | true =>
      refine RepT.mk ?_
      have h := RepT.tt h
      cases r with
      | x y => exact RepX.strike h
      | tup xs =>
        obtain ⟨vs, e, hv⟩ := h
        exact ⟨vs, e, All2.map_left (hv.imp fun _ _ _ => RepX.strike)⟩
theorem Sim.strike (h : Sim w0 V0 N env σ a w) (ks : List Nat) (hks : ∀ k ∈ ks, ownKey k) : ∃ env', Sim w0 V0 N env' (σ.strike ks) a w := by
  unfold S.strike
  split
  · exact ⟨env, h⟩
  · have hρ : ∀ k p, (env.strike ks).ρ k = some p → env.ρ k = some p := fun k p hk => by
      simp only [Env.strike] at hk
      split at hk
      · cases hk
      · exact hk
    have hτ : ∀ k p, (env.strike ks).τ k = some p → env.τ k = some p := fun k p hk => by
      simp only [Env.strike] at hk
      split at hk
      · cases hk
      · exact hk
    refine ⟨env.strike ks, {
      below := h.below, defers := h.defers, size := h.size, nn := h.nn, vlt := h.vlt, vnew := h.vnew, vold := h.vold, v0 := h.v0, vcell := h.vcell, own := h.own
      tmps := fun t => (h.tmps t).strike, objs := fun k x hx => ?_, dom := fun k ho hk => ?_, ρlt := fun k b s hk => h.ρlt k b s (hρ k _ hk), inj := fun k k' b s s' hk hk' => h.inj k k' b s s' (hρ k _ hk) (hρ k' _ hk'),
      toks := fun k t ht => ?_, tdom := fun k ho hk => ?_, τlt := fun k v b hk hv => h.τlt k v b (hτ k _ hk) hv, tinj := fun k k' v v' b hk hk' hv hv' => h.tinj k k' v v' b (hτ k _ hk) (hτ k' _ hk') hv hv', sep := fun k k' v b s hk hv hr => h.sep k k' v b s (hτ k _ hk) hv (hρ k' _ hr),
      ext := ?_, keepO := fun k hk => ?_, keepN := fun k hk h0 => ?_, keepT := fun k t t' h0 h1 => ?_ }⟩
    · simp only at hx
      split at hx
      · cases hx
      · rename_i hk
        cases hb : σ.objs k with
        | none => rw [hb] at hx; cases hx
        | some y =>
          rw [hb] at hx
          simp only [Option.map_some, Option.some.injEq] at hx
          subst hx
          obtain ⟨b, us, h1, h2, h3, h4, h5, h6⟩ := h.objs k y hb
          refine ⟨b, us, by simp only [Env.strike, if_neg hk]; exact h1, h2, h3.struck ks, ?_, fun r hr => ?_, h6⟩
          · have : (y.rows.map (strikeL ks)).flatten = y.rows.flatten.map (A.strike ks) := by
              rw [List.map_flatten]; congr 1; exact List.map_congr_left fun r _ => strikeL_map _ r
            rw [this]
            exact All2.map_left (h4.imp fun _ _ _ => RepA.strike)
          · obtain ⟨r', hr', rfl⟩ := List.mem_map.1 hr
            rw [strikeL_map, List.length_map]; exact h5 r' hr'
    · simp only [Env.strike] at hk ⊢
      split
      · rfl
      · rename_i hkk
        rw [if_neg hkk] at hk
        cases hb : σ.objs k with
        | none => exact h.dom k ho hb
        | some y => rw [hb] at hk; cases hk
    · simp only at ht
      split at ht
      · cases ht
      · rename_i hk
        obtain ⟨v, xs, h1, h2, h3⟩ := h.toks k t ht
        exact ⟨v, xs, by simp only [Env.strike, if_neg hk]; exact h1, h2, fun b hb => ⟨(h3 b hb).1, (h3 b hb).2.1, fun k' s e => (h3 b hb).2.2 k' s (hρ k' _ e)⟩⟩
    · simp only [Env.strike] at hk ⊢
      split
      · rfl
      · rename_i hkk
        rw [if_neg hkk] at hk
        exact h.tdom k ho hk
    · obtain ⟨F, f1, f2⟩ := h.ext
      refine ⟨F, f1, fun b hb => ?_⟩
      obtain ⟨g1, g2, g3, g4, g5⟩ := f2 b hb
      exact ⟨g1, g2, g3, fun k s e => g4 k s (hρ k _ e), fun k v e => g5 k v (hτ k _ e)⟩
    · have : k ∉ ks := fun e => hk (hks k e)
      simp only [Env.strike, if_neg this]
      exact h.keepO k hk
    · have : k ∉ ks := fun e => hk (hks k e)
      simp only [Env.strike, if_neg this]
      exact h.keepN k hk h0
    · simp only at h1
      split at h1
      · cases h1
      · rename_i hk
        simp only [Env.strike, if_neg hk]
        exact h.keepT k t t' h0 h1
theorem Sim.promote (h : Sim w0 V0 N env σ a w) (k j : Nat) (ty : TypeId) (size : Nat) : ∃ env', Sim w0 V0 N env' (σ.promote k j ty size) a w := by
  unfold S.promote
  split
  case h_2 => exact ⟨env, h⟩
  rename_i t s m hk hj
  split
  case isFalse => exact ⟨env, h⟩
  rename_i hown
  have hkn := h.tdom k hown hk
  let env' : Env := { env with τ := fun i => if i = k then some (.slice none 0 0) else env.τ i }
  have τne : ∀ i, i ≠ k → env'.τ i = env.τ i := fun i hi => if_neg hi
  have τk : env'.τ k = some (.slice none 0 0) := if_pos rfl
  have hle : env.Le env' σ.toks (fun i => if i = k then some ⟨ty, size, 0⟩ else σ.toks i) w w := ⟨fun _ _ x => x, fun _ _ _ => rfl, fun _ _ x => x, fun i t ht => by
    have : i ≠ k := fun e => by rw [e, hk] at ht; cases ht
    exact ⟨t, by rw [if_neg this]; exact ht, rfl, Nat.le_refl _, fun _ => τne i this⟩⟩
  refine ⟨env', {
    below := h.below, defers := h.defers, size := h.size, nn := h.nn, vlt := h.vlt, vnew := h.vnew, vold := h.vold, v0 := h.v0, vcell := h.vcell, own := h.own, ρlt := h.ρlt, inj := h.inj, ext := ?_, keepO := h.keepO
    tmps := fun i => (h.tmps i).mono hle
    objs := fun i x hx => ?_
    dom := fun i ho hi => ?_
    toks := fun i x hx => ?_
    tdom := fun i ho hi => ?_
    τlt := fun i v b hi hv => ?_
    tinj := fun i i' v v' b hi hi' hv hv' => ?_
    sep := fun i i' v b s hi hv => ?_
    keepN := fun i hi h0 => ?_
    keepT := fun i t0 t1 h0 h1 => ?_ }⟩
  · simp only at hx
    split at hx
    · rename_i e
      subst e
      injection hx with hx; subst hx
      obtain ⟨b, us, h1, h2, h3, h4, h5, h6⟩ := h.objs i _ hj
      refine ⟨b, us, h1, h2, ?_, ?_, fun r hr => ?_, h6⟩
      · obtain ⟨ob, q1, q2⟩ := h3
        refine ⟨ob, q1, ?_⟩
        unfold Holds at q2 ⊢
        simp only at q2 ⊢
        split at q2
        · exact q2
        · obtain ⟨_, q3⟩ := q2
          obtain ⟨y, t', e⟩ := q3 [.nil] (by simp)
          cases e
      · obtain ⟨v, vs', rfl, g1, g2⟩ := h4.head
        obtain rfl : vs' = [] := All2.nil_left g2
        refine All2.cons ?_ All2.nil
        cases g1
        exact ⟨.nil 0, ⟨ty, size, 0⟩, by simp, by simp, by simp, fun _ => τk⟩
      · simp only [List.mem_singleton] at hr; subst hr
        simpa using h5 [.nil] (by simp)
    · obtain ⟨b, us, h1, h2, h3, h4, h5, h6⟩ := h.objs i x hx
      exact ⟨b, us, h1, h2, h3, h4.imp fun _ _ _ => RepA.mono hle, h5, h6⟩
  · simp only at hi
    split at hi
    · cases hi
    · exact h.dom i ho hi
  · simp only at hx
    split at hx
    · rename_i e
      subst e
      injection hx with hx; subst hx
      exact ⟨_, [], τk, World.ownsRow_nil _ _ _ _, fun b hb => by simp [Value.ownBlock] at hb⟩
    · rename_i e
      obtain ⟨v, xs, h1, h2, h3⟩ := h.toks i x hx
      exact ⟨v, xs, by rw [τne i e]; exact h1, h2, h3⟩
  · simp only at hi
    split at hi
    · cases hi
    · rename_i e; rw [τne i e]; exact h.tdom i ho hi
  · by_cases e : i = k
    · subst e; rw [τk] at hi; injection hi with hi; subst hi; simp [Value.ownBlock] at hv
    · rw [τne i e] at hi; exact h.τlt i v b hi hv
  · by_cases e : i = k
    · subst e; rw [τk] at hi; injection hi with hi; subst hi; simp [Value.ownBlock] at hv
    · by_cases e' : i' = k
      · subst e'; rw [τk] at hi'; injection hi' with hi'; subst hi'; simp [Value.ownBlock] at hv'
      · rw [τne i e] at hi; rw [τne i' e'] at hi'; exact h.tinj i i' v v' b hi hi' hv hv'
  · by_cases e : i = k
    · subst e; rw [τk] at hi; injection hi with hi; subst hi; simp [Value.ownBlock] at hv
    · rw [τne i e] at hi; exact h.sep i i' v b s hi hv
  · obtain ⟨F, f1, f2⟩ := h.ext
    refine ⟨F, f1, fun b hb => ?_⟩
    obtain ⟨g1, g2, g3, g4, g5⟩ := f2 b hb
    refine ⟨g1, g2, g3, g4, fun i v hi => ?_⟩
    by_cases e : i = k
    · subst e; rw [τk] at hi; injection hi with hi; subst hi; simp [Value.ownBlock]
    · rw [τne i e] at hi; exact g5 i v hi
  · have e : i ≠ k := fun e => hi (e ▸ hown)
    obtain ⟨g1, g2⟩ := h.keepN i hi h0
    exact ⟨(τne i e).trans g1, by simp only [if_neg e]; exact g2⟩
  · have e : i ≠ k := fun e => by subst e; rw [(h.own i hown).2] at h0; cases h0
    simp only [if_neg e] at h1
    rw [τne i e]
    exact h.keepT i t0 t1 h0 h1
theorem Sim.promoteT (h : Sim w0 V0 N env σ a w) (k t : Nat) (ty : TypeId) (size : Nat) : ∃ env', Sim w0 V0 N env' (σ.promoteT k t ty size) a w := by
  unfold S.promoteT
  split
  case h_2 => exact ⟨env, h⟩
  rename_i hk hj
  split
  case isFalse => exact ⟨env, h⟩
  rename_i hown
  have hkn := h.tdom k hown hk
  let env' : Env := { env with τ := fun i => if i = k then some (.slice none 0 0) else env.τ i }
  have τne : ∀ i, i ≠ k → env'.τ i = env.τ i := fun i hi => if_neg hi
  have τk : env'.τ k = some (.slice none 0 0) := if_pos rfl
  have hle : env.Le env' σ.toks (fun i => if i = k then some ⟨ty, size, 0⟩ else σ.toks i) w w := ⟨fun _ _ x => x, fun _ _ _ => rfl, fun _ _ x => x, fun i t ht => by
    have : i ≠ k := fun e => by rw [e, hk] at ht; cases ht
    exact ⟨t, by rw [if_neg this]; exact ht, rfl, Nat.le_refl _, fun _ => τne i this⟩⟩
  refine ⟨env', {
    below := h.below, defers := h.defers, size := h.size, nn := h.nn, vlt := h.vlt, vnew := h.vnew, vold := h.vold, v0 := h.v0, vcell := h.vcell, own := h.own, ρlt := h.ρlt, inj := h.inj, ext := ?_, keepO := h.keepO
    tmps := fun i => ?_
    objs := fun i x hx => ?_
    dom := h.dom
    toks := fun i x hx => ?_
    tdom := fun i ho hi => ?_
    τlt := fun i v b hi hv => ?_
    tinj := fun i i' v v' b hi hi' hv hv' => ?_
    sep := fun i i' v b s hi hv => ?_
    keepN := fun i hi h0 => ?_
    keepT := fun i t0 t1 h0 h1 => ?_ }⟩
  · simp only
    split
    · rename_i e
      subst e
      have h1 := h.tmps i
      rw [hj] at h1
      have h2 : a.tmps.getD i undef = .slice none 0 0 := h1
      rw [h2]
      exact ⟨.nil 0, ⟨ty, size, 0⟩, by simp, by simp, by simp, fun _ => τk⟩
    · exact (h.tmps i).mono hle
  · obtain ⟨b, us, h1, h2, h3, h4, h5, h6⟩ := h.objs i x hx
    exact ⟨b, us, h1, h2, h3, h4.imp fun _ _ _ => RepA.mono hle, h5, h6⟩
  · simp only at hx
    split at hx
    · rename_i e
      subst e
      injection hx with hx; subst hx
      exact ⟨_, [], τk, World.ownsRow_nil _ _ _ _, fun b hb => by simp [Value.ownBlock] at hb⟩
    · rename_i e
      obtain ⟨v, xs, h1, h2, h3⟩ := h.toks i x hx
      exact ⟨v, xs, by rw [τne i e]; exact h1, h2, h3⟩
  · simp only at hi
    split at hi
    · cases hi
    · rename_i e; rw [τne i e]; exact h.tdom i ho hi
  · by_cases e : i = k
    · subst e; rw [τk] at hi; injection hi with hi; subst hi; simp [Value.ownBlock] at hv
    · rw [τne i e] at hi; exact h.τlt i v b hi hv
  · by_cases e : i = k
    · subst e; rw [τk] at hi; injection hi with hi; subst hi; simp [Value.ownBlock] at hv
    · by_cases e' : i' = k
      · subst e'; rw [τk] at hi'; injection hi' with hi'; subst hi'; simp [Value.ownBlock] at hv'
      · rw [τne i e] at hi; rw [τne i' e'] at hi'; exact h.tinj i i' v v' b hi hi' hv hv'
  · by_cases e : i = k
    · subst e; rw [τk] at hi; injection hi with hi; subst hi; simp [Value.ownBlock] at hv
    · rw [τne i e] at hi; exact h.sep i i' v b s hi hv
  · obtain ⟨F, f1, f2⟩ := h.ext
    refine ⟨F, f1, fun b hb => ?_⟩
    obtain ⟨g1, g2, g3, g4, g5⟩ := f2 b hb
    refine ⟨g1, g2, g3, g4, fun i v hi => ?_⟩
    by_cases e : i = k
    · subst e; rw [τk] at hi; injection hi with hi; subst hi; simp [Value.ownBlock]
    · rw [τne i e] at hi; exact g5 i v hi
  · have e : i ≠ k := fun e => hi (e ▸ hown)
    obtain ⟨g1, g2⟩ := h.keepN i hi h0
    exact ⟨(τne i e).trans g1, by simp only [if_neg e]; exact g2⟩
  · have e : i ≠ k := fun e => by subst e; rw [(h.own i hown).2] at h0; cases h0
    simp only [if_neg e] at h1
    rw [τne i e]
    exact h.keepT i t0 t1 h0 h1
theorem Sim.promoteO (h : Sim w0 V0 N env σ a w) (k j off : Nat) (ty : TypeId) (size : Nat) : ∃ env', Sim w0 V0 N env' (σ.promoteO k j off ty size) a w := by
  unfold S.promoteO
  split
  case h_2 => exact ⟨env, h⟩
  rename_i t s r hk hj
  split
  case isFalse => exact ⟨env, h⟩
  rename_i hc
  obtain ⟨hown, hnil⟩ := hc
  have hr0 : r[off]? = some .nil := by
    unfold nilAt at hnil
    split at hnil
    · assumption
    · cases hnil
  have hkn := h.tdom k hown hk
  let env' : Env := { env with τ := fun i => if i = k then some (.slice none 0 0) else env.τ i }
  have τne : ∀ i, i ≠ k → env'.τ i = env.τ i := fun i hi => if_neg hi
  have τk : env'.τ k = some (.slice none 0 0) := if_pos rfl
  have hle : env.Le env' σ.toks (fun i => if i = k then some ⟨ty, size, 0⟩ else σ.toks i) w w := ⟨fun _ _ x => x, fun _ _ _ => rfl, fun _ _ x => x, fun i t ht => by
    have : i ≠ k := fun e => by rw [e, hk] at ht; cases ht
    exact ⟨t, by rw [if_neg this]; exact ht, rfl, Nat.le_refl _, fun _ => τne i this⟩⟩
  refine ⟨env', {
    below := h.below, defers := h.defers, size := h.size, nn := h.nn, vlt := h.vlt, vnew := h.vnew, vold := h.vold, v0 := h.v0, vcell := h.vcell, own := h.own, ρlt := h.ρlt, inj := h.inj, ext := ?_, keepO := h.keepO
    tmps := fun i => (h.tmps i).mono hle
    objs := fun i x hx => ?_
    dom := fun i ho hi => ?_
    toks := fun i x hx => ?_
    tdom := fun i ho hi => ?_
    τlt := fun i v b hi hv => ?_
    tinj := fun i i' v v' b hi hi' hv hv' => ?_
    sep := fun i i' v b s hi hv => ?_
    keepN := fun i hi h0 => ?_
    keepT := fun i t0 t1 h0 h1 => ?_ }⟩
  · simp only at hx
    split at hx
    · rename_i e
      subst e
      injection hx with hx; subst hx
      obtain ⟨b, us, h1, h2, h3, h4, h5, h6⟩ := h.objs i _ hj
      simp only [List.flatten_cons, List.flatten_nil, List.append_nil] at h4
      refine ⟨b, us, h1, h2, ?_, ?_, fun r' hr => ?_, h6⟩
      · obtain ⟨ob, q1, q2⟩ := h3
        exact ⟨ob, q1, q2⟩
      · simp only [List.flatten_cons, List.flatten_nil, List.append_nil]
        obtain ⟨v, hv, g1⟩ := h4.get hr0
        cases g1
        have h7 := (h4.imp fun _ _ _ => RepA.mono hle).set off (x := .own k []) (y := .slice none 0 0) ⟨.nil 0, ⟨ty, size, 0⟩, by simp, by simp, by simp, fun _ => τk⟩
        have h8 : us.set off (.slice none 0 0) = us := by
          apply List.ext_getElem?
          intro m
          rw [List.getElem?_set]
          split
          · rename_i e; subst e
            split
            · exact hv.symm
            · rename_i hl; rw [List.getElem?_eq_none (by omega)]
          · rfl
        rw [h8] at h7
        exact h7
      · simp only [List.mem_singleton] at hr; subst hr
        simpa using h5 r (by simp)
    · obtain ⟨b, us, h1, h2, h3, h4, h5, h6⟩ := h.objs i x hx
      exact ⟨b, us, h1, h2, h3, h4.imp fun _ _ _ => RepA.mono hle, h5, h6⟩
  · simp only at hi
    split at hi
    · cases hi
    · exact h.dom i ho hi
  · simp only at hx
    split at hx
    · rename_i e
      subst e
      injection hx with hx; subst hx
      exact ⟨_, [], τk, World.ownsRow_nil _ _ _ _, fun b hb => by simp [Value.ownBlock] at hb⟩
    · rename_i e
      obtain ⟨v, xs, h1, h2, h3⟩ := h.toks i x hx
      exact ⟨v, xs, by rw [τne i e]; exact h1, h2, h3⟩
  · simp only at hi
    split at hi
    · cases hi
    · rename_i e; rw [τne i e]; exact h.tdom i ho hi
  · by_cases e : i = k
    · subst e; rw [τk] at hi; injection hi with hi; subst hi; simp [Value.ownBlock] at hv
    · rw [τne i e] at hi; exact h.τlt i v b hi hv
  · by_cases e : i = k
    · subst e; rw [τk] at hi; injection hi with hi; subst hi; simp [Value.ownBlock] at hv
    · by_cases e' : i' = k
      · subst e'; rw [τk] at hi'; injection hi' with hi'; subst hi'; simp [Value.ownBlock] at hv'
      · rw [τne i e] at hi; rw [τne i' e'] at hi'; exact h.tinj i i' v v' b hi hi' hv hv'
  · by_cases e : i = k
    · subst e; rw [τk] at hi; injection hi with hi; subst hi; simp [Value.ownBlock] at hv
    · rw [τne i e] at hi; exact h.sep i i' v b s hi hv
  · obtain ⟨F, f1, f2⟩ := h.ext
    refine ⟨F, f1, fun b hb => ?_⟩
    obtain ⟨g1, g2, g3, g4, g5⟩ := f2 b hb
    refine ⟨g1, g2, g3, g4, fun i v hi => ?_⟩
    by_cases e : i = k
    · subst e; rw [τk] at hi; injection hi with hi; subst hi; simp [Value.ownBlock]
    · rw [τne i e] at hi; exact g5 i v hi
  · have e : i ≠ k := fun e => hi (e ▸ hown)
    obtain ⟨g1, g2⟩ := h.keepN i hi h0
    exact ⟨(τne i e).trans g1, by simp only [if_neg e]; exact g2⟩
  · have e : i ≠ k := fun e => by subst e; rw [(h.own i hown).2] at h0; cases h0
    simp only [if_neg e] at h1
    rw [τne i e]
    exact h.keepT i t0 t1 h0 h1
theorem Sim.prep : ∀ (l : List Prep) {σ : S} {env : Env}, Sim w0 V0 N env σ a w → ∃ env', Sim w0 V0 N env' (σ.prep l) a w
  | [], _, env, h => ⟨env, h⟩
  | .fz ks :: l, _, _, h => Sim.prep l (h.freeze ks)
  | .pm k j ty size :: l, _, _, h => by obtain ⟨e, h1⟩ := h.promote k j ty size; exact Sim.prep l h1
inductive IRes where
  | tmp (t : Nat)
  | cell (t : Nat) (n : Option Nat)
def resO (σ : S) : IRes → Out
  | .tmp t => ⟨(σ.tmps t).g = true, (σ.tmps t).r⟩
  | .cell t n => ⟨(σ.tmps t).g = true ∧ (loadO σ n (σ.tmps t).r).need, (loadO σ n (σ.tmps t).r).val⟩
def fitRes : List R → R → Prop
  | [.x y], .x z => y.fits z
  | [_], _ => False
  | l, .tup zs => fitsR l zs
  | _, _ => False
end
end Go.Fx

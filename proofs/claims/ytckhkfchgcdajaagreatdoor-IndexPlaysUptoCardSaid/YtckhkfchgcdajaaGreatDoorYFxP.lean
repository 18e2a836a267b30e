import Derived.Test.YtckhkfchgcdajaaGreatDoorYFxK
import Derived.OrdersIn
namespace Go.Fx
open Go.RowKit
section
variable {P : Program} {w0 : World} {V0 : Base} {N : Nat} {env : Env} {σ σ' : S} {a : Act} {w : World} {o : Oper} {toks : Nat → Option Tok}
theorem Good.grown {r : R} (hd : ∀ n, o.dst = some n → n < N) (h : ∀ env a w, Sim w0 V0 N env σ a w → ∃ v w', (execOp a.eval o).run P w = .ok (.value v) w' ∧ Below w.heap.size w w' ∧
      RepR { env with V := fun b o => env.V b o ∨ (w.heap.size ≤ b ∧ b < w'.heap.size) } σ.toks w' r v) :
    Good P w0 V0 N o σ (σ.put o.dst (.k true r)) := fun rd n env a w K Q hs hK => by
  obtain ⟨v, w', h1, h2, h3⟩ := h env a w hs
  exact wp_value h1 (hK _ _ _ ((hs.grow h2).put hd (by simpa [RepT] using h3)))
theorem grownCap_ge (w : World) (n : Nat) (e : TypeId) (h : n ≤ maxLen) : n ≤ grownCap w n 0 e ∧ grownCap w n 0 e ≤ maxLen := by
  unfold maxLen at *
  unfold grownCap Question.cut
  have : w.tape w.drawn (.appendCap n 0 e) % (2 ^ 63 - n) < 2 ^ 63 - n := Nat.mod_lt _ (by omega)
  simp only
  omega
theorem close_rep {x : A} {c : C} {v : Value} (h : RepA env toks w x v) (hc : x.close = some c) : RepC env.V w c v := by
  cases x with
  | c y => simp only [A.close, Option.some.injEq] at hc; subst hc; exact h
  | nil => simp only [A.close, Option.some.injEq] at hc; subst hc; cases h; exact .nil 0
  | own k es => simp only [A.close, Option.some.injEq] at hc; subst hc; exact h.1
  | ref => simp [A.close] at hc
  | arr => simp [A.close] at hc
  | mapr => simp [A.close] at hc
  | elem => simp [A.close] at hc
  | clo => simp [A.close] at hc
  | yld => simp [A.close] at hc
  | ifc => simp [A.close] at hc
  | lost => simp [A.close] at hc
theorem closeL_rep : ∀ {l : List A} {cs : List C} {vs : List Value}, All2 (RepA env toks w) l vs → closeL l = some cs → All2 (RepC env.V w) cs vs
  | [], cs, vs, h, hc => by
    simp [closeL] at hc; subst hc
    rw [h.nil_left]; exact All2.nil
  | x :: l, cs, vs, h, hc => by
    obtain ⟨v, vs', e, h1, h2⟩ := h.head
    subst e
    unfold closeL at hc
    split at hc
    · rename_i c cs' hx hl
      injection hc with hc; subst hc
      exact All2.cons (close_rep h1 hx) (closeL_rep h2 hl)
    · cases hc
theorem open_rep {V : Nat → Nat → Prop} (hV : ∀ b o, V b o → env.V b o) {c : CX} {v : Value} (h : RepCX V w c v) : RepX env toks w c.open v := by
  cases c with
  | one x => exact RepC.mono hV (fun _ _ _ => rfl) h
  | agg cs =>
    obtain ⟨us, e, hu⟩ := h
    exact ⟨us, e, All2.map_left (hu.imp fun _ _ _ h => RepC.mono hV (fun _ _ _ => rfl) h)⟩
theorem openR_rep {V : Nat → Nat → Prop} (hV : ∀ b o, V b o → env.V b o) {c : CR} {v : Value} (h : RepCR V w c v) : RepR env toks w c.open v := by
  cases c with
  | x y => exact open_rep hV h
  | tup xs =>
    obtain ⟨vs, e, hv⟩ := h
    exact ⟨vs, e, All2.map_left (hv.imp fun _ _ _ h => open_rep hV h)⟩
theorem RepC.bound {V : Nat → Nat → Prop} {c : C} {v : Value} (h : RepC V w c v) : RepC (fun b o => V b o ∧ b < w.heap.size) w c v := by
  induction h with
  | v x h => exact .v x h
  | nil c => exact .nil c
  | emp a => exact .emp a
  | sl es sp s b o n cap us hn hc hm hs hl hu hr ih =>
    exact .sl es sp s b o n cap us hn hc hm hs hl (fun j u h => ⟨(hu j u h).1, (hu j u h).2, World.block_lt_of_cell? w _ (hu j u h).1⟩) ih
theorem RepCX.bound {V : Nat → Nat → Prop} {c : CX} {v : Value} (h : RepCX V w c v) : RepCX (fun b o => V b o ∧ b < w.heap.size) w c v := by
  cases c with
  | one x => exact RepC.bound h
  | agg cs => obtain ⟨us, e, hu⟩ := h; exact ⟨us, e, hu.imp fun _ _ _ h => RepC.bound h⟩
theorem RepCR.bound {V : Nat → Nat → Prop} {c : CR} {v : Value} (h : RepCR V w c v) : RepCR (fun b o => V b o ∧ b < w.heap.size) w c v := by
  cases c with
  | x y => exact RepCX.bound h
  | tup xs => obtain ⟨vs, e, hv⟩ := h; exact ⟨vs, e, hv.imp fun _ _ _ h => RepCX.bound h⟩
end
end Go.Fx

namespace Go.Fx
open Go.RowKit
section
variable {P : Program} {w0 : World} {V0 : Base} {N : Nat} {env env' : Env} {σ σ' : S} {a : Act} {w : World} {o : Oper} {toks toks' : Nat → Option Tok}
theorem flatten_drop {α : Type} {s : Nat} : ∀ (l : List (List α)) (k : Nat), (∀ e ∈ l, e.length = s) → (l.drop k).flatten = l.flatten.drop (k * s)
  | l, 0, _ => by simp
  | [], k + 1, _ => by simp
  | x :: l, k + 1, h => by
    have hx := h x (List.mem_cons_self ..)
    rw [List.drop_succ_cons, flatten_drop l k (fun e he => h e (List.mem_cons_of_mem _ he)), List.flatten_cons, Nat.succ_mul, Nat.add_comm (k * s) s, ← List.drop_drop, List.drop_left' hx]
theorem flatten_take {α : Type} {s : Nat} : ∀ (l : List (List α)) (k : Nat), (∀ e ∈ l, e.length = s) → (l.take k).flatten = l.flatten.take (k * s)
  | l, 0, _ => by simp
  | [], k + 1, _ => by simp
  | x :: l, k + 1, h => by
    have hx := h x (List.mem_cons_self ..)
    rw [List.take_succ_cons, List.flatten_cons, List.flatten_cons, flatten_take l k (fun e he => h e (List.mem_cons_of_mem _ he)), Nat.succ_mul, Nat.add_comm (k * s) s, ← hx, List.take_length_add_append]
theorem closeLL_length : ∀ {l : List (List A)} {p : List (List C)}, closeLL l = some p → p.length = l.length
  | [], p, h => by simp [closeLL] at h; subst h; rfl
  | r :: l, p, h => by
    unfold closeLL at h
    split at h
    · rename_i c cs hr hl
      injection h with h; subst h
      simp [closeLL_length hl]
    · cases h
theorem closeLL_rep : ∀ {l : List (List A)} {es : List (List C)} {us : List Value}, closeLL l = some es → All2 (RepA env toks w) l.flatten us → All2 (RepC env.V w) es.flatten us ∧ es.map List.length = l.map List.length
  | [], es, us, h, hu => by
    simp [closeLL] at h; subst h
    rw [List.flatten_nil] at hu
    rw [hu.nil_left]
    exact ⟨All2.nil, rfl⟩
  | r :: l, es, us, h, hu => by
    unfold closeLL at h
    split at h
    · rename_i c cs hr hl
      injection h with h; subst h
      rw [List.flatten_cons] at hu
      have h1 := hu.take r.length
      have h2 := hu.drop r.length
      rw [List.take_left' rfl] at h1
      rw [List.drop_left' rfl] at h2
      have g1 := closeL_rep h1 hr
      obtain ⟨g2, g3⟩ := closeLL_rep hl h2
      refine ⟨?_, ?_⟩
      · rw [List.flatten_cons]
        have := g1.append g2
        rwa [List.take_append_drop] at this
      · have : c.length = r.length := by rw [g1.1, ← h1.1]
        simp [this, g3]
    · cases h
theorem sub_rows {V V' : Nat → Nat → Prop} {es : List (List C)} {us : List Value} {s b off n cap cap' : Nat} (hV : ∀ b o, V b o → V' b o) (hc : ∀ (j : Nat) (u : Value), us[j]? = some u → w.cell? ⟨b, j, none⟩ = some u ∧ V' b j)
    (h : All2 (RepC V w) es.flatten us) (hl : ∀ e ∈ es, e.length = s) (h1 : off + cap ≤ es.length) (h2 : n ≤ cap) (h3 : cap ≤ cap') (h4 : cap' ≤ maxLen) :
    RepC V' w (.sl ((es.drop off).take n) ((es.drop (off + n)).take (cap - n))) (.slice (some ⟨b, off * s, none⟩) n cap') := by
  have hL : (es.drop off).take n ++ (es.drop (off + n)).take (cap - n) = (es.drop off).take cap := by
    have : cap = n + (cap - n) := by omega
    rw [← List.drop_drop]
    conv => rhs; rw [this, List.take_add]
  have hl2 : ∀ e ∈ (es.drop off).take cap, e.length = s := fun e he => hl e (List.mem_of_mem_drop (List.mem_of_mem_take he))
  have hf : ((es.drop off).take cap).flatten = (es.flatten.drop (off * s)).take (cap * s) := by
    rw [flatten_take (s := s) _ _ (fun e he => hl e (List.mem_of_mem_drop he)), flatten_drop es off hl]
  have hr : All2 (RepC V w) ((es.drop off).take cap).flatten ((us.drop (off * s)).take (cap * s)) := by
    rw [hf]; exact (h.drop _).take _
  refine .sl _ _ s b (off * s) n cap' ((us.drop (off * s)).take (cap * s)) ?_ ?_ h4 ?_ ?_ (fun j u hj => ?_) (fun j c u hj hu => ?_)
  · rw [List.length_take, List.length_drop]; omega
  · rw [List.length_take, List.length_drop, List.length_take, List.length_drop]; omega
  · rw [hL]; exact hl2
  · rw [hL]; exact hr.1.symm
  · have hjlt : j < cap * s := by
      have := (List.getElem?_eq_some_iff.1 hj).1
      rw [List.length_take] at this; omega
    rw [List.getElem?_take, if_pos hjlt, List.getElem?_drop] at hj
    exact hc _ u hj
  · rw [hL] at hj
    exact RepC.mono hV (fun _ _ _ => rfl) (hr.2 j c u hj hu)
def FrozenIn (env : Env) (w : World) (B : Nat → Option (List (List C))) : Prop :=
  ∀ k es, B k = some es → ∃ b s us, env.ρ k = some (b, s) ∧ (∀ e ∈ es, e.length = s) ∧ es.length ≤ maxLen ∧ All2 (RepC env.V w) es.flatten us ∧ (∀ (j : Nat) (u : Value), us[j]? = some u → w.cell? ⟨b, j, none⟩ = some u)
def Env.freeze (B : Nat → Option (List (List C))) (env : Env) : Env :=
  { V := fun b o => env.V b o ∨ ∃ k es s, B k = some es ∧ env.ρ k = some (b, s) ∧ o < es.length * s,
    ρ := fun k => if (B k).isSome then none else env.ρ k, τ := env.τ }
theorem FrozenIn.rows {B : Nat → Option (List (List C))} (hB : FrozenIn env w B) {k : Nat} {es : List (List C)} (hk : B k = some es) {b s off n cap cap' : Nat} (hρ : env.ρ k = some (b, s)) (h1 : off + cap ≤ es.length) (h2 : n ≤ cap) (h3 : cap ≤ cap') (h4 : cap' ≤ maxLen) :
    RepC (env.freeze B).V w (.sl ((es.drop off).take n) ((es.drop (off + n)).take (cap - n))) (.slice (some ⟨b, off * s, none⟩) n cap') := by
  obtain ⟨b', s', us, e1, e2, e3, e4, e5⟩ := hB k es hk
  rw [hρ] at e1
  injection e1 with e1; injection e1 with e6 e7
  subst e6; subst e7
  refine sub_rows (fun b o x => .inl x) (fun j u hj => ⟨e5 j u hj, .inr ⟨k, es, s, hk, hρ, ?_⟩⟩) e4 e2 h1 h2 h3 h4
  have := (List.getElem?_eq_some_iff.1 hj).1
  rwa [← e4.1, length_flatten es e2] at this
mutual
theorem RepA.freeze {B : Nat → Option (List (List C))} (hB : FrozenIn env w B) : ∀ {x : A} {v : Value}, RepA env toks w x v → RepA (env.freeze B) toks w (x.freeze B) v
  | .c x, v, h => RepC.mono (fun _ _ x => .inl x) (fun _ _ _ => rfl) h
  | .nil, v, h => h
  | .own k es, v, h => ⟨RepC.mono (fun _ _ x => .inl x) (fun _ _ _ => rfl) h.1, h.2⟩
  | .mapr k, v, h => by
    obtain ⟨b, s, h1, h2⟩ := h
    simp only [A.freeze]
    split
    · subst h2; rfl
    · rename_i hk
      exact ⟨b, s, by simp only [Env.freeze, hk]; exact h1, h2⟩
  | .ref k i off, v, h => by
    obtain ⟨b, s, h1, h2⟩ := h
    simp only [A.freeze]
    split
    · rename_i es hk
      split
      · rename_i hi
        obtain ⟨b', s', us, e1, e2, e3, e4, e5⟩ := hB k es hk
        rw [h1] at e1
        injection e1 with e1; injection e1 with e6 e7
        subst e6; subst e7
        have hr := hB.rows hk h1 (off := 0) (n := es.length) (cap := es.length) (cap' := es.length) (by omega) (Nat.le_refl _) (Nat.le_refl _) e3
        simp only [List.drop_zero, List.take_length, Nat.zero_mul, Nat.zero_add, List.drop_length, List.take_nil] at hr
        exact ⟨b, 0, es.length, es.length, s, by rw [h2, Nat.zero_add], hi, by simpa using e2, hr⟩
      · subst h2; rfl
    · rename_i hk
      exact ⟨b, s, by simp only [Env.freeze, hk]; exact h1, h2⟩
  | .arr k off n cap, v, h => by
    obtain ⟨b, s, c, h1, h2, h3, h4⟩ := h
    simp only [A.freeze]
    split
    · rename_i es hk
      split
      · rename_i hi
        subst h2
        exact hB.rows hk h1 hi.1 hi.2 h3 h4
      · subst h2; rfl
    · rename_i hk
      exact ⟨b, s, c, by simp only [Env.freeze, hk]; exact h1, h2, h3, h4⟩
  | .elem es sp i off, v, h => by
    obtain ⟨b, o, n, cap, s, h1, h2, h3, h4⟩ := h
    exact ⟨b, o, n, cap, s, h1, h2, h3, RepC.mono (fun _ _ x => .inl x) (fun _ _ _ => rfl) h4⟩
  | .clo f fs cs, v, h => by
    obtain ⟨us, vs, h1, h2, h3⟩ := h
    exact ⟨us, vs, h1, RepAs.freeze hB h2, RepAs.freeze hB h3⟩
  | .yld l ta ks xs, v, h => by
    obtain ⟨h1, h2⟩ := h
    exact ⟨h1, RepAs.freeze hB h2⟩
  | .ifc t x, v, h => by
    obtain ⟨u, h1, h2⟩ := h
    exact ⟨u, h1, RepA.freeze hB h2⟩
  | .lost, v, h => h
theorem RepAs.freeze {B : Nat → Option (List (List C))} (hB : FrozenIn env w B) : ∀ {xs : List A} {vs : List Value}, RepAs env toks w xs vs → RepAs (env.freeze B) toks w (freezeL B xs) vs
  | [], [], _ => trivial
  | _ :: _, _ :: _, h => ⟨RepA.freeze hB h.1, RepAs.freeze hB h.2⟩
end
theorem RepX.freeze {B : Nat → Option (List (List C))} (hB : FrozenIn env w B) {x : X} {v : Value} (h : RepX env toks w x v) : RepX (env.freeze B) toks w (x.freeze B) v := by
  cases x with
  | one y => exact RepA.freeze hB h
  | agg cs =>
    obtain ⟨us, e, hu⟩ := h
    refine ⟨us, e, ?_⟩
    rw [freezeL_map]
    exact All2.map_left (hu.imp fun _ _ _ => RepA.freeze hB)
theorem RepT.freeze {B : Nat → Option (List (List C))} (hB : FrozenIn env w B) {t : T} {v : Value} (h : RepT env toks w t v) : RepT (env.freeze B) toks w (t.freeze B) v := by
  cases t with
  | lost => trivial
  | k g r =>
    cases g with
    | false => exact h
    | true =>
      simp only [RepT, if_true, T.freeze] at h ⊢
      cases r with
      | x y => exact RepX.freeze hB h
      | tup xs =>
        obtain ⟨vs, e, hv⟩ := h
        exact ⟨vs, e, All2.map_left (hv.imp fun _ _ _ => RepX.freeze hB)⟩
theorem freeze_keyed {B : Nat → Option (List (List C))} {r : List A} (h : ∃ y t, r = .c (.v y) :: t) : ∃ y t, freezeL B r = .c (.v y) :: t := by
  obtain ⟨y, t, rfl⟩ := h; exact ⟨y, freezeL B t, rfl⟩
theorem BoxIn.mapped {x : Box} {b : Nat} {us : List Value} (h : BoxIn w x b us) {f : List A → List A} (hf : ∀ r, (∃ y t, r = .c (.v y) :: t) → ∃ y t, f r = .c (.v y) :: t) : BoxIn w { x with rows := x.rows.map f } b us := by
  obtain ⟨ob, h1, h2⟩ := h
  refine ⟨ob, h1, ?_⟩
  unfold Holds at h2 ⊢
  simp only
  split at h2
  · exact h2
  · refine ⟨by simpa using h2.1, fun r hr => ?_⟩
    obtain ⟨r', hr', rfl⟩ := List.mem_map.1 hr
    exact hf _ (h2.2 r' hr')
theorem Sim.freeze (h : Sim w0 V0 N env σ a w) (ks : List Nat) : Sim w0 V0 N (env.freeze (shutB σ ks)) (σ.freeze ks) a w := by
  have hBs : ∀ k es, shutB σ ks k = some es → ownKey k ∧ ∃ b, σ.objs k = some b ∧ b.mp = none ∧ b.rows.length ≤ maxLen ∧ closeLL b.rows = some es := fun k es hk => by
    unfold shutB at hk
    split at hk
    · rename_i hc
      cases hb : σ.objs k with
      | none => rw [hb] at hk; cases hk
      | some b =>
        rw [hb] at hk
        simp only [Option.bind_some] at hk
        split at hk
        · rename_i hc2
          exact ⟨hc.2, b, rfl, hc2.1, hc2.2, hk⟩
        · cases hk
    · cases hk
  have hB : FrozenIn env w (shutB σ ks) := fun k es hk => by
    obtain ⟨ho, b, hb, hm, hl, hcl⟩ := hBs k es hk
    obtain ⟨bl, us, h1, h2, h3, h4, h5, h6⟩ := h.objs k b hb
    obtain ⟨ex, h3⟩ := h3.cells hm
    obtain ⟨g1, g2⟩ := closeLL_rep hcl h4
    refine ⟨bl, b.size, us, h1, fun e he => ?_, by rw [closeLL_length hcl]; exact hl, g1, fun j u hj => ?_⟩
    · have : e.length ∈ es.map List.length := List.mem_map.2 ⟨e, he, rfl⟩
      rw [g2] at this
      obtain ⟨r, hr, e2⟩ := List.mem_map.1 this
      rw [← e2]; exact h5 r hr
    · rw [cell_of_row w bl j _ _ _ h3]
      have := (List.getElem?_eq_some_iff.1 hj).1
      simp only [List.getElem?_toArray]
      rw [List.getElem?_append_left this]; exact hj
  have hρ : ∀ k p, (env.freeze (shutB σ ks)).ρ k = some p → env.ρ k = some p ∧ shutB σ ks k = none := fun k p hk => by
    simp only [Env.freeze] at hk
    split at hk
    · cases hk
    · rename_i hn
      exact ⟨hk, by simpa using hn⟩
  have hfz : ∀ b o, (env.freeze (shutB σ ks)).V b o → env.V b o ∨ ∃ k es s, shutB σ ks k = some es ∧ env.ρ k = some (b, s) := fun b o hv => hv.imp id fun ⟨k, es, s, h1, h2, _⟩ => ⟨k, es, s, h1, h2⟩
  have hnewρ : ∀ k es b s, shutB σ ks k = some es → env.ρ k = some (b, s) → New w0 V0 b := fun k es b s hk hr => by
    obtain ⟨ho, bx, hb, _⟩ := hBs k es hk
    obtain ⟨bl, us, h1, h2, _⟩ := h.objs k bx hb
    rw [h1] at hr; injection hr with hr; injection hr with hr _; subst hr
    exact h2
  exact {
    below := h.below
    defers := h.defers
    size := h.size
    nn := h.nn
    vlt := fun b o hv => (hfz b o hv).elim (h.vlt b o) fun ⟨k, es, s, _, h2⟩ => h.ρlt k b s h2
    vnew := fun b o hv => (hfz b o hv).elim (h.vnew b o) fun ⟨k, es, s, h1, h2⟩ => .inr (hnewρ k es b s h1 h2)
    vold := fun b o hv => .inl (h.vold b o hv)
    v0 := h.v0
    vcell := h.vcell
    tmps := fun t => (h.tmps t).freeze hB
    objs := fun k x hx => by
      simp only [S.freeze] at hx
      split at hx
      · cases hx
      · rename_i hn
        have hn : shutB σ ks k = none := by simpa using hn
        cases hb : σ.objs k with
        | none => rw [hb] at hx; cases hx
        | some y =>
          rw [hb] at hx
          simp only [Option.map_some, Option.some.injEq] at hx
          subst hx
          obtain ⟨b, us, h1, h2, h3, h4, h5, h6⟩ := h.objs k y hb
          refine ⟨b, us, by simp only [Env.freeze, hn]; exact h1, h2, h3.mapped fun _ => freeze_keyed, ?_, fun r hr => ?_, fun o hv => ?_⟩
          · have : (y.rows.map (freezeL (shutB σ ks))).flatten = y.rows.flatten.map (A.freeze (shutB σ ks)) := by
              rw [List.map_flatten]; congr 1; exact List.map_congr_left fun r _ => freezeL_map _ r
            rw [this]
            exact All2.map_left (h4.imp fun _ _ _ => RepA.freeze hB)
          · obtain ⟨r', hr', rfl⟩ := List.mem_map.1 hr
            rw [freezeL_map, List.length_map]; exact h5 r' hr'
          · rcases hfz b o hv with hv | ⟨k', es, s, q1, q2⟩
            · exact h6 o hv
            · have := h.inj k k' b _ _ h1 q2
              subst this
              rw [hn] at q1; cases q1
    dom := fun k ho hk => by
      simp only [S.freeze, Env.freeze] at hk ⊢
      split
      · rfl
      · rename_i hn
        rw [if_neg hn] at hk
        cases hb : σ.objs k with
        | none => exact h.dom k ho hb
        | some y => rw [hb] at hk; cases hk
    ρlt := fun k b s hk => h.ρlt k b s (hρ k _ hk).1
    inj := fun k k' b s s' hk hk' => h.inj k k' b s s' (hρ k _ hk).1 (hρ k' _ hk').1
    toks := fun k t ht => by
      obtain ⟨v, xs, h1, h2, h3⟩ := h.toks k t ht
      refine ⟨v, xs, h1, h2, fun b hb => ⟨(h3 b hb).1, fun o ho hv => ?_, fun k' s hk => (h3 b hb).2.2 k' s (hρ k' _ hk).1⟩⟩
      rcases hfz b o hv with hv | ⟨k', es, s, q1, q2⟩
      · exact (h3 b hb).2.1 o ho hv
      · exact (h3 b hb).2.2 k' s q2
    tdom := h.tdom
    τlt := h.τlt
    tinj := h.tinj
    sep := fun k k' v b s hk hv hr => h.sep k k' v b s hk hv (hρ k' _ hr).1
    ext := by
      obtain ⟨F, f1, f2⟩ := h.ext
      refine ⟨F, σ.ext.mono (w := w) (fun _ _ x => .inl x) (fun _ _ _ => rfl) (fun _ _ => rfl) f1, fun b hb => ?_⟩
      obtain ⟨g1, g2, g3, g4, g5⟩ := f2 b hb
      refine ⟨g1, g2, fun o hv => ?_, fun k s hk => g4 k s (hρ k _ hk).1, g5⟩
      rcases hfz b o hv with hv | ⟨k', es, s, q1, q2⟩
      · exact g3 o hv
      · exact g4 k' s q2
    own := h.own
    keepO := fun k hk => by
      have : shutB σ ks k = none := by
        cases hb : shutB σ ks k with
        | none => rfl
        | some es => exact absurd (hBs k es hb).1 hk
      simp only [Env.freeze, this]
      exact h.keepO k hk
    keepN := h.keepN
    keepT := h.keepT }
end
end Go.Fx

namespace Go.Fx
open Go.RowKit
section
variable {P : Program} {G : World → Prop} {w0 : World} {V0 : Base} {N : Nat} {env env' : Env} {σ σ' : S} {a : Act} {w w' : World} {o : Oper} {toks toks' : Nat → Option Tok} {p q : Nat → Prop}
structure ReOn (p q : Nat → Prop) (env env' : Env) (toks toks' : Nat → Option Tok) (w w' : World) : Prop where
  V : ∀ b o, env.V b o → env'.V b o
  cell : ∀ b o, env.V b o → w'.cell? ⟨b, o, none⟩ = w.cell? ⟨b, o, none⟩
  ρ : ∀ k b, p k → env.ρ k = some b → env'.ρ k = some b
  tok : ∀ k t, q k → toks k = some t → ∃ t', toks' k = some t' ∧ t'.size = t.size ∧ t.n ≤ t'.n ∧ (t'.n = t.n → env'.τ k = env.τ k)
mutual
theorem RepA.re (h : ReOn p q env env' toks toks' w w') : ∀ {a : A} {v : Value}, a.only p q → RepA env toks w a v → RepA env' toks' w' a v
  | .c x, v, _, hr => RepC.mono h.V h.cell hr
  | .own k es, v, ho, hr => by
    obtain ⟨h1, t, ht, hl, hs, he⟩ := hr
    obtain ⟨t', ht', hsz, hn, hv⟩ := h.tok k t ho ht
    refine ⟨h1.mono h.V h.cell, t', ht', by omega, fun e m => by rw [hsz]; exact hs e m, fun e => ?_⟩
    have : t'.n = t.n := by omega
    rw [hv this]; exact he (by omega)
  | .nil, v, _, hr => hr
  | .ref k i off, v, ho, hr => by obtain ⟨b, s, hb, hv⟩ := hr; exact ⟨b, s, h.ρ k _ ho hb, hv⟩
  | .arr k off n cap, v, ho, hr => by obtain ⟨b, s, c, hb, hv⟩ := hr; exact ⟨b, s, c, h.ρ k _ ho hb, hv⟩
  | .mapr k, v, ho, hr => by obtain ⟨b, s, hb, hv⟩ := hr; exact ⟨b, s, h.ρ k _ ho hb, hv⟩
  | .elem es sp i off, v, _, hr => by
    obtain ⟨b, o, n, cap, s, h1, h2, h3, h4⟩ := hr
    exact ⟨b, o, n, cap, s, h1, h2, h3, h4.mono h.V h.cell⟩
  | .clo f fs cs, v, ho, hr => by
    obtain ⟨us, vs, h1, h2, h3⟩ := hr
    exact ⟨us, vs, h1, RepAs.re h ho.1 h2, RepAs.re h ho.2 h3⟩
  | .yld l ta ks xs, v, ho, hr => by
    obtain ⟨h1, h2⟩ := hr
    exact ⟨h1, RepAs.re h ho h2⟩
  | .ifc t a, v, ho, hr => by
    obtain ⟨u, h1, h2⟩ := hr
    exact ⟨u, h1, RepA.re (a := a) h ho h2⟩
  | .lost, v, _, hr => hr
theorem RepAs.re (h : ReOn p q env env' toks toks' w w') : ∀ {xs : List A} {vs : List Value}, onlyL p q xs → RepAs env toks w xs vs → RepAs env' toks' w' xs vs
  | [], [], _, _ => trivial
  | _ :: _, _ :: _, ho, hr => ⟨RepA.re h ho.1 hr.1, RepAs.re h ho.2 hr.2⟩
end
theorem onlyL_iff : ∀ {l : List A}, onlyL p q l ↔ ∀ x ∈ l, x.only p q
  | [] => by simp [onlyL]
  | x :: l => by simp only [onlyL, List.mem_cons, forall_eq_or_imp, onlyL_iff (l := l)]
mutual
theorem A.only_mono {p q p' q' : Nat → Prop} (hp : ∀ k, p k → p' k) (hq : ∀ k, q k → q' k) : ∀ {a : A}, a.only p q → a.only p' q'
  | .c _, _ => trivial
  | .nil, _ => trivial
  | .own k _, h => hq k h
  | .ref k _ _, h => hp k h
  | .arr k _ _ _, h => hp k h
  | .mapr k, h => hp k h
  | .elem _ _ _ _, _ => trivial
  | .clo _ _ _, h => ⟨onlyL_mono hp hq h.1, onlyL_mono hp hq h.2⟩
  | .yld _ _ _ xs, h => onlyL_mono hp hq (l := xs) h
  | .ifc _ a, h => A.only_mono (a := a) hp hq h
  | .lost, _ => trivial
theorem onlyL_mono {p q p' q' : Nat → Prop} (hp : ∀ k, p k → p' k) (hq : ∀ k, q k → q' k) : ∀ {l : List A}, onlyL p q l → onlyL p' q' l
  | [], _ => trivial
  | _ :: _, h => ⟨A.only_mono hp hq h.1, onlyL_mono hp hq h.2⟩
end
theorem X.only_mono {p q p' q' : Nat → Prop} (hp : ∀ k, p k → p' k) (hq : ∀ k, q k → q' k) {x : X} (h : x.only p q) : x.only p' q' := by
  cases x with
  | one a => exact A.only_mono hp hq h
  | agg cs => exact onlyL_mono hp hq h
theorem RepX.re (h : ReOn p q env env' toks toks' w w') {x : X} {v : Value} (ho : x.only p q) (hr : RepX env toks w x v) : RepX env' toks' w' x v := by
  cases x with
  | one a => exact RepA.re h ho hr
  | agg cs => obtain ⟨us, e, hu⟩ := hr; exact ⟨us, e, hu.imp fun x _ hx => RepA.re h (onlyL_iff.1 ho x hx)⟩
theorem RepR.re (h : ReOn p q env env' toks toks' w w') {r : R} {v : Value} (ho : r.only p q) (hr : RepR env toks w r v) : RepR env' toks' w' r v := by
  cases r with
  | x x => exact RepX.re h ho hr
  | tup xs => obtain ⟨us, e, hu⟩ := hr; exact ⟨us, e, hu.imp fun x _ hx => RepX.re h (ho x hx)⟩
theorem ownsRow_of_block {base size n : Nat} {e : TypeId} {v : Value} {xs : List Value} (h : w.ownsRow base e size v n xs) (hb : ∀ b, v.ownBlock = some b → w'.heap[b]? = w.heap[b]?) : w'.ownsRow base e size v n xs := by
  obtain ⟨h1, h2⟩ := h
  refine ⟨h1, h2.imp id ?_⟩
  rintro ⟨g, cap, cur, hv, hbg, hg, hrest⟩
  exact ⟨g, cap, cur, hv, hbg, (hb g (by rw [hv]; rfl)).trans hg, hrest⟩
end
end Go.Fx

namespace Go.Fx
open Go.RowKit
section
variable {P : Program} {w0 : World} {V0 : Base} {N : Nat} {env : Env} {σ σ' : S} {a : Act} {w : World} {o : Oper} {toks : Nat → Option Tok}
theorem RepT.tt {r : R} {v : Value} (h : RepT env toks w (.k true r) v) : RepR env toks w r v := by simpa [RepT] using h
theorem RepT.mk {r : R} {v : Value} (h : RepR env toks w r v) : RepT env toks w (.k true r) v := by simpa [RepT] using h
end
end Go.Fx

namespace Go.Fx
open Go.RowKit
section
variable {P : Program} {w0 : World} {V0 : Base} {N : Nat} {env : Env} {σ σ' : S} {a : Act} {w : World} {o : Oper} {toks : Nat → Option Tok}
end
end Go.Fx

namespace Go.Fx
open Go.RowKit
section
variable {P : Program} {w0 : World} {V0 : Base} {N : Nat} {env : Env} {σ σ' : S} {a : Act} {w : World} {o : Oper} {toks : Nat → Option Tok}
end
end Go.Fx

namespace Go.Fx
open Go.RowKit
section
variable {P : Program} {G : World → Prop} {w0 : World} {V0 : Base} {N : Nat} {env : Env} {σ σ' : S} {a : Act} {w : World} {o : Oper} {toks : Nat → Option Tok}
end
end Go.Fx

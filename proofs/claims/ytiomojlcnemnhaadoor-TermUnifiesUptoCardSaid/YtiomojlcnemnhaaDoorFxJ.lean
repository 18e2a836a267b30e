/- Fx, part J: struct literals, comparisons of structs, slice literals, bytes of a text; then every operation. -/
import Derived.Test.YtiomojlcnemnhaaDoorFxI
import Derived.Laws.Tables
namespace Go.Fx
open Go.RowKit

section
variable {P : Program} {w0 : World} {V0 : Base} {N : Nat} {env : Env} {σ σ' : S} {a : Act} {w : World} {o : Oper} {toks : Nat → Option Tok}

theorem cells_one {v : Value} (h : v.oneCell' = true) : v.cells = #[v] := by cases v <;> first | rfl | cases h

theorem RepX.cells {x : X} {v : Value} (h : RepX env toks w x v) : All2 (RepA env toks w) x.cells v.cells.toList := by
  cases x with
  | one y => rw [cells_one (RepA.oneCell h)]; exact All2.cons h All2.nil
  | agg cs => obtain ⟨us, e, hu⟩ := h; subst e; simpa [Value.cells, X.cells] using hu

theorem RepR.cells {r : R} {l : List A} {v : Value} (h : RepR env toks w r v) (hl : r.cells = some l) : All2 (RepA env toks w) l v.cells.toList := by
  cases r with
  | x y => simp only [R.cells, Option.some.injEq] at hl; subst hl; exact RepX.cells h
  | tup xs => simp [R.cells] at hl

theorem foldl_over : ∀ (vs : List Value) (k off : Nat) (cs : Array Value), off + k + vs.length ≤ cs.size →
    ((vs.zipIdx k).foldl (fun cs (x : Value × Nat) => cs.setIfInBounds (off + x.2) x.1) cs).toList = over cs.toList (off + k) vs
  | [], k, off, cs, _ => by simp [over]
  | v :: vs, k, off, cs, h => by
    simp only [List.zipIdx_cons, List.foldl_cons]
    rw [foldl_over vs (k + 1) off _ (by simp at h ⊢; omega)]
    simp only [Array.toList_setIfInBounds]
    rw [show off + (k + 1) = (off + k) + 1 by omega, over_cons (by simp at h ⊢; omega)]

theorem All2.splice {p : A → Value → Prop} {cs : List A} {us : List Value} {off : Nat} {l : List A} {vs : List Value} (h : All2 p cs us) (hl : All2 p l vs) : All2 p (splice cs off l) (over us off vs) := by
  unfold Fx.splice over
  rw [hl.1]
  exact ((h.take off).append hl).append (h.drop _)

theorem cmpParts_fill {places : List (Nat × Nat)} (hs : Sim w0 V0 N env σ a w) : ∀ (parts : List (Nat × Operand)) (ps : List (Nat × Nat × D)) (z cs : List A) (us : Array Value),
    cmpParts places parts = some ps → (ps.all fun p => (p.2.2.val σ).g) = true → fillO z (ps.map fun p => (p.1, p.2.1, (p.2.2.val σ).r)) = some cs → All2 (RepA env σ.toks w) z us.toList →
    ∃ us', Instr.fill (places.toArray[·]?) us (parts.map fun p => (p.1, a.eval p.2)) = some us' ∧ All2 (RepA env σ.toks w) cs us'.toList
  | [], ps, z, cs, us, hp, _, hf, hz => by
    simp [cmpParts] at hp; subst hp
    simp [fillO] at hf; subst hf
    exact ⟨us, rfl, hz⟩
  | (j, x) :: parts, ps, z, cs, us, hp, hg, hf, hz => by
    unfold cmpParts at hp
    split at hp
    · rename_i p d ps' h1 h2 h3
      injection hp with hp; subst hp
      simp only [List.all_cons, Bool.and_eq_true] at hg
      simp only [List.map_cons, fillO] at hf
      split at hf
      · rename_i l hl
        split at hf
        · rename_i hc
          have hx := (hs.opr h2 hg.1).cells hl
          have hsz : (a.eval x).cells.size = p.2 := by rw [← hc.1, hx.1]; simp
          have hoff : p.1 + p.2 ≤ us.size := by have := hz.1; simp at this; omega
          have hov : ((a.eval x).cells.zipIdx.foldl (fun cs (x : Value × Nat) => cs.setIfInBounds (p.1 + x.2) x.1) us).toList = over us.toList p.1 (a.eval x).cells.toList := by
            have := foldl_over (a.eval x).cells.toList 0 p.1 us (by simp [hsz]; omega)
            rw [← Array.foldl_toList, Array.toList_zipIdx]
            simpa using this
          obtain ⟨us', hf', hr'⟩ := cmpParts_fill hs parts ps' _ cs _ h3 hg.2 hf (by rw [hov]; exact hz.splice hx)
          refine ⟨us', ?_, hr'⟩
          simp only [List.map_cons, Instr.fill]
          have hpl : places.toArray[j]? = some (p.1, p.2) := by simpa using h1
          simp only [hpl]
          rw [if_neg (by rw [hsz]; simp; omega)]
          exact hf'
        · cases hf
      · cases hf
    · cases hp

theorem zeroIn_rep {t : TypeId} {z : List A} (h : zeroIn P t = some z) : ∃ i v, P.info? t = some i ∧ i.zero = some v ∧ All2 (RepA env toks w) z v.cells.toList := by
  unfold zeroIn at h
  split at h
  · rename_i i hi
    split at h
    · rename_i v hv
      exact ⟨i, v, hi, hv, ofCells_rep h⟩
    · cases h
  · cases h

theorem build_sound (t : TypeId) {fs : Array Field} {places : List (Nat × Nat)} {z cs : List A} {parts : Array (Nat × Operand)} {ps : List (Nat × Nat × D)} (hs : Sim w0 V0 N env σ a w) (ht : P.underlying t = some (.struct fs)) (hz : zeroIn P t = some z)
    (hpl : placesIn P fs.toList = some places) (hp : cmpParts places parts.toList = some ps) (hg : (ps.all fun p => (p.2.2.val σ).g) = true) (hf : fillO z (ps.map fun p => (p.1, p.2.1, (p.2.2.val σ).r)) = some cs) :
    ∃ v, (Instr.build t (parts.map fun p => (p.1, a.eval p.2))).run P w = .ok v w ∧ RepR env σ.toks w (.x (.agg cs)) v := by
  obtain ⟨i, zv, hi, hzv, hzr⟩ := zeroIn_rep (env := env) (toks := σ.toks) (w := w) hz
  obtain ⟨us', hfill, hr⟩ := cmpParts_fill hs parts.toList ps z cs zv.cells hp hg hf hzr
  refine ⟨.agg us', run_build w t _ us' ?_, us'.toList, by simp, hr⟩
  simp only [Program.built, hi, ht, hzv]
  unfold placesIn at hpl
  simp only [hpl]
  simpa using hfill

/- Comparisons of structs. -/

def eqU : Kd → Value → Value → Option Bool
  | .i k, .int k1 a, .int k2 b => if k1 = k ∧ k2 = k then some (a == b) else none
  | .s, .string a, .string b => some (a == b)
  | .b, .bool a, .bool b => some (a == b)
  | _, _, _ => none
def eqUs : List Kd → List Value → List Value → Option Bool
  | [], [], [] => some true
  | k :: ks, x :: xs, y :: ys =>
    match eqU k x y, eqUs ks xs ys with
    | some a, some b => some (a && b)
    | _, _ => none
  | _, _, _ => none

theorem eqV_rep {k : Kd} {x y : A} {u v : Value} {b : Bool} (h : eqV k x y = some b) (hx : RepA env toks w x u) (hy : RepA env toks w y v) : eqU k u v = some b := by
  unfold eqV at h
  split at h
  · cases hx; cases hy; exact h
  · cases hx; cases hy; exact h
  · cases hx; cases hy; exact h
  · cases h

theorem eqRows_rep : ∀ {ks : List Kd} {xs ys : List A} {us vs : List Value} {b : Bool}, eqRows ks xs ys = some b → All2 (RepA env toks w) xs us → All2 (RepA env toks w) ys vs → eqUs ks us vs = some b
  | [], [], [], us, vs, b, h, hx, hy => by
    rw [hx.nil_left, hy.nil_left]; exact h
  | k :: ks, x :: xs, y :: ys, us, vs, b, h, hx, hy => by
    obtain ⟨u, us', e, h1, h2⟩ := hx.head
    obtain ⟨v, vs', e', h3, h4⟩ := hy.head
    subst e; subst e'
    unfold eqRows at h
    split at h
    · rename_i a b' ha hb
      simp [eqUs, eqV_rep ha h1 h3, eqRows_rep hb h2 h4, ← h]
    · cases h
  | [], [], _ :: _, _, _, _, h, _, _ => by simp [eqRows] at h
  | [], _ :: _, _, _, _, _, h, _, _ => by simp [eqRows] at h
  | _ :: _, [], _, _, _, _, h, _, _ => by simp [eqRows] at h
  | _ :: _, _ :: _, [], _, _, _, h, _, _ => by simp [eqRows] at h

theorem eqUs_len : ∀ {ks : List Kd} {us vs : List Value} {b : Bool}, eqUs ks us vs = some b → us.length = ks.length ∧ vs.length = ks.length
  | [], [], [], _, _ => ⟨rfl, rfl⟩
  | k :: ks, x :: xs, y :: ys, b, h => by
    simp only [eqUs] at h
    split at h
    · rename_i p q hp hq
      obtain ⟨h1, h2⟩ := eqUs_len hq
      simp [h1, h2]
    · cases h
  | [], [], _ :: _, _, h => by simp [eqUs] at h
  | [], _ :: _, _, _, h => by simp [eqUs] at h
  | _ :: _, [], _, _, h => by simp [eqUs] at h
  | _ :: _, _ :: _, [], _, h => by simp [eqUs] at h

theorem eqUs_append : ∀ (ks ks' : List Kd) (us vs : List Value) (b : Bool), eqUs (ks ++ ks') us vs = some b →
    ∃ p q, eqUs ks (us.take ks.length) (vs.take ks.length) = some p ∧ eqUs ks' (us.drop ks.length) (vs.drop ks.length) = some q ∧ b = (p && q)
  | [], ks', us, vs, b, h => ⟨true, b, by simp [eqUs], h, by simp⟩
  | k :: ks, ks', x :: us, y :: vs, b, h => by
    simp only [List.cons_append, eqUs] at h
    split at h
    · rename_i p q hp hq
      obtain ⟨p', q', h1, h2, h3⟩ := eqUs_append ks ks' us vs q hq
      injection h with h
      exact ⟨p && p', q', by simp [eqUs, hp, h1], by simpa using h2, by rw [← h, h3, Bool.and_assoc]⟩
    · cases h
  | _ :: _, _, [], _, _, h => by simp [eqUs] at h
  | _ :: _, _, _ :: _, [], _, h => by simp [eqUs] at h

theorem one_of_len {us : List Value} (h : us.length = 1) : ∃ u, us = [u] := by
  match us, h with
  | [u], _ => exact ⟨u, rfl⟩

/-- The value of a type whose cells are us. -/
def valOf (P : Program) (t : TypeId) (us : List Value) : Value :=
  match P.underlying t with
  | some (.struct _) => .agg us.toArray
  | _ => us.getD 0 undef

theorem part_flat {t : TypeId} {us : List Value} {off n : Nat} {i : TypeInfo} (hi : P.info? t = some i) (hs : i.size = n) (hn : off + n ≤ us.length ∨ n = 0)
    (h1 : (∃ fs, P.underlying t = some (.struct fs)) ∨ (n = 1 ∧ ∃ d, P.underlying t = some d ∧ (∀ fs, d ≠ .struct fs) ∧ ∀ m e, d ≠ .array m e)) :
    (part t us.toArray off).run P w = .ok (valOf P t ((us.drop off).take n)) w := by
  rcases h1 with ⟨fs, hu⟩ | ⟨h1, d, hu, hd, hd2⟩
  · simp [part, isAgg, run_underlying hu, sizeOf, typeInfo, hi, hs, valOf, hu]
  · subst h1
    have hv : valOf P t ((us.drop off).take 1) = us[off]'(by omega) := by
      have : valOf P t ((us.drop off).take 1) = ((us.drop off).take 1).getD 0 undef := by
        unfold valOf
        rw [hu]
        cases d <;> first | rfl | exact absurd rfl (hd _)
      rw [this, List.getD_eq_getElem?_getD, List.getElem?_take, if_pos (by omega), List.getElem?_drop, List.getElem?_eq_getElem (by omega)]
      simp
    rw [hv]
    have hlt : off < us.length := by omega
    cases d <;> first
      | exact absurd rfl (hd _)
      | exact absurd rfl (hd2 _ _)
      | simp [part, isAgg, run_underlying hu, hlt]

theorem flat_kind {d : Nat} {t : TypeId} {ks : List Kd} (h : flatTy P d t = some ks) : (∃ fs, P.underlying t = some (.struct fs)) ∨ (ks.length = 1 ∧ ∃ x, P.underlying t = some x ∧ (∀ fs, x ≠ .struct fs) ∧ ∀ m e, x ≠ .array m e) := by
  cases d with
  | zero => simp [flatTy] at h
  | succ d =>
    unfold flatTy at h
    split at h
    · rename_i k hk; injection h with h; subst h; exact .inr ⟨rfl, _, hk, (fun _ e => by cases e), (fun _ _ e => by cases e)⟩
    · rename_i hk; injection h with h; subst h; exact .inr ⟨rfl, _, hk, (fun _ e => by cases e), (fun _ _ e => by cases e)⟩
    · rename_i hk; injection h with h; subst h; exact .inr ⟨rfl, _, hk, (fun _ e => by cases e), (fun _ _ e => by cases e)⟩
    · rename_i fs hk; exact .inl ⟨fs, hk⟩
    · cases h

theorem flatFs_eq {D d : Nat} (ih : ∀ (t : TypeId) (ks : List Kd) (us vs : List Value) (b : Bool), flatTy P d t = some ks → eqUs ks us vs = some b → (Op.equalIn D t (valOf P t us) (valOf P t vs)).run P w = .ok b w)
    (US VS : List Value) : ∀ (fs : List Field) (off : Nat) (ks : List Kd) (b : Bool), flatFs P (flatTy P d) fs off = some ks → eqUs ks (US.drop off) (VS.drop off) = some b →
      (Op.eqFields D US.toArray VS.toArray fs).run P w = .ok b w
  | [], off, ks, b, h, he => by
    simp [flatFs] at h; subst h
    have hb : b = true := by
      cases hu : US.drop off with
      | nil =>
        cases hv : VS.drop off with
        | nil => rw [hu, hv] at he; simp [eqUs] at he; exact he
        | cons => rw [hu, hv] at he; simp [eqUs] at he
      | cons => rw [hu] at he; simp [eqUs] at he
    subst hb
    rfl
  | f :: fs, off, ks, b, h, he => by
    unfold flatFs at h
    split at h
    · rename_i i ks1 rest hi hk hr
      rw [hi] at hr
      split at h
      · rename_i hc
        injection h with h; subst h
        obtain ⟨hname, hoff, hlen⟩ := hc
        obtain ⟨p, q, h1, h2, h3⟩ := eqUs_append ks1 rest _ _ b he
        have hUl := (eqUs_len h1).1
        have hVl := (eqUs_len h1).2
        rw [List.length_take, List.length_drop, hlen] at hUl hVl
        have hk2 := flat_kind hk
        rw [hlen] at hk2 h1 h2
        have e1 := ih f.type ks1 _ _ p hk h1
        have pu := part_flat (w := w) (us := US) (off := off) hi rfl (by omega) hk2
        have pv := part_flat (w := w) (us := VS) (off := off) hi rfl (by omega) hk2
        rw [List.drop_drop, List.drop_drop] at h2
        have e2 := flatFs_eq ih US VS fs (off + i.size) rest q hr h2
        subst h3
        simp only [Op.eqFields]
        rw [if_pos hname, hoff]
        simp only [Sem.run_bind, pu, pv, e1, Result.andThen_ok]
        cases p
        · rfl
        · simpa using e2
      · cases h
    · cases h

theorem flat_eq : ∀ (d : Nat) (t : TypeId) (D : Nat) (ks : List Kd) (us vs : List Value) (b : Bool), flatTy P d t = some ks → d ≤ D → eqUs ks us vs = some b →
    (Op.equalIn D t (valOf P t us) (valOf P t vs)).run P w = .ok b w
  | 0, _, _, _, _, _, _, h, _, _ => by simp [flatTy] at h
  | d + 1, t, D, ks, us, vs, b, h, hD, he => by
    obtain ⟨D, rfl⟩ : ∃ D', D = D' + 1 := ⟨D - 1, by omega⟩
    unfold flatTy at h
    have scalar : ∀ k, ks = [k] → ∃ u v, us = [u] ∧ vs = [v] ∧ eqU k u v = some b := fun k h1 => by
      subst h1
      obtain ⟨u, rfl⟩ := one_of_len (eqUs_len he).1
      obtain ⟨v, rfl⟩ := one_of_len (eqUs_len he).2
      refine ⟨u, v, rfl, rfl, ?_⟩
      simp only [eqUs] at he
      split at he
      · rename_i p q hp hq
        injection hq with hq; injection he with he
        rw [← hq, Bool.and_true] at he
        rw [hp, he]
      · cases he
    split at h
    · rename_i k hk
      injection h with h
      obtain ⟨u, v, rfl, rfl, e⟩ := scalar _ h.symm
      have hval : ∀ u : Value, valOf P t [u] = u := fun u => by simp [valOf, hk]
      rw [hval, hval]
      unfold eqU at e
      split at e
      · rename_i k3 k1 a k2 b' hkk
        injection hkk with hkk
        split at e
        · rename_i hc
          obtain ⟨rfl, rfl⟩ := hc
          injection e with e; subst e
          exact run_equalIn_int w D t _ k _ _ hk
        · cases e
      · rename_i hkk; cases hkk
      · rename_i hkk; cases hkk
      · cases e
    · rename_i hk
      injection h with h
      obtain ⟨u, v, rfl, rfl, e⟩ := scalar _ h.symm
      have hval : ∀ u : Value, valOf P t [u] = u := fun u => by simp [valOf, hk]
      rw [hval, hval]
      unfold eqU at e
      split at e
      · rename_i hkk; cases hkk
      · rename_i hkk; cases hkk
      · injection e with e; subst e
        exact run_equalIn_bool' w D t _ _ hk
      · cases e
    · rename_i hk
      injection h with h
      obtain ⟨u, v, rfl, rfl, e⟩ := scalar _ h.symm
      have hval : ∀ u : Value, valOf P t [u] = u := fun u => by simp [valOf, hk]
      rw [hval, hval]
      unfold eqU at e
      split at e
      · rename_i hkk; cases hkk
      · injection e with e; subst e
        rw [run_equalIn_string w D t _ _ hk, beq_bytes]
      · rename_i hkk; cases hkk
      · cases e
    · rename_i fs hk
      split at h
      · rename_i hst
        have hval : ∀ us : List Value, valOf P t us = .agg us.toArray := fun us => by simp [valOf, hk]
        have hfo : P.fieldsOf t = fs := by simp [Program.fieldsOf, hk]
        rw [hval, hval, run_equalIn_struct w D t _ _ (by rw [hfo]; exact hk) hst, hfo]
        exact flatFs_eq (fun t ks us vs b h1 h2 => flat_eq d t D ks us vs b h1 (by omega) h2) us vs fs.toList 0 ks b h (by simpa using he)
      · cases h
    · cases h

theorem eqsO_sound (neg : Bool) (t : TypeId) {ks : List Kd} {fs : Array Field} (x y : Operand) {rx ry : R} {vx vy : Value} (hx : RepR env toks w rx vx) (hy : RepR env toks w ry vy) (hn : (eqsO neg ks rx ry).need)
    (ht : P.underlying t = some (.struct fs)) (hk : flatTy P 20 t = some ks) (hg : P.eqGuardType P.depth t = false) :
    ∃ v, (do eqGuard (if neg then .neq else .eql) t x y vx vy; binOp (if neg then .neq else .eql) t vx vy : Sem Value).run P w = .ok v w ∧ RepR env toks w (eqsO neg ks rx ry).val v := by
  unfold eqsO at hn ⊢
  split at hn
  · obtain ⟨us, e, hu⟩ := hx
    obtain ⟨vs, e', hv⟩ := hy
    subst e; subst e'
    split at hn
    · rename_i b hb
      have he := flat_eq (w := w) 20 t 10000 ks us vs b hk (by omega) (eqRows_rep hb hu hv)
      have hval : ∀ us : List Value, valOf P t us = .agg us.toArray := fun us => by simp [valOf, ht]
      rw [hval, hval] at he
      simp only
      cases neg
      · refine ⟨.bool b, ?_, rep_B⟩
        simp [run_eqGuard_agg _ _ _ _ _ _ _ hg, run_eql_struct, he]
      · refine ⟨.bool !b, ?_, rep_B⟩
        simp [run_eqGuard_agg _ _ _ _ _ _ _ hg, run_neq_struct, he]
    · exact hn.elim
  · exact hn.elim

end
end Go.Fx

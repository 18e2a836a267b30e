/- Fx, part H: each operation of the small language is what the model's operation does. -/
import Derived.Test.YtiomojlcnemnhaaDoorFxG
namespace Go.Fx
open Go.RowKit

section
variable {P : Program} {w0 : World} {V0 : Base} {N : Nat} {env : Env} {σ σ' : S} {a : Act} {w : World} {o : Oper} {toks : Nat → Option Tok}

theorem ofCell_rep {v : Value} {x : A} (h : ofCell v = some x) : RepA env toks w x v := by
  unfold ofCell at h
  split at h
  · injection h with h; subst h; rfl
  · cases h
  · cases h
  · injection h with h; subst h
    refine .v _ ?_
    rename_i h1 h2 h3
    cases v <;> first | rfl | (exfalso; exact h2 _ rfl) | (exfalso; exact h3 _ rfl)

theorem ofCells_rep : ∀ {l : List Value} {as : List A}, ofCells l = some as → All2 (RepA env toks w) as l
  | [], as, h => by simp [ofCells] at h; subst h; exact All2.nil
  | v :: l, as, h => by
    unfold ofCells at h
    split at h
    · rename_i a' as' h1 h2
      injection h with h; subst h
      exact All2.cons (ofCell_rep h1) (ofCells_rep h2)
    · cases h

theorem ofValue_rep {v : Value} {r : R} (h : ofValue v = some r) : RepR env toks w r v := by
  unfold ofValue at h
  split at h
  · rename_i cs
    cases hc : ofCells cs.toList with
    | none => rw [hc] at h; cases h
    | some l =>
      rw [hc] at h
      simp at h; subst h
      exact ⟨cs.toList, by simp, ofCells_rep hc⟩
  · cases hc : ofCell v with
    | none => rw [hc] at h; cases h
    | some l =>
      rw [hc] at h
      simp at h; subst h
      exact ofCell_rep hc

theorem Sim.opd (h : Sim w0 V0 N env σ a w) {x : Operand} {d : D} (hx : cmpD x = some d) : RepT env σ.toks w (d.val σ) (a.eval x) := by
  unfold cmpD at hx
  split at hx
  · injection hx with hx; subst hx; exact h.tmps _
  · rename_i v
    cases hv : ofValue v with
    | none => rw [hv] at hx; cases hx
    | some r =>
      rw [hv] at hx; simp at hx; subst hx
      simp only [D.val, RepT, if_true, Act.eval]
      exact ofValue_rep hv
  · injection hx with hx; subst hx
    simp only [D.val, RepT, if_true, Act.eval]
    exact RepC.v _ rfl
  · cases hx

theorem RepT.r {t : T} {v : Value} (h : RepT env toks w t v) (hg : t.g = true) : RepR env toks w t.r v := by
  cases t with
  | k g r => simp only [T.g] at hg; subst hg; exact h
  | lost => cases hg

theorem Sim.opr (h : Sim w0 V0 N env σ a w) {x : Operand} {d : D} (hx : cmpD x = some d) (hg : (d.val σ).g = true) : RepR env σ.toks w (d.val σ).r (a.eval x) := (h.opd hx).r hg

/-- Every function may be entered, at whatever depth. rd: the loop in whose round the frame stands. -/
abbrev FW (rd : Option Nat) : Fence := { Fence.wide with round := rd }

/-- The operation, at any frame and world that the state tells, comes to some that the new state tells. -/
def Good (P : Program) (w0 : World) (V0 : Base) (N : Nat) (o : Oper) (σ σ' : S) : Prop :=
  ∀ (rd : Option Nat) (n : Nat) env a w K Q, Sim w0 V0 N env σ a w → (∀ env' a' w', Sim w0 V0 N env' σ' a' w' → K a' w') → o.wpIn (FW rd) n P a w K Q

theorem wp_next {rd : Option Nat} {n : Nat} {K : Act → World → Prop} {Q : Exit → Act → World → Prop} {x : Next} {w' : World} (h : (execOp a.eval o).run P w = .ok x w') (hx : ∀ d, x ≠ .defer d)
    (hK : o.uponIn (FW rd) n P a K Q (.ok x w')) : o.wpIn (FW rd) n P a w K Q := by
  refine ⟨fun _ _ => trivial, ?_⟩
  rw [Oper.semAt_eq, h]
  · exact hK
  · intro c hc
    have h' := h
    simp only [execOp, hc, Sem.run_bind] at h'
    cases hr : (resolve a.eval c o.type).run P w with
    | ok d w2 => rw [hr] at h'; simp [Result.andThen] at h'; exact hx d h'.1.symm
    | halt y w2 => rw [hr] at h'; simp [Result.andThen] at h'
theorem wp_value {rd : Option Nat} {n : Nat} {v : Value} {w' : World} {K : Act → World → Prop} {Q : Exit → Act → World → Prop} (h : (execOp a.eval o).run P w = .ok (.value v) w') (hK : K (a.put o.dst v) w') : o.wpIn (FW rd) n P a w K Q :=
  wp_next h (fun d e => by cases e) hK
theorem wp_skipped {rd : Option Nat} {n : Nat} {w' : World} {K : Act → World → Prop} {Q : Exit → Act → World → Prop} (h : (execOp a.eval o).run P w = .ok .skip w') (hK : K (a.put o.dst undef) w') : o.wpIn (FW rd) n P a w K Q :=
  wp_next h (fun d e => by cases e) hK

theorem Good.pure {t : T} (hd : ∀ n, o.dst = some n → n < N) (h : ∀ env a w, Sim w0 V0 N env σ a w → ∃ v, (execOp a.eval o).run P w = .ok (.value v) w ∧ RepT env σ.toks w t v) :
    Good P w0 V0 N o σ (σ.put o.dst t) := fun rd n env a w K Q hs hK => by
  obtain ⟨v, hr, ht⟩ := h env a w hs
  exact wp_value hr (hK env _ _ (hs.put hd ht))

/- The shapes of what is read. -/
theorem rep_int {k : IntKind} {n : Int} {v : Value} (h : RepR env toks w (rI k n) v) : v = .int k n := by cases h; rfl
theorem rep_bool {b : Bool} {v : Value} (h : RepR env toks w (rB b) v) : v = .bool b := by cases h; rfl
theorem rep_str {s : ByteArray} {v : Value} (h : RepR env toks w (rS s) v) : v = .string s := by cases h; rfl
theorem rep_I {k : IntKind} {n : Int} : RepR env toks w (rI k n) (.int k n) := RepC.v _ rfl
theorem rep_B {b : Bool} : RepR env toks w (rB b) (.bool b) := RepC.v _ rfl
theorem rep_S {s : ByteArray} : RepR env toks w (rS s) (.string s) := RepC.v _ rfl

theorem beq_bytes (x y : ByteArray) : (x.toList == y.toList) = (x == y) := (beq_toListBytes x y).symm

theorem binO_sound (op : BinOp) (ty : TypeId) (x y : Operand) {rx ry : R} {vx vy : Value} (hx : RepR env toks w rx vx) (hy : RepR env toks w ry vy) (hn : (binO op rx ry).need) :
    ∃ v, (do eqGuard op ty x y vx vy; binOp op ty vx vy : Sem Value).run P w = .ok v w ∧ RepR env toks w (binO op rx ry).val v := by
  unfold binO at hn ⊢
  split at hn
  · cases hx; cases hy
    split at hn <;> first
      | (simp only [] at hn; subst hn; exact ⟨_, by simp [go_sem, eqGuard_at_int], rep_I⟩)
      | (simp only [] at hn; subst hn; exact ⟨_, by simp [go_sem, eqGuard_at_int], rep_B⟩)
      | (simp only [] at hn; obtain ⟨hk, hb⟩ := hn; subst hk; exact ⟨_, by simp [go_sem, eqGuard_at_int, Op.intDiv, hb], rep_I⟩)
      | exact hn.elim
  · cases hx; cases hy
    split at hn <;> first
      | (simp only [] at hn; exact ⟨_, by (simp [eqGuard_at_string, binOp, Op.stringOp]; omega), rep_S⟩)
      | exact ⟨_, by simp [eqGuard_at_string, binOp, Op.stringOp, beq_bytes], rep_B⟩
      | exact hn.elim
  · exact hn.elim

theorem eqbO_sound (neg : Bool) (ty : TypeId) (x y : Operand) {rx ry : R} {vx vy : Value} (hx : RepR env toks w rx vx) (hy : RepR env toks w ry vy) (hn : (eqbO neg rx ry).need) (ht : P.underlying ty = some .bool) :
    ∃ v, (do eqGuard (if neg then .neq else .eql) ty x y vx vy; binOp (if neg then .neq else .eql) ty vx vy : Sem Value).run P w = .ok v w ∧ RepR env toks w (eqbO neg rx ry).val v := by
  unfold eqbO at hn ⊢
  split at hn
  · rename_i p q
    have hb : ∀ d, (Op.equalIn (d + 1) ty (.bool p) (.bool q)).run P w = .ok (p == q) w := fun d => run_equalIn_bool' w d ty p q ht
    have e1 := rep_bool hx
    have e2 := rep_bool hy
    subst e1; subst e2
    cases neg <;> exact ⟨_, by simp [eqGuard_at_bool, binOp, Op.equal, Op.maxDepth, hb], rep_B⟩
  · exact hn.elim

theorem unO_sound (op : UnOp) {rx : R} {vx : Value} (hx : RepR env toks w rx vx) (hn : (unO op rx).need) :
    ∃ v, (Op.unary op vx).run P w = .ok v w ∧ RepR env toks w (unO op rx).val v := by
  unfold unO at hn ⊢
  split at hn
  · have e := rep_int hx
    subst e
    split at hn <;> first
      | exact hn.elim
      | exact ⟨_, by simp [Op.unary, Op.intArith], rep_I⟩
  · have e := rep_bool hx
    subst e
    split at hn <;> first
      | exact hn.elim
      | exact ⟨_, by simp [Op.unary], rep_B⟩
  · exact hn.elim

theorem convO_sound (src dst : TypeId) {k ks : IntKind} (hs : P.underlying src = some (.int ks)) (hd : P.underlying dst = some (.int k)) {rx : R} {vx : Value} (hx : RepR env toks w rx vx) (hn : (convO k rx).need) :
    ∃ v, (convert src dst vx).run P w = .ok v w ∧ RepR env toks w (convO k rx).val v := by
  unfold convO at hn ⊢
  split at hn
  · have e := rep_int hx
    subst e
    exact ⟨_, by simp [convert, run_underlying hs, run_underlying hd, Conv.intToInt], rep_I⟩
  · exact hn.elim

/-- What a closed slice's reading says of its value. -/
theorem rep_sl {V : Nat → Nat → Prop} {es sp : List (List C)} {v : Value} (h : RepC V w (.sl es sp) v) :
    ((v = .slice none 0 0 ∨ ∃ a, v = .slice (some a) 0 0) ∧ es = [] ∧ sp = []) ∨ ∃ b o cap, v = .slice (some ⟨b, o, none⟩) es.length cap ∧ es.length + sp.length ≤ cap ∧ cap ≤ maxLen := by
  cases h with
  | nil c => exact .inl ⟨.inl rfl, rfl, rfl⟩
  | emp a => exact .inl ⟨.inr ⟨a, rfl⟩, rfl, rfl⟩
  | sl _ _ s b o n cap us hn hc hm => subst hn; exact .inr ⟨b, o, cap, rfl, hc, hm⟩

theorem lenO_sound (t ty : TypeId) {e : TypeId} {rx : R} {vx : Value} (hx : RepR env toks w rx vx) (hn : (lenO rx).need) (ht : P.underlying t = some (.slice e)) :
    ∃ v, (Builtin.len_ #[t] ty #[vx]).run P w = .ok v w ∧ RepR env toks w (lenO rx).val v := by
  have slc : ∀ (b : Option Addr) (n c : Nat), vx = .slice b n c → (Builtin.len_ #[t] ty #[vx]).run P w = .ok (.int .i64 n) w := fun b n c e => by
    subst e
    simp [Builtin.len_, run_underlying ht, goInt]
  have hsl : ∀ es sp, RepC env.V w (.sl es sp) vx → ∃ b c, vx = .slice b es.length c := fun es sp h => by
    rcases rep_sl h with ⟨e | ⟨a, e⟩, h1, h2⟩ | ⟨b, o, cap, e, _⟩
    · subst h1; exact ⟨_, _, e⟩
    · subst h1; exact ⟨_, _, e⟩
    · exact ⟨_, _, e⟩
  unfold lenO at hn ⊢
  split at hn
  · have e : vx = .slice none 0 0 := hx
    exact ⟨_, slc _ _ _ e, rep_I⟩
  · obtain ⟨b, c, e⟩ := hsl _ _ hx
    exact ⟨_, slc _ _ _ e, rep_I⟩
  · obtain ⟨b, c, e⟩ := hsl _ _ hx.1
    exact ⟨_, slc _ _ _ e, rep_I⟩
  · obtain ⟨b, s, _, _, e, _⟩ := hx
    exact ⟨_, slc _ _ _ e, rep_I⟩
  · exact hn.elim

theorem slenO_sound (t ty : TypeId) {rx : R} {vx : Value} (hx : RepR env toks w rx vx) (hn : (slenO rx).need) (ht : P.underlying t = some .string) :
    ∃ v, (Builtin.len_ #[t] ty #[vx]).run P w = .ok v w ∧ RepR env toks w (slenO rx).val v := by
  unfold slenO at hn ⊢
  split at hn
  · have e := rep_str hx
    subst e
    exact ⟨_, by simp [Builtin.len_, run_underlying ht, goInt], rep_I⟩
  · exact hn.elim

theorem faddrO_sound (off : Nat) (t : TypeId) {fs : Array Field} {f : Nat} {fl : Field} {i : TypeInfo} {rx : R} {vx : Value} (hx : RepR env toks w rx vx) (hn : (faddrO off rx).need)
    (ht : P.underlying t = some (.struct fs)) (hf : fs[f]? = some fl) (hi : P.info? fl.type = some i) (h0 : i.size ≠ 0) (ho : fl.offset = off) :
    ∃ v, (Instr.fieldAt t vx f).run P w = .ok v w ∧ RepR env toks w (faddrO off rx).val v := by
  have key : ∀ b o, vx = .pointer (some ⟨b, o, none⟩) → (Instr.fieldAt t vx f).run P w = .ok (.pointer (some ⟨b, o + off, none⟩)) w := fun b o e => by
    subst e; subst ho
    simp [Instr.fieldAt, run_underlying ht, hf, Instr.sureAddr, fieldPlace, sizeOf, typeInfo, hi, h0, add_at]
  unfold faddrO at hn ⊢
  split at hn
  · obtain ⟨b, s, hρ, e⟩ := hx
    exact ⟨_, key _ _ e, b, s, hρ, by rw [Nat.add_assoc]⟩
  · obtain ⟨b, o, n, cap, s, e, h1, h2, h3⟩ := hx
    exact ⟨_, key _ _ e, b, o, n, cap, s, by rw [Nat.add_assoc], h1, h2, h3⟩
  · exact hn.elim

theorem iaddrO_sound (size : Nat) (t : TypeId) {e : TypeId} {inf : TypeInfo} {rx ri : R} {vx vi : Value} (hx : RepR env σ.toks w rx vx) (hri : RepR env σ.toks w ri vi) (hs : Sim w0 V0 N env σ a w) (hn : (iaddrO σ size rx ri).need)
    (ht : P.underlying t = some (.slice e)) (hinf : P.info? e = some inf) (hsz : inf.size = size) :
    ∃ v, (Instr.indexAt t vx vi).run P w = .ok v w ∧ RepR env σ.toks w (iaddrO σ size rx ri).val v := by
  have key : ∀ b o n cap (k : IntKind) (i : Int), vx = .slice (some ⟨b, o, none⟩) n cap → vi = .int k i → 0 ≤ i → i < n →
      (Instr.indexAt t vx vi).run P w = .ok (.pointer (some ⟨b, o + i.toNat * size, none⟩)) w := fun b o n cap k i e1 e2 h0 h1 => by
    subst e1; subst e2; subst hsz
    simp [Instr.indexAt, asIntOf, run_underlying ht, sizeOf, typeInfo, hinf, h0, h1, add_at]
  have closed : ∀ es sp (k : IntKind) (i : Int), RepC env.V w (.sl es sp) vx → vi = .int k i → (0 ≤ i ∧ i < es.length ∧ (es.getD i.toNat []).length = size) →
      ∃ v, (Instr.indexAt t vx vi).run P w = .ok v w ∧ RepA env σ.toks w (.elem es sp i.toNat 0) v := fun es sp k i hrep e2 ⟨h0, h1, h2⟩ => by
    cases hrep with
    | nil c => simp at h1; omega
    | emp a => simp at h1; omega
    | sl _ _ s b o n cap us hn hc hm hw hl hu hr =>
      have hin : i.toNat < es.length := by omega
      have hs : s = size := by
        rw [← h2, ← hw (es.getD i.toNat []) (by rw [List.getD_eq_getElem?_getD, List.getElem?_eq_getElem hin]; simp)]
      refine ⟨_, key b o n cap k i rfl e2 h0 (by rw [hn]; exact h1), b, o, n, cap, s, by rw [hs, Nat.add_zero], hin, hw, ?_⟩
      exact .sl es sp s b o n cap us hn hc hm hw hl hu hr
  unfold iaddrO at hn ⊢
  split at hn
  · exact closed _ _ _ _ hx (rep_int hri) hn
  · exact closed _ _ _ _ hx.1 (rep_int hri) hn
  · obtain ⟨b, s, c', hρ, e, _⟩ := hx
    obtain ⟨g1, g2, g3⟩ := hn
    split at g3
    · rename_i x hx
      obtain ⟨b', us, h1, _⟩ := hs.objs _ x hx
      rw [h1] at hρ
      injection hρ with hρ; injection hρ with hb hsz2
      obtain ⟨g3, _⟩ := g3
      subst hb; subst hsz2; subst g3
      refine ⟨_, key _ _ _ _ _ _ e (rep_int hri) g1 g2, b', x.size, h1, ?_⟩
      rw [Nat.add_mul, Nat.add_zero]
    · exact g3.elim
  · exact hn.elim

theorem sindexO_sound (t : TypeId) {rx ri : R} {vx vi : Value} (hx : RepR env toks w rx vx) (hri : RepR env toks w ri vi) (hn : (sindexO rx ri).need) (ht : P.underlying t = some .string) :
    ∃ v, (Instr.index t vx vi).run P w = .ok v w ∧ RepR env toks w (sindexO rx ri).val v := by
  unfold sindexO at hn ⊢
  split at hn
  · rename_i s k i
    have e1 := rep_str hx
    have e2 := rep_int hri
    subst e1; subst e2
    obtain ⟨h0, h1⟩ := hn
    have hlt : i.toNat < s.size := by omega
    refine ⟨_, ?_, rep_I⟩
    have hg : s[i.toNat]? = some (s.data.toList.getD i.toNat 0) := by
      have : s[i.toNat]? = some s[i.toNat] := getElem?_pos s i.toNat hlt
      rw [this, List.getD_eq_getElem?_getD]
      simp only [Array.getElem?_toList]
      rw [Array.getElem?_eq_getElem (by exact hlt)]
      rfl
    simp [Instr.index, asIntOf, run_underlying ht, h0, hg]
  · exact hn.elim

theorem getD_map_c (l : List C) (n : Nat) (h : n < l.length) : ∃ c, l[n]? = some c ∧ (l.map A.c).getD n .lost = .c c := by
  refine ⟨l[n], List.getElem?_eq_getElem h, ?_⟩
  rw [List.getD_eq_getElem?_getD, List.getElem?_map, List.getElem?_eq_getElem h]
  rfl

theorem partO_sound (t : TypeId) {cs : List A} {off : Nat} {n : Option Nat} {us : List Value} (hx : All2 (RepA env toks w) cs us) (hn : (partO cs off n).need) (ht : cellsIn P t = some n) :
    ∃ v, (part t us.toArray off).run P w = .ok v w ∧ RepX env toks w (match (partO cs off n).val with | .x y => y | _ => .one .lost) v := by
  unfold cellsIn at ht
  cases n with
  | none =>
    simp only [partO] at hn ⊢
    obtain ⟨y, hy, hr⟩ := hx.get (List.getElem?_eq_getElem hn)
    refine ⟨y, ?_, ?_⟩
    · cases hu : P.underlying t with
      | none => rw [hu] at ht; cases ht
      | some d =>
        rw [hu] at ht
        cases d <;> simp at ht <;> simp [part, isAgg, run_underlying hu, hy]
    · show RepA env toks w (cs.getD off .lost) y
      rw [List.getD_eq_getElem?_getD, List.getElem?_eq_getElem hn]
      exact hr
  | some n =>
    simp only [partO] at hn ⊢
    refine ⟨.agg ((us.drop off).take n).toArray, ?_, _, rfl, (hx.drop off).take n⟩
    cases hu : P.underlying t with
    | none => rw [hu] at ht; cases ht
    | some d =>
      rw [hu] at ht
      cases d <;> simp at ht
      all_goals
        obtain ⟨i, hi, hs⟩ := ht
        simp [part, isAgg, run_underlying hu, sizeOf, typeInfo, hi, hs]

theorem fieldO_sound (t : TypeId) {fs : Array Field} {f : Nat} {fl : Field} {n : Option Nat} {rx : R} {vx : Value} (hx : RepR env toks w rx vx) (hn : (fieldO fl.offset n rx).need)
    (ht : P.underlying t = some (.struct fs)) (hf : fs[f]? = some fl) (hc : cellsIn P fl.type = some n) :
    ∃ v, (Instr.field t vx f).run P w = .ok v w ∧ RepR env toks w (fieldO fl.offset n rx).val v := by
  unfold fieldO at hn ⊢
  split at hn
  · obtain ⟨us, e, hu⟩ := hx
    subst e
    obtain ⟨v, hr, hv⟩ := partO_sound (P := P) fl.type hu hn hc
    refine ⟨v, by simpa [Instr.field, run_underlying ht, hf, asAgg] using hr, ?_⟩
    cases n <;> exact hv
  · exact hn.elim

theorem extO_sound (i : Nat) {rx : R} {vx : Value} (hx : RepR env toks w rx vx) (hn : (extO i rx).need) :
    ∃ v, (Instr.extract vx i).run P w = .ok v w ∧ RepR env toks w (extO i rx).val v := by
  unfold extO at hn ⊢
  split at hn
  · obtain ⟨vs, e, hv⟩ := hx
    subst e
    obtain ⟨y, hy, hr⟩ := hv.get (List.getElem?_eq_getElem hn)
    refine ⟨y, by simp [Instr.extract, hy], ?_⟩
    simp only [RepR]
    rw [List.getD_eq_getElem?_getD, List.getElem?_eq_getElem hn]
    exact hr
  · exact hn.elim

end
end Go.Fx

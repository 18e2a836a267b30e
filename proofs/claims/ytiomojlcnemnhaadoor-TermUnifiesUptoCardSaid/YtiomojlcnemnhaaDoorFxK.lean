/- Fx, part K: every operation of the small language, against the model's. -/
import Derived.Test.YtiomojlcnemnhaaDoorFxX
namespace Go.Fx
open Go.RowKit

section
variable {P : Program} {w0 : World} {V0 : Base} {N : Nat} {env : Env} {σ σ' : S} {a : Act} {w : World} {o : Oper} {toks : Nat → Option Tok}

theorem Good.val {r : R} (hd : ∀ n, o.dst = some n → n < N) (h : ∀ env a w, Sim w0 V0 N env σ a w → ∃ v, (execOp a.eval o).run P w = .ok (.value v) w ∧ RepR env σ.toks w r v) :
    Good P w0 V0 N o σ (σ.put o.dst (.k true r)) := Good.pure hd fun env a w hs => by
  obtain ⟨v, h1, h2⟩ := h env a w hs
  exact ⟨v, h1, by simpa [RepT] using h2⟩

theorem ones_rep (hs : Sim w0 V0 N env σ a w) : ∀ {xs : List Operand} {ds : List D} {as : List A}, cmpDs xs = some ds → (ds.all fun d => (d.val σ).g) = true → onesO (ds.map fun d => (d.val σ).r) = some as → RepAs env σ.toks w as (xs.map a.eval)
  | [], ds, as, h, _, ho => by
    simp [cmpDs] at h; subst h
    simp [onesO] at ho; subst ho
    trivial
  | x :: xs, ds, as, h, hg, ho => by
    unfold cmpDs at h
    split at h
    · rename_i d ds' h1 h2
      injection h with h; subst h
      simp only [List.all_cons, Bool.and_eq_true] at hg
      simp only [List.map_cons] at ho
      have hr := hs.opr h1 hg.1
      unfold onesO at ho
      split at ho
      · rename_i e; cases e
      · rename_i r b l e
        injection e with e1 e2
        cases hb : onesO l with
        | none => rw [hb] at ho; cases ho
        | some bs =>
          rw [hb] at ho
          injection ho with ho; subst ho
          rw [e1] at hr
          subst e2
          exact ⟨hr, ones_rep hs h2 hg.2 hb⟩
      · cases ho
    · cases h

theorem cloO_sound (hs : Sim w0 V0 N env σ a w) {f : FuncId} {fs cs : Array Operand} {df dc : List D} (h1 : cmpDs fs.toList = some df) (h2 : cmpDs cs.toList = some dc) (g1 : (df.all fun d => (d.val σ).g) = true) (g2 : (dc.all fun d => (d.val σ).g) = true)
    (hn : (cloO f (df.map fun d => (d.val σ).r) (dc.map fun d => (d.val σ).r)).need) :
    ∃ v, (Instr.makeFunc (.func f) (fs.map a.eval) (cs.map a.eval)).run P w = .ok v w ∧ RepR env σ.toks w (cloO f (df.map fun d => (d.val σ).r) (dc.map fun d => (d.val σ).r)).val v := by
  unfold cloO at hn ⊢
  split at hn
  · rename_i as bs ha hb
    refine ⟨.func (.func f) (fs.map a.eval) (cs.map a.eval), by simp [Instr.makeFunc], ?_⟩
    exact ⟨fs.toList.map a.eval, cs.toList.map a.eval, by simp [← Array.toList_map], ones_rep hs h1 g1 ha, ones_rep hs h2 g2 hb⟩
  · exact hn.elim

theorem mkiO_sound {t : TypeId} {u : TypeDesc} {r : R} {v : Value} (hu : P.underlying t = some u) (hni : ∀ x, u ≠ .interface x) (hr : RepR env toks w r v) (hn : (mkiO t r).need) :
    ∃ x, (Instr.makeInterface t v).run P w = .ok x w ∧ RepR env toks w (mkiO t r).val x := by
  unfold mkiO at hn ⊢
  split at hn
  · rename_i b
    refine ⟨.iface t v, ?_, v, rfl, hr⟩
    cases u <;> first | exact (hni _ rfl).elim | simp [Instr.makeInterface, run_underlying hu]
  · exact hn.elim

theorem asrtO_sound {x : Value} {xt t : TypeId} {u : TypeDesc} {comma one : Bool} {z : List A} {r : R} (hu : P.underlying t = some u) (hni : ∀ x, u ≠ .interface x) (hz : zeroIn P t = some z) (hone : zeroAgg P t = some one)
    (hr : RepR env toks w r x) (hn : (asrtO t comma one z r).need) : ∃ v, (Instr.typeAssert x xt t comma).run P w = .ok v w ∧ RepR env toks w (asrtO t comma one z r).val v := by
  obtain ⟨i, zv, hi, hzv, hzr⟩ := zeroIn_rep (env := env) (toks := toks) (w := w) hz
  have hform : (one = true → zv.oneCell' = true) ∧ (one = false → ∃ cs, zv = .agg cs) := by
    unfold zeroAgg at hone
    rw [hi] at hone
    simp only [hzv] at hone
    split at hone
    · rename_i cs e
      injection hone with hone; subst hone
      injection e with e
      exact ⟨(fun e => by cases e), fun _ => ⟨cs, e⟩⟩
    · cases hone
    · rename_i v e1 e2 e
      injection hone with hone; subst hone
      injection e with e; subst e
      refine ⟨fun _ => ?_, (fun e => by cases e)⟩
      cases zv <;> first | rfl | exact (e1 _ rfl).elim | exact (e2 _ rfl).elim
    · cases hone
  have hzr2 : (zeroValue t).run P w = .ok zv w := by simp [zeroValue, typeInfo, hi, hzv]
  unfold asrtO at hn ⊢
  split at hn
  · rename_i y b
    obtain ⟨v, rfl, hb⟩ := hr
    by_cases e : y = t
    · subst e
      simp only [if_true]
      cases comma with
      | true =>
        refine ⟨.tuple #[v, .bool true], ?_, [v, .bool true], rfl, All2.cons hb (All2.cons (.v _ rfl) All2.nil)⟩
        cases u <;> first | exact (hni _ rfl).elim | simp [Instr.typeAssert, run_underlying hu]
      | false =>
        refine ⟨v, ?_, hb⟩
        cases u <;> first | exact (hni _ rfl).elim | simp [Instr.typeAssert, run_underlying hu]
    · simp only [if_neg e] at hn ⊢
      subst hn
      refine ⟨.tuple #[zv, .bool false], ?_, [zv, .bool false], rfl, All2.cons (form_rep hzr hform.1 hform.2) (All2.cons (.v _ rfl) All2.nil)⟩
      cases u <;> first | exact (hni _ rfl).elim | simp [Instr.typeAssert, run_underlying hu, e, hzr2, Result.andThen]
  · exact hn.elim

theorem nilchkO_sound {x : Operand} {r : R} (hop : o.op = .nilCheck x) (hr : RepR env toks w r (a.eval x)) (hn : (nilchkO r).need) : ∃ v, (execOp a.eval o).run P w = .ok (.value v) w ∧ RepR env toks w (nilchkO r).val v := by
  unfold nilchkO at hn ⊢
  refine ⟨a.eval x, ?_, ?_⟩
  · split at hn
    · obtain ⟨b, s, _, e⟩ := hr
      simp [execOp, hop, e]
    · obtain ⟨b, o, n, cap, s, e, _⟩ := hr
      simp [execOp, hop, e]
    · rename_i f fs cs
      have e : a.eval x = .func (.func f) fs cs := by
        generalize a.eval x = y at hr; cases hr; rfl
      simp [execOp, hop, e]
    · rename_i f fs cs
      have e : a.eval x = .func (.yield f) fs cs := by
        generalize a.eval x = y at hr; cases hr; rfl
      simp [execOp, hop, e]
    · obtain ⟨us, vs, e, _⟩ := hr
      simp [execOp, hop, e]
    · exact hn.elim
  · split at hn <;> first | exact hr | exact hn.elim

theorem good_pure (hd : ∀ n, o.dst = some n → n < N) {op : IOp} {fl : Notes} (hc : cmpOp P fl o = some op) {out : Out} (hp : pureO σ op = some out) (hn : out.need) : (∀ d, op ≠ .bytes d) → Good P w0 V0 N o σ (σ.put o.dst (.k true out.val)) := by
  intro hby
  refine Good.val hd fun env a w hs => ?_
  have run1 : ∀ {s : Sem Value} {r : R}, execOp a.eval o = (do pure (.value (← s))) → (∃ v, s.run P w = .ok v w ∧ RepR env σ.toks w r v) → ∃ v, (execOp a.eval o).run P w = .ok (.value v) w ∧ RepR env σ.toks w r v := fun e ⟨v, h1, h2⟩ => ⟨v, by rw [e]; simp [h1], h2⟩
  unfold cmpOp at hc
  split at hc
  · -- move
    cases hx : cmpD _ <;> rw [hx] at hc <;> simp at hc
    subst hc; simp [pureO] at hp
  · cases hx : cmpD _ <;> rw [hx] at hc <;> simp at hc
    subst hc; simp [pureO] at hp
  · split at hc
    · injection hc with hc; subst hc; simp [pureO] at hp
    · cases hc
  · cases hx : zeroIn P _ <;> rw [hx] at hc <;> simp at hc
    subst hc; simp [pureO] at hp
  · cases hx : cmpD _ <;> rw [hx] at hc <;> simp at hc
    subst hc; simp [pureO] at hp
  · -- build
    rename_i t parts hop
    split at hc
    · rename_i fs z ht hz
      split at hc
      · rename_i places hpl
        cases hx : cmpParts places parts.toList <;> rw [hx] at hc <;> simp at hc
        rename_i ps
        subst hc
        simp only [pureO, Option.some.injEq] at hp
        subst hp
        split at hn
        · rename_i cs hf
          refine run1 (s := Instr.build t (parts.map fun p => (p.1, a.eval p.2))) (by simp only [execOp, hop]) ?_
          simp only
          exact build_sound t hs ht hz hpl hx hn hf
        · exact hn.elim
      · cases hc
    · cases hc
  · -- buildSlice
    split at hc
    · split at hc
      · split at hc
        · cases hx : cmpRow 0 _ <;> rw [hx] at hc <;> simp at hc
          subst hc; simp [pureO] at hp
        · cases hc
      · cases hc
    · cases hc
  · -- load
    rename_i t x hop
    split at hc
    · rename_i n d hcell hx
      injection hc with hc
      subst hc
      simp only [pureO, Option.some.injEq] at hp
      subst hp
      exact run1 (s := Instr.loadAt t (a.eval x)) (by simp only [execOp, hop]) (loadO_sound t hs (hs.opr hx hn.1) hn.2 hcell)
    · cases hc
  · -- store
    split at hc
    · injection hc with hc; subst hc; simp [pureO] at hp
    · cases hc
  · -- binOp
    rename_i op t x y yt hop
    have hex : execOp a.eval o = (do pure (.value (← (do eqGuard op t x y (a.eval x) (a.eval y); binOp op t (a.eval x) (a.eval y) : Sem Value)))) := by simp only [execOp, hop]
    split at hc
    · rename_i k dx dy ht hx hy
      injection hc with hc; subst hc
      simp only [pureO, Option.some.injEq] at hp
      subst hp
      exact run1 hex (binO_sound op t x y (hs.opr hx hn.1) (hs.opr hy hn.2.1) hn.2.2)
    · rename_i dx dy ht hx hy
      split at hc
      · injection hc with hc; subst hc
        simp only [pureO, Option.some.injEq] at hp
        subst hp
        exact run1 hex (eqbO_sound false t x y (hs.opr hx hn.1) (hs.opr hy hn.2.1) hn.2.2 ht)
      · injection hc with hc; subst hc
        simp only [pureO, Option.some.injEq] at hp
        subst hp
        exact run1 hex (eqbO_sound true t x y (hs.opr hx hn.1) (hs.opr hy hn.2.1) hn.2.2 ht)
      · cases hc
    · rename_i dx dy ht hx hy
      injection hc with hc; subst hc
      simp only [pureO, Option.some.injEq] at hp
      subst hp
      exact run1 hex (binO_sound op t x y (hs.opr hx hn.1) (hs.opr hy hn.2.1) hn.2.2)
    · rename_i fs dx dy ht hx hy
      split at hc
      · rename_i ks hk
        split at hc
        · rename_i hg
          split at hc
          · injection hc with hc; subst hc
            simp only [pureO, Option.some.injEq] at hp
            subst hp
            exact run1 hex (eqsO_sound false t x y (hs.opr hx hn.1) (hs.opr hy hn.2.1) hn.2.2 ht hk hg)
          · injection hc with hc; subst hc
            simp only [pureO, Option.some.injEq] at hp
            subst hp
            exact run1 hex (eqsO_sound true t x y (hs.opr hx hn.1) (hs.opr hy hn.2.1) hn.2.2 ht hk hg)
          · cases hc
        · cases hc
      · cases hc
    · cases hc
  · -- unOp
    rename_i op t x hop
    cases hx : cmpD x <;> rw [hx] at hc <;> simp at hc
    subst hc
    simp only [pureO, Option.some.injEq] at hp
    subst hp
    exact run1 (s := Op.unary op (a.eval x)) (by simp only [execOp, hop]) (unO_sound op (hs.opr hx hn.1) hn.2)
  · -- convert
    rename_i src dst x hop
    split at hc
    · rename_i ks k d h1 h2 hx
      injection hc with hc; subst hc
      simp only [pureO, Option.some.injEq] at hp
      subst hp
      exact run1 (s := convert src dst (a.eval x)) (by simp only [execOp, hop]) (convO_sound src dst h1 h2 (hs.opr hx hn.1) hn.2)
    · split at hc
      · injection hc with hc; subst hc
        exact absurd rfl (hby _)
      · cases hc
    · cases hc
  · -- makeSlice
    split at hc
    · split at hc
      · injection hc with hc; subst hc; simp [pureO] at hp
      · cases hc
    · cases hc
  · -- slice
    rename_i t x lo hi hop
    have hex : execOp a.eval o = (do pure (.value (← Instr.sliceAt t (a.eval x) (lo.map a.eval) (hi.map a.eval) none))) := by simp only [execOp, hop]; rfl
    split at hc
    · rename_i d ht hx
      have key : ∀ dl dh : Option D, lo.map cmpD = dl.map some → hi.map cmpD = dh.map some → op = .ssl d dl dh → ∃ v, (execOp a.eval o).run P w = .ok (.value v) w ∧ RepR env σ.toks w out.val v := by
        intro dl dh h1 h2 e
        subst e
        simp only [pureO, Option.some.injEq] at hp
        subst hp
        exact run1 hex (sslO_sound t hs (hs.opr hx hn.1) h1 h2 hn.2.1 hn.2.2.1 hn.2.2.2 ht)
      split at hc
      · rename_i h1 h2; injection hc with hc; exact key none none (by simpa using h1) (by simpa using h2) hc.symm
      · rename_i l h1 h2; injection hc with hc; exact key (some l) none (by simpa using h1) (by simpa using h2) hc.symm
      · rename_i l h1 h2; injection hc with hc; exact key none (some l) (by simpa using h1) (by simpa using h2) hc.symm
      · rename_i l h h1 h2; injection hc with hc; exact key (some l) (some h) (by simpa using h1) (by simpa using h2) hc.symm
      · cases hc
    · rename_i e d ht hx
      have key : ∀ (inf : TypeInfo) (dl dh : Option D), P.info? e = some inf → lo.map cmpD = dl.map some → hi.map cmpD = dh.map some → op = .vsl inf.size d dl dh → ∃ v, (execOp a.eval o).run P w = .ok (.value v) w ∧ RepR env σ.toks w out.val v := by
        intro inf dl dh hinf h1 h2 e
        subst e
        simp only [pureO, Option.some.injEq] at hp
        subst hp
        exact run1 hex (vslO_sound t hs (hs.opr hx hn.1) h1 h2 hn.2.1 hn.2.2.1 hn.2.2.2 ht hinf)
      split at hc
      · rename_i inf h0 h1 h2; injection hc with hc; exact key inf none none h0 (by simpa using h1) (by simpa using h2) hc.symm
      · rename_i inf l h0 h1 h2; injection hc with hc; exact key inf (some l) none h0 (by simpa using h1) (by simpa using h2) hc.symm
      · rename_i inf l h0 h1 h2; injection hc with hc; exact key inf none (some l) h0 (by simpa using h1) (by simpa using h2) hc.symm
      · rename_i inf l h h0 h1 h2; injection hc with hc; exact key inf (some l) (some h) h0 (by simpa using h1) (by simpa using h2) hc.symm
      · cases hc
    · cases hc
  · -- fieldAddr
    rename_i t x f hop
    split at hc
    · rename_i fs d ht hx
      split at hc
      · rename_i fl hf
        split at hc
        · rename_i i hi
          split at hc
          · cases hc
          · rename_i h0
            injection hc with hc; subst hc
            simp only [pureO, Option.some.injEq] at hp
            subst hp
            exact run1 (s := Instr.fieldAt t (a.eval x) f) (by simp only [execOp, hop]) (faddrO_sound fl.offset t (hs.opr hx hn.1) hn.2 ht hf hi h0 rfl)
        · cases hc
      · cases hc
    · cases hc
  · -- field
    rename_i t x f hop
    split at hc
    · rename_i fs d ht hx
      split at hc
      · rename_i fl hf
        split at hc
        · rename_i n hcell
          injection hc with hc; subst hc
          simp only [pureO, Option.some.injEq] at hp
          subst hp
          exact run1 (s := Instr.field t (a.eval x) f) (by simp only [execOp, hop]) (fieldO_sound t (hs.opr hx hn.1) hn.2 ht hf hcell)
        · cases hc
      · cases hc
    · cases hc
  · -- indexAddr
    rename_i t x i hop
    split at hc
    · rename_i e d j ht hx hi
      split at hc
      · rename_i inf hinf
        injection hc with hc
        subst hc
        simp only [pureO, Option.some.injEq] at hp
        subst hp
        exact run1 (s := Instr.indexAt t (a.eval x) (a.eval i)) (by simp only [execOp, hop]) (iaddrO_sound inf.size t (hs.opr hx hn.1) (hs.opr hi hn.2.1) hs hn.2.2 ht hinf rfl)
      · cases hc
    · cases hc
  · -- index
    rename_i t x i hop
    split at hc
    · rename_i d j ht hx hi
      injection hc with hc; subst hc
      simp only [pureO, Option.some.injEq] at hp
      subst hp
      exact run1 (s := Instr.index t (a.eval x) (a.eval i)) (by simp only [execOp, hop]) (sindexO_sound t (hs.opr hx hn.1) (hs.opr hi hn.2.1) hn.2.2 ht)
    · cases hc
  · -- extract
    rename_i x i hop
    cases hx : cmpD x <;> rw [hx] at hc <;> simp at hc
    subst hc
    simp only [pureO, Option.some.injEq] at hp
    subst hp
    exact run1 (s := Instr.extract (a.eval x) i) (by simp only [execOp, hop]) (extO_sound i (hs.opr hx hn.1) hn.2)
  · -- call
    rename_i c hop
    split at hc
    · rename_i hcal
      split at hc
      · rename_i x t hargs htys
        have hex : ∀ r, (∃ v, (Builtin.len_ #[t] o.type #[a.eval x]).run P w = .ok v w ∧ RepR env σ.toks w r v) → ∃ v, (execOp a.eval o).run P w = .ok (.value v) w ∧ RepR env σ.toks w r v := by
          rintro r ⟨v, h1, h2⟩
          have e1 : c.args = #[x] := Array.toList_inj.1 (by rw [hargs])
          have e2 : c.argTypes = #[t] := Array.toList_inj.1 (by rw [htys])
          exact ⟨v, by simp [execOp, hop, resolve, hcal, e1, e2, invoke, builtin, h1], h2⟩
        split at hc
        · rename_i ht
          cases hx : cmpD x <;> rw [hx] at hc <;> simp at hc
          subst hc
          simp only [pureO, Option.some.injEq] at hp
          subst hp
          exact hex _ (slenO_sound t o.type (hs.opr hx hn.1) hn.2 ht)
        · rename_i e ht
          cases hx : cmpD x <;> rw [hx] at hc <;> simp at hc
          subst hc
          simp only [pureO, Option.some.injEq] at hp
          subst hp
          exact hex _ (lenO_sound t o.type (hs.opr hx hn.1) hn.2 ht)
        · cases hc
      · cases hc
    · split at hc
      · split at hc
        · split at hc
          · split at hc
            · split at hc
              · injection hc with hc; subst hc; simp [pureO] at hp
              · cases hc
            · cases hc
          · cases hc
        · cases hc
      · cases hc
    · split at hc
      · injection hc with hc; split at hc <;> (subst hc; simp [pureO] at hp)
      · cases hc
    · cases hc
  · -- makeMap
    split at hc
    · split at hc
      · injection hc with hc; subst hc; simp [pureO] at hp
      · cases hc
    · cases hc
  · -- lookup
    rename_i t m k comma hop
    split at hc
    · rename_i kt et ht
      split at hc
      · rename_i d z one dm dk hd hz hone hm hk
        injection hc with hc; subst hc
        simp only [pureO, Option.some.injEq] at hp
        subst hp
        obtain ⟨i, zv, hi, hzv, hzr⟩ := zeroIn_rep (env := env) (toks := σ.toks) (w := w) hz
        have hform : (one = true → zv.oneCell' = true) ∧ (one = false → ∃ cs, zv = .agg cs) := by
          unfold zeroAgg at hone
          rw [hi] at hone
          simp only [hzv] at hone
          split at hone
          · rename_i cs e
            injection hone with hone; subst hone
            injection e with e
            exact ⟨(fun e => by cases e), fun _ => ⟨cs, e⟩⟩
          · cases hone
          · rename_i v e1 e2 e
            injection hone with hone; subst hone
            injection e with e; subst e
            refine ⟨fun _ => ?_, (fun e => by cases e)⟩
            cases zv <;> first | rfl | exact (e1 _ rfl).elim | exact (e2 _ rfl).elim
          · cases hone
        exact run1 (s := Instr.lookup t (a.eval m) (a.eval k) comma) (by simp only [execOp, hop]) (mlookO_sound comma hs (hs.opr hm hn.1) (hs.opr hk hn.2.1) hn.2.2 ht hd hi hzv hzr hform.1 hform.2)
      · cases hc
    · cases hc
  · -- mapUpdate
    split at hc
    · split at hc
      · injection hc with hc; subst hc; simp [pureO] at hp
      · cases hc
    · cases hc
  · -- makeFunc
    rename_i f fs cs hop
    split at hc
    · rename_i da dc ha hcc
      injection hc with hc; subst hc
      simp only [pureO, Option.some.injEq] at hp
      subst hp
      exact run1 (s := Instr.makeFunc (.func f) (fs.map a.eval) (cs.map a.eval)) (by simp only [execOp, hop]) (cloO_sound hs ha hcc hn.1 hn.2.1 hn.2.2)
    · cases hc
  · -- makeInterface
    rename_i t x hop
    split at hc
    · cases hc
    · rename_i u d hni hu hx
      injection hc with hc; subst hc
      simp only [pureO, Option.some.injEq] at hp
      subst hp
      exact run1 (s := Instr.makeInterface t (a.eval x)) (by simp only [execOp, hop]) (mkiO_sound hu hni (hs.opr hx hn.1) hn.2)
    · cases hc
  · -- typeAssert
    rename_i x xt t comma hop
    split at hc
    · cases hc
    · rename_i u z one d hni hu hz hone hx
      injection hc with hc; subst hc
      simp only [pureO, Option.some.injEq] at hp
      subst hp
      exact run1 (s := Instr.typeAssert (a.eval x) xt t comma) (by simp only [execOp, hop]) (asrtO_sound hu hni hz hone (hs.opr hx hn.1) hn.2)
    · cases hc
  · -- nilCheck
    rename_i x hop
    cases hx : cmpD x <;> rw [hx] at hc <;> simp at hc
    subst hc
    simp only [pureO, Option.some.injEq] at hp
    subst hp
    exact nilchkO_sound hop (hs.opr hx hn.1) hn.2
  · cases hc

end
end Go.Fx

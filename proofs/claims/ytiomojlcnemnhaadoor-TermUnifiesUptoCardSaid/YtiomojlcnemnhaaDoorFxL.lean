/- Fx, part L: the operations that make or turn memory, and calls. -/
import Derived.Test.YtiomojlcnemnhaaDoorFxK
namespace Go.Fx
open Go.RowKit

section
variable {P : Program} {w0 : World} {V0 : Base} {N : Nat} {env : Env} {σ σ' : S} {a : Act} {w : World} {o : Oper} {toks : Nat → Option Tok}

/-- The world has grown; what came reads. -/
theorem Good.grown {r : R} (hd : ∀ n, o.dst = some n → n < N) (h : ∀ env a w, Sim w0 V0 N env σ a w → ∃ v w', (execOp a.eval o).run P w = .ok (.value v) w' ∧ Below w.heap.size w w' ∧
      RepR { env with V := fun b o => env.V b o ∨ (w.heap.size ≤ b ∧ b < w'.heap.size) } σ.toks w' r v) :
    Good P w0 V0 N o σ (σ.put o.dst (.k true r)) := fun rd n env a w K Q hs hK => by
  obtain ⟨v, w', h1, h2, h3⟩ := h env a w hs
  exact wp_value h1 (hK _ _ _ ((hs.grow h2).put hd (by simpa [RepT] using h3)))

theorem flatten_bytes (l : List UInt8) : (l.map byteRow).flatten = l.map fun b => C.v (.int .u8 b.toNat) := by
  induction l with
  | nil => rfl
  | cons b l ih => simp [byteRow, ih]

theorem grownCap_ge (w : World) (n : Nat) (e : TypeId) (h : n ≤ maxLen) : n ≤ grownCap w n 0 e ∧ grownCap w n 0 e ≤ maxLen := by
  unfold maxLen at *
  unfold grownCap Question.cut
  have : w.tape w.drawn (.appendCap n 0 e) % (2 ^ 63 - n) < 2 ^ 63 - n := Nat.mod_lt _ (by omega)
  simp only
  omega

theorem good_bytes (hd : ∀ n, o.dst = some n → n < N) {src dst e : TypeId} {x : Operand} {d : D} (hop : o.op = .convert src dst x) (h1 : P.underlying src = some .string) (h2 : P.underlying dst = some (.slice e))
    (h3 : P.underlying e = some (.int .u8)) (hx : cmpD x = some d) (hg : (d.val σ).g = true) (hn : (bytesO (d.val σ).r).need) : Good P w0 V0 N o σ (σ.put o.dst (.k true (bytesO (d.val σ).r).val)) := by
  refine Good.grown hd fun env a w hs => ?_
  have hr := hs.opr hx hg
  unfold bytesO at hn ⊢
  split at hn
  · rename_i s heq
    rw [heq] at hr
    have e1 := rep_str hr
    obtain ⟨c1, c2⟩ := grownCap_ge w s.size e hn
    have hb : Below w.heap.size w (w.drew.alloc (.cells (bytesRow s (grownCap w s.size 0 e)) e ((bytesRow s (grownCap w s.size 0 e)).size, (bytesRow s (grownCap w s.size 0 e)).size + 1))) := ((Below.refl _ _).drew).alloc (Nat.le_refl _) _
    refine ⟨.slice (some ⟨w.heap.size, 0, none⟩) s.size (grownCap w s.size 0 e), _, ?_, hb, ?_⟩
    · simp only [execOp, hop, e1, Sem.run_bind, run_bytes_of_string w src dst e s h1 h2 h3, Result.andThen_ok, Sem.run_pure]
    have hsz : s.data.toList.length = s.size := rfl
    have hcell : ∀ (j : Nat) (u : Value), (s.data.toList.map fun b => Value.int .u8 b.toNat)[j]? = some u →
        (w.drew.alloc (.cells (bytesRow s (grownCap w s.size 0 e)) e ((bytesRow s (grownCap w s.size 0 e)).size, (bytesRow s (grownCap w s.size 0 e)).size + 1))).cell? ⟨w.heap.size, 0 + j, none⟩ = some u := fun j u hj => by
      have hjl : j < s.data.size := by have := (List.getElem?_eq_some_iff.1 hj).1; simpa using this
      rw [Nat.zero_add, cell_of_row _ w.heap.size j _ e _ (heap_alloc_new w.drew _)]
      unfold bytesRow
      rw [Array.getElem?_append_left (by simpa using hjl)]
      simpa using hj
    refine .sl _ _ 1 w.heap.size 0 s.size (grownCap w s.size 0 e) (s.data.toList.map fun b => .int .u8 b.toNat) (by rw [List.length_map]; rfl) (by rw [List.length_map]; exact c1) c2 (fun x hx => ?_) ?_ (fun j u hj => ⟨hcell j u hj, .inr ⟨Nat.le_refl _, ?_⟩⟩) (fun j c u hc hu => ?_)
    · simp only [List.append_nil, List.mem_map] at hx
      obtain ⟨b, _, rfl⟩ := hx
      rfl
    · rw [List.append_nil, flatten_bytes]; simp
    · exact heap_lt (heap_alloc_new w.drew _)
    · rw [List.append_nil, flatten_bytes] at hc
      rw [List.getElem?_map] at hc hu
      cases hb2 : s.data.toList[j]? with
      | none => rw [hb2] at hc; cases hc
      | some b =>
        rw [hb2] at hc hu
        simp at hc hu
        subst hc; subst hu
        exact .v _ rfl
  · exact hn.elim

theorem good_move (hd : ∀ n, o.dst = some n → n < N) {x : Operand} {d : D} (hop : o.op = .move x ∨ o.op = .assign x) (hx : cmpD x = some d) : Good P w0 V0 N o σ (σ.put o.dst (moveT true (d.val σ))) :=
  Good.pure hd fun env a w hs => by
    refine ⟨a.eval x, by rcases hop with h | h <;> simp [execOp, h], ?_⟩
    have h := hs.opd hx
    cases hv : d.val σ with
    | k g r => rw [hv] at h; simpa [moveT] using h
    | lost => trivial

theorem pickT_rep {t : Bool} {A B : T} {va vb : Value} (ha : RepT env toks w A va) (hb : RepT env toks w B vb) : RepT env toks w (pickT true t A B) (if t then va else vb) := by
  unfold pickT
  split
  · cases t
    · simpa using hb
    · simpa using ha
  · cases t
    · simp only [Bool.false_eq_true, if_false]
      cases B with
      | k g r => simpa using hb
      | lost => trivial
    · simp only [if_true]
      cases A with
      | k g r => simpa using ha
      | lost => trivial

theorem good_pick (hd : ∀ n, o.dst = some n → n < N) {x y z : Operand} {dx dy dz : D} (hop : o.op = .pick x y z) (hx : cmpD x = some dx) (hy : cmpD y = some dy) (hz : cmpD z = some dz) {t : Bool} (hv : dx.val σ = .k true (rB t)) :
    Good P w0 V0 N o σ (σ.put o.dst (pickT true t (dy.val σ) (dz.val σ))) :=
  Good.pure hd fun env a w hs => by
    have h := hs.opd hx
    rw [hv] at h
    have e := rep_bool (by simpa [RepT] using h : RepR env σ.toks w (rB t) (a.eval x))
    exact ⟨_, by simp only [execOp, hop, e, asBool, Sem.run_bind, Sem.run_pure, Result.andThen_ok], pickT_rep (hs.opd hy) (hs.opd hz)⟩

theorem close_rep {x : A} {c : C} {v : Value} (h : RepA env toks w x v) (hc : x.close = some c) : RepC env.V w c v := by
  cases x with
  | c y => simp only [A.close, Option.some.injEq] at hc; subst hc; exact h
  | nil => simp only [A.close, Option.some.injEq] at hc; subst hc; cases h; exact .nil 0
  | own k es => simp only [A.close, Option.some.injEq] at hc; subst hc; exact h.1
  | ref => simp [A.close] at hc
  | arr => simp [A.close] at hc
  | mapr => simp [A.close] at hc
  | elem => simp [A.close] at hc
  | clo => simp [A.close] at hc
  | yld => simp [A.close] at hc
  | ifc => simp [A.close] at hc
  | lost => simp [A.close] at hc

theorem closeL_rep : ∀ {l : List A} {cs : List C} {vs : List Value}, All2 (RepA env toks w) l vs → closeL l = some cs → All2 (RepC env.V w) cs vs
  | [], cs, vs, h, hc => by
    simp [closeL] at hc; subst hc
    rw [h.nil_left]; exact All2.nil
  | x :: l, cs, vs, h, hc => by
    obtain ⟨v, vs', e, h1, h2⟩ := h.head
    subst e
    unfold closeL at hc
    split at hc
    · rename_i c cs' hx hl
      injection hc with hc; subst hc
      exact All2.cons (close_rep h1 hx) (closeL_rep h2 hl)
    · cases hc

theorem closeX_rep {x : X} {c : CX} {v : Value} (h : RepX env toks w x v) (hc : x.close = some c) : RepCX env.V w c v := by
  cases x with
  | one y =>
    cases hy : y.close with
    | none => simp [X.close, hy] at hc
    | some d => simp [X.close, hy] at hc; subst hc; exact close_rep h hy
  | agg cs =>
    cases hy : closeL cs with
    | none => simp [X.close, hy] at hc
    | some d =>
      simp [X.close, hy] at hc; subst hc
      obtain ⟨us, e, hu⟩ := h
      exact ⟨us, e, closeL_rep hu hy⟩

theorem closeR_rep {r : R} {c : CX} {v : Value} (h : RepR env toks w r v) (hc : r.close = some c) : RepCX env.V w c v := by
  cases r with
  | x y => exact closeX_rep h hc
  | tup xs => simp [R.close] at hc

theorem open_rep {V : Nat → Nat → Prop} (hV : ∀ b o, V b o → env.V b o) {c : CX} {v : Value} (h : RepCX V w c v) : RepX env toks w c.open v := by
  cases c with
  | one x => exact RepC.mono hV (fun _ _ _ => rfl) h
  | agg cs =>
    obtain ⟨us, e, hu⟩ := h
    exact ⟨us, e, All2.map_left (hu.imp fun _ _ _ h => RepC.mono hV (fun _ _ _ => rfl) h)⟩

theorem openR_rep {V : Nat → Nat → Prop} (hV : ∀ b o, V b o → env.V b o) {c : CR} {v : Value} (h : RepCR V w c v) : RepR env toks w c.open v := by
  cases c with
  | x y => exact open_rep hV h
  | tup xs =>
    obtain ⟨vs, e, hv⟩ := h
    exact ⟨vs, e, All2.map_left (hv.imp fun _ _ _ h => open_rep hV h)⟩

/-- What reads lies in memory that there is. -/
theorem RepC.bound {V : Nat → Nat → Prop} {c : C} {v : Value} (h : RepC V w c v) : RepC (fun b o => V b o ∧ b < w.heap.size) w c v := by
  induction h with
  | v x h => exact .v x h
  | nil c => exact .nil c
  | emp a => exact .emp a
  | sl es sp s b o n cap us hn hc hm hs hl hu hr ih =>
    exact .sl es sp s b o n cap us hn hc hm hs hl (fun j u h => ⟨(hu j u h).1, (hu j u h).2, World.block_lt_of_cell? w _ (hu j u h).1⟩) ih

theorem RepCX.bound {V : Nat → Nat → Prop} {c : CX} {v : Value} (h : RepCX V w c v) : RepCX (fun b o => V b o ∧ b < w.heap.size) w c v := by
  cases c with
  | one x => exact RepC.bound h
  | agg cs => obtain ⟨us, e, hu⟩ := h; exact ⟨us, e, hu.imp fun _ _ _ h => RepC.bound h⟩

theorem RepCR.bound {V : Nat → Nat → Prop} {c : CR} {v : Value} (h : RepCR V w c v) : RepCR (fun b o => V b o ∧ b < w.heap.size) w c v := by
  cases c with
  | x y => exact RepCX.bound h
  | tup xs => obtain ⟨vs, e, hv⟩ := h; exact ⟨vs, e, hv.imp fun _ _ _ h => RepCX.bound h⟩

theorem args_rep (hs : Sim w0 V0 N env σ a w) : ∀ (xs : List Operand) (ds : List D) (cs : List CX), cmpDs xs = some ds → (ds.all fun d => (d.val σ).g) = true → closeArgs (ds.map fun d => (d.val σ).r) = some cs →
    All2 (RepCX env.V w) cs (xs.map a.eval)
  | [], ds, cs, h, _, hc => by
    simp [cmpDs] at h; subst h
    simp [closeArgs] at hc; subst hc
    exact All2.nil
  | x :: xs, ds, cs, h, hg, hc => by
    unfold cmpDs at h
    split at h
    · rename_i d ds' h1 h2
      injection h with h; subst h
      simp only [List.all_cons, Bool.and_eq_true] at hg
      simp only [List.map_cons, closeArgs] at hc
      split at hc
      · rename_i c cs' h3 h4
        injection hc with hc; subst hc
        exact All2.cons (closeR_rep (hs.opr h1 hg.1) h3) (args_rep hs xs ds' cs' h2 hg.2 h4)
      · cases hc
    · cases h

/-- What it is that a call enters. -/
theorem run_func {c : Call} {x : Operand} {f : FuncId} {fs cs : Array Value} (hop : o.op = .call c) (hcal : c.callee = .value x) (hev : a.eval x = .func (.func f) fs cs) (hcl : callable P f = true) :
    (execOp a.eval o).run P w = .ok (.enter f (fs ++ c.args.map a.eval ++ cs)) w := by
  unfold callable at hcl
  cases hf : P.funcs[f]? with
  | none => rw [hf] at hcl; cases hcl
  | some fn =>
  rw [hf] at hcl
  simp only [Bool.and_eq_true, bne_iff_ne] at hcl
  obtain ⟨hb, hname⟩ := hcl
  have hbn2 : fn.body ≠ none := fun e => by rw [e] at hb; cases hb
  simp [execOp, hop, resolve, hcal, hev, Deferred.ofValue, invoke, callFunc, hf, hbn2, hname]

theorem good_callp (hd : ∀ n, o.dst = some n → n < N) {c : Call} {f : FuncId} {x : Operand} {dx : D} {ds : List D} {cs : List CX} {res : CR} (hop : o.op = .call c) (hcal : c.callee = .value x) (hdx : cmpD x = some dx) (hvx : dx.val σ = .k true (rF f)) (hx : cmpDs c.args.toList = some ds) (hg : (ds.all fun d => (d.val σ).g) = true) (hc : closeArgs (ds.map fun d => (d.val σ).r) = some cs)
    {G : World → Prop} (hG : HeldM G V0.M w0) (hm : Meets P G f cs res) : Good P w0 V0 N o σ (σ.put o.dst (.k true res.open)) := fun rd n env a w K Q hs hK => by
  have hev : a.eval x = .func (.func f) #[] #[] := by
    have h := hs.opd hdx
    rw [hvx] at h
    simp only [RepT, if_true] at h
    generalize a.eval x = y at h ⊢
    cases h; rfl
  have hrun := run_func (P := P) (w := w) hop hcal hev hm.1
  simp only [Array.empty_append, Array.append_empty] at hrun
  refine wp_next hrun (fun d e => by cases e) ?_
  rw [Oper.uponIn_enter]
  refine ⟨fun h => (by cases h), ?_⟩
  have ha := args_rep hs c.args.toList ds cs hx hg hc
  have hcall := hm.2 w env.V (c.args.toList.map a.eval) (fun w' hw' => hG w' (hs.below.trans (KeptBut.of_below (M := fun _ => False) hw') (fun _ x => x.elim))) hs.vlt ha
  have harr : (c.args.toList.map a.eval).toArray = c.args.map a.eval := Array.toList_inj.1 (by rw [Array.toList_map])
  rw [harr] at hcall
  refine (show CallsIn (FW rd) (n - 1) P f _ w _ from (callsIn_wide (n := n - 1)).2 hcall).mono fun e w' ⟨v, he, hr, hbel⟩ => ?_
  subst he
  refine hK _ _ _ ((hs.grow hbel).put hd ?_)
  show RepR _ _ _ _ _
  exact openR_rep (fun b o h => h.1.elim .inl fun hh => .inr ⟨hh, h.2⟩) hr.bound

theorem own_dst {o : Oper} {N d : Nat} (hd : ∀ n, o.dst = some n → n < N) (h : N ≤ 10000) (e : o.dst = some d) : ownKey d := .inl (Nat.lt_of_lt_of_le (hd d e) h)

theorem good_box (hd : ∀ n, o.dst = some n → n < N) {ty : TypeId} {x : Operand} {dx : D} {d : Nat} {y : X} (hop : o.op = .box ty x) (hx : cmpD x = some dx) (hdst : o.dst = some d) (hn : σ.objs d = none) (hv : dx.val σ = .k true (.x y)) :
    Good P w0 V0 N o σ ((σ.setObj d ⟨ty, y.cells.length, [y.cells], none⟩).put o.dst (.k true (.x (.one (.ref d 0 0))))) := fun rd n env a w K Q hs hK => by
  have h := hs.opd hx
  rw [hv] at h
  simp only [RepT, if_true] at h
  have hc := RepX.cells (x := y) h
  refine wp_value (v := .pointer (some ⟨w.heap.size, 0, none⟩)) (w' := w.alloc (.cells (a.eval x).cells.toList.toArray ty)) ?_ (hK _ _ _ ((hs.alloc hn (own_dst hd hs.nn hdst) ty y.cells.length [y.cells] (a.eval x).cells.toList (by simpa using hc) (by simp)).put hd ?_))
  · simp [execOp, hop, Instr.box, newVar, newRow]
  · simp only [RepT, if_true]
    exact ⟨w.heap.size, y.cells.length, by simp, by simp⟩

theorem good_zero (hd : ∀ n, o.dst = some n → n < N) {ty : TypeId} {z : List A} {d : Nat} (hop : o.op = .alloc ty) (hz : zeroIn P ty = some z) (hdst : o.dst = some d) (hn : σ.objs d = none) :
    Good P w0 V0 N o σ ((σ.setObj d ⟨ty, z.length, [z], none⟩).put o.dst (.k true (.x (.one (.ref d 0 0))))) := fun rd n env a w K Q hs hK => by
  obtain ⟨i, v, hi, hv, hc⟩ := zeroIn_rep (env := env) (toks := σ.toks) (w := w) hz
  refine wp_value (v := .pointer (some ⟨w.heap.size, 0, none⟩)) (w' := w.alloc (.cells v.cells.toList.toArray ty)) ?_ (hK _ _ _ ((hs.alloc hn (own_dst hd hs.nn hdst) ty z.length [z] v.cells.toList (by simpa using hc) (by simp)).put hd ?_))
  · simp [execOp, hop, Instr.alloc, zeroValue, typeInfo, hi, hv, newVar, newRow]
  · simp only [RepT, if_true]
    exact ⟨w.heap.size, z.length, by simp, by simp⟩

end
end Go.Fx

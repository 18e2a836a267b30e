/- Fx, part X: maps of the function's own: rows and entries side by side. -/
import Derived.Test.YtiomojlcnemnhaaDoorFxJ
namespace Go.Fx
open Go.RowKit

theorem keyEq_iff {d : TypeDesc} {x y : Value} {t : List A} (hx : MapKept.IsKey d x) (hy : MapKept.IsKey d y) : keyEq x (.c (.v y) :: t) = true ↔ y = x := by
  cases d <;> cases x <;> cases y <;> simp_all [MapKept.IsKey, keyEq, MapKept.bytes_beq]

section
variable {P : Program} {env : Env} {w : World} {toks : Nat → Option Tok}

/-- A row and an entry. -/
def RowIs (env : Env) (toks : Nat → Option Tok) (w : World) (r : List A) (e : MapEntry) : Prop := ∃ t, r = .c (.v e.key) :: t ∧ e.key.oneCell' = true ∧ All2 (RepA env toks w) t e.val.cells.toList

theorem aligned {size : Nat} : ∀ {rows : List (List A)} {es : List MapEntry}, rows.length = es.length → (∀ r ∈ rows, r.length = size) → (∀ e ∈ es, e.val.cells.size + 1 = size) → (∀ r ∈ rows, ∃ y t, r = .c (.v y) :: t) →
    All2 (RepA env toks w) rows.flatten (es.flatMap fun e => e.key :: e.val.cells.toList) → All2 (RowIs env toks w) rows es
  | [], [], _, _, _, _, _ => All2.nil
  | r :: rows, e :: es, hl, hr, he, hk, h => by
    obtain ⟨y, t, rfl⟩ := hk r (List.mem_cons_self ..)
    have h1 := hr _ (List.mem_cons_self ..)
    have h2 := he e (List.mem_cons_self ..)
    simp only [List.flatten_cons, List.flatMap_cons, List.cons_append] at h
    obtain ⟨u, us, e1, h3, h4⟩ := h.head
    injection e1 with e1 e2
    subst e1
    have hone : e.key.oneCell' = true := RepA.oneCell h3
    have hty : e.key = y := by cases h3; rfl
    have ht : t.length = e.val.cells.toList.length := by simp at h1 ⊢; omega
    have h5 := h4.take t.length
    have h6 := h4.drop t.length
    rw [← e2, List.take_left' rfl, ht, List.take_left' rfl] at h5
    rw [← e2, List.drop_left' rfl, ht, List.drop_left' rfl] at h6
    refine All2.cons ⟨t, by rw [hty], hone, h5⟩ (aligned (by simpa using hl) (fun r hr' => hr r (List.mem_cons_of_mem _ hr')) (fun e he' => he e (List.mem_cons_of_mem _ he')) (fun r hr' => hk r (List.mem_cons_of_mem _ hr')) h6)
  | [], _ :: _, hl, _, _, _, _ => by simp at hl
  | _ :: _, [], hl, _, _, _, _ => by simp at hl

theorem find_aligned {d : TypeDesc} {x : Value} (hx : MapKept.IsKey d x) : ∀ {rows : List (List A)} {es : List MapEntry} (i : Nat), All2 (RowIs env toks w) rows es → (∀ e ∈ es, MapKept.IsKey d e.key) →
    (rows.find? (keyEq x) = none ∧ Instr.findNow d x es i = some none) ∨
    ∃ j r e, rows.find? (keyEq x) = some r ∧ rows.findIdx (keyEq x) = j ∧ Instr.findNow d x es i = some (some (i + j, e.val)) ∧ rows[j]? = some r ∧ es[j]? = some e ∧ RowIs env toks w r e ∧ e.key = x
  | [], es, i, h, _ => by
    have := h.nil_left; subst this
    exact .inl ⟨rfl, rfl⟩
  | r :: rows, es, i, h, hk => by
    obtain ⟨e, es', rfl, h1, h2⟩ := h.head
    have h1' := h1
    obtain ⟨t, rfl, ht⟩ := h1
    have hke := hk e (List.mem_cons_self ..)
    obtain ⟨q, hq, hiff⟩ := MapKept.sameNow_of_keys hx hke
    cases q with
    | true =>
      have hey : e.key = x := (hiff.1 rfl).symm
      have hkt : keyEq x (.c (.v e.key) :: t) = true := (keyEq_iff hx hke).2 hey
      exact .inr ⟨0, _, e, by simp [hkt], by simp [List.findIdx_cons, hkt], by simp [Instr.findNow, hq], rfl, rfl, h1', hey⟩
    | false =>
      have hney : e.key ≠ x := fun hh => by have := hiff.2 hh.symm; cases this
      have hkt : keyEq x (.c (.v e.key) :: t) = false := by
        cases hc : keyEq x (.c (.v e.key) :: t) with
        | false => rfl
        | true => exact absurd ((keyEq_iff hx hke).1 hc) hney
      rcases find_aligned hx (i + 1) h2 (fun e he => hk e (List.mem_cons_of_mem _ he)) with ⟨g1, g2⟩ | ⟨j, r, e', g1, g2, g3, g4, g5, g6, g7⟩
      · exact .inl ⟨by simp [hkt, g1], by simp [Instr.findNow, hq, g2]⟩
      · refine .inr ⟨j + 1, r, e', by simp [hkt, g1], by simp [List.findIdx_cons, hkt, g2], by simp [Instr.findNow, hq, g3]; omega, by simpa using g4, by simpa using g5, g6, g7⟩

/-- A lookup in a map that is there. -/
theorem run_mlook {t kt et : TypeId} {d : TypeDesc} {r clock : Nat} {es : Array MapEntry} {x zv : Value} {a : Option (Nat × Value)} (comma : Bool) (hm : P.underlying t = some (.map kt et)) (hd : P.underlying kt = some d) (hb : w.heap[r]? = some (.map es clock))
    (hx : MapKept.IsKey d x) (hz : (zeroValue et).run P w = .ok zv w) (hf : Instr.findNow d x es.toList 0 = some a) :
    (Instr.lookup t (.map (some r)) x comma).run P w = .ok (bif comma then .tuple #[(a.map (·.2)).getD zv, .bool a.isSome] else (a.map (·.2)).getD zv) w := by
  cases a with
  | none =>
    cases comma <;> simp [Instr.lookup, run_underlying hm, MapKept.run_getObj_map hb, MapKept.run_checkKey hd hx, MapKept.run_findKey hd hf, hz, Result.andThen]
  | some p =>
    obtain ⟨i, v⟩ := p
    cases comma <;> simp [Instr.lookup, run_underlying hm, MapKept.run_getObj_map hb, MapKept.run_checkKey hd hx, MapKept.run_findKey hd hf, Result.andThen]

/-- The map's block behind a write. -/
def mapNext (es : Array MapEntry) (clock : Nat) (x v : Value) : Option (Nat × Value) → Obj
  | some (i, _) => .map (es.modify i fun e => { key := x, val := v, born := e.born }) clock
  | none => .map (es.push { key := x, val := v, born := clock }) (clock + 1)

/-- A write to a map that is there. -/
theorem run_mapup {t kt et : TypeId} {d : TypeDesc} {r clock : Nat} {es : Array MapEntry} {x v : Value} {a : Option (Nat × Value)} (hm : P.underlying t = some (.map kt et)) (hd : P.underlying kt = some d) (hb : w.heap[r]? = some (.map es clock))
    (hx : MapKept.IsKey d x) (hf : Instr.findNow d x es.toList 0 = some a) (hk : ∀ i u, a = some (i, u) → ∃ e, es[i]? = some e ∧ e.key = x) :
    (Instr.mapUpdate t (.map (some r)) x v).run P w = .ok () { w with heap := w.heap.setIfInBounds r (mapNext es clock x v a) } := by
  cases a with
  | none =>
    simp [Instr.mapUpdate, run_underlying hm, MapKept.run_getObj_map hb, MapKept.run_checkKey hd hx, MapKept.run_findKey hd hf, MapKept.run_setObj_map _ hb, Result.andThen, mapNext]
  | some p =>
    obtain ⟨i, u⟩ := p
    obtain ⟨e, he, hek⟩ := hk i u rfl
    simp [Instr.mapUpdate, run_underlying hm, MapKept.run_getObj_map hb, MapKept.run_checkKey hd hx, MapKept.run_findKey hd hf, he, hek, MapKept.run_keyThatStays hx, MapKept.run_setObj_map _ hb, Result.andThen, mapNext]

theorem form_rep {one : Bool} {c : List A} {v : Value} (h : All2 (RepA env toks w) c v.cells.toList) (h1 : one = true → v.oneCell' = true) (h2 : one = false → ∃ cs, v = .agg cs) : RepX env toks w (formX one c) v := by
  cases one with
  | true =>
    have hv := h1 rfl
    rw [cells_one hv] at h
    match c, h with
    | [x], h => exact h.2 0 x v rfl rfl
    | [], h => have := h.1; simp at this
    | _ :: _ :: _, h => have := h.1; simp at this
  | false =>
    obtain ⟨cs, rfl⟩ := h2 rfl
    exact ⟨cs.toList, by simp, h⟩

theorem mlookO_sound {w0 : World} {V0 : Base} {N : Nat} {σ : S} {a : Act} {t kt et : TypeId} {d : TypeDesc} {one : Bool} (comma : Bool) {z : List A} {i : TypeInfo} {zv : Value} {rm rk : R} {vm vk : Value} (hs : Sim w0 V0 N env σ a w)
    (hxm : RepR env σ.toks w rm vm) (hxk : RepR env σ.toks w rk vk) (hn : (mlookO σ d one comma z rm rk).need) (ht : P.underlying t = some (.map kt et)) (hd : P.underlying kt = some d) (hi : P.info? et = some i) (hzv : i.zero = some zv)
    (hz : All2 (RepA env σ.toks w) z zv.cells.toList) (h1z : one = true → zv.oneCell' = true) (h2z : one = false → ∃ cs, zv = .agg cs) :
    ∃ v, (Instr.lookup t vm vk comma).run P w = .ok v w ∧ RepR env σ.toks w (mlookO σ d one comma z rm rk).val v := by
  unfold mlookO at hn ⊢
  split at hn
  · rename_i k x
    obtain ⟨b, s, hρ, rfl⟩ := (hxm : RepA env σ.toks w (.mapr k) vm)
    have hvk : vk = x := by
      have h : RepC env.V w (.v x) vk := hxk
      cases h; rfl
    subst hvk
    split at hn
    · rename_i bx hbx
      obtain ⟨hmp, hx, hzl⟩ := hn
      obtain ⟨b', us, g1, g2, ⟨ob, g3, g3'⟩, g4, g5, g6⟩ := hs.objs k bx hbx
      rw [g1] at hρ
      injection hρ with hρ; injection hρ with hb _
      subst hb
      unfold Holds at g3'
      rw [hmp] at g3'
      obtain ⟨⟨es, clock, rfl, rfl, hl, hes⟩, hrows⟩ := g3'
      have hal := aligned (by simpa using hl.symm) g5 (fun e he => (hes e he).2.1) hrows g4
      have hzr : (zeroValue et).run P w = .ok zv w := by simp [zeroValue, typeInfo, hi, hzv]
      rcases find_aligned hx 0 hal (fun e he => (hes e he).1) with ⟨q1, q2⟩ | ⟨j, r, e, q1, _, q3, _, q5, ⟨tl, q6, q7⟩, _⟩
      · have hrun := run_mlook comma ht hd g3 hx hzr q2
        have hany : bx.rows.any (keyEq vk) = false := by
          rw [List.any_eq_false]; intro y hy; exact List.find?_eq_none.1 q1 y hy
        refine ⟨_, hrun, ?_⟩
        have hf := form_rep (one := one) hz h1z h2z
        cases comma with
        | true =>
          simp only [mapGet, q1, hany, if_true]
          exact ⟨[zv, .bool false], rfl, All2.cons hf (All2.cons (.v _ rfl) All2.nil)⟩
        | false => simp only [mapGet, q1, Bool.false_eq_true, if_false]; exact hf
      · have hrun := run_mlook comma ht hd g3 hx hzr q3
        have hany : bx.rows.any (keyEq vk) = true := by
          rw [List.any_eq_true]; exact ⟨r, List.mem_of_find?_eq_some q1, List.find?_some q1⟩
        have he : e ∈ es.toList := List.mem_of_getElem? q5
        refine ⟨_, hrun, ?_⟩
        have hf := form_rep (one := one) q7.2 (hes e he).2.2.1 (hes e he).2.2.2
        cases comma with
        | true =>
          simp only [mapGet, q1, hany, if_true, q6, List.tail_cons]
          exact ⟨[e.val, .bool true], rfl, All2.cons hf (All2.cons (.v _ rfl) All2.nil)⟩
        | false => simp only [mapGet, q1, q6, List.tail_cons, Bool.false_eq_true, if_false]; exact hf
    · exact hn.elim
  · exact hn.elim

end
end Go.Fx

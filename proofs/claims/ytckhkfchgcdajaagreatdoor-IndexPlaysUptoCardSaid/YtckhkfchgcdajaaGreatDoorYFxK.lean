import Derived.Test.YtckhkfchgcdajaaGreatDoorYFxD
import Derived.Laws.IdiomStrings
import Derived.Laws.Tables
namespace Go.Fx
open Go.RowKit
section
variable {w0 : World} {V0 : Base} {N : Nat} {env : Env} {σ : S} {a : Act} {w : World}
theorem heap_lt {w : World} {b : Nat} {x : Obj} (h : w.heap[b]? = some x) : b < w.heap.size := (Array.getElem?_eq_some_iff.1 h).1
theorem Sim.allocO (h : Sim w0 V0 N env σ a w) {d : Nat} (hd : σ.objs d = none) (hk : ownKey d) (ty size : Nat) (rows : List (List A)) (mp : Option (TypeDesc × Bool)) (ob : Obj) (us : List Value) (hO : Holds ⟨ty, size, rows, mp⟩ us ob) (hu : All2 (RepA env σ.toks w) rows.flatten us)
    (hs : ∀ r ∈ rows, r.length = size) :
    Sim w0 V0 N { env with ρ := fun k => if k = d then some (w.heap.size, size) else env.ρ k } (σ.setObj d ⟨ty, size, rows, mp⟩) a (w.alloc ob) := by
  have hdn := h.dom d hk hd
  have hb : Below w.heap.size w (w.alloc ob) := (Below.refl _ _).alloc (Nat.le_refl _) _
  have he : env.Le { env with ρ := fun k => if k = d then some (w.heap.size, size) else env.ρ k } σ.toks σ.toks w (w.alloc ob) :=
    ⟨fun _ _ x => x, fun b o x => hb.cell (p := ⟨b, o, none⟩) (h.vlt b o x), fun k b x => by
      have hk : k ≠ d := fun e => by rw [e, hdn] at x; cases x
      show (if k = d then _ else _) = _
      rw [if_neg hk]; exact x, fun _ t x => ⟨t, x, rfl, Nat.le_refl _, fun _ => rfl⟩⟩
  have hρlt : ∀ k b s, env.ρ k = some (b, s) → b < w.heap.size := h.ρlt
  exact {
    below := h.below.trans (KeptBut.of_below (M := fun _ => False) hb) (fun _ x => x.elim)
    defers := h.defers
    size := h.size
    nn := h.nn
    vlt := fun b o hv => Nat.lt_of_lt_of_le (h.vlt b o hv) hb.size
    vnew := h.vnew
    vold := h.vold
    vcell := fun b o x => (hb.cell (p := ⟨b, o, none⟩) (h.vlt b o (h.vold b o x))).trans (h.vcell b o x)
    v0 := h.v0
    tmps := fun t => (h.tmps t).mono he
    objs := fun k x hx => by
      simp only [S.setObj] at hx
      by_cases e : k = d
      · rw [if_pos e] at hx
        injection hx with hx
        subst hx
        refine ⟨w.heap.size, us, by simp [e], .inl h.below.size, ⟨ob, heap_alloc_new w _, hO⟩, hu.imp fun _ _ _ => RepA.mono he, hs, fun o hv => ?_⟩
        have := h.vlt _ o hv
        omega
      · rw [if_neg e] at hx
        obtain ⟨b, us', h1, h2, h3, h4, h5⟩ := h.objs k x hx
        exact ⟨b, us', by simp only [if_neg e]; exact h1, h2, h3.of (Below.heap_alloc w _ b h3.lt), h4.imp fun _ _ _ => RepA.mono he, h5⟩
    dom := fun k ho hk => by
      simp only [S.setObj] at hk
      by_cases e : k = d
      · rw [if_pos e] at hk; cases hk
      · rw [if_neg e] at hk
        simp only [if_neg e]
        exact h.dom k ho hk
    ρlt := fun k b s hk => by
      simp only at hk
      by_cases e : k = d
      · rw [if_pos e] at hk; injection hk with hk; injection hk with hk _; subst hk
        exact heap_lt (heap_alloc_new w ob)
      · rw [if_neg e] at hk
        exact Nat.lt_of_lt_of_le (h.ρlt k b s hk) hb.size
    τlt := fun k v b x y => Nat.lt_of_lt_of_le (h.τlt k v b x y) hb.size
    inj := fun k k' b s s' hk hk' => by
      simp only at hk hk'
      by_cases e : k = d
      · by_cases e' : k' = d
        · rw [e, e']
        · rw [if_pos e] at hk
          rw [if_neg e'] at hk'
          injection hk with hk; injection hk with hk _
          have := hρlt k' b s' hk'
          omega
      · by_cases e' : k' = d
        · rw [if_pos e'] at hk'
          rw [if_neg e] at hk
          injection hk' with hk'; injection hk' with hk' _
          have := hρlt k b s hk
          omega
        · rw [if_neg e] at hk
          rw [if_neg e'] at hk'
          exact h.inj k k' b s s' hk hk'
    toks := fun k t ht => by
      obtain ⟨v, xs, h1, h2, h3⟩ := h.toks k t ht
      refine ⟨v, xs, h1, h2.alloc _, fun b hv => ⟨(h3 b hv).1, (h3 b hv).2.1, fun k' s => ?_⟩⟩
      simp only
      by_cases e : k' = d
      · rw [if_pos e]
        intro hh
        injection hh with hh; injection hh with hh _
        have := (h2.lt b hv).2
        omega
      · rw [if_neg e]; exact (h3 b hv).2.2 k' s
    tdom := h.tdom
    tinj := h.tinj
    sep := fun k k' v b s hk hv hr => by
      simp only at hr
      by_cases e : k' = d
      · rw [if_pos e] at hr; injection hr with hr; injection hr with hr _
        have := h.τlt k v b hk hv
        omega
      · rw [if_neg e] at hr; exact h.sep k k' v b s hk hv hr
    ext := by
      obtain ⟨F, h1, h2⟩ := h.ext
      refine ⟨F, σ.ext.mono (w := w) (fun _ _ x => x) (fun b o x => hb.cell (p := ⟨b, o, none⟩) (h.vlt b o x)) (fun b x => hb.block b (h2 b x).2.1) h1, fun b x => ?_⟩
      obtain ⟨g1, g2, g3, g4, g5⟩ := h2 b x
      refine ⟨g1, Nat.lt_of_lt_of_le g2 hb.size, g3, fun k s => ?_, g5⟩
      simp only
      by_cases e : k = d
      · rw [if_pos e]
        intro hh
        injection hh with hh; injection hh with hh _
        omega
      · rw [if_neg e]; exact g4 k s
    own := h.own
    keepO := fun k hn => by
      have e : k ≠ d := fun e => hn (e ▸ hk)
      simp only [if_neg e]
      exact h.keepO k hn
    keepN := h.keepN
    keepT := h.keepT }
theorem Sim.alloc (h : Sim w0 V0 N env σ a w) {d : Nat} (hd : σ.objs d = none) (hk : ownKey d) (ty size : Nat) (rows : List (List A)) (us : List Value) (hu : All2 (RepA env σ.toks w) rows.flatten us)
    (hs : ∀ r ∈ rows, r.length = size) :
    Sim w0 V0 N { env with ρ := fun k => if k = d then some (w.heap.size, size) else env.ρ k } (σ.setObj d ⟨ty, size, rows, none⟩) a (w.alloc (.cells us.toArray ty)) :=
  h.allocO hd hk ty size rows none (.cells us.toArray ty) us ⟨[], by simp⟩ hu hs
end
end Go.Fx

namespace Go.Fx
open Go.RowKit
structure Notes where
  ops : List (Nat × Option (List Nat))
  fz : List (Nat × Prep)
end Go.Fx

namespace Go.Fx
open Go.RowKit
section
variable {P : Program} {w : World}
theorem add_at (b o n : Nat) : Addr.add ⟨b, o, none⟩ n = ⟨b, o + n, none⟩ := Addr.add_lit b o n
def over (us : List Value) (o : Nat) (vs : List Value) : List Value := us.take o ++ vs ++ us.drop (o + vs.length)
theorem over_cons {us : List Value} {o : Nat} {v : Value} {vs : List Value} (h : o + (vs.length + 1) ≤ us.length) : over (us.set o v) (o + 1) vs = over us o (v :: vs) := by
  unfold over
  have h1 : (us.set o v).take (o + 1) = us.take o ++ [v] := by
    rw [List.take_succ_eq_append_getElem (by simp; omega)]
    simp [List.take_set_of_le]
  have h2 : (us.set o v).drop (o + 1 + vs.length) = us.drop (o + (vs.length + 1)) := by
    rw [List.drop_set_of_lt (by omega)]
    congr 1; omega
  rw [h1, h2]
  simp
theorem run_storeCells (b o : Nat) (ty : TypeId) : ∀ (vs : List Value) (i : Nat) (w : World) (us : List Value), w.heap[b]? = some (.cells us.toArray ty (0, 0)) → o + i + vs.length ≤ us.length →
    (∀ v ∈ vs, v.oneCell' = true) → ∃ w', (storeCells ⟨b, o, none⟩ vs i).run P w = .ok () w' ∧ w'.heap[b]? = some (.cells (over us (o + i) vs).toArray ty (0, 0)) ∧ Below b w w' ∧ ∀ j, j ≠ b → w'.heap[j]? = w.heap[j]?
  | [], i, w, us, h, _, _ => ⟨w, rfl, by simpa [over] using h, Below.refl _ _, fun _ _ => rfl⟩
  | v :: vs, i, w, us, h, hl, hv => by
    have hlt : o + i < us.length := by simp at hl; omega
    have hcell : w.cell? ⟨b, o + i, none⟩ = some us[o + i] := by
      rw [cell_of_row w b (o + i) us.toArray ty (0, 0) h]
      simp [hlt]
    have hfr : w.frozen? ⟨b, o + i, none⟩ = false := by simp [World.frozen?, h]
    have hset : (w.setCell ⟨b, o + i, none⟩ v).heap[b]? = some (.cells (us.set (o + i) v).toArray ty (0, 0)) := by
      simp [World.setCell, Array.getElem?_modify, h]
    obtain ⟨w', hr, hh, hb, ho⟩ := run_storeCells b o ty vs (i + 1) (w.setCell ⟨b, o + i, none⟩ v) (us.set (o + i) v) hset (by simp at hl ⊢; omega) (fun u hu => hv u (List.mem_cons_of_mem _ hu))
    refine ⟨w', ?_, ?_, ((Below.refl b w).setCell (p := ⟨b, o + i, none⟩) (Nat.le_refl _) v).trans hb, fun j hj => (ho j hj).trans (Below.heap_setCell w ⟨b, o + i, none⟩ v j hj)⟩
    · simp only [storeCells, Sem.run_bind, add_at, run_store P w _ v .plain (hv v (by simp)), hcell, hfr]
      simpa using hr
    · rw [hh, show o + (i + 1) = (o + i) + 1 by omega, over_cons (by simp at hl; omega)]
theorem flatten_at {α : Type} {s : Nat} : ∀ (l : List (List α)) (i m : Nat), (∀ e ∈ l, e.length = s) → m < s → l.flatten[i * s + m]? = (l[i]?).bind (·[m]?)
  | [], i, m, _, _ => by simp
  | e :: l, 0, m, h, hm => by
    have he : e.length = s := h e (by simp)
    simp only [List.flatten_cons, Nat.zero_mul, Nat.zero_add, List.getElem?_cons_zero, Option.bind_some]
    rw [List.getElem?_append_left (by omega)]
  | e :: l, i + 1, m, h, hm => by
    have he : e.length = s := h e (by simp)
    have ih := flatten_at l i m (fun x hx => h x (List.mem_cons_of_mem _ hx)) hm
    simp only [List.flatten_cons, List.getElem?_cons_succ]
    rw [List.getElem?_append_right (by rw [he, Nat.succ_mul]; omega), he, ← ih]
    congr 1
    rw [Nat.succ_mul]; omega
theorem length_flatten {α : Type} {s : Nat} : ∀ (l : List (List α)), (∀ e ∈ l, e.length = s) → l.flatten.length = l.length * s
  | [], _ => by simp
  | e :: l, h => by
    rw [List.flatten_cons, List.length_append, length_flatten l (fun x hx => h x (List.mem_cons_of_mem _ hx)), h e (by simp), List.length_cons, Nat.succ_mul]
    omega
end
end Go.Fx

namespace Go.Fx
open Go.RowKit
section
variable {P : Program} {w0 : World} {V0 : Base} {N : Nat} {env : Env} {σ σ' : S} {a : Act} {w : World} {o : Oper} {toks : Nat → Option Tok}
theorem RepT.r {t : T} {v : Value} (h : RepT env toks w t v) (hg : t.g = true) : RepR env toks w t.r v := by
  cases t with
  | k g r => simp only [T.g] at hg; subst hg; exact h
  | lost => cases hg
abbrev FW (rd : Option Nat) : Fence := { Fence.wide with round := rd }
def Good (P : Program) (w0 : World) (V0 : Base) (N : Nat) (o : Oper) (σ σ' : S) : Prop :=
  ∀ (rd : Option Nat) (n : Nat) env a w K Q, Sim w0 V0 N env σ a w → (∀ env' a' w', Sim w0 V0 N env' σ' a' w' → K a' w') → o.wpIn (FW rd) n P a w K Q
theorem wp_next {rd : Option Nat} {n : Nat} {K : Act → World → Prop} {Q : Exit → Act → World → Prop} {x : Next} {w' : World} (h : (execOp a.eval o).run P w = .ok x w') (hx : ∀ d, x ≠ .defer d)
    (hK : o.uponIn (FW rd) n P a K Q (.ok x w')) : o.wpIn (FW rd) n P a w K Q := by
  refine ⟨fun _ _ => trivial, ?_⟩
  rw [Oper.semAt_eq, h]
  · exact hK
  · intro c hc
    have h' := h
    simp only [execOp, hc, Sem.run_bind] at h'
    cases hr : (resolve a.eval c o.type).run P w with
    | ok d w2 => rw [hr] at h'; simp [Result.andThen] at h'; exact hx d h'.1.symm
    | halt y w2 => rw [hr] at h'; simp [Result.andThen] at h'
theorem wp_value {rd : Option Nat} {n : Nat} {v : Value} {w' : World} {K : Act → World → Prop} {Q : Exit → Act → World → Prop} (h : (execOp a.eval o).run P w = .ok (.value v) w') (hK : K (a.put o.dst v) w') : o.wpIn (FW rd) n P a w K Q :=
  wp_next h (fun d e => by cases e) hK
theorem Good.pure {t : T} (hd : ∀ n, o.dst = some n → n < N) (h : ∀ env a w, Sim w0 V0 N env σ a w → ∃ v, (execOp a.eval o).run P w = .ok (.value v) w ∧ RepT env σ.toks w t v) :
    Good P w0 V0 N o σ (σ.put o.dst t) := fun rd n env a w K Q hs hK => by
  obtain ⟨v, hr, ht⟩ := h env a w hs
  exact wp_value hr (hK env _ _ (hs.put hd ht))
end
end Go.Fx

namespace Go.Fx
open Go.RowKit
section
variable {P : Program} {w0 : World} {V0 : Base} {N : Nat} {env : Env} {σ σ' : S} {a : Act} {w : World} {o : Oper} {toks : Nat → Option Tok}
end
end Go.Fx

namespace Go.Fx
open Go.RowKit
section
variable {P : Program} {w0 : World} {V0 : Base} {N : Nat} {env : Env} {σ σ' : S} {a : Act} {w : World} {o : Oper} {toks : Nat → Option Tok}
theorem cells_one {v : Value} (h : v.oneCell' = true) : v.cells = #[v] := by cases v <;> first | rfl | cases h
theorem RepX.cells {x : X} {v : Value} (h : RepX env toks w x v) : All2 (RepA env toks w) x.cells v.cells.toList := by
  cases x with
  | one y => rw [cells_one (RepA.oneCell h)]; exact All2.cons h All2.nil
  | agg cs => obtain ⟨us, e, hu⟩ := h; subst e; simpa [Value.cells, X.cells] using hu
theorem RepR.cells {r : R} {l : List A} {v : Value} (h : RepR env toks w r v) (hl : r.cells = some l) : All2 (RepA env toks w) l v.cells.toList := by
  cases r with
  | x y => simp only [R.cells, Option.some.injEq] at hl; subst hl; exact RepX.cells h
  | tup xs => simp [R.cells] at hl
theorem foldl_over : ∀ (vs : List Value) (k off : Nat) (cs : Array Value), off + k + vs.length ≤ cs.size →
    ((vs.zipIdx k).foldl (fun cs (x : Value × Nat) => cs.setIfInBounds (off + x.2) x.1) cs).toList = over cs.toList (off + k) vs
  | [], k, off, cs, _ => by simp [over]
  | v :: vs, k, off, cs, h => by
    simp only [List.zipIdx_cons, List.foldl_cons]
    rw [foldl_over vs (k + 1) off _ (by simp at h ⊢; omega)]
    simp only [Array.toList_setIfInBounds]
    rw [show off + (k + 1) = (off + k) + 1 by omega, over_cons (by simp at h ⊢; omega)]
theorem All2.splice {p : A → Value → Prop} {cs : List A} {us : List Value} {off : Nat} {l : List A} {vs : List Value} (h : All2 p cs us) (hl : All2 p l vs) : All2 p (splice cs off l) (over us off vs) := by
  unfold Fx.splice over
  rw [hl.1]
  exact ((h.take off).append hl).append (h.drop _)
end
end Go.Fx

namespace Go.Fx
open Go.RowKit
section
variable {P : Program} {env : Env} {w : World} {toks : Nat → Option Tok}
end
end Go.Fx

namespace Go.Fx
open Go.RowKit
section
variable {P : Program} {w0 : World} {V0 : Base} {N : Nat} {env : Env} {σ σ' : S} {a : Act} {w : World} {o : Oper} {toks : Nat → Option Tok}
theorem Good.val {r : R} (hd : ∀ n, o.dst = some n → n < N) (h : ∀ env a w, Sim w0 V0 N env σ a w → ∃ v, (execOp a.eval o).run P w = .ok (.value v) w ∧ RepR env σ.toks w r v) :
    Good P w0 V0 N o σ (σ.put o.dst (.k true r)) := Good.pure hd fun env a w hs => by
  obtain ⟨v, h1, h2⟩ := h env a w hs
  exact ⟨v, h1, by simpa [RepT] using h2⟩
end
end Go.Fx

/- Fx, part A: values told without addresses, and what it is for memory to hold them. -/
import Derived.WalkKit
import Derived.WalkLawsBesides
namespace Go.Fx
open Go.RowKit

/-- What one cell of memory holds, told without addresses: a scalar, or a slice over rows that nobody writes (elements, then the elements that are known in the room behind). -/
inductive C where
  | v (x : Value)
  | sl (es sp : List (List C))
  deriving Inhabited

/-- What a cell of the function's own holds: closed, a slice that it appends to, a pointer to a box of its own, a pointer into a row that nobody writes, or something unknown. -/
inductive A where
  | c (x : C)
  | nil
  | own (k : Nat) (es : List (List C))
  | ref (k i off : Nat)
  | arr (k off len cap : Nat)
  | mapr (k : Nat)
  | elem (es sp : List (List C)) (i off : Nat)
  | clo (f : FuncId) (fs cs : List A)
  | yld (l : Nat) (ta : Array Value) (ks : List Nat) (xs : List A)
  | ifc (t : TypeId) (a : A)
  | lost
  deriving Inhabited

inductive X where
  | one (a : A)
  | agg (cs : List A)
  deriving Inhabited

inductive R where
  | x (x : X)
  | tup (xs : List X)
  deriving Inhabited

/-- What a temporary holds: r where g is true, nothing (undef) where g is false; or anything. -/
inductive T where
  | k (g : Bool) (r : R)
  | lost
  deriving Inhabited

/-- A block of the function's own: rows of cells, all of one length (a box is one row). -/
structure Box where
  ty : TypeId
  size : Nat
  rows : List (List A)
  mp : Option (TypeDesc × Bool)

structure Tok where
  ty : TypeId
  size : Nat
  n : Nat

/-- What is held beside, told by nobody here: V: the cells that nobody writes; F: the blocks that it lies in. -/
structure XP where
  holds : (Nat → Nat → Prop) → (Nat → Prop) → World → Prop
  mono : ∀ {V V' : Nat → Nat → Prop} {F : Nat → Prop} {w w' : World}, (∀ b o, V b o → V' b o) → (∀ b o, V b o → w'.cell? ⟨b, o, none⟩ = w.cell? ⟨b, o, none⟩) → (∀ b, F b → w'.heap[b]? = w.heap[b]?) → holds V F w → holds V' F w'
  mark : Option Nat
  law : ∀ {V : Nat → Nat → Prop} {F : Nat → Prop} {w : World} {r : Nat}, mark = some r → holds V F w → F r ∧ w.heap[r]? = some (.deferred (some []))

/-- Nothing is held beside. -/
def XP.emp : XP := ⟨fun _ F _ => ∀ b, ¬ F b, fun _ _ _ h => h, none, fun h => by cases h⟩

/-- A heap: boxes, tokens, and what is held beside. -/
structure Hp where
  objs : Nat → Option Box
  toks : Nat → Option Tok
  ext : XP

structure S where
  tmps : Nat → T
  objs : Nat → Option Box
  toks : Nat → Option Tok
  ext : XP

def S.hp (σ : S) : Hp := ⟨σ.objs, σ.toks, σ.ext⟩

/-- Two lists, element by element. -/
def All2 {α β : Type} (p : α → β → Prop) (l : List α) (m : List β) : Prop :=
  l.length = m.length ∧ ∀ (j : Nat) (x : α) (y : β), l[j]? = some x → m[j]? = some y → p x y

section all2
variable {α β : Type} {p q : α → β → Prop}
theorem All2.nil : All2 p [] [] := ⟨rfl, fun j x y h => by simp at h⟩
theorem All2.cons {x : α} {y : β} {l : List α} {m : List β} (h : p x y) (t : All2 p l m) : All2 p (x :: l) (y :: m) := by
  refine ⟨by simp [t.1], fun j a b ha hb => ?_⟩
  cases j with
  | zero => simp at ha hb; subst ha; subst hb; exact h
  | succ j => exact t.2 j a b (by simpa using ha) (by simpa using hb)
theorem All2.imp {l : List α} {m : List β} (h : All2 p l m) (f : ∀ x y, x ∈ l → p x y → q x y) : All2 q l m :=
  ⟨h.1, fun j x y hx hy => f x y (List.mem_of_getElem? hx) (h.2 j x y hx hy)⟩
theorem All2.head {x : α} {l : List α} {m : List β} (h : All2 p (x :: l) m) : ∃ y m', m = y :: m' ∧ p x y ∧ All2 p l m' := by
  cases m with
  | nil => have := h.1; simp at this
  | cons y m =>
    refine ⟨y, m, rfl, h.2 0 x y (by simp) (by simp), by have := h.1; simpa using this, fun j a b ha hb => h.2 (j + 1) a b (by simpa using ha) (by simpa using hb)⟩
theorem All2.nil_left {m : List β} (h : All2 p [] m) : m = [] := by have := h.1; exact List.eq_nil_of_length_eq_zero this.symm
theorem All2.append {l l' : List α} {m m' : List β} (h : All2 p l m) (h' : All2 p l' m') : All2 p (l ++ l') (m ++ m') := by
  refine ⟨by simp [h.1, h'.1], fun j x y hx hy => ?_⟩
  by_cases hj : j < l.length
  · rw [List.getElem?_append_left hj] at hx
    rw [List.getElem?_append_left (by rw [← h.1]; exact hj)] at hy
    exact h.2 j x y hx hy
  · rw [List.getElem?_append_right (by omega)] at hx
    rw [List.getElem?_append_right (by rw [← h.1]; omega), ← h.1] at hy
    exact h'.2 _ x y hx hy
theorem All2.take {l : List α} {m : List β} (h : All2 p l m) (n : Nat) : All2 p (l.take n) (m.take n) := by
  refine ⟨by simp [h.1], fun j x y hx hy => ?_⟩
  rw [List.getElem?_take] at hx hy
  split at hx
  · rw [if_pos ‹_›] at hy; exact h.2 j x y hx hy
  · cases hx
theorem All2.drop {l : List α} {m : List β} (h : All2 p l m) (n : Nat) : All2 p (l.drop n) (m.drop n) := by
  refine ⟨by simp [h.1], fun j x y hx hy => ?_⟩
  rw [List.getElem?_drop] at hx hy
  exact h.2 _ x y hx hy
theorem All2.set {l : List α} {m : List β} (h : All2 p l m) (n : Nat) {x : α} {y : β} (hxy : p x y) : All2 p (l.set n x) (m.set n y) := by
  refine ⟨by simp [h.1], fun j a b ha hb => ?_⟩
  rw [List.getElem?_set] at ha hb
  by_cases e : n = j
  · subst e
    by_cases hl : n < l.length
    · rw [if_pos rfl, if_pos hl] at ha
      rw [if_pos rfl, if_pos (by rw [← h.1]; exact hl)] at hb
      cases ha; cases hb; exact hxy
    · rw [if_pos rfl, if_neg hl] at ha; cases ha
  · rw [if_neg e] at ha hb
    exact h.2 j a b ha hb
theorem All2.map_left {γ : Type} {f : γ → α} {l : List γ} {m : List β} (h : All2 (fun x y => p (f x) y) l m) : All2 p (l.map f) m := by
  refine ⟨by simp [h.1], fun j x y hx hy => ?_⟩
  rw [List.getElem?_map] at hx
  cases hj : l[j]? with
  | none => rw [hj] at hx; cases hx
  | some z => rw [hj] at hx; simp at hx; subst hx; exact h.2 j z y hj hy
theorem All2.of_map_left {γ : Type} {f : γ → α} {l : List γ} {m : List β} (h : All2 p (l.map f) m) : All2 (fun x y => p (f x) y) l m := by
  refine ⟨by simpa using h.1, fun j x y hx hy => h.2 j (f x) y (by simp [hx]) hy⟩
theorem All2.get {l : List α} {m : List β} (h : All2 p l m) {j : Nat} {x : α} (hx : l[j]? = some x) : ∃ y, m[j]? = some y ∧ p x y := by
  have hj : j < m.length := by rw [← h.1]; exact (List.getElem?_eq_some_iff.1 hx).1
  exact ⟨m[j], List.getElem?_eq_getElem hj, h.2 j x _ hx (List.getElem?_eq_getElem hj)⟩
theorem All2.get' {l : List α} {m : List β} (h : All2 p l m) {j : Nat} {y : β} (hy : m[j]? = some y) : ∃ x, l[j]? = some x ∧ p x y := by
  have hj : j < l.length := by rw [h.1]; exact (List.getElem?_eq_some_iff.1 hy).1
  exact ⟨l[j], List.getElem?_eq_getElem hj, h.2 j _ y (List.getElem?_eq_getElem hj) hy⟩
end all2

/-- Does the value v, in the world w, read as the closed cell? V: the cells that nobody writes any more. -/
inductive RepC (V : Nat → Nat → Prop) (w : World) : C → Value → Prop
  | v (x : Value) (h : x.oneCell' = true) : RepC V w (.v x) x
  | nil (c : Nat) : RepC V w (.sl [] []) (.slice none 0 0)
  | emp (a : Addr) : RepC V w (.sl [] []) (.slice (some a) 0 0)
  | sl (es sp : List (List C)) (s b o n cap : Nat) (us : List Value)
      (hn : n = es.length) (hc : es.length + sp.length ≤ cap) (hm : cap ≤ maxLen) (hw : ∀ e ∈ es ++ sp, e.length = s)
      (hl : us.length = (es ++ sp).flatten.length)
      (hu : ∀ (j : Nat) (u : Value), us[j]? = some u → w.cell? ⟨b, o + j, none⟩ = some u ∧ V b (o + j))
      (hr : ∀ (j : Nat) (c : C) (u : Value), (es ++ sp).flatten[j]? = some c → us[j]? = some u → RepC V w c u) :
      RepC V w (.sl es sp) (.slice (some ⟨b, o, none⟩) n cap)

theorem RepC.mono {V V' : Nat → Nat → Prop} {w w' : World} (hV : ∀ b o, V b o → V' b o) (hw : ∀ b o, V b o → w'.cell? ⟨b, o, none⟩ = w.cell? ⟨b, o, none⟩)
    {c : C} {x : Value} (h : RepC V w c x) : RepC V' w' c x := by
  induction h with
  | v x h => exact .v x h
  | nil c => exact .nil c
  | emp a => exact .emp a
  | sl es sp s b o n cap us hn hc hm hs hl hu hr ih =>
    exact .sl es sp s b o n cap us hn hc hm hs hl (fun j u h => ⟨(hw _ _ (hu j u h).2).trans (hu j u h).1, hV _ _ (hu j u h).2⟩) ih

theorem RepC.oneCell {V : Nat → Nat → Prop} {w : World} {c : C} {x : Value} (h : RepC V w c x) : x.oneCell' = true := by
  cases h with
  | v x h => exact h
  | nil c => rfl
  | emp a => rfl
  | sl => rfl

structure Env where
  V : Nat → Nat → Prop
  ρ : Nat → Option (Nat × Nat)
  τ : Nat → Option Value

mutual
/-- Does the value read as the open cell? -/
def RepA (env : Env) (toks : Nat → Option Tok) (w : World) : A → Value → Prop
  | .c x, v => RepC env.V w x v
  | .own k es, v => RepC env.V w (.sl es []) v ∧ ∃ t, toks k = some t ∧ es.length ≤ t.n ∧ (∀ e ∈ es, e.length = t.size) ∧ (es.length = t.n → env.τ k = some v)
  | .nil, v => v = .slice none 0 0
  | .ref k i off, v => ∃ b s, env.ρ k = some (b, s) ∧ v = .pointer (some ⟨b, i * s + off, none⟩)
  | .arr k off len cap, v => ∃ b s cap', env.ρ k = some (b, s) ∧ v = .slice (some ⟨b, off * s, none⟩) len cap' ∧ cap ≤ cap' ∧ cap' ≤ maxLen
  | .mapr k, v => ∃ b s, env.ρ k = some (b, s) ∧ v = .map (some b)
  | .elem es sp i off, v => ∃ b o n cap s, v = .pointer (some ⟨b, o + i * s + off, none⟩) ∧ i < es.length ∧ (∀ e ∈ es ++ sp, e.length = s) ∧ RepC env.V w (.sl es sp) (.slice (some ⟨b, o, none⟩) n cap)
  | .clo f fs cs, v => ∃ us vs : List Value, v = .func (.func f) us.toArray vs.toArray ∧ RepAs env toks w fs us ∧ RepAs env toks w cs vs
  | .yld l ta ks xs, v => v = .func (.yield l) #[] #[] ∧ RepAs env toks w xs (ks.map fun k => ta.getD k undef)
  | .ifc t a, v => ∃ u, v = .iface t u ∧ RepA env toks w a u
  | .lost, v => v.oneCell' = true
/-- .. and one behind the other. -/
def RepAs (env : Env) (toks : Nat → Option Tok) (w : World) : List A → List Value → Prop
  | [], [] => True
  | x :: xs, y :: ys => RepA env toks w x y ∧ RepAs env toks w xs ys
  | _, _ => False
end

theorem repAs_iff {env : Env} {toks : Nat → Option Tok} {w : World} : ∀ {xs : List A} {ys : List Value}, RepAs env toks w xs ys ↔ All2 (RepA env toks w) xs ys
  | [], [] => ⟨fun _ => All2.nil, fun _ => trivial⟩
  | x :: xs, y :: ys => ⟨fun h => All2.cons h.1 (repAs_iff.1 h.2), fun h => by
      obtain ⟨y', ys', e, h1, h2⟩ := h.head
      injection e with e1 e2; subst e1; subst e2
      exact ⟨h1, repAs_iff.2 h2⟩⟩
  | [], _ :: _ => ⟨fun h => h.elim, fun h => by have := h.1; simp at this⟩
  | _ :: _, [] => ⟨fun h => h.elim, fun h => by have := h.1; simp at this⟩

theorem RepA.oneCell {env : Env} {toks : Nat → Option Tok} {w : World} {a : A} {v : Value} (h : RepA env toks w a v) : v.oneCell' = true := by
  cases a with
  | c x => exact RepC.oneCell h
  | own k es => exact RepC.oneCell h.1
  | nil => cases h; rfl
  | ref k i off => obtain ⟨b, s, _, rfl⟩ := h; rfl
  | arr k off len cap => obtain ⟨b, s, _, _, rfl, _⟩ := h; rfl
  | mapr k => obtain ⟨b, s, _, rfl⟩ := h; rfl
  | elem es sp i off => obtain ⟨b, o, n, cap, s, rfl, _⟩ := h; rfl
  | clo f fs cs => obtain ⟨us, vs, rfl, _⟩ := h; rfl
  | yld l ta ks xs => obtain ⟨rfl, _⟩ := h; rfl
  | ifc t a => obtain ⟨u, rfl, _⟩ := h; rfl
  | lost => exact h

/-- How a world, its keys and its tokens may go on: what is read stays. -/
structure Env.Le (env env' : Env) (toks toks' : Nat → Option Tok) (w w' : World) : Prop where
  V : ∀ b o, env.V b o → env'.V b o
  cell : ∀ b o, env.V b o → w'.cell? ⟨b, o, none⟩ = w.cell? ⟨b, o, none⟩
  ρ : ∀ k b, env.ρ k = some b → env'.ρ k = some b
  tok : ∀ k t, toks k = some t → ∃ t', toks' k = some t' ∧ t'.size = t.size ∧ t.n ≤ t'.n ∧ (t'.n = t.n → env'.τ k = env.τ k)

mutual
theorem RepA.mono {env env' : Env} {toks toks' : Nat → Option Tok} {w w' : World} (h : env.Le env' toks toks' w w') : ∀ {a : A} {v : Value}, RepA env toks w a v → RepA env' toks' w' a v
  | .c x, v, hr => RepC.mono h.V h.cell hr
  | .own k es, v, hr => by
    obtain ⟨h1, t, ht, hl, hs, he⟩ := hr
    obtain ⟨t', ht', hsz, hn, hv⟩ := h.tok k t ht
    refine ⟨h1.mono h.V h.cell, t', ht', by omega, fun e m => by rw [hsz]; exact hs e m, fun e => ?_⟩
    have : t'.n = t.n := by omega
    rw [hv this]; exact he (by omega)
  | .nil, v, hr => hr
  | .ref k i off, v, hr => by obtain ⟨b, s, hb, hv⟩ := hr; exact ⟨b, s, h.ρ k _ hb, hv⟩
  | .arr k off len cap, v, hr => by obtain ⟨b, s, c, hb, hv⟩ := hr; exact ⟨b, s, c, h.ρ k _ hb, hv⟩
  | .mapr k, v, hr => by obtain ⟨b, s, hb, hv⟩ := hr; exact ⟨b, s, h.ρ k _ hb, hv⟩
  | .elem es sp i off, v, hr => by
    obtain ⟨b, o, n, cap, s, h1, h2, h3, h4⟩ := hr
    exact ⟨b, o, n, cap, s, h1, h2, h3, h4.mono h.V h.cell⟩
  | .clo f fs cs, v, hr => by
    obtain ⟨us, vs, h1, h2, h3⟩ := hr
    exact ⟨us, vs, h1, RepAs.mono h h2, RepAs.mono h h3⟩
  | .yld l ta ks xs, v, hr => by
    obtain ⟨h1, h2⟩ := hr
    exact ⟨h1, RepAs.mono h h2⟩
  | .ifc t a, v, hr => by
    obtain ⟨u, h1, h2⟩ := hr
    exact ⟨u, h1, RepA.mono h h2⟩
  | .lost, v, hr => hr
theorem RepAs.mono {env env' : Env} {toks toks' : Nat → Option Tok} {w w' : World} (h : env.Le env' toks toks' w w') : ∀ {xs : List A} {ys : List Value}, RepAs env toks w xs ys → RepAs env' toks' w' xs ys
  | [], [], _ => trivial
  | _ :: _, _ :: _, hr => ⟨RepA.mono h hr.1, RepAs.mono h hr.2⟩
end

def RepX (env : Env) (toks : Nat → Option Tok) (w : World) : X → Value → Prop
  | .one a, v => RepA env toks w a v
  | .agg cs, v => ∃ us : List Value, v = .agg us.toArray ∧ All2 (RepA env toks w) cs us

def RepR (env : Env) (toks : Nat → Option Tok) (w : World) : R → Value → Prop
  | .x x, v => RepX env toks w x v
  | .tup xs, v => ∃ vs : List Value, v = .tuple vs.toArray ∧ All2 (RepX env toks w) xs vs

def RepT (env : Env) (toks : Nat → Option Tok) (w : World) : T → Value → Prop
  | .k g r, v => if g then RepR env toks w r v else v = undef
  | .lost, _ => True

section mono
variable {env env' : Env} {toks toks' : Nat → Option Tok} {w w' : World}
theorem RepX.mono (h : env.Le env' toks toks' w w') {x : X} {v : Value} (hr : RepX env toks w x v) : RepX env' toks' w' x v := by
  cases x with
  | one a => exact RepA.mono h hr
  | agg cs => obtain ⟨us, e, hu⟩ := hr; exact ⟨us, e, hu.imp fun _ _ _ => RepA.mono h⟩
theorem RepR.mono (h : env.Le env' toks toks' w w') {r : R} {v : Value} (hr : RepR env toks w r v) : RepR env' toks' w' r v := by
  cases r with
  | x x => exact RepX.mono h hr
  | tup xs => obtain ⟨us, e, hu⟩ := hr; exact ⟨us, e, hu.imp fun _ _ _ => RepX.mono h⟩
theorem RepT.mono (h : env.Le env' toks toks' w w') {t : T} {v : Value} (hr : RepT env toks w t v) : RepT env' toks' w' t v := by
  cases t with
  | k g r =>
    cases g
    · exact hr
    · exact RepR.mono h hr
  | lost => trivial
theorem Env.Le.refl : env.Le env toks toks w w := ⟨fun _ _ h => h, fun _ _ _ => rfl, fun _ _ h => h, fun _ t h => ⟨t, h, rfl, Nat.le_refl _, fun _ => rfl⟩⟩
theorem Env.Le.trans {env'' : Env} {toks'' : Nat → Option Tok} {w'' : World} (h : env.Le env' toks toks' w w') (k : env'.Le env'' toks' toks'' w' w'') : env.Le env'' toks toks'' w w'' :=
  ⟨fun b o x => k.V b o (h.V b o x), fun b o x => (k.cell b o (h.V b o x)).trans (h.cell b o x), fun i b x => k.ρ i b (h.ρ i b x), fun i t ht => by
    obtain ⟨t1, h1, hs1, hn1, hv1⟩ := h.tok i t ht
    obtain ⟨t2, h2, hs2, hn2, hv2⟩ := k.tok i t1 h1
    exact ⟨t2, h2, hs2.trans hs1, by omega, fun e => (hv2 (by omega)).trans (hv1 (by omega))⟩⟩
end mono

end Go.Fx

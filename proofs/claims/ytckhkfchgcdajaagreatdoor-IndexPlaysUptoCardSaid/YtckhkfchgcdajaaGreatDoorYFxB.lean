import Derived.WalkKit
import Derived.WalkLawsBesides
import Derived.MapKept
import Derived.Laws.AppendOwn
namespace Go.Fx
open Go.RowKit
inductive C where
  | v (x : Value)
  | sl (es sp : List (List C))
  deriving Inhabited
inductive A where
  | c (x : C)
  | nil
  | own (k : Nat) (es : List (List C))
  | ref (k i off : Nat)
  | arr (k off len cap : Nat)
  | mapr (k : Nat)
  | elem (es sp : List (List C)) (i off : Nat)
  | clo (f : FuncId) (fs cs : List A)
  | yld (l : Nat) (ta : Array Value) (ks : List Nat) (xs : List A)
  | ifc (t : TypeId) (a : A)
  | lost
  deriving Inhabited
inductive X where
  | one (a : A)
  | agg (cs : List A)
  deriving Inhabited
inductive R where
  | x (x : X)
  | tup (xs : List X)
  deriving Inhabited
inductive T where
  | k (g : Bool) (r : R)
  | lost
  deriving Inhabited
structure Box where
  ty : TypeId
  size : Nat
  rows : List (List A)
  mp : Option (TypeDesc × Bool)
structure Tok where
  ty : TypeId
  size : Nat
  n : Nat
structure XP where
  holds : (Nat → Nat → Prop) → (Nat → Prop) → World → Prop
  mono : ∀ {V V' : Nat → Nat → Prop} {F : Nat → Prop} {w w' : World}, (∀ b o, V b o → V' b o) → (∀ b o, V b o → w'.cell? ⟨b, o, none⟩ = w.cell? ⟨b, o, none⟩) → (∀ b, F b → w'.heap[b]? = w.heap[b]?) → holds V F w → holds V' F w'
  mark : Option Nat
  law : ∀ {V : Nat → Nat → Prop} {F : Nat → Prop} {w : World} {r : Nat}, mark = some r → holds V F w → F r ∧ w.heap[r]? = some (.deferred (some []))
def XP.emp : XP := ⟨fun _ F _ => ∀ b, ¬ F b, fun _ _ _ h => h, none, fun h => by cases h⟩
structure Hp where
  objs : Nat → Option Box
  toks : Nat → Option Tok
  ext : XP
structure S where
  tmps : Nat → T
  objs : Nat → Option Box
  toks : Nat → Option Tok
  ext : XP
def S.hp (σ : S) : Hp := ⟨σ.objs, σ.toks, σ.ext⟩
def All2 {α β : Type} (p : α → β → Prop) (l : List α) (m : List β) : Prop :=
  l.length = m.length ∧ ∀ (j : Nat) (x : α) (y : β), l[j]? = some x → m[j]? = some y → p x y
section all2
variable {α β : Type} {p q : α → β → Prop}
theorem All2.nil : All2 p [] [] := ⟨rfl, fun j x y h => by simp at h⟩
theorem All2.cons {x : α} {y : β} {l : List α} {m : List β} (h : p x y) (t : All2 p l m) : All2 p (x :: l) (y :: m) := by
  refine ⟨by simp [t.1], fun j a b ha hb => ?_⟩
  cases j with
  | zero => simp at ha hb; subst ha; subst hb; exact h
  | succ j => exact t.2 j a b (by simpa using ha) (by simpa using hb)
theorem All2.imp {l : List α} {m : List β} (h : All2 p l m) (f : ∀ x y, x ∈ l → p x y → q x y) : All2 q l m :=
  ⟨h.1, fun j x y hx hy => f x y (List.mem_of_getElem? hx) (h.2 j x y hx hy)⟩
theorem All2.head {x : α} {l : List α} {m : List β} (h : All2 p (x :: l) m) : ∃ y m', m = y :: m' ∧ p x y ∧ All2 p l m' := by
  cases m with
  | nil => have := h.1; simp at this
  | cons y m =>
    refine ⟨y, m, rfl, h.2 0 x y (by simp) (by simp), by have := h.1; simpa using this, fun j a b ha hb => h.2 (j + 1) a b (by simpa using ha) (by simpa using hb)⟩
theorem All2.nil_left {m : List β} (h : All2 p [] m) : m = [] := by have := h.1; exact List.eq_nil_of_length_eq_zero this.symm
theorem All2.append {l l' : List α} {m m' : List β} (h : All2 p l m) (h' : All2 p l' m') : All2 p (l ++ l') (m ++ m') := by
  refine ⟨by simp [h.1, h'.1], fun j x y hx hy => ?_⟩
  by_cases hj : j < l.length
  · rw [List.getElem?_append_left hj] at hx
    rw [List.getElem?_append_left (by rw [← h.1]; exact hj)] at hy
    exact h.2 j x y hx hy
  · rw [List.getElem?_append_right (by omega)] at hx
    rw [List.getElem?_append_right (by rw [← h.1]; omega), ← h.1] at hy
    exact h'.2 _ x y hx hy
theorem All2.take {l : List α} {m : List β} (h : All2 p l m) (n : Nat) : All2 p (l.take n) (m.take n) := by
  refine ⟨by simp [h.1], fun j x y hx hy => ?_⟩
  rw [List.getElem?_take] at hx hy
  split at hx
  · rw [if_pos ‹_›] at hy; exact h.2 j x y hx hy
  · cases hx
theorem All2.drop {l : List α} {m : List β} (h : All2 p l m) (n : Nat) : All2 p (l.drop n) (m.drop n) := by
  refine ⟨by simp [h.1], fun j x y hx hy => ?_⟩
  rw [List.getElem?_drop] at hx hy
  exact h.2 _ x y hx hy
theorem All2.set {l : List α} {m : List β} (h : All2 p l m) (n : Nat) {x : α} {y : β} (hxy : p x y) : All2 p (l.set n x) (m.set n y) := by
  refine ⟨by simp [h.1], fun j a b ha hb => ?_⟩
  rw [List.getElem?_set] at ha hb
  by_cases e : n = j
  · subst e
    by_cases hl : n < l.length
    · rw [if_pos rfl, if_pos hl] at ha
      rw [if_pos rfl, if_pos (by rw [← h.1]; exact hl)] at hb
      cases ha; cases hb; exact hxy
    · rw [if_pos rfl, if_neg hl] at ha; cases ha
  · rw [if_neg e] at ha hb
    exact h.2 j a b ha hb
theorem All2.map_left {γ : Type} {f : γ → α} {l : List γ} {m : List β} (h : All2 (fun x y => p (f x) y) l m) : All2 p (l.map f) m := by
  refine ⟨by simp [h.1], fun j x y hx hy => ?_⟩
  rw [List.getElem?_map] at hx
  cases hj : l[j]? with
  | none => rw [hj] at hx; cases hx
  | some z => rw [hj] at hx; simp at hx; subst hx; exact h.2 j z y hj hy
theorem All2.of_map_left {γ : Type} {f : γ → α} {l : List γ} {m : List β} (h : All2 p (l.map f) m) : All2 (fun x y => p (f x) y) l m := by
  refine ⟨by simpa using h.1, fun j x y hx hy => h.2 j (f x) y (by simp [hx]) hy⟩
theorem All2.get {l : List α} {m : List β} (h : All2 p l m) {j : Nat} {x : α} (hx : l[j]? = some x) : ∃ y, m[j]? = some y ∧ p x y := by
  have hj : j < m.length := by rw [← h.1]; exact (List.getElem?_eq_some_iff.1 hx).1
  exact ⟨m[j], List.getElem?_eq_getElem hj, h.2 j x _ hx (List.getElem?_eq_getElem hj)⟩
end all2
inductive RepC (V : Nat → Nat → Prop) (w : World) : C → Value → Prop
  | v (x : Value) (h : x.oneCell' = true) : RepC V w (.v x) x
  | nil (c : Nat) : RepC V w (.sl [] []) (.slice none 0 0)
  | emp (a : Addr) : RepC V w (.sl [] []) (.slice (some a) 0 0)
  | sl (es sp : List (List C)) (s b o n cap : Nat) (us : List Value)
      (hn : n = es.length) (hc : es.length + sp.length ≤ cap) (hm : cap ≤ maxLen) (hw : ∀ e ∈ es ++ sp, e.length = s)
      (hl : us.length = (es ++ sp).flatten.length)
      (hu : ∀ (j : Nat) (u : Value), us[j]? = some u → w.cell? ⟨b, o + j, none⟩ = some u ∧ V b (o + j))
      (hr : ∀ (j : Nat) (c : C) (u : Value), (es ++ sp).flatten[j]? = some c → us[j]? = some u → RepC V w c u) :
      RepC V w (.sl es sp) (.slice (some ⟨b, o, none⟩) n cap)
theorem RepC.mono {V V' : Nat → Nat → Prop} {w w' : World} (hV : ∀ b o, V b o → V' b o) (hw : ∀ b o, V b o → w'.cell? ⟨b, o, none⟩ = w.cell? ⟨b, o, none⟩)
    {c : C} {x : Value} (h : RepC V w c x) : RepC V' w' c x := by
  induction h with
  | v x h => exact .v x h
  | nil c => exact .nil c
  | emp a => exact .emp a
  | sl es sp s b o n cap us hn hc hm hs hl hu hr ih =>
    exact .sl es sp s b o n cap us hn hc hm hs hl (fun j u h => ⟨(hw _ _ (hu j u h).2).trans (hu j u h).1, hV _ _ (hu j u h).2⟩) ih
theorem RepC.oneCell {V : Nat → Nat → Prop} {w : World} {c : C} {x : Value} (h : RepC V w c x) : x.oneCell' = true := by
  cases h with
  | v x h => exact h
  | nil c => rfl
  | emp a => rfl
  | sl => rfl
structure Env where
  V : Nat → Nat → Prop
  ρ : Nat → Option (Nat × Nat)
  τ : Nat → Option Value
mutual
def RepA (env : Env) (toks : Nat → Option Tok) (w : World) : A → Value → Prop
  | .c x, v => RepC env.V w x v
  | .own k es, v => RepC env.V w (.sl es []) v ∧ ∃ t, toks k = some t ∧ es.length ≤ t.n ∧ (∀ e ∈ es, e.length = t.size) ∧ (es.length = t.n → env.τ k = some v)
  | .nil, v => v = .slice none 0 0
  | .ref k i off, v => ∃ b s, env.ρ k = some (b, s) ∧ v = .pointer (some ⟨b, i * s + off, none⟩)
  | .arr k off len cap, v => ∃ b s cap', env.ρ k = some (b, s) ∧ v = .slice (some ⟨b, off * s, none⟩) len cap' ∧ cap ≤ cap' ∧ cap' ≤ maxLen
  | .mapr k, v => ∃ b s, env.ρ k = some (b, s) ∧ v = .map (some b)
  | .elem es sp i off, v => ∃ b o n cap s, v = .pointer (some ⟨b, o + i * s + off, none⟩) ∧ i < es.length ∧ (∀ e ∈ es ++ sp, e.length = s) ∧ RepC env.V w (.sl es sp) (.slice (some ⟨b, o, none⟩) n cap)
  | .clo f fs cs, v => ∃ us vs : List Value, v = .func (.func f) us.toArray vs.toArray ∧ RepAs env toks w fs us ∧ RepAs env toks w cs vs
  | .yld l ta ks xs, v => v = .func (.yield l) #[] #[] ∧ RepAs env toks w xs (ks.map fun k => ta.getD k undef)
  | .ifc t a, v => ∃ u, v = .iface t u ∧ RepA env toks w a u
  | .lost, v => v.oneCell' = true
def RepAs (env : Env) (toks : Nat → Option Tok) (w : World) : List A → List Value → Prop
  | [], [] => True
  | x :: xs, y :: ys => RepA env toks w x y ∧ RepAs env toks w xs ys
  | _, _ => False
end
theorem RepA.oneCell {env : Env} {toks : Nat → Option Tok} {w : World} {a : A} {v : Value} (h : RepA env toks w a v) : v.oneCell' = true := by
  cases a with
  | c x => exact RepC.oneCell h
  | own k es => exact RepC.oneCell h.1
  | nil => cases h; rfl
  | ref k i off => obtain ⟨b, s, _, rfl⟩ := h; rfl
  | arr k off len cap => obtain ⟨b, s, _, _, rfl, _⟩ := h; rfl
  | mapr k => obtain ⟨b, s, _, rfl⟩ := h; rfl
  | elem es sp i off => obtain ⟨b, o, n, cap, s, rfl, _⟩ := h; rfl
  | clo f fs cs => obtain ⟨us, vs, rfl, _⟩ := h; rfl
  | yld l ta ks xs => obtain ⟨rfl, _⟩ := h; rfl
  | ifc t a => obtain ⟨u, rfl, _⟩ := h; rfl
  | lost => exact h
structure Env.Le (env env' : Env) (toks toks' : Nat → Option Tok) (w w' : World) : Prop where
  V : ∀ b o, env.V b o → env'.V b o
  cell : ∀ b o, env.V b o → w'.cell? ⟨b, o, none⟩ = w.cell? ⟨b, o, none⟩
  ρ : ∀ k b, env.ρ k = some b → env'.ρ k = some b
  tok : ∀ k t, toks k = some t → ∃ t', toks' k = some t' ∧ t'.size = t.size ∧ t.n ≤ t'.n ∧ (t'.n = t.n → env'.τ k = env.τ k)
mutual
theorem RepA.mono {env env' : Env} {toks toks' : Nat → Option Tok} {w w' : World} (h : env.Le env' toks toks' w w') : ∀ {a : A} {v : Value}, RepA env toks w a v → RepA env' toks' w' a v
  | .c x, v, hr => RepC.mono h.V h.cell hr
  | .own k es, v, hr => by
    obtain ⟨h1, t, ht, hl, hs, he⟩ := hr
    obtain ⟨t', ht', hsz, hn, hv⟩ := h.tok k t ht
    refine ⟨h1.mono h.V h.cell, t', ht', by omega, fun e m => by rw [hsz]; exact hs e m, fun e => ?_⟩
    have : t'.n = t.n := by omega
    rw [hv this]; exact he (by omega)
  | .nil, v, hr => hr
  | .ref k i off, v, hr => by obtain ⟨b, s, hb, hv⟩ := hr; exact ⟨b, s, h.ρ k _ hb, hv⟩
  | .arr k off len cap, v, hr => by obtain ⟨b, s, c, hb, hv⟩ := hr; exact ⟨b, s, c, h.ρ k _ hb, hv⟩
  | .mapr k, v, hr => by obtain ⟨b, s, hb, hv⟩ := hr; exact ⟨b, s, h.ρ k _ hb, hv⟩
  | .elem es sp i off, v, hr => by
    obtain ⟨b, o, n, cap, s, h1, h2, h3, h4⟩ := hr
    exact ⟨b, o, n, cap, s, h1, h2, h3, h4.mono h.V h.cell⟩
  | .clo f fs cs, v, hr => by
    obtain ⟨us, vs, h1, h2, h3⟩ := hr
    exact ⟨us, vs, h1, RepAs.mono h h2, RepAs.mono h h3⟩
  | .yld l ta ks xs, v, hr => by
    obtain ⟨h1, h2⟩ := hr
    exact ⟨h1, RepAs.mono h h2⟩
  | .ifc t a, v, hr => by
    obtain ⟨u, h1, h2⟩ := hr
    exact ⟨u, h1, RepA.mono h h2⟩
  | .lost, v, hr => hr
theorem RepAs.mono {env env' : Env} {toks toks' : Nat → Option Tok} {w w' : World} (h : env.Le env' toks toks' w w') : ∀ {xs : List A} {ys : List Value}, RepAs env toks w xs ys → RepAs env' toks' w' xs ys
  | [], [], _ => trivial
  | _ :: _, _ :: _, hr => ⟨RepA.mono h hr.1, RepAs.mono h hr.2⟩
end
def RepX (env : Env) (toks : Nat → Option Tok) (w : World) : X → Value → Prop
  | .one a, v => RepA env toks w a v
  | .agg cs, v => ∃ us : List Value, v = .agg us.toArray ∧ All2 (RepA env toks w) cs us
def RepR (env : Env) (toks : Nat → Option Tok) (w : World) : R → Value → Prop
  | .x x, v => RepX env toks w x v
  | .tup xs, v => ∃ vs : List Value, v = .tuple vs.toArray ∧ All2 (RepX env toks w) xs vs
def RepT (env : Env) (toks : Nat → Option Tok) (w : World) : T → Value → Prop
  | .k g r, v => if g then RepR env toks w r v else v = undef
  | .lost, _ => True
section mono
variable {env env' : Env} {toks toks' : Nat → Option Tok} {w w' : World}
theorem RepX.mono (h : env.Le env' toks toks' w w') {x : X} {v : Value} (hr : RepX env toks w x v) : RepX env' toks' w' x v := by
  cases x with
  | one a => exact RepA.mono h hr
  | agg cs => obtain ⟨us, e, hu⟩ := hr; exact ⟨us, e, hu.imp fun _ _ _ => RepA.mono h⟩
theorem RepR.mono (h : env.Le env' toks toks' w w') {r : R} {v : Value} (hr : RepR env toks w r v) : RepR env' toks' w' r v := by
  cases r with
  | x x => exact RepX.mono h hr
  | tup xs => obtain ⟨us, e, hu⟩ := hr; exact ⟨us, e, hu.imp fun _ _ _ => RepX.mono h⟩
theorem RepT.mono (h : env.Le env' toks toks' w w') {t : T} {v : Value} (hr : RepT env toks w t v) : RepT env' toks' w' t v := by
  cases t with
  | k g r =>
    cases g
    · exact hr
    · exact RepR.mono h hr
  | lost => trivial
theorem Env.Le.refl : env.Le env toks toks w w := ⟨fun _ _ h => h, fun _ _ _ => rfl, fun _ _ h => h, fun _ t h => ⟨t, h, rfl, Nat.le_refl _, fun _ => rfl⟩⟩
theorem Env.Le.trans {env'' : Env} {toks'' : Nat → Option Tok} {w'' : World} (h : env.Le env' toks toks' w w') (k : env'.Le env'' toks' toks'' w' w'') : env.Le env'' toks toks'' w w'' :=
  ⟨fun b o x => k.V b o (h.V b o x), fun b o x => (k.cell b o (h.V b o x)).trans (h.cell b o x), fun i b x => k.ρ i b (h.ρ i b x), fun i t ht => by
    obtain ⟨t1, h1, hs1, hn1, hv1⟩ := h.tok i t ht
    obtain ⟨t2, h2, hs2, hn2, hv2⟩ := k.tok i t1 h1
    exact ⟨t2, h2, hs2.trans hs1, by omega, fun e => (hv2 (by omega)).trans (hv1 (by omega))⟩⟩
end mono
end Go.Fx

namespace Go.Fx
open Go.RowKit
inductive D where
  | t (n : Nat)
  | k (r : R)
  deriving Inhabited
inductive Kd where
  | i (k : IntKind)
  | b
  | s
  deriving Inhabited
inductive IOp where
  | move (x : D)
  | pick (c a b : D)
  | box (ty : TypeId) (x : D)
  | zero (ty : TypeId) (z : List A)
  | build (z : List A) (parts : List (Nat × Nat × D))
  | row (ty : TypeId) (size : Nat) (ps : List D)
  | rowb (ty : TypeId) (size : Nat) (ps : List D)
  | appb (ty : TypeId) (size bytes : Nat) (x y : D)
  | load (n : Option Nat) (x : D)
  | store (n : Option Nat) (x y : D)
  | faddr (off : Nat) (x : D)
  | field (off : Nat) (n : Option Nat) (x : D)
  | iaddr (size : Nat) (x i : D)
  | sindex (x i : D)
  | bin (op : BinOp) (x y : D)
  | eqs (neg : Bool) (ks : List Kd) (x y : D)
  | eqb (neg : Bool) (x y : D)
  | un (op : UnOp) (x : D)
  | conv (k : IntKind) (x : D)
  | bytes (x : D)
  | len (x : D)
  | slen (x : D)
  | ssl (x : D) (lo hi : Option D)
  | vsl (size : Nat) (x : D) (lo hi : Option D)
  | app (ty : TypeId) (size bytes : Nat) (x y : D)
  | make (ty : TypeId) (size bytes : Nat) (z : List A) (l c : D)
  | call (f : D) (args : List D)
  | callp (f : D) (args : List D)
  | clo (f : FuncId) (fs cs : List D)
  | mki (t : TypeId) (x : D)
  | asrt (t : TypeId) (comma one : Bool) (z : List A) (x : D)
  | nilchk (x : D)
  | gidx (len size g : Nat) (i : D)
  | gload (x : D)
  | ext (x : D) (i : Nat)
  | mkmap (d : TypeDesc) (size : Nat) (one : Bool)
  | mlook (d : TypeDesc) (one comma : Bool) (z : List A) (m k : D)
  | mapup (d : TypeDesc) (one : Bool) (m k v : D)
  deriving Inhabited
structure IOper where
  dst : Option Nat
  op : IOp
  guard : Option (Nat × Bool)
  fp : Option (List Nat)
  deriving Inhabited
def S.put (σ : S) (d : Option Nat) (t : T) : S :=
  match d with
  | some d => { σ with tmps := fun n => if n = d then t else σ.tmps n }
  | none => σ
def D.val (σ : S) : D → T
  | .t n => σ.tmps n
  | .k r => .k true r
def T.r : T → R
  | .k _ r => r
  | .lost => .x (.one .lost)
def T.g : T → Bool
  | .k g _ => g
  | .lost => false
structure Out where
  need : Prop
  val : R
def bad : Out := ⟨False, .x (.one .lost)⟩
abbrev rI (k : IntKind) (n : Int) : R := .x (.one (.c (.v (.int k n))))
abbrev rB (b : Bool) : R := .x (.one (.c (.v (.bool b))))
abbrev rS (s : ByteArray) : R := .x (.one (.c (.v (.string s))))
def binO (op : BinOp) : R → R → Out
  | .x (.one (.c (.v (.int k a)))), .x (.one (.c (.v (.int k' b)))) =>
    match op with
    | .add => ⟨k = k', rI k (k.wrap (a + b))⟩
    | .sub => ⟨k = k', rI k (k.wrap (a - b))⟩
    | .mul => ⟨k = k', rI k (k.wrap (a * b))⟩
    | .quo => ⟨k = k' ∧ b ≠ 0, rI k (k.wrap (a.tdiv b))⟩
    | .rem => ⟨k = k' ∧ b ≠ 0, rI k (a.tmod b)⟩
    | .eql => ⟨k = k', rB (a == b)⟩
    | .neq => ⟨k = k', rB (a != b)⟩
    | .lss => ⟨k = k', rB (decide (a < b))⟩
    | .leq => ⟨k = k', rB (decide (a ≤ b))⟩
    | .gtr => ⟨k = k', rB (decide (a > b))⟩
    | .geq => ⟨k = k', rB (decide (a ≥ b))⟩
    | .and => ⟨k = k', rI k (bits .and k a b)⟩
    | .or => ⟨k = k', rI k (bits .or k a b)⟩
    | .xor => ⟨k = k', rI k (bits .xor k a b)⟩
    | .andNot => ⟨k = k', rI k (bits .andNot k a b)⟩
    | .shl => ⟨0 ≤ b, rI k (k.wrap (a * 2 ^ min b.toNat k.bits))⟩
    | .shr => ⟨0 ≤ b, rI k (a.fdiv (2 ^ min b.toNat k.bits))⟩
  | .x (.one (.c (.v (.string a)))), .x (.one (.c (.v (.string b)))) =>
    match op with
    | .add => ⟨a.size + b.size ≤ 9223372036854775807, rS (a ++ b)⟩
    | .eql => ⟨True, rB (a == b)⟩
    | .neq => ⟨True, rB (!(a == b))⟩
    | .lss => ⟨True, rB (Op.bytesLess a.toList b.toList)⟩
    | .geq => ⟨True, rB (!Op.bytesLess a.toList b.toList)⟩
    | .gtr => ⟨True, rB (!(Op.bytesLess a.toList b.toList || a == b))⟩
    | .leq => ⟨True, rB (Op.bytesLess a.toList b.toList || a == b)⟩
    | _ => bad
  | _, _ => bad
def eqbO (neg : Bool) : R → R → Out
  | .x (.one (.c (.v (.bool a)))), .x (.one (.c (.v (.bool b)))) => ⟨True, rB (if neg then !(a == b) else a == b)⟩
  | _, _ => bad
def eqV : Kd → A → A → Option Bool
  | .i k, .c (.v (.int k1 a)), .c (.v (.int k2 b)) => if k1 = k ∧ k2 = k then some (a == b) else none
  | .s, .c (.v (.string a)), .c (.v (.string b)) => some (a == b)
  | .b, .c (.v (.bool a)), .c (.v (.bool b)) => some (a == b)
  | _, _, _ => none
def eqRows : List Kd → List A → List A → Option Bool
  | [], [], [] => some true
  | k :: ks, x :: xs, y :: ys =>
    match eqV k x y, eqRows ks xs ys with
    | some a, some b => some (a && b)
    | _, _ => none
  | _, _, _ => none
def eqsO (neg : Bool) (ks : List Kd) : R → R → Out
  | .x (.agg xs), .x (.agg ys) =>
    match eqRows ks xs ys with
    | some b => ⟨True, rB (if neg then !b else b)⟩
    | none => bad
  | _, _ => bad
def unO (op : UnOp) : R → Out
  | .x (.one (.c (.v (.int k n)))) =>
    match op with
    | .neg => ⟨True, rI k (k.wrap (0 - n))⟩
    | _ => bad
  | .x (.one (.c (.v (.bool b)))) =>
    match op with
    | .not => ⟨True, rB (!b)⟩
    | _ => bad
  | _ => bad
def convO (k : IntKind) : R → Out
  | .x (.one (.c (.v (.int _ n)))) => ⟨True, rI k (k.wrap n)⟩
  | _ => bad
def A.rows? : A → Option (List (List C) × List (List C))
  | .nil => some ([], [])
  | .c (.sl es sp) => some (es, sp)
  | .own _ es => some (es, [])
  | _ => none
def slenO : R → Out
  | .x (.one (.c (.v (.string s)))) => ⟨True, rI .i64 s.size⟩
  | _ => bad
def lenO : R → Out
  | .x (.one .nil) => ⟨True, rI .i64 0⟩
  | .x (.one (.c (.sl es _))) => ⟨True, rI .i64 es.length⟩
  | .x (.one (.own _ es)) => ⟨True, rI .i64 es.length⟩
  | .x (.one (.arr _ _ n _)) => ⟨True, rI .i64 n⟩
  | _ => bad
def byteRow (b : UInt8) : List C := [.v (.int .u8 b.toNat)]
def bytesO : R → Out
  | .x (.one (.c (.v (.string s)))) => ⟨s.size ≤ maxLen, .x (.one (.c (.sl (s.data.toList.map byteRow) [])))⟩
  | _ => bad
def iaddrO (σ : S) (size : Nat) : R → R → Out
  | .x (.one (.c (.sl es sp))), .x (.one (.c (.v (.int _ i)))) => ⟨0 ≤ i ∧ i < es.length ∧ (es.getD i.toNat []).length = size, .x (.one (.elem es sp i.toNat 0))⟩
  | .x (.one (.own _ es)), .x (.one (.c (.v (.int _ i)))) => ⟨0 ≤ i ∧ i < es.length ∧ (es.getD i.toNat []).length = size, .x (.one (.elem es [] i.toNat 0))⟩
  | .x (.one (.arr k off n _)), .x (.one (.c (.v (.int _ i)))) => ⟨0 ≤ i ∧ i < n ∧ (match σ.objs k with | some b => b.size = size ∧ b.mp = none | none => False), .x (.one (.ref k (off + i.toNat) 0))⟩
  | _, _ => bad
def sindexO : R → R → Out
  | .x (.one (.c (.v (.string s)))), .x (.one (.c (.v (.int _ i)))) => ⟨0 ≤ i ∧ i < s.size, rI .u8 ((s.data.toList.getD i.toNat 0).toNat)⟩
  | _, _ => bad
def faddrO (off : Nat) : R → Out
  | .x (.one (.ref k i o)) => ⟨True, .x (.one (.ref k i (o + off)))⟩
  | .x (.one (.elem es sp i o)) => ⟨True, .x (.one (.elem es sp i (o + off)))⟩
  | _ => bad
def partO (cs : List A) (off : Nat) : Option Nat → Out
  | none => ⟨off < cs.length, .x (.one (cs.getD off .lost))⟩
  | some n => ⟨off + n ≤ cs.length, .x (.agg ((cs.drop off).take n))⟩
def fieldO (off : Nat) (n : Option Nat) : R → Out
  | .x (.agg cs) => partO cs off n
  | _ => bad
def splice (cs : List A) (off : Nat) (news : List A) : List A := cs.take off ++ news ++ cs.drop (off + news.length)
def X.cells : X → List A
  | .one a => [a]
  | .agg cs => cs
def R.cells : R → Option (List A)
  | .x y => some y.cells
  | .tup _ => none
def fillO (cs : List A) : List (Nat × Nat × R) → Option (List A)
  | [] => some cs
  | (off, size, r) :: rest =>
    match r.cells with
    | some l => if l.length = size ∧ off + size ≤ cs.length then fillO (splice cs off l) rest else none
    | none => none
def intD (o : Option R) (dflt : Int) : Option Int :=
  match o with
  | none => some dflt
  | some (.x (.one (.c (.v (.int _ n))))) => some n
  | _ => none
def sslO (lo hi : Option R) : R → Out
  | .x (.one (.c (.v (.string s)))) =>
    match intD lo 0, intD hi s.size with
    | some l, some h => ⟨0 ≤ l ∧ l ≤ h ∧ h ≤ s.size, rS (s.extract l.toNat h.toNat)⟩
    | _, _ => bad
  | _ => bad
def vslO (size : Nat) (lo hi : Option R) : R → Out
  | .x (.one (.c (.sl es sp))) =>
    match intD lo 0, intD hi es.length with
    | some l, some h => ⟨(0 ≤ l ∧ l ≤ h ∧ h ≤ es.length + sp.length) ∧ ∀ e ∈ es ++ sp, e.length = size,
        .x (.one (.c (.sl (((es ++ sp).take h.toNat).drop l.toNat) ((es ++ sp).drop h.toNat))))⟩
    | _, _ => bad
  | .x (.one (.own _ es)) =>
    match intD lo 0, intD hi es.length with
    | some l, some h => ⟨(0 ≤ l ∧ l ≤ h ∧ h ≤ es.length) ∧ ∀ e ∈ es, e.length = size, .x (.one (.c (.sl ((es.take h.toNat).drop l.toNat) (es.drop h.toNat))))⟩
    | _, _ => bad
  | .x (.one (.arr k off n cap)) =>
    match intD lo 0, intD hi n with
    | some l, some h => ⟨l = 0 ∧ 0 ≤ h ∧ h ≤ cap, .x (.one (.arr k off h.toNat cap))⟩
    | _, _ => bad
  | _ => bad
def extO (i : Nat) : R → Out
  | .tup xs => ⟨i < xs.length, .x (xs.getD i (.one .lost))⟩
  | _ => bad
def loadO (σ : S) (n : Option Nat) : R → Out
  | .x (.one (.elem es _ i off)) =>
    match n with
    | none => ⟨off < (es.getD i []).length, .x (.one (((es.getD i []).map A.c).getD off .lost))⟩
    | some n => ⟨off + n ≤ (es.getD i []).length, .x (.agg ((((es.getD i []).map A.c).drop off).take n))⟩
  | .x (.one (.ref k i off)) =>
    match σ.objs k with
    | some b => ⟨b.mp = none ∧ i < b.rows.length ∧ (match n with | none => off < (b.rows.getD i []).length | some n => off + n ≤ (b.rows.getD i []).length), (partO (b.rows.getD i []) off n).val⟩
    | none => bad
  | _ => bad
def keyEq : Value → List A → Bool
  | .string s, .c (.v (.string t)) :: _ => t == s
  | .int _ n, .c (.v (.int _ m)) :: _ => m == n
  | .bool n, .c (.v (.bool m)) :: _ => m == n
  | _, _ => false
def mapGet (rows : List (List A)) (x : Value) (z : List A) : List A :=
  match rows.find? (keyEq x) with
  | some r => r.tail
  | none => z
def formX (one : Bool) (c : List A) : X := if one then .one (c.getD 0 .lost) else .agg c
def mlookO (σ : S) (d : TypeDesc) (one comma : Bool) (z : List A) : R → R → Out
  | .x (.one (.mapr k)), .x (.one (.c (.v x))) =>
    match σ.objs k with
    | some b => ⟨b.mp = some (d, one) ∧ MapKept.IsKey d x ∧ z.length + 1 = b.size,
        if comma then .tup [formX one (mapGet b.rows x z), .one (.c (.v (.bool (b.rows.any (keyEq x)))))] else .x (formX one (mapGet b.rows x z))⟩
    | none => bad
  | _, _ => bad
def onesO : List R → Option (List A)
  | [] => some []
  | .x (.one a) :: l => (onesO l).map (a :: ·)
  | _ => none
def cloO (f : FuncId) (fs cs : List R) : Out :=
  match onesO fs, onesO cs with
  | some a, some b => ⟨True, .x (.one (.clo f a b))⟩
  | _, _ => bad
def mkiO (t : TypeId) : R → Out
  | .x (.one a) => ⟨True, .x (.one (.ifc t a))⟩
  | _ => bad
def asrtO (t : TypeId) (comma one : Bool) (z : List A) : R → Out
  | .x (.one (.ifc u a)) =>
    if u = t then ⟨True, if comma then .tup [.one a, .one (.c (.v (.bool true)))] else .x (.one a)⟩
    else ⟨comma = true, .tup [formX one z, .one (.c (.v (.bool false)))]⟩
  | _ => bad
def nilchkO : R → Out
  | .x (.one (.ref k i off)) => ⟨True, .x (.one (.ref k i off))⟩
  | .x (.one (.elem es sp i off)) => ⟨True, .x (.one (.elem es sp i off))⟩
  | .x (.one (.c (.v (.func (.func f) fs cs)))) => ⟨True, .x (.one (.c (.v (.func (.func f) fs cs))))⟩
  | .x (.one (.c (.v (.func (.yield f) fs cs)))) => ⟨True, .x (.one (.c (.v (.func (.yield f) fs cs))))⟩
  | .x (.one (.clo f fs cs)) => ⟨True, .x (.one (.clo f fs cs))⟩
  | _ => bad
def gidxO (len size g : Nat) : R → Out
  | .x (.one (.c (.v (.int _ n)))) => ⟨0 ≤ n ∧ n < len, .x (.one (.c (.v (.pointer (some ⟨g, n.toNat * size, none⟩)))))⟩
  | _ => bad
def pureO (σ : S) : IOp → Option Out
  | .build z ps => some (match fillO z (ps.map fun p => (p.1, p.2.1, (p.2.2.val σ).r)) with
      | some cs => ⟨(ps.all fun p => (p.2.2.val σ).g) = true, .x (.agg cs)⟩
      | none => bad)
  | .load n x => some ⟨(x.val σ).g = true ∧ (loadO σ n (x.val σ).r).need, (loadO σ n (x.val σ).r).val⟩
  | .faddr off x => some ⟨(x.val σ).g = true ∧ (faddrO off (x.val σ).r).need, (faddrO off (x.val σ).r).val⟩
  | .field off n x => some ⟨(x.val σ).g = true ∧ (fieldO off n (x.val σ).r).need, (fieldO off n (x.val σ).r).val⟩
  | .iaddr size x i => some ⟨(x.val σ).g = true ∧ (i.val σ).g = true ∧ (iaddrO σ size (x.val σ).r (i.val σ).r).need, (iaddrO σ size (x.val σ).r (i.val σ).r).val⟩
  | .sindex x i => some ⟨(x.val σ).g = true ∧ (i.val σ).g = true ∧ (sindexO (x.val σ).r (i.val σ).r).need, (sindexO (x.val σ).r (i.val σ).r).val⟩
  | .bin op x y => some ⟨(x.val σ).g = true ∧ (y.val σ).g = true ∧ (binO op (x.val σ).r (y.val σ).r).need, (binO op (x.val σ).r (y.val σ).r).val⟩
  | .eqs neg ks x y => some ⟨(x.val σ).g = true ∧ (y.val σ).g = true ∧ (eqsO neg ks (x.val σ).r (y.val σ).r).need, (eqsO neg ks (x.val σ).r (y.val σ).r).val⟩
  | .eqb neg x y => some ⟨(x.val σ).g = true ∧ (y.val σ).g = true ∧ (eqbO neg (x.val σ).r (y.val σ).r).need, (eqbO neg (x.val σ).r (y.val σ).r).val⟩
  | .un op x => some ⟨(x.val σ).g = true ∧ (unO op (x.val σ).r).need, (unO op (x.val σ).r).val⟩
  | .conv k x => some ⟨(x.val σ).g = true ∧ (convO k (x.val σ).r).need, (convO k (x.val σ).r).val⟩
  | .bytes x => some ⟨(x.val σ).g = true ∧ (bytesO (x.val σ).r).need, (bytesO (x.val σ).r).val⟩
  | .len x => some ⟨(x.val σ).g = true ∧ (lenO (x.val σ).r).need, (lenO (x.val σ).r).val⟩
  | .slen x => some ⟨(x.val σ).g = true ∧ (slenO (x.val σ).r).need, (slenO (x.val σ).r).val⟩
  | .ssl x lo hi => some ⟨(x.val σ).g = true ∧ (lo.all fun d => (d.val σ).g) = true ∧ (hi.all fun d => (d.val σ).g) = true ∧
      (sslO (lo.map fun d => (d.val σ).r) (hi.map fun d => (d.val σ).r) (x.val σ).r).need, (sslO (lo.map fun d => (d.val σ).r) (hi.map fun d => (d.val σ).r) (x.val σ).r).val⟩
  | .vsl size x lo hi => some ⟨(x.val σ).g = true ∧ (lo.all fun d => (d.val σ).g) = true ∧ (hi.all fun d => (d.val σ).g) = true ∧
      (vslO size (lo.map fun d => (d.val σ).r) (hi.map fun d => (d.val σ).r) (x.val σ).r).need, (vslO size (lo.map fun d => (d.val σ).r) (hi.map fun d => (d.val σ).r) (x.val σ).r).val⟩
  | .mlook d one comma z m k => some ⟨(m.val σ).g = true ∧ (k.val σ).g = true ∧ (mlookO σ d one comma z (m.val σ).r (k.val σ).r).need, (mlookO σ d one comma z (m.val σ).r (k.val σ).r).val⟩
  | .clo f fs cs => some ⟨(fs.all fun d => (d.val σ).g) = true ∧ (cs.all fun d => (d.val σ).g) = true ∧ (cloO f (fs.map fun d => (d.val σ).r) (cs.map fun d => (d.val σ).r)).need, (cloO f (fs.map fun d => (d.val σ).r) (cs.map fun d => (d.val σ).r)).val⟩
  | .mki t x => some ⟨(x.val σ).g = true ∧ (mkiO t (x.val σ).r).need, (mkiO t (x.val σ).r).val⟩
  | .asrt t comma one z x => some ⟨(x.val σ).g = true ∧ (asrtO t comma one z (x.val σ).r).need, (asrtO t comma one z (x.val σ).r).val⟩
  | .nilchk x => some ⟨(x.val σ).g = true ∧ (nilchkO (x.val σ).r).need, (nilchkO (x.val σ).r).val⟩
  | .gidx len size g i => some ⟨(i.val σ).g = true ∧ (gidxO len size g (i.val σ).r).need, (gidxO len size g (i.val σ).r).val⟩
  | .ext x i => some ⟨(x.val σ).g = true ∧ (extO i (x.val σ).r).need, (extO i (x.val σ).r).val⟩
  | _ => none
def guardO (σ : S) : Option (Nat × Bool) → Option Bool
  | none => some true
  | some (s, b) =>
    match σ.tmps s with
    | .k g (.x (.one (.c (.v (.bool t))))) => some (g && (t == b))
    | _ => none
inductive CX where
  | one (c : C)
  | agg (cs : List C)
  deriving Inhabited
inductive CR where
  | x (x : CX)
  | tup (xs : List CX)
  deriving Inhabited
def A.close : A → Option C
  | .c y => some y
  | .nil => some (.sl [] [])
  | .own _ es => some (.sl es [])
  | _ => none
def closeL : List A → Option (List C)
  | [] => some []
  | a :: l =>
    match a.close, closeL l with
    | some c, some cs => some (c :: cs)
    | _, _ => none
def X.close : X → Option CX
  | .one a => a.close.map .one
  | .agg cs => (closeL cs).map .agg
def T.close : T → Option CX
  | .k true (.x y) => y.close
  | _ => none
def R.close : R → Option CX
  | .x y => y.close
  | _ => none
def closeArgs : List R → Option (List CX)
  | [] => some []
  | r :: l =>
    match r.close, closeArgs l with
    | some c, some cs => some (c :: cs)
    | _, _ => none
def CX.open : CX → X
  | .one c => .one (.c c)
  | .agg cs => .agg (cs.map .c)
def CR.open : CR → R
  | .x y => .x y.open
  | .tup xs => .tup (xs.map CX.open)
def RepCX (V : Nat → Nat → Prop) (w : World) : CX → Value → Prop
  | .one c, v => RepC V w c v
  | .agg cs, v => ∃ us : List Value, v = .agg us.toArray ∧ All2 (RepC V w) cs us
def RepCR (V : Nat → Nat → Prop) (w : World) : CR → Value → Prop
  | .x x, v => RepCX V w x v
  | .tup xs, v => ∃ vs : List Value, v = .tuple vs.toArray ∧ All2 (RepCX V w) xs vs
structure KeptBut (M : Nat → Prop) (w w' : World) : Prop where
  os : w'.os = w.os
  tape : w'.tape = w.tape
  output : w'.output = w.output
  size : w.heap.size ≤ w'.heap.size
  block : ∀ i, i < w.heap.size → ¬ M i → w'.heap[i]? = w.heap[i]?
theorem KeptBut.refl (M : Nat → Prop) (w : World) : KeptBut M w w := ⟨rfl, rfl, rfl, Nat.le_refl _, fun _ _ _ => rfl⟩
theorem KeptBut.of_below {M : Nat → Prop} {w w' : World} (h : Below w.heap.size w w') : KeptBut M w w' := ⟨h.os, h.tape, h.output, h.size, fun i hi _ => h.block i hi⟩
theorem KeptBut.below {w w' : World} (h : KeptBut (fun _ => False) w w') : Below w.heap.size w w' := ⟨h.os, h.tape, h.output, h.size, fun i hi => h.block i hi (fun x => x)⟩
theorem KeptBut.mono {M M' : Nat → Prop} {w w' : World} (h : KeptBut M w w') (hm : ∀ b, M b → M' b) : KeptBut M' w w' := ⟨h.os, h.tape, h.output, h.size, fun i hi hn => h.block i hi fun x => hn (hm i x)⟩
theorem KeptBut.trans {M M' : Nat → Prop} {w w1 w2 : World} (h : KeptBut M w w1) (h' : KeptBut M' w1 w2) (hm : ∀ b, M' b → w.heap.size ≤ b ∨ M b) : KeptBut M w w2 :=
  ⟨h'.os.trans h.os, h'.tape.trans h.tape, h'.output.trans h.output, Nat.le_trans h.size h'.size, fun i hi hn => (h'.block i (Nat.lt_of_lt_of_le hi h.size) fun x => (hm i x).elim (fun y => absurd hi (Nat.not_lt.mpr y)) hn).trans (h.block i hi hn)⟩
def HeldM (G : World → Prop) (M : Nat → Prop) (w : World) : Prop := ∀ w', KeptBut M w w' → G w'
theorem HeldM.later {G : World → Prop} {M M' : Nat → Prop} {w w' : World} (h : HeldM G M w) (hk : KeptBut M w w') (hm : ∀ b, M' b → w.heap.size ≤ b ∨ M b) : HeldM G M' w' := fun w2 h2 => h w2 (hk.trans h2 hm)
def Held (G : World → Prop) (w : World) : Prop := ∀ w', Below w.heap.size w w' → G w'
theorem Held.later {G : World → Prop} {w w' : World} (h : Held G w) (hb : Below w.heap.size w w') : Held G w' := fun w2 h2 => h w2 (hb.trans (h2.mono hb.size))
def callable (P : Program) (f : FuncId) : Bool :=
  match P.funcs[f]? with
  | some fn => fn.body.isSome && fn.name != "runtime.NumGoroutine"
  | none => false
abbrev rF (f : FuncId) : R := .x (.one (.c (.v (.func (.func f) #[] #[]))))
def Holds (x : Box) (us : List Value) (ob : Obj) : Prop :=
  match x.mp with
  | none => ∃ ex : List Value, ob = .cells (us ++ ex).toArray x.ty (0, 0)
  | some (d, one) => (∃ (es : Array MapEntry) (clock : Nat), ob = .map es clock ∧ us = es.toList.flatMap (fun e => e.key :: e.val.cells.toList) ∧ es.size = x.rows.length ∧ MapKept.Stamped es clock ∧
      ∀ e ∈ es.toList, MapKept.IsKey d e.key ∧ e.val.cells.size + 1 = x.size ∧ (one = true → e.val.oneCell' = true) ∧ (one = false → ∃ cs, e.val = .agg cs)) ∧
      ∀ r ∈ x.rows, ∃ y t, r = .c (.v y) :: t
def BoxIn (w : World) (x : Box) (b : Nat) (us : List Value) : Prop := ∃ ob, w.heap[b]? = some ob ∧ Holds x us ob
structure HMem (env : Env) (h : Hp) (F : Nat → Prop) (w : World) : Prop where
  vlt : ∀ b o, env.V b o → b < w.heap.size
  ρlt : ∀ k b s, env.ρ k = some (b, s) → b < w.heap.size
  τlt : ∀ k v b, env.τ k = some v → v.ownBlock = some b → b < w.heap.size
  objs : ∀ k x, h.objs k = some x → ∃ b us, env.ρ k = some (b, x.size) ∧ BoxIn w x b us ∧
    All2 (RepA env h.toks w) x.rows.flatten us ∧ (∀ r ∈ x.rows, r.length = x.size) ∧ ∀ o, ¬ env.V b o
  inj : ∀ k k' b s s', env.ρ k = some (b, s) → env.ρ k' = some (b, s') → k = k'
  toks : ∀ k t, h.toks k = some t → ∃ v xs, env.τ k = some v ∧ w.ownsRow 0 t.ty t.size v t.n xs ∧
    (∀ b, v.ownBlock = some b → (∀ o, t.n * t.size ≤ o → ¬ env.V b o) ∧ ∀ k' s, env.ρ k' ≠ some (b, s))
  tinj : ∀ k k' v v' b, env.τ k = some v → env.τ k' = some v' → v.ownBlock = some b → v'.ownBlock = some b → k = k'
  sep : ∀ k k' v b s, env.τ k = some v → v.ownBlock = some b → env.ρ k' ≠ some (b, s)
  ext : h.ext.holds env.V F w
  flt : ∀ b, F b → b < w.heap.size ∧ (∀ o, ¬ env.V b o) ∧ (∀ k s, env.ρ k ≠ some (b, s)) ∧ ∀ k v, env.τ k = some v → v.ownBlock ≠ some b
def Owned (env : Env) (h : Hp) (F : Nat → Prop) (b : Nat) : Prop := (∃ k s, h.objs k ≠ none ∧ env.ρ k = some (b, s)) ∨ (∃ k v, h.toks k ≠ none ∧ env.τ k = some v ∧ v.ownBlock = some b) ∨ F b
structure Left (env : Env) (h : Hp) (F : Nat → Prop) (w : World) (env' : Env) (h' : Hp) (F' : Nat → Prop) (w' : World) : Prop where
  mem : HMem env' h' F' w'
  kept : KeptBut (Owned env h F) w w'
  owned : ∀ b, Owned env' h' F' b → w.heap.size ≤ b ∨ Owned env h F b
  vold : ∀ b o, env.V b o → env'.V b o
  vcell : ∀ b o, env.V b o → w'.cell? ⟨b, o, none⟩ = w.cell? ⟨b, o, none⟩
  vnew : ∀ b o, env'.V b o → env.V b o ∨ w.heap.size ≤ b ∨ Owned env h F b
  ρold : ∀ k p, env.ρ k = some p → env'.ρ k = some p
  ρnew : ∀ k p, env'.ρ k = some p → env.ρ k = some p ∨ (h'.objs k ≠ none ∧ h.objs k = none)
  τold : ∀ k, h.toks k = none → env.τ k ≠ none → env'.τ k = env.τ k
  τnew : ∀ k v, env'.τ k = some v → env.τ k ≠ none ∨ (h'.toks k ≠ none ∧ h.toks k = none)
  tok : ∀ k t t', h.toks k = some t → h'.toks k = some t' → t'.size = t.size ∧ t.n ≤ t'.n ∧ (t'.n = t.n → env'.τ k = env.τ k)
mutual
def A.only (p q : Nat → Prop) : A → Prop
  | .own k _ => q k
  | .ref k _ _ => p k
  | .arr k _ _ _ => p k
  | .mapr k => p k
  | .clo _ fs cs => onlyL p q fs ∧ onlyL p q cs
  | .yld _ _ _ xs => onlyL p q xs
  | .ifc _ a => a.only p q
  | _ => True
def onlyL (p q : Nat → Prop) : List A → Prop
  | [] => True
  | a :: l => a.only p q ∧ onlyL p q l
end
def X.only (p q : Nat → Prop) : X → Prop
  | .one a => a.only p q
  | .agg cs => onlyL p q cs
def R.only (p q : Nat → Prop) : R → Prop
  | .x y => y.only p q
  | .tup xs => ∀ x ∈ xs, x.only p q
def Hp.only (p q : Nat → Prop) (h : Hp) : Prop := ∀ k b, h.objs k = some b → ∀ r ∈ b.rows, onlyL p q r
def Fresh (env : Env) (h h' : Hp) : Prop := (∀ k, h'.objs k ≠ none → h.objs k = none → env.ρ k = none) ∧ ∀ k, h'.toks k ≠ none → h.toks k = none → env.τ k = none
def MeetsH (P : Program) (G : World → Prop) (f : FuncId) (args : List X) (h : Hp) (res : R) (h' : Hp) : Prop :=
  callable P f = true ∧ (∀ x ∈ args, x.only (fun _ => True) (fun k => h.toks k ≠ none)) ∧ h.only (fun _ => True) (fun k => h.toks k ≠ none) ∧
  ∀ (w : World) (env : Env) (F : Nat → Prop) (vs : List Value), HeldM G (Owned env h F) w → HMem env h F w → Fresh env h h' → All2 (RepX env h.toks w) args vs →
    Calls P f vs.toArray w fun e w' => ∃ v env' F', e = .returned v ∧ RepR env' h'.toks w' res v ∧ Left env h F w env' h' F' w'
def CallsV (P : Program) (v : Value) (vs : List Value) (w : World) (Q : Ending → World → Prop) : Prop :=
  match v with
  | .func (.func f) fs cs => callable P f = true ∧ Calls P f (fs ++ vs.toArray ++ cs) w Q
  | .func (.yield l) fs cs => fs = #[] ∧ cs = #[] ∧ ∃ f tmps assign body, (Instr.yield l vs.toArray).run P w = .ok (.round l f tmps assign body) w ∧ ∀ n, RoundIn Fence.wide n P l f tmps assign body w Q
  | _ => False
def MeetsV (P : Program) (G : World → Prop) (fv : A) (args : List X) (h : Hp) (res : R) (h' : Hp) : Prop :=
  fv.only (fun _ => True) (fun k => h.toks k ≠ none) ∧ (∀ x ∈ args, x.only (fun _ => True) (fun k => h.toks k ≠ none)) ∧ h.only (fun _ => True) (fun k => h.toks k ≠ none) ∧
  ∀ (w : World) (env : Env) (F : Nat → Prop) (v : Value) (vs : List Value), HeldM G (Owned env h F) w → HMem env h F w → Fresh env h h' → RepA env h.toks w fv v → All2 (RepX env h.toks w) args vs →
    CallsV P v vs w fun e w' => ∃ v env' F', e = .returned v ∧ RepR env' h'.toks w' res v ∧ Left env h F w env' h' F' w'
def Meets (P : Program) (G : World → Prop) (f : FuncId) (args : List CX) (res : CR) : Prop :=
  callable P f = true ∧ ∀ (w : World) (V : Nat → Nat → Prop) (vs : List Value), Held G w → (∀ b o, V b o → b < w.heap.size) → All2 (RepCX V w) args vs →
    Calls P f vs.toArray w fun e w' => ∃ v, e = .returned v ∧ RepCR (fun b o => V b o ∨ w.heap.size ≤ b) w' res v ∧ Below w.heap.size w w'
end Go.Fx

/- Fx, part Q: steps apart from one another may be taken in either order. -/
import Derived.Test.YtjijjadddeeekaaFxP
namespace Go.Fx
open Go.RowKit

/-- What a step turns: the slot's new value, a box, a token. -/
structure Delta where
  t : T
  ob : Option (Nat × Box)
  tk : Option (Nat × Tok)

def S.app (σ : S) (d : Option Nat) (δ : Delta) : S :=
  { tmps := (σ.put d δ.t).tmps,
    objs := fun k => match δ.ob with | some (j, b) => if k = j then some b else σ.objs k | none => σ.objs k,
    toks := fun k => match δ.tk with | some (j, t) => if k = j then some t else σ.toks k | none => σ.toks k }

def D.tmp? : D → List Nat
  | .t n => [n]
  | .k _ => []

def IOp.tmps : IOp → List Nat
  | .move x | .box _ x | .load _ x | .faddr _ x | .field _ _ x | .un _ x | .conv _ x | .bytes x | .len x | .slen x | .ext x _ => x.tmp?
  | .pick c a b => c.tmp? ++ (a.tmp? ++ b.tmp?)
  | .zero _ _ => []
  | .build _ ps => ps.flatMap fun p => p.2.2.tmp?
  | .row _ _ ps => ps.flatMap D.tmp?
  | .store _ x y | .iaddr _ x y | .sindex x y | .bin _ x y | .eqs _ _ x y | .eqb _ x y | .app _ _ _ x y | .make _ _ _ _ x y => x.tmp? ++ y.tmp?
  | .ssl x lo hi | .vsl _ x lo hi => x.tmp? ++ (lo.elim [] D.tmp? ++ hi.elim [] D.tmp?)
  | .call _ args => args.flatMap D.tmp?

def IOper.reads (o : IOper) : List Nat := o.op.tmps ++ (match o.guard with | some (s, _) => [s] | none => [])

/-- 0: nothing of the function's own is asked; 1: boxes are asked; 2: a new box; 3: a box is written; 4: a new token; 5: a token grows. -/
def IOper.kind (o : IOper) : Nat :=
  match o.op with
  | .load .. | .iaddr .. => 1
  | .box .. | .zero .. | .make .. => 2
  | .store .. => 3
  | .row .. => 4
  | .app .. => 5
  | _ => 0

def kindsApart : Nat → Nat → Bool
  | 0, _ | _, 0 => true
  | 1, 1 | 2, 2 | 4, 4 => true
  | 1, 4 | 4, 1 | 1, 5 | 5, 1 => true
  | 2, 4 | 4, 2 | 2, 5 | 5, 2 => true
  | 3, 4 | 4, 3 | 3, 5 | 5, 3 => true
  | _, _ => false

def apartI (a b : IOper) : Bool :=
  (match a.dst with | some d => !b.reads.contains d && b.dst != some d | none => true) &&
  (match b.dst with | some d => !a.reads.contains d | none => true) && kindsApart a.kind b.kind

/-- The step, by what it turns. -/
def Eff (P : Program) (G : World → Prop) (o : IOper) (σ : S) (δ : Delta) : Prop :=
  match o.op with
  | .move x => ∃ g, guardO σ o.guard = some g ∧ δ = ⟨moveT g (x.val σ), none, none⟩
  | .pick c a b => ∃ g, guardO σ o.guard = some g ∧ ∃ gc t, c.val σ = .k gc (rB t) ∧ (g = true → gc = true) ∧ δ = ⟨pickT g t (a.val σ) (b.val σ), none, none⟩
  | .call f args => ∃ g, guardO σ o.guard = some g ∧ ∃ cs res, (g = true → (args.all fun d => (d.val σ).g) = true ∧ closeArgs (args.map fun d => (d.val σ).r) = some cs ∧ Meets P G f cs res) ∧
      δ = ⟨.k g res.open, none, none⟩
  | .box ty x => o.guard = none ∧ ∃ d y, o.dst = some d ∧ σ.objs d = none ∧ x.val σ = .k true (.x y) ∧
      δ = ⟨.k true (.x (.one (.ref d 0 0))), some (d, ⟨ty, y.cells.length, [y.cells]⟩), none⟩
  | .zero ty z => o.guard = none ∧ ∃ d, o.dst = some d ∧ σ.objs d = none ∧ δ = ⟨.k true (.x (.one (.ref d 0 0))), some (d, ⟨ty, z.length, [z]⟩), none⟩
  | .row ty size ps => (ps.all fun d => (d.val σ).g) = true ∧ ∃ es, rowsO (ps.map fun d => (d.val σ).r) = some es ∧ (∀ e ∈ es, e.length = size) ∧
      match o.guard with
      | none => ∃ d, o.dst = some d ∧ σ.toks d = none ∧ δ = ⟨.k true (.x (.one (.own d es))), none, some (d, ⟨ty, size, es.length⟩)⟩
      | some _ => ∃ g, guardO σ o.guard = some g ∧ δ = ⟨.k g (.x (.one (.c (.sl es [])))), none, none⟩
  | .app ty size bytes x y => o.guard = none ∧ (x.val σ).g = true ∧ (y.val σ).g = true ∧ ∃ news sp, (y.val σ).r.rows? = some (news, sp) ∧ (∀ e ∈ news, e.length = size) ∧
      match (x.val σ).r with
      | .x (.one (.own k es)) => ∃ t, σ.toks k = some t ∧ t.ty = ty ∧ t.size = size ∧ es.length = t.n ∧ es.length + news.length ≤ maxLen ∧ (es.length + news.length) * bytes ≤ maxBytes ∧
          δ = ⟨.k true (.x (.one (.own k (es ++ news)))), none, some (k, ⟨ty, size, es.length + news.length⟩)⟩
      | .x (.one .nil) => ∃ d, o.dst = some d ∧ σ.toks d = none ∧ news.length ≤ maxLen ∧ news.length * bytes ≤ maxBytes ∧
          δ = ⟨.k true (.x (.one (.own d news))), none, some (d, ⟨ty, size, news.length⟩)⟩
      | _ => False
  | .make ty size bytes z l c => o.guard = none ∧ ∃ d n m, o.dst = some d ∧ σ.objs d = none ∧ l.val σ = .k true (rI .i64 n) ∧ c.val σ = .k true (rI .i64 m) ∧
      0 ≤ n ∧ n ≤ m ∧ m ≤ maxLen ∧ bytes * m ≤ maxBytes ∧ z.length = size ∧
      δ = ⟨.k true (.x (.one (.arr d 0 n.toNat m.toNat))), some (d, ⟨ty, size, List.replicate m.toNat z⟩), none⟩
  | .store n x y => o.guard = none ∧ ∃ k i off b yv, x.val σ = .k true (.x (.one (.ref k i off))) ∧ σ.objs k = some b ∧ y.val σ = .k true (.x yv) ∧
      i < b.rows.length ∧ off + yv.cells.length ≤ (b.rows.getD i []).length ∧ yv.cells.length = n.getD 1 ∧
      δ = ⟨nothing, some (k, { b with rows := b.rows.set i (splice (b.rows.getD i []) off yv.cells) }), none⟩
  | op => ∃ g, guardO σ o.guard = some g ∧ ∃ out, pureO σ op = some out ∧ (g = true → out.need) ∧ δ = ⟨.k g out.val, none, none⟩

section
variable {P : Program} {G : World → Prop} {σ σ' τ : S}

theorem app_none (d : Option Nat) (t : T) : σ.app d ⟨t, none, none⟩ = σ.put d t := by cases d <;> rfl
theorem app_obj (d : Option Nat) (t : T) (k : Nat) (b : Box) : σ.app d ⟨t, some (k, b), none⟩ = (σ.setObj k b).put d t := by cases d <;> rfl
theorem app_tok (d : Option Nat) (t : T) (k : Nat) (q : Tok) : σ.app d ⟨t, none, some (k, q)⟩ = (σ.setTok k q).put d t := by cases d <;> rfl

theorem eff_of_step {o : IOper} (h : StepI P G o σ σ') : ∃ δ, Eff P G o σ δ ∧ σ' = σ.app o.dst δ := by
  obtain ⟨dst, op, gd⟩ := o
  cases op <;> first
    | (obtain ⟨g, h1, out, h2, h3, rfl⟩ := h; exact ⟨_, ⟨g, h1, out, h2, h3, rfl⟩, (app_none _ _).symm⟩)
    | (obtain ⟨g, h1, rfl⟩ := h; exact ⟨_, ⟨g, h1, rfl⟩, (app_none _ _).symm⟩)
    | (obtain ⟨g, h1, gc, t, h2, h3, rfl⟩ := h; exact ⟨_, ⟨g, h1, gc, t, h2, h3, rfl⟩, (app_none _ _).symm⟩)
    | (obtain ⟨g, h1, cs, res, h2, rfl⟩ := h; exact ⟨_, ⟨g, h1, cs, res, h2, rfl⟩, (app_none _ _).symm⟩)
    | (obtain ⟨h0, d, y, h1, h2, h3, rfl⟩ := h; exact ⟨_, ⟨h0, d, y, h1, h2, h3, rfl⟩, (app_obj _ _ _ _).symm⟩)
    | (obtain ⟨h0, d, h1, h2, rfl⟩ := h; exact ⟨_, ⟨h0, d, h1, h2, rfl⟩, (app_obj _ _ _ _).symm⟩)
    | (obtain ⟨h0, d, n, m, h1, h2, h3, h4, h5, h6, h7, h8, h9, rfl⟩ := h; exact ⟨_, ⟨h0, d, n, m, h1, h2, h3, h4, h5, h6, h7, h8, h9, rfl⟩, (app_obj _ _ _ _).symm⟩)
    | (obtain ⟨h0, k, i, off, b, yv, h1, h2, h3, h4, h5, h6, rfl⟩ := h; exact ⟨_, ⟨h0, k, i, off, b, yv, h1, h2, h3, h4, h5, h6, rfl⟩, (app_obj _ _ _ _).symm⟩)
    | (obtain ⟨h0, es, h1, h2, h3⟩ := h
       cases gd with
       | none => obtain ⟨d, h4, h5, rfl⟩ := h3; exact ⟨_, ⟨h0, es, h1, h2, d, h4, h5, rfl⟩, (app_tok _ _ _ _).symm⟩
       | some gd => obtain ⟨g, h4, rfl⟩ := h3; exact ⟨_, ⟨h0, es, h1, h2, g, h4, rfl⟩, (app_none _ _).symm⟩)
    | (obtain ⟨h0, gx, gy, news, sp, h1, h2, h3⟩ := h
       split at h3
       · rename_i k es hx
         obtain ⟨t, q1, q2, q3, q4, q5, q6, rfl⟩ := h3
         exact ⟨_, ⟨h0, gx, gy, news, sp, h1, h2, by rw [hx]; exact ⟨t, q1, q2, q3, q4, q5, q6, rfl⟩⟩, (app_tok _ _ _ _).symm⟩
       · rename_i hx
         obtain ⟨d, q1, q2, q3, q4, rfl⟩ := h3
         exact ⟨_, ⟨h0, gx, gy, news, sp, h1, h2, by rw [hx]; exact ⟨d, q1, q2, q3, q4, rfl⟩⟩, (app_tok _ _ _ _).symm⟩
       · exact h3.elim)

theorem step_of_eff {o : IOper} {δ : Delta} (h : Eff P G o σ δ) : StepI P G o σ (σ.app o.dst δ) := by
  obtain ⟨dst, op, gd⟩ := o
  cases op <;> first
    | (obtain ⟨g, h1, out, h2, h3, rfl⟩ := h; exact ⟨g, h1, out, h2, h3, app_none _ _⟩)
    | (obtain ⟨g, h1, rfl⟩ := h; exact ⟨g, h1, app_none _ _⟩)
    | (obtain ⟨g, h1, gc, t, h2, h3, rfl⟩ := h; exact ⟨g, h1, gc, t, h2, h3, app_none _ _⟩)
    | (obtain ⟨g, h1, cs, res, h2, rfl⟩ := h; exact ⟨g, h1, cs, res, h2, app_none _ _⟩)
    | (obtain ⟨h0, d, y, h1, h2, h3, rfl⟩ := h; exact ⟨h0, d, y, h1, h2, h3, app_obj _ _ _ _⟩)
    | (obtain ⟨h0, d, h1, h2, rfl⟩ := h; exact ⟨h0, d, h1, h2, app_obj _ _ _ _⟩)
    | (obtain ⟨h0, d, n, m, h1, h2, h3, h4, h5, h6, h7, h8, h9, rfl⟩ := h; exact ⟨h0, d, n, m, h1, h2, h3, h4, h5, h6, h7, h8, h9, app_obj _ _ _ _⟩)
    | (obtain ⟨h0, k, i, off, b, yv, h1, h2, h3, h4, h5, h6, rfl⟩ := h; exact ⟨h0, k, i, off, b, yv, h1, h2, h3, h4, h5, h6, app_obj _ _ _ _⟩)
    | (obtain ⟨h0, es, h1, h2, h3⟩ := h
       cases gd with
       | none => obtain ⟨d, h4, h5, rfl⟩ := h3; exact ⟨h0, es, h1, h2, d, h4, h5, app_tok _ _ _ _⟩
       | some gd => obtain ⟨g, h4, rfl⟩ := h3; exact ⟨h0, es, h1, h2, g, h4, app_none _ _⟩)
    | (obtain ⟨h0, gx, gy, news, sp, h1, h2, h3⟩ := h
       split at h3
       · rename_i k es hx
         obtain ⟨t, q1, q2, q3, q4, q5, q6, rfl⟩ := h3
         exact ⟨h0, gx, gy, news, sp, h1, h2, by rw [hx]; exact ⟨t, q1, q2, q3, q4, q5, q6, app_tok _ _ _ _⟩⟩
       · rename_i hx
         obtain ⟨d, q1, q2, q3, q4, rfl⟩ := h3
         exact ⟨h0, gx, gy, news, sp, h1, h2, by rw [hx]; exact ⟨d, q1, q2, q3, q4, app_tok _ _ _ _⟩⟩
       · exact h3.elim)

/-- Two states that agree on these temporaries. -/
def Agree (l : List Nat) (σ τ : S) : Prop := ∀ n ∈ l, σ.tmps n = τ.tmps n

theorem Agree.val {l : List Nat} (h : Agree l σ τ) {d : D} (hd : ∀ n ∈ d.tmp?, n ∈ l) : d.val σ = d.val τ := by
  cases d with
  | t n => exact h n (hd n (by simp [D.tmp?]))
  | k r => rfl

theorem Agree.guard {gd : Option (Nat × Bool)} (h : ∀ s b, gd = some (s, b) → σ.tmps s = τ.tmps s) : guardO σ gd = guardO τ gd := by
  cases gd with
  | none => rfl
  | some p => obtain ⟨s, b⟩ := p; simp only [guardO, h s b rfl]

structure Local (o : IOper) (σ τ : S) : Prop where
  tmps : ∀ n ∈ o.reads, σ.tmps n = τ.tmps n
  objs : o.kind = 1 ∨ o.kind = 3 → σ.objs = τ.objs
  newO : o.kind = 2 → ∀ d, o.dst = some d → σ.objs d = none → τ.objs d = none
  newT : o.kind = 4 → ∀ d, o.dst = some d → σ.toks d = none → τ.toks d = none
  toks : o.kind = 5 → σ.toks = τ.toks

theorem map_val {ds : List D} {α : Type} (f : T → α) (h : ∀ d ∈ ds, d.val σ = d.val τ) : ds.map (fun d => f (d.val σ)) = ds.map (fun d => f (d.val τ)) :=
  List.map_congr_left fun d hd => by rw [h d hd]

theorem all_val {ds : List D} (h : ∀ d ∈ ds, d.val σ = d.val τ) : (ds.all fun d => (d.val σ).g) = (ds.all fun d => (d.val τ).g) := by
  induction ds with
  | nil => rfl
  | cons d ds ih => simp only [List.all_cons]; rw [h d (by simp), ih fun x hx => h x (List.mem_cons_of_mem _ hx)]

theorem pureO_congr {op : IOp} (h : ∀ n ∈ op.tmps, σ.tmps n = τ.tmps n) (ho : (∃ n x, op = .load n x) ∨ (∃ s x y, op = .iaddr s x y) → σ.objs = τ.objs) : pureO σ op = pureO τ op := by
  have v : ∀ d : D, (∀ n ∈ d.tmp?, n ∈ op.tmps) → d.val σ = d.val τ := fun d hd => Agree.val (l := op.tmps) h hd
  cases op with
  | build z ps =>
    have hv : ∀ p ∈ ps, p.2.2.val σ = p.2.2.val τ := fun p hp => v _ fun n hn => by simp only [IOp.tmps, List.mem_flatMap]; exact ⟨p, hp, hn⟩
    have e1 : (ps.map fun p => (p.1, p.2.1, (p.2.2.val σ).r)) = ps.map fun p => (p.1, p.2.1, (p.2.2.val τ).r) := List.map_congr_left fun p hp => by rw [hv p hp]
    have e2 : (ps.all fun p => (p.2.2.val σ).g) = ps.all fun p => (p.2.2.val τ).g := by
      clear e1 v h ho
      induction ps with
      | nil => rfl
      | cons p ps ih => simp only [List.all_cons]; rw [hv p (by simp), ih fun x hx => hv x (List.mem_cons_of_mem _ hx)]
    simp only [pureO, e1, e2]
  | load n x =>
    have e1 := v x (fun n hn => by simp [IOp.tmps, hn])
    have e2 := ho (.inl ⟨n, x, rfl⟩)
    have e3 : ∀ r, loadO σ n r = loadO τ n r := fun r => by unfold loadO; simp only [e2]
    simp only [pureO, e1, e3]
  | iaddr s x y =>
    have e1 := v x (fun n hn => by simp [IOp.tmps, hn])
    have e2 := v y (fun n hn => by simp [IOp.tmps, hn])
    have e3 := ho (.inr ⟨s, x, y, rfl⟩)
    have e4 : ∀ r q, iaddrO σ s r q = iaddrO τ s r q := fun r q => by unfold iaddrO; simp only [e3]
    simp only [pureO, e1, e2, e4]
  | ssl x lo hi =>
    have e1 := v x (fun n hn => by simp [IOp.tmps, hn])
    cases lo <;> cases hi <;> simp only [pureO, e1, Option.map_none, Option.all_none, Option.map_some, Option.all_some]
    · rename_i d; rw [v d (fun n hn => by simp [IOp.tmps, hn])]
    · rename_i d; rw [v d (fun n hn => by simp [IOp.tmps, hn])]
    · rename_i d e; rw [v d (fun n hn => by simp [IOp.tmps, hn]), v e (fun n hn => by simp [IOp.tmps, hn])]
  | vsl s x lo hi =>
    have e1 := v x (fun n hn => by simp [IOp.tmps, hn])
    cases lo <;> cases hi <;> simp only [pureO, e1, Option.map_none, Option.all_none, Option.map_some, Option.all_some]
    · rename_i d; rw [v d (fun n hn => by simp [IOp.tmps, hn])]
    · rename_i d; rw [v d (fun n hn => by simp [IOp.tmps, hn])]
    · rename_i d e; rw [v d (fun n hn => by simp [IOp.tmps, hn]), v e (fun n hn => by simp [IOp.tmps, hn])]
  | sindex x y => simp only [pureO, v x (fun n hn => by simp [IOp.tmps, hn]), v y (fun n hn => by simp [IOp.tmps, hn])]
  | bin op x y => simp only [pureO, v x (fun n hn => by simp [IOp.tmps, hn]), v y (fun n hn => by simp [IOp.tmps, hn])]
  | eqs b ks x y => simp only [pureO, v x (fun n hn => by simp [IOp.tmps, hn]), v y (fun n hn => by simp [IOp.tmps, hn])]
  | eqb b x y => simp only [pureO, v x (fun n hn => by simp [IOp.tmps, hn]), v y (fun n hn => by simp [IOp.tmps, hn])]
  | faddr o x => simp only [pureO, v x (fun n hn => by simp [IOp.tmps, hn])]
  | field o q x => simp only [pureO, v x (fun n hn => by simp [IOp.tmps, hn])]
  | un o x => simp only [pureO, v x (fun n hn => by simp [IOp.tmps, hn])]
  | conv o x => simp only [pureO, v x (fun n hn => by simp [IOp.tmps, hn])]
  | bytes x => simp only [pureO, v x (fun n hn => by simp [IOp.tmps, hn])]
  | len x => simp only [pureO, v x (fun n hn => by simp [IOp.tmps, hn])]
  | slen x => simp only [pureO, v x (fun n hn => by simp [IOp.tmps, hn])]
  | ext x i => simp only [pureO, v x (fun n hn => by simp [IOp.tmps, hn])]
  | _ => rfl

theorem Eff.congr {o : IOper} {δ : Delta} (h : Eff P G o σ δ) (hl : Local o σ τ) : Eff P G o τ δ := by
  obtain ⟨dst, op, gd⟩ := o
  have ht : ∀ n ∈ op.tmps, σ.tmps n = τ.tmps n := fun n hn => hl.tmps n (List.mem_append_left _ hn)
  have hg : guardO σ gd = guardO τ gd := Agree.guard fun s b e => hl.tmps s (by subst e; simp [IOper.reads])
  have v : ∀ d : D, (∀ n ∈ d.tmp?, n ∈ op.tmps) → d.val σ = d.val τ := fun d hd => Agree.val (l := op.tmps) ht hd
  have pure : (∃ g, guardO σ gd = some g ∧ ∃ out, pureO σ op = some out ∧ (g = true → out.need) ∧ δ = ⟨.k g out.val, none, none⟩) → ((∃ n x, op = .load n x) ∨ (∃ s x y, op = .iaddr s x y) → σ.objs = τ.objs) →
      (∃ g, guardO τ gd = some g ∧ ∃ out, pureO τ op = some out ∧ (g = true → out.need) ∧ δ = ⟨.k g out.val, none, none⟩) := fun ⟨g, h1, out, h2, h3⟩ ho => ⟨g, by rw [← hg]; exact h1, out, by rw [← pureO_congr ht ho]; exact h2, h3⟩
  cases op with
  | move x =>
    obtain ⟨g, h1, rfl⟩ := h
    exact ⟨g, by rw [← hg]; exact h1, by rw [v x (fun n hn => by simp [IOp.tmps, hn])]⟩
  | pick c a b =>
    obtain ⟨g, h1, gc, t, h2, h3, rfl⟩ := h
    exact ⟨g, by rw [← hg]; exact h1, gc, t, by rw [← v c (fun n hn => by simp [IOp.tmps, hn])]; exact h2, h3, by rw [v a (fun n hn => by simp [IOp.tmps, hn]), v b (fun n hn => by simp [IOp.tmps, hn])]⟩
  | call f args =>
    obtain ⟨g, h1, cs, res, h2, rfl⟩ := h
    have hv : ∀ d ∈ args, d.val σ = d.val τ := fun d hd => v d fun n hn => by simp only [IOp.tmps, List.mem_flatMap]; exact ⟨d, hd, hn⟩
    refine ⟨g, by rw [← hg]; exact h1, cs, res, fun e => ?_, rfl⟩
    obtain ⟨q1, q2, q3⟩ := h2 e
    exact ⟨by rw [← all_val hv]; exact q1, by rw [← map_val T.r hv]; exact q2, q3⟩
  | box ty x =>
    obtain ⟨h0, d, y, h1, h2, h3, rfl⟩ := h
    exact ⟨h0, d, y, h1, hl.newO rfl d h1 h2, by rw [← v x (fun n hn => by simp [IOp.tmps, hn])]; exact h3, rfl⟩
  | zero ty z =>
    obtain ⟨h0, d, h1, h2, rfl⟩ := h
    exact ⟨h0, d, h1, hl.newO rfl d h1 h2, rfl⟩
  | row ty size ps =>
    obtain ⟨h0, es, h1, h2, h3⟩ := h
    have hv : ∀ d ∈ ps, d.val σ = d.val τ := fun d hd => v d fun n hn => by simp only [IOp.tmps, List.mem_flatMap]; exact ⟨d, hd, hn⟩
    refine ⟨by rw [← all_val hv]; exact h0, es, by rw [← map_val T.r hv]; exact h1, h2, ?_⟩
    cases gd with
    | none => obtain ⟨d, h4, h5, rfl⟩ := h3; exact ⟨d, h4, hl.newT rfl d h4 h5, rfl⟩
    | some gd => obtain ⟨g, h4, rfl⟩ := h3; exact ⟨g, by rw [← hg]; exact h4, rfl⟩
  | app ty size bytes x y =>
    obtain ⟨h0, gx, gy, news, sp, h1, h2, h3⟩ := h
    have ex := v x (fun n hn => by simp [IOp.tmps, hn])
    have ey := v y (fun n hn => by simp [IOp.tmps, hn])
    have et := hl.toks rfl
    rw [ex] at gx h3
    rw [ey] at gy h1
    rw [et] at h3
    exact ⟨h0, gx, gy, news, sp, h1, h2, h3⟩
  | make ty size bytes z l c =>
    obtain ⟨h0, d, n, m, h1, h2, h3, h4, h5⟩ := h
    exact ⟨h0, d, n, m, h1, hl.newO rfl d h1 h2, by rw [← v l (fun n hn => by simp [IOp.tmps, hn])]; exact h3, by rw [← v c (fun n hn => by simp [IOp.tmps, hn])]; exact h4, h5⟩
  | store n x y =>
    obtain ⟨h0, k, i, off, b, yv, h1, h2, h3, h4⟩ := h
    exact ⟨h0, k, i, off, b, yv, by rw [← v x (fun n hn => by simp [IOp.tmps, hn])]; exact h1, by rw [← hl.objs (.inr rfl)]; exact h2, by rw [← v y (fun n hn => by simp [IOp.tmps, hn])]; exact h3, h4⟩
  | load n x => exact pure h fun _ => hl.objs (.inl rfl)
  | iaddr s x y => exact pure h fun _ => hl.objs (.inl rfl)
  | build z ps => exact pure h fun e => by rcases e with ⟨_, _, e⟩ | ⟨_, _, _, e⟩ <;> cases e
  | faddr o x => exact pure h fun e => by rcases e with ⟨_, _, e⟩ | ⟨_, _, _, e⟩ <;> cases e
  | field o q x => exact pure h fun e => by rcases e with ⟨_, _, e⟩ | ⟨_, _, _, e⟩ <;> cases e
  | sindex x y => exact pure h fun e => by rcases e with ⟨_, _, e⟩ | ⟨_, _, _, e⟩ <;> cases e
  | bin op x y => exact pure h fun e => by rcases e with ⟨_, _, e⟩ | ⟨_, _, _, e⟩ <;> cases e
  | eqs b ks x y => exact pure h fun e => by rcases e with ⟨_, _, e⟩ | ⟨_, _, _, e⟩ <;> cases e
  | eqb b x y => exact pure h fun e => by rcases e with ⟨_, _, e⟩ | ⟨_, _, _, e⟩ <;> cases e
  | un o x => exact pure h fun e => by rcases e with ⟨_, _, e⟩ | ⟨_, _, _, e⟩ <;> cases e
  | conv o x => exact pure h fun e => by rcases e with ⟨_, _, e⟩ | ⟨_, _, _, e⟩ <;> cases e
  | bytes x => exact pure h fun e => by rcases e with ⟨_, _, e⟩ | ⟨_, _, _, e⟩ <;> cases e
  | len x => exact pure h fun e => by rcases e with ⟨_, _, e⟩ | ⟨_, _, _, e⟩ <;> cases e
  | slen x => exact pure h fun e => by rcases e with ⟨_, _, e⟩ | ⟨_, _, _, e⟩ <;> cases e
  | ssl x lo hi => exact pure h fun e => by rcases e with ⟨_, _, e⟩ | ⟨_, _, _, e⟩ <;> cases e
  | vsl s x lo hi => exact pure h fun e => by rcases e with ⟨_, _, e⟩ | ⟨_, _, _, e⟩ <;> cases e
  | ext x i => exact pure h fun e => by rcases e with ⟨_, _, e⟩ | ⟨_, _, _, e⟩ <;> cases e

end
end Go.Fx

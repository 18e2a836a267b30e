import Derived.Test.YtckhkfchgcdajaaGreatDoorYFxP
namespace Go.Fx
open Go.RowKit
structure Delta where
  t : T
  ob : Nat → Option Box
  tk : Nat → Option Tok
  ex : Option XP
def no {α : Type} : Nat → Option α := fun _ => none
def on1 {α : Type} (k : Nat) (x : α) : Nat → Option α := fun j => if j = k then some x else none
def S.app (σ : S) (d : Option Nat) (δ : Delta) : S :=
  { tmps := (σ.put d δ.t).tmps,
    objs := fun k => match δ.ob k with | some b => some b | none => σ.objs k,
    toks := fun k => match δ.tk k with | some t => some t | none => σ.toks k,
    ext := δ.ex.getD σ.ext }
def D.tmp? : D → List Nat
  | .t n => [n]
  | .k _ => []
def IOp.tmps : IOp → List Nat
  | .move x | .box _ x | .load _ x | .faddr _ x | .field _ _ x | .un _ x | .conv _ x | .bytes x | .len x | .slen x | .ext x _ | .mki _ x | .asrt _ _ _ _ x | .nilchk x | .gidx _ _ _ x | .gload x => x.tmp?
  | .pick c a b => c.tmp? ++ (a.tmp? ++ b.tmp?)
  | .zero _ _ | .mkmap _ _ _ => []
  | .mlook _ _ _ _ m k => m.tmp? ++ k.tmp?
  | .mapup _ _ m k v => m.tmp? ++ (k.tmp? ++ v.tmp?)
  | .build _ ps => ps.flatMap fun p => p.2.2.tmp?
  | .row _ _ ps | .rowb _ _ ps => ps.flatMap D.tmp?
  | .store _ x y | .iaddr _ x y | .sindex x y | .bin _ x y | .eqs _ _ x y | .eqb _ x y | .app _ _ _ x y | .appb _ _ _ x y | .make _ _ _ _ x y => x.tmp? ++ y.tmp?
  | .ssl x lo hi | .vsl _ x lo hi => x.tmp? ++ (lo.elim [] D.tmp? ++ hi.elim [] D.tmp?)
  | .call f args | .callp f args => f.tmp? ++ args.flatMap D.tmp?
  | .clo _ fs cs => fs.flatMap D.tmp? ++ cs.flatMap D.tmp?
def IOper.reads (o : IOper) : List Nat := o.op.tmps ++ (match o.guard with | some (s, _) => [s] | none => [])
def IOper.ro (o : IOper) : Option (List Nat) :=
  match o.op with
  | .load .. | .iaddr .. | .mlook .. | .store .. | .mapup .. | .call .. => o.fp
  | _ => some []
def IOper.wo (o : IOper) : Option (List Nat) :=
  match o.op with
  | .box .. | .zero .. | .make .. | .mkmap .. | .rowb .. | .appb .. => some o.dst.toList
  | .store .. | .mapup .. | .call .. => o.fp
  | _ => some []
def IOper.wt (o : IOper) : Option (List Nat) :=
  match o.op with
  | .row .. => some o.dst.toList
  | .app .. => o.fp.map (o.dst.toList ++ ·)
  | .call .. => o.fp
  | _ => some []
def IOper.isCall (o : IOper) : Bool :=
  match o.op with
  | .call .. => true
  | _ => false
def Eff (P : Program) (G : World → Prop) (o : IOper) (σ : S) (δ : Delta) : Prop :=
  match o.op with
  | .move x => ∃ g, guardO σ o.guard = some g ∧ δ = ⟨moveT g (x.val σ), no, no, none⟩
  | .pick c a b => ∃ g, guardO σ o.guard = some g ∧ ∃ gc t, c.val σ = .k gc (rB t) ∧ (g = true → gc = true) ∧ δ = ⟨pickT g t (a.val σ) (b.val σ), no, no, none⟩
  | .call f args => ∃ g, guardO σ o.guard = some g ∧ ∃ (fv : A) (xs : List X) (x : Bool) (h : Hp) (res : R) (h' : Hp),
      (g = true → (args.all fun d => (d.val σ).g) = true ∧ fitsR (args.map fun d => (d.val σ).r) xs ∧ f.val σ = .k true (.x (.one fv)) ∧ MeetsV P G fv xs h res h' ∧ Lends σ x h h' ∧
        ∀ k, (h.objs k ≠ none ∨ h.toks k ≠ none ∨ h'.objs k ≠ none ∨ h'.toks k ≠ none) → fpK o.fp k) ∧
      δ = if g then ⟨.k true res, h'.objs, h'.toks, if x then some h'.ext else none⟩ else ⟨.k false res, no, no, none⟩
  | .callp f args => ∃ g, guardO σ o.guard = some g ∧ ∃ cs res, (g = true → (args.all fun d => (d.val σ).g) = true ∧ closeArgs (args.map fun d => (d.val σ).r) = some cs ∧ ∃ fn, f.val σ = .k true (rF fn) ∧ Meets P G fn cs res) ∧
      δ = ⟨.k g res.open, no, no, none⟩
  | .gload x => ∃ g, guardO σ o.guard = some g ∧ ∃ a v, (g = true → x.val σ = .k true (.x (.one (.c (.v (.pointer (some a)))))) ∧ v.oneCell' = true ∧ ∀ w, G w → w.cell? a = some v) ∧
      δ = ⟨.k g (.x (.one (.c (.v v)))), no, no, none⟩
  | .box ty x => o.guard = none ∧ ∃ d y, o.dst = some d ∧ σ.objs d = none ∧ x.val σ = .k true (.x y) ∧
      δ = ⟨.k true (.x (.one (.ref d 0 0))), on1 d ⟨ty, y.cells.length, [y.cells], none⟩, no, none⟩
  | .mkmap dk size one => o.guard = none ∧ ∃ d, o.dst = some d ∧ σ.objs d = none ∧ δ = ⟨.k true (.x (.one (.mapr d))), on1 d ⟨0, size, [], some (dk, one)⟩, no, none⟩
  | .mapup dk one m k v => o.guard = none ∧ ∃ j b x yv, m.val σ = .k true (.x (.one (.mapr j))) ∧ σ.objs j = some b ∧ b.mp = some (dk, one) ∧ k.val σ = .k true (.x (.one (.c (.v x)))) ∧ MapKept.IsKey dk x ∧
      v.val σ = .k true (.x yv) ∧ formX one yv.cells = yv ∧ yv.cells.length + 1 = b.size ∧ δ = ⟨nothing, on1 j { b with rows := mapPut b.rows x yv.cells }, no, none⟩
  | .zero ty z => o.guard = none ∧ ∃ d, o.dst = some d ∧ σ.objs d = none ∧ δ = ⟨.k true (.x (.one (.ref d 0 0))), on1 d ⟨ty, z.length, [z], none⟩, no, none⟩
  | .rowb ty size ps => o.guard = none ∧ ∃ d es, o.dst = some d ∧ σ.objs d = none ∧ ((ps.all fun d => (d.val σ).g) = true ∧ rowsO (ps.map fun d => (d.val σ).r) = some es ∧ ∀ e ∈ es, e.length = size) ∧
      δ = ⟨.k true (.x (.one (.arr d 0 es.length es.length))), on1 d ⟨ty, size, es.map (·.map A.c), none⟩, no, none⟩
  | .appb ty size bytes x y => o.guard = none ∧ ∃ d news, o.dst = some d ∧ σ.objs d = none ∧ (x.val σ = .k true (.x (.one .nil)) ∧ (y.val σ).g = true ∧ (∃ sp, (y.val σ).r.rows? = some (news, sp)) ∧ (∀ e ∈ news, e.length = size) ∧ news ≠ [] ∧ news.length ≤ maxLen ∧ news.length * bytes ≤ maxBytes) ∧
      δ = ⟨.k true (.x (.one (.arr d 0 news.length news.length))), on1 d ⟨ty, size, news.map (·.map A.c), none⟩, no, none⟩
  | .row ty size ps => (ps.all fun d => (d.val σ).g) = true ∧ ∃ es, rowsO (ps.map fun d => (d.val σ).r) = some es ∧ (∀ e ∈ es, e.length = size) ∧
      match o.guard with
      | none => ∃ d, o.dst = some d ∧ σ.toks d = none ∧ δ = ⟨.k true (.x (.one (.own d es))), no, on1 d ⟨ty, size, es.length⟩, none⟩
      | some _ => ∃ g, guardO σ o.guard = some g ∧ δ = ⟨.k g (.x (.one (.c (.sl es [])))), no, no, none⟩
  | .app ty size bytes x y => guardO σ o.guard = some true ∧ (x.val σ).g = true ∧ (y.val σ).g = true ∧ ∃ news sp, (y.val σ).r.rows? = some (news, sp) ∧ (∀ e ∈ news, e.length = size) ∧
      match (x.val σ).r with
      | .x (.one (.own k es)) => ∃ t, σ.toks k = some t ∧ t.ty = ty ∧ t.size = size ∧ es.length = t.n ∧ es.length + news.length ≤ maxLen ∧ (es.length + news.length) * bytes ≤ maxBytes ∧
          δ = ⟨.k true (.x (.one (.own k (es ++ news)))), no, on1 k ⟨ty, size, es.length + news.length⟩, none⟩
      | .x (.one .nil) => ∃ d, o.dst = some d ∧ σ.toks d = none ∧ news.length ≤ maxLen ∧ news.length * bytes ≤ maxBytes ∧
          δ = ⟨.k true (.x (.one (.own d news))), no, on1 d ⟨ty, size, news.length⟩, none⟩
      | _ => False
  | .make ty size bytes z l c => o.guard = none ∧ ∃ d n m, o.dst = some d ∧ σ.objs d = none ∧ l.val σ = .k true (rI .i64 n) ∧ c.val σ = .k true (rI .i64 m) ∧
      0 ≤ n ∧ n ≤ m ∧ m ≤ maxLen ∧ bytes * m ≤ maxBytes ∧ z.length = size ∧
      δ = ⟨.k true (.x (.one (.arr d 0 n.toNat m.toNat))), on1 d ⟨ty, size, List.replicate m.toNat z, none⟩, no, none⟩
  | .store n x y => o.guard = none ∧ ∃ k i off b yv, x.val σ = .k true (.x (.one (.ref k i off))) ∧ σ.objs k = some b ∧ b.mp = none ∧ y.val σ = .k true (.x yv) ∧
      i < b.rows.length ∧ off + yv.cells.length ≤ (b.rows.getD i []).length ∧ yv.cells.length = n.getD 1 ∧
      δ = ⟨nothing, on1 k { b with rows := b.rows.set i (splice (b.rows.getD i []) off yv.cells) }, no, none⟩
  | op => ∃ g, guardO σ o.guard = some g ∧ ∃ out, pureO σ op = some out ∧ (g = true → out.need) ∧ δ = ⟨.k g out.val, no, no, none⟩
section
variable {P : Program} {G : World → Prop} {σ σ' τ : S}
def Agree (l : List Nat) (σ τ : S) : Prop := ∀ n ∈ l, σ.tmps n = τ.tmps n
theorem Agree.val {l : List Nat} (h : Agree l σ τ) {d : D} (hd : ∀ n ∈ d.tmp?, n ∈ l) : d.val σ = d.val τ := by
  cases d with
  | t n => exact h n (hd n (by simp [D.tmp?]))
  | k r => rfl
theorem Agree.guard {gd : Option (Nat × Bool)} (h : ∀ s b, gd = some (s, b) → σ.tmps s = τ.tmps s) : guardO σ gd = guardO τ gd := by
  cases gd with
  | none => rfl
  | some p => obtain ⟨s, b⟩ := p; simp only [guardO, h s b rfl]
structure Local (o : IOper) (σ τ : S) : Prop where
  tmps : ∀ n ∈ o.reads, σ.tmps n = τ.tmps n
  ro : ∀ k, fpK o.ro k → σ.objs k = τ.objs k
  wo : ∀ k, fpK o.wo k → σ.objs k = τ.objs k
  wt : ∀ k, fpK o.wt k → σ.toks k = τ.toks k
  ext : o.isCall = true → σ.ext = τ.ext
theorem map_val {ds : List D} {α : Type} (f : T → α) (h : ∀ d ∈ ds, d.val σ = d.val τ) : ds.map (fun d => f (d.val σ)) = ds.map (fun d => f (d.val τ)) :=
  List.map_congr_left fun d hd => by rw [h d hd]
theorem all_val {ds : List D} (h : ∀ d ∈ ds, d.val σ = d.val τ) : (ds.all fun d => (d.val σ).g) = (ds.all fun d => (d.val τ).g) := by
  induction ds with
  | nil => rfl
  | cons d ds ih => simp only [List.all_cons]; rw [h d (by simp), ih fun x hx => h x (List.mem_cons_of_mem _ hx)]
theorem loadO_congr {n : Option Nat} {r : R} (h : ∀ k, r.key? = some k → σ.objs k = τ.objs k) : loadO σ n r = loadO τ n r := by
  unfold loadO
  split
  · rfl
  · rename_i k i off; rw [h k rfl]
  · rfl
theorem iaddrO_congr {s : Nat} {r q : R} (h : ∀ k, r.key? = some k → σ.objs k = τ.objs k) : iaddrO σ s r q = iaddrO τ s r q := by
  unfold iaddrO
  split
  · rfl
  · rfl
  · rename_i k off n c kk i; rw [h k rfl]
  · rfl
theorem mlookO_congr {d : TypeDesc} {one comma : Bool} {z : List A} {r q : R} (h : ∀ k, r.key? = some k → σ.objs k = τ.objs k) : mlookO σ d one comma z r q = mlookO τ d one comma z r q := by
  unfold mlookO
  split
  · rename_i k x; rw [h k rfl]
  · rfl
theorem pureO_congr {op : IOp} (h : ∀ n ∈ op.tmps, σ.tmps n = τ.tmps n) (ho : ∀ x, op.main? = some x → ∀ k, (x.val σ).r.key? = some k → σ.objs k = τ.objs k) : pureO σ op = pureO τ op := by
  have v : ∀ d : D, (∀ n ∈ d.tmp?, n ∈ op.tmps) → d.val σ = d.val τ := fun d hd => Agree.val (l := op.tmps) h hd
  cases op with
  | build z ps =>
    have hv : ∀ p ∈ ps, p.2.2.val σ = p.2.2.val τ := fun p hp => v _ fun n hn => by simp only [IOp.tmps, List.mem_flatMap]; exact ⟨p, hp, hn⟩
    have e1 : (ps.map fun p => (p.1, p.2.1, (p.2.2.val σ).r)) = ps.map fun p => (p.1, p.2.1, (p.2.2.val τ).r) := List.map_congr_left fun p hp => by rw [hv p hp]
    have e2 : (ps.all fun p => (p.2.2.val σ).g) = ps.all fun p => (p.2.2.val τ).g := by
      clear e1 v h ho
      induction ps with
      | nil => rfl
      | cons p ps ih => simp only [List.all_cons]; rw [hv p (by simp), ih fun x hx => hv x (List.mem_cons_of_mem _ hx)]
    simp only [pureO, e1, e2]
  | load n x =>
    have e1 := v x (fun n hn => by simp [IOp.tmps, hn])
    have e2 := loadO_congr (n := n) (ho x rfl)
    simp only [pureO, e2]
    simp only [e1]
  | iaddr s x y =>
    have e1 := v x (fun n hn => by simp [IOp.tmps, hn])
    have e2 := v y (fun n hn => by simp [IOp.tmps, hn])
    have e4 := iaddrO_congr (s := s) (q := (y.val σ).r) (ho x rfl)
    simp only [pureO, e4]
    simp only [e1, e2]
  | mlook d b c z m k =>
    have e1 := v m (fun n hn => by simp [IOp.tmps, hn])
    have e2 := v k (fun n hn => by simp [IOp.tmps, hn])
    have e4 := mlookO_congr (d := d) (one := b) (comma := c) (z := z) (q := (k.val σ).r) (ho m rfl)
    simp only [pureO, e4]
    simp only [e1, e2]
  | ssl x lo hi =>
    have e1 := v x (fun n hn => by simp [IOp.tmps, hn])
    cases lo <;> cases hi <;> simp only [pureO, e1, Option.map_none, Option.all_none, Option.map_some, Option.all_some]
    · rename_i d; rw [v d (fun n hn => by simp [IOp.tmps, hn])]
    · rename_i d; rw [v d (fun n hn => by simp [IOp.tmps, hn])]
    · rename_i d e; rw [v d (fun n hn => by simp [IOp.tmps, hn]), v e (fun n hn => by simp [IOp.tmps, hn])]
  | vsl s x lo hi =>
    have e1 := v x (fun n hn => by simp [IOp.tmps, hn])
    cases lo <;> cases hi <;> simp only [pureO, e1, Option.map_none, Option.all_none, Option.map_some, Option.all_some]
    · rename_i d; rw [v d (fun n hn => by simp [IOp.tmps, hn])]
    · rename_i d; rw [v d (fun n hn => by simp [IOp.tmps, hn])]
    · rename_i d e; rw [v d (fun n hn => by simp [IOp.tmps, hn]), v e (fun n hn => by simp [IOp.tmps, hn])]
  | clo f fs cs =>
    have h1 : ∀ d ∈ fs, d.val σ = d.val τ := fun d hd => v d fun n hn => by simp only [IOp.tmps, List.mem_append, List.mem_flatMap]; exact .inl ⟨d, hd, hn⟩
    have h2 : ∀ d ∈ cs, d.val σ = d.val τ := fun d hd => v d fun n hn => by simp only [IOp.tmps, List.mem_append, List.mem_flatMap]; exact .inr ⟨d, hd, hn⟩
    simp only [pureO, all_val h1, all_val h2, map_val T.r h1, map_val T.r h2]
  | mki t x => simp only [pureO, v x (fun n hn => by simp [IOp.tmps, hn])]
  | asrt t c o z x => simp only [pureO, v x (fun n hn => by simp [IOp.tmps, hn])]
  | nilchk x => simp only [pureO, v x (fun n hn => by simp [IOp.tmps, hn])]
  | sindex x y => simp only [pureO, v x (fun n hn => by simp [IOp.tmps, hn]), v y (fun n hn => by simp [IOp.tmps, hn])]
  | bin op x y => simp only [pureO, v x (fun n hn => by simp [IOp.tmps, hn]), v y (fun n hn => by simp [IOp.tmps, hn])]
  | eqs b ks x y => simp only [pureO, v x (fun n hn => by simp [IOp.tmps, hn]), v y (fun n hn => by simp [IOp.tmps, hn])]
  | eqb b x y => simp only [pureO, v x (fun n hn => by simp [IOp.tmps, hn]), v y (fun n hn => by simp [IOp.tmps, hn])]
  | faddr o x => simp only [pureO, v x (fun n hn => by simp [IOp.tmps, hn])]
  | field o q x => simp only [pureO, v x (fun n hn => by simp [IOp.tmps, hn])]
  | un o x => simp only [pureO, v x (fun n hn => by simp [IOp.tmps, hn])]
  | conv o x => simp only [pureO, v x (fun n hn => by simp [IOp.tmps, hn])]
  | bytes x => simp only [pureO, v x (fun n hn => by simp [IOp.tmps, hn])]
  | len x => simp only [pureO, v x (fun n hn => by simp [IOp.tmps, hn])]
  | slen x => simp only [pureO, v x (fun n hn => by simp [IOp.tmps, hn])]
  | ext x i => simp only [pureO, v x (fun n hn => by simp [IOp.tmps, hn])]
  | gidx a b c x => simp only [pureO, v x (fun n hn => by simp [IOp.tmps, hn])]
  | _ => rfl
theorem Lends.congr {x : Bool} {h h' : Hp} {fp : Option (List Nat)} (hl : Lends σ x h h') (hfp : ∀ k, (h.objs k ≠ none ∨ h.toks k ≠ none ∨ h'.objs k ≠ none ∨ h'.toks k ≠ none) → fpK fp k)
    (h1 : ∀ k, fpK fp k → σ.objs k = τ.objs k) (h2 : ∀ k, fpK fp k → σ.toks k = τ.toks k) (h3 : σ.ext = τ.ext) : Lends τ x h h' where
  obj := fun k b hk => by rw [← h1 k (hfp k (.inl (by rw [hk]; simp)))]; exact hl.obj k b hk
  tok := fun k b hk => by rw [← h2 k (hfp k (.inr (.inl (by rw [hk]; simp))))]; exact hl.tok k b hk
  ext := by rw [← h3]; exact hl.ext
  obj' := hl.obj'
  tok' := hl.tok'
  newO := fun k hk hn => by rw [← h1 k (hfp k (.inr (.inr (.inl hk))))]; exact hl.newO k hk hn
  newT := fun k hk hn => by rw [← h2 k (hfp k (.inr (.inr (.inr hk))))]; exact hl.newT k hk hn
theorem Eff.congr {o : IOper} {δ : Delta} (ht0 : touched o σ) (h : Eff P G o σ δ) (hl : Local o σ τ) : Eff P G o τ δ := by
  obtain ⟨dst, op, gd, fp⟩ := o
  have ht : ∀ n ∈ op.tmps, σ.tmps n = τ.tmps n := fun n hn => hl.tmps n (List.mem_append_left _ hn)
  have hg : guardO σ gd = guardO τ gd := Agree.guard fun s b e => hl.tmps s (by subst e; simp [IOper.reads])
  have v : ∀ d : D, (∀ n ∈ d.tmp?, n ∈ op.tmps) → d.val σ = d.val τ := fun d hd => Agree.val (l := op.tmps) ht hd
  have pure : (∃ g, guardO σ gd = some g ∧ ∃ out, pureO σ op = some out ∧ (g = true → out.need) ∧ δ = ⟨.k g out.val, no, no, none⟩) → (∀ x, op.main? = some x → ∀ k, (x.val σ).r.key? = some k → σ.objs k = τ.objs k) →
      (∃ g, guardO τ gd = some g ∧ ∃ out, pureO τ op = some out ∧ (g = true → out.need) ∧ δ = ⟨.k g out.val, no, no, none⟩) := fun ⟨g, h1, out, h2, h3⟩ ho => ⟨g, by rw [← hg]; exact h1, out, by rw [← pureO_congr ht ho]; exact h2, h3⟩
  cases op with
  | move x =>
    obtain ⟨g, h1, rfl⟩ := h
    exact ⟨g, by rw [← hg]; exact h1, by rw [v x (fun n hn => by simp [IOp.tmps, hn])]⟩
  | pick c a b =>
    obtain ⟨g, h1, gc, t, h2, h3, rfl⟩ := h
    exact ⟨g, by rw [← hg]; exact h1, gc, t, by rw [← v c (fun n hn => by simp [IOp.tmps, hn])]; exact h2, h3, by rw [v a (fun n hn => by simp [IOp.tmps, hn]), v b (fun n hn => by simp [IOp.tmps, hn])]⟩
  | callp f args =>
    obtain ⟨g, h1, cs, res, h2, rfl⟩ := h
    have hv : ∀ d ∈ args, d.val σ = d.val τ := fun d hd => v d fun n hn => by simp only [IOp.tmps, List.mem_append, List.mem_flatMap]; exact .inr ⟨d, hd, hn⟩
    refine ⟨g, by rw [← hg]; exact h1, cs, res, fun e => ?_, rfl⟩
    obtain ⟨q1, q2, fn, q4, q3⟩ := h2 e
    exact ⟨by rw [← all_val hv]; exact q1, by rw [← map_val T.r hv]; exact q2, fn, by rw [← v f (fun n hn => by simp [IOp.tmps, hn])]; exact q4, q3⟩
  | gload x =>
    obtain ⟨g, h1, a, u, h2, rfl⟩ := h
    exact ⟨g, by rw [← hg]; exact h1, a, u, fun e => by rw [← v x (fun n hn => by simp [IOp.tmps, hn])]; exact h2 e, rfl⟩
  | call f args =>
    obtain ⟨g, h1, fv, xs, x, hh, res, hh', h2, rfl⟩ := h
    have hv : ∀ d ∈ args, d.val σ = d.val τ := fun d hd => v d fun n hn => by simp only [IOp.tmps, List.mem_append, List.mem_flatMap]; exact .inr ⟨d, hd, hn⟩
    refine ⟨g, by rw [← hg]; exact h1, fv, xs, x, hh, res, hh', fun e => ?_, rfl⟩
    obtain ⟨q1, q2, q3, q4, q5, q6⟩ := h2 e
    exact ⟨by rw [← all_val hv]; exact q1, by rw [← map_val T.r hv]; exact q2, by rw [← v f (fun n hn => by simp [IOp.tmps, hn])]; exact q3, q4, q5.congr q6 hl.ro hl.wt (hl.ext rfl), q6⟩
  | box ty x =>
    obtain ⟨h0, d, y, h1, h2, h3, rfl⟩ := h
    simp only at h1; subst h1
    exact ⟨h0, d, y, rfl, by rw [← hl.wo d (by simp [IOper.wo, fpK])]; exact h2, by rw [← v x (fun n hn => by simp [IOp.tmps, hn])]; exact h3, rfl⟩
  | zero ty z =>
    obtain ⟨h0, d, h1, h2, rfl⟩ := h
    simp only at h1; subst h1
    exact ⟨h0, d, rfl, by rw [← hl.wo d (by simp [IOper.wo, fpK])]; exact h2, rfl⟩
  | rowb ty size ps =>
    obtain ⟨h0, d, es, h1, h2, ⟨h3, h4, h5⟩, rfl⟩ := h
    simp only at h1; subst h1
    have hv : ∀ d ∈ ps, d.val σ = d.val τ := fun d hd => v d fun n hn => by simp only [IOp.tmps, List.mem_flatMap]; exact ⟨d, hd, hn⟩
    exact ⟨h0, d, es, rfl, by rw [← hl.wo d (by simp [IOper.wo, fpK])]; exact h2, ⟨by rw [← all_val hv]; exact h3, by rw [← map_val T.r hv]; exact h4, h5⟩, rfl⟩
  | appb ty size bytes x y =>
    obtain ⟨h0, d, news, h1, h2, ⟨h3, h4, ⟨sp, h5⟩, h6⟩, rfl⟩ := h
    simp only at h1; subst h1
    have ex := v x (fun n hn => by simp [IOp.tmps, hn])
    have ey := v y (fun n hn => by simp [IOp.tmps, hn])
    exact ⟨h0, d, news, rfl, by rw [← hl.wo d (by simp [IOper.wo, fpK])]; exact h2, ⟨by rw [← ex]; exact h3, by rw [← ey]; exact h4, ⟨sp, by rw [← ey]; exact h5⟩, h6⟩, rfl⟩
  | row ty size ps =>
    obtain ⟨h0, es, h1, h2, h3⟩ := h
    have hv : ∀ d ∈ ps, d.val σ = d.val τ := fun d hd => v d fun n hn => by simp only [IOp.tmps, List.mem_flatMap]; exact ⟨d, hd, hn⟩
    refine ⟨by rw [← all_val hv]; exact h0, es, by rw [← map_val T.r hv]; exact h1, h2, ?_⟩
    cases gd with
    | none =>
      obtain ⟨d, h4, h5, rfl⟩ := h3
      simp only at h4; subst h4
      exact ⟨d, rfl, by rw [← hl.wt d (by simp [IOper.wt, fpK])]; exact h5, rfl⟩
    | some gd => obtain ⟨g, h4, rfl⟩ := h3; exact ⟨g, by rw [← hg]; exact h4, rfl⟩
  | app ty size bytes x y =>
    obtain ⟨h0, gx, gy, news, sp, h1, h2, h3⟩ := h
    have ex := v x (fun n hn => by simp [IOp.tmps, hn])
    have ey := v y (fun n hn => by simp [IOp.tmps, hn])
    have hk : ∀ k, (x.val σ).r.key? = some k → fpK fp k := ht0
    refine ⟨by rw [← hg]; exact h0, by rw [← ex]; exact gx, by rw [← ey]; exact gy, news, sp, by rw [← ey]; exact h1, h2, ?_⟩
    rw [← ex]
    split at h3
    · rename_i k es hx
      obtain ⟨t, q1, q2⟩ := h3
      refine ⟨t, ?_, q2⟩
      rw [← hl.wt k ?_]
      · exact q1
      · have := hk k (by rw [hx]; rfl)
        cases fp with
        | none => trivial
        | some ks => simp only [IOper.wt, Option.map_some, fpK]; exact List.mem_append_right _ this
    · rename_i hx
      obtain ⟨d, q1, q2, q3⟩ := h3
      simp only at q1; subst q1
      refine ⟨d, rfl, ?_, q3⟩
      rw [← hl.wt d ?_]
      · exact q2
      · cases fp with
        | none => trivial
        | some ks => simp [IOper.wt, fpK]
    · exact h3.elim
  | make ty size bytes z l c =>
    obtain ⟨h0, d, n, m, h1, h2, h3, h4, h5⟩ := h
    simp only at h1; subst h1
    exact ⟨h0, d, n, m, rfl, by rw [← hl.wo d (by simp [IOper.wo, fpK])]; exact h2, by rw [← v l (fun n hn => by simp [IOp.tmps, hn])]; exact h3, by rw [← v c (fun n hn => by simp [IOp.tmps, hn])]; exact h4, h5⟩
  | store n x y =>
    obtain ⟨h0, k, i, off, b, yv, h1, h2, hmp, h3, h4⟩ := h
    have hk : fpK fp k := ht0 k (by rw [h1]; rfl)
    exact ⟨h0, k, i, off, b, yv, by rw [← v x (fun n hn => by simp [IOp.tmps, hn])]; exact h1, by rw [← hl.ro k hk]; exact h2, hmp, by rw [← v y (fun n hn => by simp [IOp.tmps, hn])]; exact h3, h4⟩
  | load n x => exact pure h fun y hy k hk => hl.ro k (by simp only [IOp.main?, Option.some.injEq] at hy; subst hy; exact ht0 k hk)
  | iaddr s x y => exact pure h fun y hy k hk => hl.ro k (by simp only [IOp.main?, Option.some.injEq] at hy; subst hy; exact ht0 k hk)
  | mlook d b c z m k => exact pure h fun y hy k hk => hl.ro k (by simp only [IOp.main?, Option.some.injEq] at hy; subst hy; exact ht0 k hk)
  | mkmap dk size one =>
    obtain ⟨h0, d, h1, h2, rfl⟩ := h
    simp only at h1; subst h1
    exact ⟨h0, d, rfl, by rw [← hl.wo d (by simp [IOper.wo, fpK])]; exact h2, rfl⟩
  | mapup dk one m k y =>
    obtain ⟨h0, j, b, x, yv, h1, h2, h3, h4, h5, h6, h7⟩ := h
    have hk : fpK fp j := ht0 j (by rw [h1]; rfl)
    exact ⟨h0, j, b, x, yv, by rw [← v m (fun n hn => by simp [IOp.tmps, hn])]; exact h1, by rw [← hl.ro j hk]; exact h2, h3, by rw [← v k (fun n hn => by simp [IOp.tmps, hn])]; exact h4, h5, by rw [← v y (fun n hn => by simp [IOp.tmps, hn])]; exact h6, h7⟩
  | _ => exact pure h fun y hy => by cases hy
end
end Go.Fx

namespace Go.Fx
open Go.RowKit
section
variable {P : Program} {G : World → Prop} {σ σ' τ : S}
end
end Go.Fx

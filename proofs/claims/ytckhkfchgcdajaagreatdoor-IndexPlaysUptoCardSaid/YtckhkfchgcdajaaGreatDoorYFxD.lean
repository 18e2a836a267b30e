import Derived.Test.YtckhkfchgcdajaaGreatDoorYFxB
import Derived.Maps.AppendAt
import Derived.Laws.MakeOwn
import Derived.MapKept
namespace Go.Fx
open Go.RowKit
def pickT (g t : Bool) : T → T → T
  | .k ga (.x (.one (.c (.v (.bool x))))), .k gb (.x (.one (.c (.v (.bool y))))) => .k (g && (bif t then ga else gb)) (rB (bif t then x else y))
  | a, b => match (if t then a else b) with
    | .k gr r => .k (g && gr) r
    | .lost => .lost
def moveT (g : Bool) : T → T
  | .k gx r => .k (g && gx) r
  | .lost => .lost
def S.setObj (σ : S) (d : Nat) (b : Box) : S := { σ with objs := fun k => if k = d then some b else σ.objs k }
def S.setTok (σ : S) (d : Nat) (t : Tok) : S := { σ with toks := fun k => if k = d then some t else σ.toks k }
def mapPut (rows : List (List A)) (x : Value) (cs : List A) : List (List A) :=
  if rows.any (keyEq x) then rows.set (rows.findIdx (keyEq x)) (.c (.v x) :: cs) else rows ++ [.c (.v x) :: cs]
def nothing : T := .k false (.x (.one .lost))
def rowsO : List R → Option (List (List C))
  | [] => some []
  | r :: l =>
    match r.cells.bind closeL, rowsO l with
    | some e, some es => some (e :: es)
    | _, _ => none
def R.rows? : R → Option (List (List C) × List (List C))
  | .x (.one a) => a.rows?
  | _ => none
def maxBytes : Nat := 140737488355328
def ownKey (k : Nat) : Prop := k < 10000 ∨ 20000 ≤ k
def A.fits : A → A → Prop
  | .own _ es, .c (.sl es' sp) => es' = es ∧ sp = []
  | .nil, .c (.sl es sp) => es = [] ∧ sp = []
  | _, .lost => True
  | a, b => a = b
def fitsL : List A → List A → Prop
  | [], [] => True
  | a :: l, b :: m => a.fits b ∧ fitsL l m
  | _, _ => False
def X.fits : X → X → Prop
  | .one a, .one b => a.fits b
  | .agg l, .agg m => fitsL l m
  | _, _ => False
def fitsR : List R → List X → Prop
  | [], [] => True
  | .x a :: l, b :: m => a.fits b ∧ fitsR l m
  | _, _ => False
def S.over (σ : S) (x : Bool) (h : Hp) : S :=
  { σ with objs := fun k => match h.objs k with | some b => some b | none => σ.objs k,
           toks := fun k => match h.toks k with | some t => some t | none => σ.toks k,
           ext := if x then h.ext else σ.ext }
structure Lends (σ : S) (x : Bool) (h h' : Hp) : Prop where
  obj : ∀ k b, h.objs k = some b → σ.objs k = some b
  tok : ∀ k t, h.toks k = some t → σ.toks k = some t
  ext : if x then h.ext = σ.ext ∧ h'.ext.mark = h.ext.mark else h.ext = XP.emp ∧ h'.ext = XP.emp
  obj' : ∀ k, h.objs k ≠ none → h'.objs k ≠ none
  tok' : ∀ k, h.toks k ≠ none → h'.toks k ≠ none
  newO : ∀ k, h'.objs k ≠ none → h.objs k = none → σ.objs k = none ∧ ownKey k
  newT : ∀ k, h'.toks k ≠ none → h.toks k = none → σ.toks k = none ∧ ownKey k
mutual
def A.freeze (B : Nat → Option (List (List C))) : A → A
  | .ref k i off => match B k with | some es => if i < es.length then .elem es [] i off else .lost | none => .ref k i off
  | .arr k off n cap => match B k with
    | some es => if off + cap ≤ es.length ∧ n ≤ cap then .c (.sl ((es.drop off).take n) ((es.drop (off + n)).take (cap - n))) else .lost
    | none => .arr k off n cap
  | .mapr k => match B k with | some _ => .lost | none => .mapr k
  | .clo f fs cs => .clo f (freezeL B fs) (freezeL B cs)
  | .yld l ta ks xs => .yld l ta ks (freezeL B xs)
  | .ifc t a => .ifc t (a.freeze B)
  | a => a
def freezeL (B : Nat → Option (List (List C))) : List A → List A
  | [] => []
  | a :: l => a.freeze B :: freezeL B l
end
theorem freezeL_map (B : Nat → Option (List (List C))) : ∀ l, freezeL B l = l.map (A.freeze B)
  | [] => rfl
  | a :: l => by rw [freezeL, freezeL_map B l]; rfl
def X.freeze (B : Nat → Option (List (List C))) : X → X
  | .one a => .one (a.freeze B)
  | .agg cs => .agg (freezeL B cs)
def R.freeze (B : Nat → Option (List (List C))) : R → R
  | .x y => .x (y.freeze B)
  | .tup xs => .tup (xs.map (X.freeze B))
def T.freeze (B : Nat → Option (List (List C))) : T → T
  | .k g r => .k g (r.freeze B)
  | .lost => .lost
def closeLL : List (List A) → Option (List (List C))
  | [] => some []
  | r :: l =>
    match closeL r, closeLL l with
    | some c, some cs => some (c :: cs)
    | _, _ => none
def shutB (σ : S) (ks : List Nat) (k : Nat) : Option (List (List C)) :=
  if k ∈ ks ∧ (k < 10000 ∨ 20000 ≤ k) then (σ.objs k).bind fun b => if b.mp = none ∧ b.rows.length ≤ maxLen then closeLL b.rows else none else none
def S.freeze (ks : List Nat) (σ : S) : S :=
  { σ with tmps := fun t => (σ.tmps t).freeze (shutB σ ks),
           objs := fun k => if (shutB σ ks k).isSome then none else (σ.objs k).map fun b => { b with rows := b.rows.map (freezeL (shutB σ ks)) } }
def S.promote (σ : S) (k j : Nat) (ty : TypeId) (size : Nat) : S :=
  match σ.toks k, σ.objs j with
  | none, some ⟨t, s, [[.nil]], m⟩ => if k < 10000 ∨ 20000 ≤ k then { σ with objs := fun i => if i = j then some ⟨t, s, [[.own k []]], m⟩ else σ.objs i, toks := fun i => if i = k then some ⟨ty, size, 0⟩ else σ.toks i } else σ
  | _, _ => σ
def S.promoteT (σ : S) (k t : Nat) (ty : TypeId) (size : Nat) : S :=
  match σ.toks k, σ.tmps t with
  | none, .k true (.x (.one .nil)) => if k < 10000 ∨ 20000 ≤ k then { σ with tmps := fun i => if i = t then .k true (.x (.one (.own k []))) else σ.tmps i, toks := fun i => if i = k then some ⟨ty, size, 0⟩ else σ.toks i } else σ
  | _, _ => σ
def nilAt (r : List A) (off : Nat) : Bool := match r[off]? with | some .nil => true | _ => false
def S.promoteO (σ : S) (k j off : Nat) (ty : TypeId) (size : Nat) : S :=
  match σ.toks k, σ.objs j with
  | none, some ⟨t, s, [r], none⟩ => if (k < 10000 ∨ 20000 ≤ k) ∧ nilAt r off = true then { σ with objs := fun i => if i = j then some ⟨t, s, [r.set off (.own k [])], none⟩ else σ.objs i, toks := fun i => if i = k then some ⟨ty, size, 0⟩ else σ.toks i } else σ
  | _, _ => σ
inductive Prep where
  | fz (ks : List Nat)
  | pm (k j : Nat) (ty : TypeId) (size : Nat)
  deriving Inhabited
def S.prep : List Prep → S → S
  | [], σ => σ
  | .fz ks :: l, σ => S.prep l (σ.freeze ks)
  | .pm k j ty size :: l, σ => S.prep l (σ.promote k j ty size)
def R.key? : R → Option Nat
  | .x (.one (.ref k _ _)) => some k
  | .x (.one (.arr k _ _ _)) => some k
  | .x (.one (.mapr k)) => some k
  | .x (.one (.own k _)) => some k
  | _ => none
def fpK (fp : Option (List Nat)) (k : Nat) : Prop := match fp with | none => True | some ks => k ∈ ks
def IOp.main? : IOp → Option D
  | .load _ x | .iaddr _ x _ | .store _ x _ | .app _ _ _ x _ => some x
  | .mlook _ _ _ _ m _ | .mapup _ _ m _ _ => some m
  | _ => none
def touched (o : IOper) (σ : S) : Prop := match o.op.main? with | none => True | some x => ∀ k, (x.val σ).r.key? = some k → fpK o.fp k
def StepI (P : Program) (G : World → Prop) (o : IOper) (σ σ' : S) : Prop :=
  match o.op with
  | .move x => ∃ g, guardO σ o.guard = some g ∧ σ' = σ.put o.dst (moveT g (x.val σ))
  | .pick c a b => ∃ g, guardO σ o.guard = some g ∧ ∃ gc t, c.val σ = .k gc (rB t) ∧ (g = true → gc = true) ∧ σ' = σ.put o.dst (pickT g t (a.val σ) (b.val σ))
  | .call f args => ∃ g, guardO σ o.guard = some g ∧ ∃ (fv : A) (xs : List X) (x : Bool) (h : Hp) (res : R) (h' : Hp),
      (g = true → (args.all fun d => (d.val σ).g) = true ∧ fitsR (args.map fun d => (d.val σ).r) xs ∧ f.val σ = .k true (.x (.one fv)) ∧ MeetsV P G fv xs h res h' ∧ Lends σ x h h' ∧
        ∀ k, (h.objs k ≠ none ∨ h.toks k ≠ none ∨ h'.objs k ≠ none ∨ h'.toks k ≠ none) → fpK o.fp k) ∧
      σ' = if g then (σ.over x h').put o.dst (.k true res) else σ.put o.dst (.k false res)
  | .callp f args => ∃ g, guardO σ o.guard = some g ∧ ∃ cs res, (g = true → (args.all fun d => (d.val σ).g) = true ∧ closeArgs (args.map fun d => (d.val σ).r) = some cs ∧ ∃ fn, f.val σ = .k true (rF fn) ∧ Meets P G fn cs res) ∧
      σ' = σ.put o.dst (.k g res.open)
  | .gload x => ∃ g, guardO σ o.guard = some g ∧ ∃ a v, (g = true → x.val σ = .k true (.x (.one (.c (.v (.pointer (some a)))))) ∧ v.oneCell' = true ∧ ∀ w, G w → w.cell? a = some v) ∧
      σ' = σ.put o.dst (.k g (.x (.one (.c (.v v)))))
  | .box ty x => o.guard = none ∧ ∃ d y, o.dst = some d ∧ σ.objs d = none ∧ x.val σ = .k true (.x y) ∧
      σ' = (σ.setObj d ⟨ty, y.cells.length, [y.cells], none⟩).put o.dst (.k true (.x (.one (.ref d 0 0))))
  | .zero ty z => o.guard = none ∧ ∃ d, o.dst = some d ∧ σ.objs d = none ∧
      σ' = (σ.setObj d ⟨ty, z.length, [z], none⟩).put o.dst (.k true (.x (.one (.ref d 0 0))))
  | .rowb ty size ps => o.guard = none ∧ ∃ d es, o.dst = some d ∧ σ.objs d = none ∧ ((ps.all fun d => (d.val σ).g) = true ∧ rowsO (ps.map fun d => (d.val σ).r) = some es ∧ ∀ e ∈ es, e.length = size) ∧
      σ' = (σ.setObj d ⟨ty, size, es.map (·.map A.c), none⟩).put o.dst (.k true (.x (.one (.arr d 0 es.length es.length))))
  | .appb ty size bytes x y => o.guard = none ∧ ∃ d news, o.dst = some d ∧ σ.objs d = none ∧ (x.val σ = .k true (.x (.one .nil)) ∧ (y.val σ).g = true ∧ (∃ sp, (y.val σ).r.rows? = some (news, sp)) ∧ (∀ e ∈ news, e.length = size) ∧ news ≠ [] ∧ news.length ≤ maxLen ∧ news.length * bytes ≤ maxBytes) ∧
      σ' = (σ.setObj d ⟨ty, size, news.map (·.map A.c), none⟩).put o.dst (.k true (.x (.one (.arr d 0 news.length news.length))))
  | .row ty size ps => (ps.all fun d => (d.val σ).g) = true ∧ ∃ es, rowsO (ps.map fun d => (d.val σ).r) = some es ∧ (∀ e ∈ es, e.length = size) ∧
      match o.guard with
      | none => ∃ d, o.dst = some d ∧ σ.toks d = none ∧ σ' = (σ.setTok d ⟨ty, size, es.length⟩).put o.dst (.k true (.x (.one (.own d es))))
      | some _ => ∃ g, guardO σ o.guard = some g ∧ σ' = σ.put o.dst (.k g (.x (.one (.c (.sl es [])))))
  | .app ty size bytes x y => guardO σ o.guard = some true ∧ (x.val σ).g = true ∧ (y.val σ).g = true ∧ ∃ news sp, (y.val σ).r.rows? = some (news, sp) ∧ (∀ e ∈ news, e.length = size) ∧
      match (x.val σ).r with
      | .x (.one (.own k es)) => ∃ t, σ.toks k = some t ∧ t.ty = ty ∧ t.size = size ∧ es.length = t.n ∧ es.length + news.length ≤ maxLen ∧ (es.length + news.length) * bytes ≤ maxBytes ∧
          σ' = (σ.setTok k ⟨ty, size, es.length + news.length⟩).put o.dst (.k true (.x (.one (.own k (es ++ news)))))
      | .x (.one .nil) => ∃ d, o.dst = some d ∧ σ.toks d = none ∧ news.length ≤ maxLen ∧ news.length * bytes ≤ maxBytes ∧
          σ' = (σ.setTok d ⟨ty, size, news.length⟩).put o.dst (.k true (.x (.one (.own d news))))
      | _ => False
  | .make ty size bytes z l c => o.guard = none ∧ ∃ d n m, o.dst = some d ∧ σ.objs d = none ∧ l.val σ = .k true (rI .i64 n) ∧ c.val σ = .k true (rI .i64 m) ∧
      0 ≤ n ∧ n ≤ m ∧ m ≤ maxLen ∧ bytes * m ≤ maxBytes ∧ z.length = size ∧
      σ' = (σ.setObj d ⟨ty, size, List.replicate m.toNat z, none⟩).put o.dst (.k true (.x (.one (.arr d 0 n.toNat m.toNat))))
  | .store n x y => o.guard = none ∧ ∃ k i off b yv, x.val σ = .k true (.x (.one (.ref k i off))) ∧ σ.objs k = some b ∧ b.mp = none ∧ y.val σ = .k true (.x yv) ∧
      i < b.rows.length ∧ off + yv.cells.length ≤ (b.rows.getD i []).length ∧ yv.cells.length = n.getD 1 ∧
      σ' = (σ.setObj k { b with rows := b.rows.set i (splice (b.rows.getD i []) off yv.cells) }).put o.dst nothing
  | .mkmap dk size one => o.guard = none ∧ ∃ d, o.dst = some d ∧ σ.objs d = none ∧
      σ' = (σ.setObj d ⟨0, size, [], some (dk, one)⟩).put o.dst (.k true (.x (.one (.mapr d))))
  | .mapup dk one m k v => o.guard = none ∧ ∃ j b x yv, m.val σ = .k true (.x (.one (.mapr j))) ∧ σ.objs j = some b ∧ b.mp = some (dk, one) ∧ k.val σ = .k true (.x (.one (.c (.v x)))) ∧ MapKept.IsKey dk x ∧
      v.val σ = .k true (.x yv) ∧ formX one yv.cells = yv ∧ yv.cells.length + 1 = b.size ∧
      σ' = (σ.setObj j { b with rows := mapPut b.rows x yv.cells }).put o.dst nothing
  | op => ∃ g, guardO σ o.guard = some g ∧ ∃ out, pureO σ op = some out ∧ (g = true → out.need) ∧ σ' = σ.put o.dst (.k g out.val)
def RunI (P : Program) (G : World → Prop) : List IOper → S → S → Prop
  | [], σ, σ' => σ' = σ
  | o :: l, σ, σ' => ∃ σ1, (touched o σ ∧ StepI P G o σ σ1) ∧ RunI P G l σ1 σ'
inductive IC where
  | skip
  | region (news : List Nat) (pr : List Prep) (keep : List Nat) (ops : List IOper)
  | seq (a b : IC)
  | cond (c : D) (a b : IC)
  | block (id : Nat) (a : IC)
  | loop (a : IC)
  | exit (id : Nat)
  | ret
  | rangeF (g : D) (ps : List Nat) (a b : IC)
  | bad
  deriving Inhabited
mutual
def A.strike (ks : List Nat) : A → A
  | .own k es => if k ∈ ks then .c (.sl es []) else .own k es
  | .ref k i off => if k ∈ ks then .lost else .ref k i off
  | .arr k off n m => if k ∈ ks then .lost else .arr k off n m
  | .mapr k => if k ∈ ks then .lost else .mapr k
  | .clo f fs cs => .clo f (strikeL ks fs) (strikeL ks cs)
  | .yld l ta js xs => .yld l ta js (strikeL ks xs)
  | .ifc t a => .ifc t (a.strike ks)
  | a => a
def strikeL (ks : List Nat) : List A → List A
  | [] => []
  | a :: l => a.strike ks :: strikeL ks l
end
theorem strikeL_map (ks : List Nat) : ∀ l, strikeL ks l = l.map (A.strike ks)
  | [] => rfl
  | a :: l => by rw [strikeL, strikeL_map ks l]; rfl
def X.strike (ks : List Nat) : X → X
  | .one a => .one (a.strike ks)
  | .agg cs => .agg (strikeL ks cs)
def R.strike (ks : List Nat) : R → R
  | .x y => .x (y.strike ks)
  | .tup xs => .tup (xs.map (X.strike ks))
def T.strike (ks : List Nat) : T → T
  | .k g r => .k g (r.strike ks)
  | .lost => .lost
def S.strike (ks : List Nat) (σ : S) : S :=
  if ks = [] then σ else
  { ext := σ.ext, tmps := fun t => (σ.tmps t).strike ks,
    objs := fun k => if k ∈ ks then none else (σ.objs k).map fun b => { b with rows := b.rows.map (strikeL ks) },
    toks := fun k => if k ∈ ks then none else σ.toks k }
def S.keep (ks : List Nat) (σ : S) : S := { σ with tmps := fun t => if t ∈ ks then σ.tmps t else .lost }
inductive Weak : S → S → Prop
  | refl (σ : S) : Weak σ σ
  | strike (ks : List Nat) (σ : S) (h : ∀ k ∈ ks, ownKey k) : Weak σ (σ.strike ks)
  | freeze (ks : List Nat) (σ : S) : Weak σ (σ.freeze ks)
  | keep (ks : List Nat) (σ : S) : Weak σ (σ.keep ks)
  | proT (k t : Nat) (ty : TypeId) (size : Nat) (σ : S) : Weak σ (σ.promoteT k t ty size)
  | proO (k j off : Nat) (ty : TypeId) (size : Nat) (σ : S) : Weak σ (σ.promoteO k j off ty size)
  | trans {σ τ υ : S} (h : Weak σ τ) (h' : Weak τ υ) : Weak σ υ
def S.round (ks : List Nat) (zs : List A) (ps : List Nat) (args : List X) (h : Hp) (B : XP) : S :=
  (ps.zip args).foldl (fun σ p => σ.put (some p.1) (.k true (.x p.2))) { tmps := fun t => match (ks.zip zs).find? (·.1 == t) with | some p => .k true (.x (.one p.2)) | none => .lost, objs := h.objs, toks := h.toks, ext := B }
structure Rnd (zs : List A) (args : List X) (h h' : Hp) : Prop where
  own : ∀ k, ownKey k → h.objs k = none ∧ h.toks k = none
  only : h.only (fun k => ¬ ownKey k) (fun k => h.toks k ≠ none)
  args : ∀ x ∈ args, x.only (fun k => ¬ ownKey k) (fun k => h.toks k ≠ none)
  zs : onlyL (fun k => ¬ ownKey k) (fun k => h.toks k ≠ none) zs
  keyO : ∀ k, h.objs k ≠ none → h'.objs k ≠ none
  keyT : ∀ k, h.toks k ≠ none → h'.toks k ≠ none
  only' : h'.only (fun k => ¬ ownKey k ∨ h'.objs k ≠ none) (fun k => h'.toks k ≠ none)
def leftB (h' : Hp) (B : XP) (σ : S) : Prop := ∃ τ, Weak σ τ ∧ (∀ k b, h'.objs k = some b → τ.objs k = some b) ∧ (∀ k t, h'.toks k = some t → τ.toks k = some t) ∧ τ.ext = B
def RoundExit : Exit → Prop
  | .normal => True
  | .ret => True
  | .exit _ => True
  | _ => False
def A.isFn : A → Prop
  | .clo _ _ _ => True
  | .c (.v (.func (.func _) _ _)) => True
  | _ => False
def goesOn : Exit → Bool
  | .normal => true
  | _ => false
def wpI (P : Program) (G : World → Prop) : IC → (Exit → S → Prop) → S → Prop
  | .skip, Q, σ => Q .normal σ
  | .region news pr keep ops, Q, σ => ∃ σ', RunI P G ops ((σ.prep pr).strike news) σ' ∧ Q .normal (σ'.keep keep)
  | .seq a b, Q, σ => wpI P G a (fun e σ' => match e with | .normal => wpI P G b Q σ' | e => Q e σ') σ
  | .cond c a b, Q, σ => ∃ t, c.val σ = .k true (rB t) ∧ (t = true → wpI P G a Q σ) ∧ (t = false → wpI P G b Q σ)
  | .block id a, Q, σ => wpI P G a (fun e σ' => match e with | .exit i => if i = id then Q .normal σ' else Q (.exit i) σ' | e => Q e σ') σ
  | .loop a, Q, σ => ∃ (I : S → Prop) (μ : S → Nat), (∃ σ0, Weak σ σ0 ∧ I σ0) ∧ ∀ σ1, I σ1 → wpI P G a (fun e σ' => match e with | .normal => ∃ σ0, Weak σ' σ0 ∧ I σ0 ∧ μ σ0 < μ σ1 | e => Q e σ') σ1
  | .exit id, Q, σ => Q (.exit id) σ
  | .ret, Q, σ => Q .ret σ
  | .bad, _, _ => False
  | .rangeF g ps a b, Q, σ => σ.ext = XP.emp ∧ ∃ (gv : A) (ks : List Nat) (xs : List A), g.val σ = .k true (.x (.one gv)) ∧ gv.isFn ∧ ks.map σ.tmps = xs.map (fun x => T.k true (.x (.one x))) ∧
      ∀ (l : Nat) (ta : Array Value) (E : Exit → XP) (B : XP) (m : Nat), (∀ e, (E e).mark = some m) → B.mark = some m →
        (∀ (zs : List A) (args : List X) (h h' : Hp) (e : Exit), zs.length = ks.length → args.length = ps.length → RoundExit e → h.ext = E .normal → h'.ext = E e → Rnd zs args h h' →
          wpI P G a (fun e1 σ1 => e1 = .normal ∧ σ1.ext = E .normal ∧ wpI P G b (fun e' σ' => e' = e ∧ leftB h' B σ') { σ1 with ext := B }) (S.round ks zs ps args h (E .normal)) → MeetsV P G (.yld l ta ks zs) args h (rB (goesOn e)) h') →
        ∃ (h h' : Hp) (res : R) (e : Exit), MeetsV P G gv [.one (.yld l ta ks xs)] h res h' ∧ Lends { σ with ext := E .normal } true h h' ∧ h'.ext = E e ∧ RoundExit e ∧
          ∀ X : XP, X.mark = some m → Q e { ({ σ with ext := E .normal } : S).over true h' with ext := X }
end Go.Fx

namespace Go.Fx
open Go.RowKit
theorem BoxIn.lt {w : World} {x : Box} {b : Nat} {us : List Value} (h : BoxIn w x b us) : b < w.heap.size := by
  obtain ⟨ob, h, _⟩ := h; exact (Array.getElem?_eq_some_iff.1 h).1
theorem BoxIn.of {w w' : World} {x : Box} {b : Nat} {us : List Value} (e : w'.heap[b]? = w.heap[b]?) (h : BoxIn w x b us) : BoxIn w' x b us := by
  obtain ⟨ob, h1, h2⟩ := h; exact ⟨ob, e.trans h1, h2⟩
theorem BoxIn.cells {w : World} {x : Box} {b : Nat} {us : List Value} (h : BoxIn w x b us) (hm : x.mp = none) : ∃ ex : List Value, w.heap[b]? = some (.cells (us ++ ex).toArray x.ty (0, 0)) := by
  obtain ⟨ob, h1, h2⟩ := h
  unfold Holds at h2
  rw [hm] at h2
  obtain ⟨ex, rfl⟩ := h2
  exact ⟨ex, h1⟩
theorem BoxIn.mk {w : World} {x : Box} {b : Nat} {us : List Value} (ex : List Value) (hm : x.mp = none) (h : w.heap[b]? = some (.cells (us ++ ex).toArray x.ty (0, 0))) : BoxIn w x b us := by
  refine ⟨_, h, ?_⟩
  unfold Holds
  rw [hm]
  exact ⟨ex, rfl⟩
theorem BoxIn.struck {w : World} {x : Box} {b : Nat} {us : List Value} (h : BoxIn w x b us) (ks : List Nat) : BoxIn w { x with rows := x.rows.map (strikeL ks) } b us := by
  obtain ⟨ob, h1, h2⟩ := h
  refine ⟨ob, h1, ?_⟩
  unfold Holds at h2 ⊢
  simp only
  split at h2
  · exact h2
  · refine ⟨by simpa using h2.1, fun r hr => ?_⟩
    obtain ⟨r', hr', rfl⟩ := List.mem_map.1 hr
    obtain ⟨y, t, rfl⟩ := h2.2 r' hr'
    exact ⟨y, strikeL ks t, rfl⟩
structure Base where
  env : Env
  h : Hp
  F : Nat → Prop
abbrev Base.V (B : Base) : Nat → Nat → Prop := B.env.V
abbrev Base.M (B : Base) : Nat → Prop := Owned B.env B.h B.F
def New (w0 : World) (B : Base) (b : Nat) : Prop := w0.heap.size ≤ b ∨ B.M b
def markD (r : Nat) : Deferred := { target := .collected r, args := #[] }
structure Sim (w0 : World) (V0 : Base) (N : Nat) (env : Env) (σ : S) (a : Act) (w : World) : Prop where
  below : KeptBut V0.M w0 w
  defers : (σ.ext.mark = V0.h.ext.mark ∨ V0.h.ext.mark = none) ∧ (a.defers = [] ∨ ∃ r, σ.ext.mark = some r ∧ a.defers = [markD r] ∧ V0.h.ext.mark = none)
  size : a.tmps.size = N
  nn : N ≤ 10000
  vlt : ∀ b o, env.V b o → b < w.heap.size
  vnew : ∀ b o, env.V b o → V0.V b o ∨ New w0 V0 b
  vold : ∀ b o, V0.V b o → env.V b o
  v0 : ∀ b o, V0.V b o → b < w0.heap.size
  vcell : ∀ b o, V0.V b o → w.cell? ⟨b, o, none⟩ = w0.cell? ⟨b, o, none⟩
  tmps : ∀ t, RepT env σ.toks w (σ.tmps t) (a.tmps.getD t undef)
  objs : ∀ k x, σ.objs k = some x → ∃ b us, env.ρ k = some (b, x.size) ∧ New w0 V0 b ∧ BoxIn w x b us ∧
    All2 (RepA env σ.toks w) x.rows.flatten us ∧ (∀ r ∈ x.rows, r.length = x.size) ∧ ∀ o, ¬ env.V b o
  dom : ∀ k, ownKey k → σ.objs k = none → env.ρ k = none
  ρlt : ∀ k b s, env.ρ k = some (b, s) → b < w.heap.size
  inj : ∀ k k' b s s', env.ρ k = some (b, s) → env.ρ k' = some (b, s') → k = k'
  toks : ∀ k t, σ.toks k = some t → ∃ v xs, env.τ k = some v ∧ w.ownsRow 0 t.ty t.size v t.n xs ∧
    (∀ b, v.ownBlock = some b → New w0 V0 b ∧ (∀ o, t.n * t.size ≤ o → ¬ env.V b o) ∧ ∀ k' s, env.ρ k' ≠ some (b, s))
  tdom : ∀ k, ownKey k → σ.toks k = none → env.τ k = none
  τlt : ∀ k v b, env.τ k = some v → v.ownBlock = some b → b < w.heap.size
  tinj : ∀ k k' v v' b, env.τ k = some v → env.τ k' = some v' → v.ownBlock = some b → v'.ownBlock = some b → k = k'
  sep : ∀ k k' v b s, env.τ k = some v → v.ownBlock = some b → env.ρ k' ≠ some (b, s)
  ext : ∃ F : Nat → Prop, σ.ext.holds env.V F w ∧ ∀ b, F b → New w0 V0 b ∧ b < w.heap.size ∧ (∀ o, ¬ env.V b o) ∧ (∀ k s, env.ρ k ≠ some (b, s)) ∧ ∀ k v, env.τ k = some v → v.ownBlock ≠ some b
  own : ∀ k, ownKey k → V0.h.objs k = none ∧ V0.h.toks k = none
  keepO : ∀ k, ¬ ownKey k → env.ρ k = V0.env.ρ k
  keepN : ∀ k, ¬ ownKey k → V0.h.toks k = none → env.τ k = V0.env.τ k ∧ σ.toks k = none
  keepT : ∀ k t t', V0.h.toks k = some t → σ.toks k = some t' → t'.size = t.size ∧ t.n ≤ t'.n ∧ (t'.n = t.n → env.τ k = V0.env.τ k)
section
variable {w0 : World} {V0 : Base} {N : Nat} {env : Env} {σ : S} {a : Act} {w : World}
theorem Act.getD_put {a : Act} {d t : Nat} {v : Value} (hd : d < a.tmps.size) : (a.put (some d) v).tmps.getD t undef = if t = d then v else a.tmps.getD t undef := by
  simp only [Act.put]
  by_cases h : t = d
  · subst h
    simp [Array.getD, hd]
  · rw [if_neg h]
    simp only [Array.getD_eq_getD_getElem?]
    rw [Array.getElem?_setIfInBounds_ne (fun e => h e.symm)]
theorem Act.size_put (a : Act) (d : Option Nat) (v : Value) : (a.put d v).tmps.size = a.tmps.size := by cases d <;> simp [Act.put]
theorem Act.defers_put (a : Act) (d : Option Nat) (v : Value) : (a.put d v).defers = a.defers := by cases d <;> rfl
theorem Sim.put (h : Sim w0 V0 N env σ a w) {d : Option Nat} {t : T} {v : Value} (hd : ∀ n, d = some n → n < N) (hr : RepT env σ.toks w t v) : Sim w0 V0 N env (σ.put d t) (a.put d v) w := by
  cases d with
  | none => exact h
  | some d =>
    refine { h with defers := by rw [Act.defers_put]; exact h.defers, size := by rw [Act.size_put]; exact h.size, tmps := fun n => ?_ }
    rw [Act.getD_put (by rw [h.size]; exact hd d rfl)]
    simp only [S.put]
    by_cases e : n = d
    · rw [if_pos e, if_pos e]; exact hr
    · rw [if_neg e, if_neg e]; exact h.tmps n
theorem Sim.drew (h : Sim w0 V0 N env σ a w) : Sim w0 V0 N env σ a { w with drawn := w.drawn + 1 } := by
  have he : env.Le env σ.toks σ.toks w { w with drawn := w.drawn + 1 } := ⟨fun _ _ x => x, fun _ _ _ => rfl, fun _ _ x => x, fun _ t x => ⟨t, x, rfl, Nat.le_refl _, fun _ => rfl⟩⟩
  exact { h with
    below := ⟨h.below.os, h.below.tape, h.below.output, h.below.size, h.below.block⟩
    vcell := fun b o x => h.vcell b o x
    tmps := fun t => (h.tmps t).mono he
    objs := fun k x hx => by
      obtain ⟨b, us, h1, h2, h3, h4, h5⟩ := h.objs k x hx
      exact ⟨b, us, h1, h2, h3, h4.imp fun _ _ _ => RepA.mono he, h5⟩
    toks := fun k t ht => by
      obtain ⟨v, xs, h1, h2, h3⟩ := h.toks k t ht
      exact ⟨v, xs, h1, h2, h3⟩
    ext := by
      obtain ⟨F, h1, h2⟩ := h.ext
      exact ⟨F, σ.ext.mono (w := w) (fun _ _ x => x) (fun _ _ _ => rfl) (fun _ _ => rfl) h1, h2⟩ }
theorem Sim.grow (h : Sim w0 V0 N env σ a w) {w' : World} (hb : Below w.heap.size w w') : Sim w0 V0 N { env with V := fun b o => env.V b o ∨ (w.heap.size ≤ b ∧ b < w'.heap.size) } σ a w' := by
  have hcell : ∀ b o, b < w.heap.size → w'.cell? ⟨b, o, none⟩ = w.cell? ⟨b, o, none⟩ := fun b o hlt => hb.cell (p := ⟨b, o, none⟩) hlt
  have he : env.Le { env with V := fun b o => env.V b o ∨ (w.heap.size ≤ b ∧ b < w'.heap.size) } σ.toks σ.toks w w' :=
    ⟨fun _ _ x => .inl x, fun b o x => hcell b o (h.vlt b o x), fun _ _ x => x, fun _ t x => ⟨t, x, rfl, Nat.le_refl _, fun _ => rfl⟩⟩
  have hold : ∀ b, b < w.heap.size → ∀ o, ¬ env.V b o → ¬ (env.V b o ∨ (w.heap.size ≤ b ∧ b < w'.heap.size)) := fun b hlt o hn hh => hh.elim hn fun hx => by omega
  exact { h with
    below := h.below.trans (KeptBut.of_below (M := fun _ => False) hb) (fun _ x => x.elim)
    vlt := fun b o hv => hv.elim (fun x => Nat.lt_of_lt_of_le (h.vlt b o x) hb.size) fun x => x.2
    ρlt := fun k b s x => Nat.lt_of_lt_of_le (h.ρlt k b s x) hb.size
    τlt := fun k v b x y => Nat.lt_of_lt_of_le (h.τlt k v b x y) hb.size
    vnew := fun b o hv => hv.elim (h.vnew b o) fun x => .inr (.inl (Nat.le_trans h.below.size x.1))
    vold := fun b o hv => .inl (h.vold b o hv)
    vcell := fun b o x => (hcell b o (h.vlt b o (h.vold b o x))).trans (h.vcell b o x)
    tmps := fun t => (h.tmps t).mono he
    objs := fun k x hx => by
      obtain ⟨b, us, h1, h2, h3, h4, h5, h6⟩ := h.objs k x hx
      exact ⟨b, us, h1, h2, h3.of (hb.block b h3.lt), h4.imp fun _ _ _ => RepA.mono he, h5, fun o => hold b h3.lt o (h6 o)⟩
    toks := fun k t ht => by
      obtain ⟨v, xs, h1, h2, h3⟩ := h.toks k t ht
      refine ⟨v, xs, h1, ?_, fun b hv => ⟨(h3 b hv).1, fun o ho => hold b ((h2.lt b hv).2) o ((h3 b hv).2.1 o ho), (h3 b hv).2.2⟩⟩
      exact h2.kept (row := none) ⟨hb.os, hb.tape, hb.output, hb.size, fun i hi _ => hb.block i hi⟩ (by cases v.ownBlock <;> simp)
    ext := by
      obtain ⟨F, h1, h2⟩ := h.ext
      refine ⟨F, σ.ext.mono (w := w) (fun _ _ x => .inl x) (fun b o x => hcell b o (h.vlt b o x)) (fun b x => hb.block b (h2 b x).2.1) h1, fun b x => ?_⟩
      obtain ⟨g1, g2, g3, g4, g5⟩ := h2 b x
      exact ⟨g1, Nat.lt_of_lt_of_le g2 hb.size, fun o => hold b g2 o (g3 o), g4, g5⟩ }
end
end Go.Fx

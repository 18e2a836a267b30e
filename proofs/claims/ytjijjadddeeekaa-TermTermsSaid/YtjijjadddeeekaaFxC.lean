/- Fx, part C: the step of an operation, the run of a region, the walk through code. -/
import Derived.Test.YtjijjadddeeekaaFxB
namespace Go.Fx
open Go.RowKit

/-- A choice between two: of bools, as a bool. -/
def pickT (g t : Bool) : T → T → T
  | .k ga (.x (.one (.c (.v (.bool x))))), .k gb (.x (.one (.c (.v (.bool y))))) => .k (g && (bif t then ga else gb)) (rB (bif t then x else y))
  | a, b => match (if t then a else b) with
    | .k gr r => .k (g && gr) r
    | .lost => .lost

def moveT (g : Bool) : T → T
  | .k gx r => .k (g && gx) r
  | .lost => .lost

def S.setObj (σ : S) (d : Nat) (b : Box) : S := { σ with objs := fun k => if k = d then some b else σ.objs k }
def S.setTok (σ : S) (d : Nat) (t : Tok) : S := { σ with toks := fun k => if k = d then some t else σ.toks k }

def nothing : T := .k false (.x (.one .lost))

/-- The rows of a slice literal, all closed. -/
def rowsO : List R → Option (List (List C))
  | [] => some []
  | r :: l =>
    match r.cells.bind closeL, rowsO l with
    | some e, some es => some (e :: es)
    | _, _ => none

/-- What an append adds. -/
def R.rows? : R → Option (List (List C) × List (List C))
  | .x (.one a) => a.rows?
  | _ => none

def maxBytes : Nat := 140737488355328

/-- One operation's step. -/
def StepI (P : Program) (G : World → Prop) (o : IOper) (σ σ' : S) : Prop :=
  match o.op with
  | .move x => ∃ g, guardO σ o.guard = some g ∧ σ' = σ.put o.dst (moveT g (x.val σ))
  | .pick c a b => ∃ g, guardO σ o.guard = some g ∧ ∃ gc t, c.val σ = .k gc (rB t) ∧ (g = true → gc = true) ∧ σ' = σ.put o.dst (pickT g t (a.val σ) (b.val σ))
  | .call f args => ∃ g, guardO σ o.guard = some g ∧ ∃ cs res, (g = true → (args.all fun d => (d.val σ).g) = true ∧ closeArgs (args.map fun d => (d.val σ).r) = some cs ∧ Meets P G f cs res) ∧
      σ' = σ.put o.dst (.k g res.open)
  | .box ty x => o.guard = none ∧ ∃ d y, o.dst = some d ∧ σ.objs d = none ∧ x.val σ = .k true (.x y) ∧
      σ' = (σ.setObj d ⟨ty, y.cells.length, [y.cells]⟩).put o.dst (.k true (.x (.one (.ref d 0 0))))
  | .zero ty z => o.guard = none ∧ ∃ d, o.dst = some d ∧ σ.objs d = none ∧
      σ' = (σ.setObj d ⟨ty, z.length, [z]⟩).put o.dst (.k true (.x (.one (.ref d 0 0))))
  | .row ty size ps => (ps.all fun d => (d.val σ).g) = true ∧ ∃ es, rowsO (ps.map fun d => (d.val σ).r) = some es ∧ (∀ e ∈ es, e.length = size) ∧
      match o.guard with
      | none => ∃ d, o.dst = some d ∧ σ.toks d = none ∧ σ' = (σ.setTok d ⟨ty, size, es.length⟩).put o.dst (.k true (.x (.one (.own d es))))
      | some _ => ∃ g, guardO σ o.guard = some g ∧ σ' = σ.put o.dst (.k g (.x (.one (.c (.sl es [])))))
  | .app ty size bytes x y => o.guard = none ∧ (x.val σ).g = true ∧ (y.val σ).g = true ∧ ∃ news sp, (y.val σ).r.rows? = some (news, sp) ∧ (∀ e ∈ news, e.length = size) ∧
      match (x.val σ).r with
      | .x (.one (.own k es)) => ∃ t, σ.toks k = some t ∧ t.ty = ty ∧ t.size = size ∧ es.length = t.n ∧ es.length + news.length ≤ maxLen ∧ (es.length + news.length) * bytes ≤ maxBytes ∧
          σ' = (σ.setTok k ⟨ty, size, es.length + news.length⟩).put o.dst (.k true (.x (.one (.own k (es ++ news)))))
      | .x (.one .nil) => ∃ d, o.dst = some d ∧ σ.toks d = none ∧ news.length ≤ maxLen ∧ news.length * bytes ≤ maxBytes ∧
          σ' = (σ.setTok d ⟨ty, size, news.length⟩).put o.dst (.k true (.x (.one (.own d news))))
      | _ => False
  | .make ty size bytes z l c => o.guard = none ∧ ∃ d n m, o.dst = some d ∧ σ.objs d = none ∧ l.val σ = .k true (rI .i64 n) ∧ c.val σ = .k true (rI .i64 m) ∧
      0 ≤ n ∧ n ≤ m ∧ m ≤ maxLen ∧ bytes * m ≤ maxBytes ∧ z.length = size ∧
      σ' = (σ.setObj d ⟨ty, size, List.replicate m.toNat z⟩).put o.dst (.k true (.x (.one (.arr d 0 n.toNat m.toNat))))
  | .store n x y => o.guard = none ∧ ∃ k i off b yv, x.val σ = .k true (.x (.one (.ref k i off))) ∧ σ.objs k = some b ∧ y.val σ = .k true (.x yv) ∧
      i < b.rows.length ∧ off + yv.cells.length ≤ (b.rows.getD i []).length ∧ yv.cells.length = n.getD 1 ∧
      σ' = (σ.setObj k { b with rows := b.rows.set i (splice (b.rows.getD i []) off yv.cells) }).put o.dst nothing
  | op => ∃ g, guardO σ o.guard = some g ∧ ∃ out, pureO σ op = some out ∧ (g = true → out.need) ∧ σ' = σ.put o.dst (.k g out.val)

/-- A region's operations, one behind the other. -/
def RunI (P : Program) (G : World → Prop) : List IOper → S → S → Prop
  | [], σ, σ' => σ' = σ
  | o :: l, σ, σ' => ∃ σ1, StepI P G o σ σ1 ∧ RunI P G l σ1 σ'

inductive IC where
  | skip
  | region (news : List Nat) (keep : List Nat) (ops : List IOper)
  | seq (a b : IC)
  | cond (c : D) (a b : IC)
  | block (id : Nat) (a : IC)
  | loop (a : IC)
  | exit (id : Nat)
  | ret
  deriving Inhabited

/-- Strike keys: what points to a struck box is unknown; what a struck token grew is closed. -/
def A.strike (ks : List Nat) : A → A
  | .own k es => if k ∈ ks then .c (.sl es []) else .own k es
  | .ref k i off => if k ∈ ks then .lost else .ref k i off
  | .arr k off n m => if k ∈ ks then .lost else .arr k off n m
  | a => a
def X.strike (ks : List Nat) : X → X
  | .one a => .one (a.strike ks)
  | .agg cs => .agg (cs.map (A.strike ks))
def R.strike (ks : List Nat) : R → R
  | .x y => .x (y.strike ks)
  | .tup xs => .tup (xs.map (X.strike ks))
def T.strike (ks : List Nat) : T → T
  | .k g r => .k g (r.strike ks)
  | .lost => .lost
def S.strike (ks : List Nat) (σ : S) : S :=
  if ks = [] then σ else
  { tmps := fun t => (σ.tmps t).strike ks,
    objs := fun k => if k ∈ ks then none else (σ.objs k).map fun b => { b with rows := b.rows.map (·.map (A.strike ks)) },
    toks := fun k => if k ∈ ks then none else σ.toks k }

/-- Keep these temporaries alone. -/
def S.keep (ks : List Nat) (σ : S) : S := { σ with tmps := fun t => if t ∈ ks then σ.tmps t else .lost }

/-- The walk through code: Q holds at every way out. -/
def wpI (P : Program) (G : World → Prop) : IC → (Exit → S → Prop) → S → Prop
  | .skip, Q, σ => Q .normal σ
  | .region news keep ops, Q, σ => ∃ σ', RunI P G ops (σ.strike news) σ' ∧ Q .normal (σ'.keep keep)
  | .seq a b, Q, σ => wpI P G a (fun e σ' => match e with | .normal => wpI P G b Q σ' | e => Q e σ') σ
  | .cond c a b, Q, σ => ∃ t, c.val σ = .k true (rB t) ∧ (t = true → wpI P G a Q σ) ∧ (t = false → wpI P G b Q σ)
  | .block id a, Q, σ => wpI P G a (fun e σ' => match e with | .exit i => if i = id then Q .normal σ' else Q (.exit i) σ' | e => Q e σ') σ
  | .loop a, Q, σ => ∃ (I : S → Prop) (μ : S → Nat), I σ ∧ ∀ σ1, I σ1 → wpI P G a (fun e σ' => match e with | .normal => I σ' ∧ μ σ' < μ σ1 | e => Q e σ') σ1
  | .exit id, Q, σ => Q (.exit id) σ
  | .ret, Q, σ => Q .ret σ

end Go.Fx

/- What is read, on: expressions, literals, heads, rules, as they lie in rows; the spare places are told too. -/
import Derived.Test.YtiomojlcnemnhaaTHxM8
namespace Go.Proofs.Ytiomojlcnemnhaa
open Go.Fx Go.RowKit Go.Ped

abbrev Sp := List (List C)

/-- An expression, with the spare places of its kids' slice. -/
inductive Ex where
  | mk (op : Int) (t : Tm) (kids : List Ex) (sp : Sp)
  deriving Inhabited

def Ex.op : Ex → Int | .mk op _ _ _ => op
def Ex.t : Ex → Tm | .mk _ t _ _ => t
def Ex.kids : Ex → List Ex | .mk _ _ kids _ => kids
def Ex.sp : Ex → Sp | .mk _ _ _ sp => sp
@[simp] theorem Ex.op_mk (op : Int) (t : Tm) (kids : List Ex) (sp : Sp) : (Ex.mk op t kids sp).op = op := rfl
@[simp] theorem Ex.t_mk (op : Int) (t : Tm) (kids : List Ex) (sp : Sp) : (Ex.mk op t kids sp).t = t := rfl
@[simp] theorem Ex.kids_mk (op : Int) (t : Tm) (kids : List Ex) (sp : Sp) : (Ex.mk op t kids sp).kids = kids := rfl
@[simp] theorem Ex.sp_mk (op : Int) (t : Tm) (kids : List Ex) (sp : Sp) : (Ex.mk op t kids sp).sp = sp := rfl

mutual
theorem Ex.ind {Q : Ex → Prop} (h : ∀ op t kids sp, (∀ k ∈ kids, Q k) → Q (.mk op t kids sp)) : ∀ e, Q e
  | .mk op t kids sp => h op t kids sp (Ex.indL h kids)
theorem Ex.indL {Q : Ex → Prop} (h : ∀ op t kids sp, (∀ k ∈ kids, Q k) → Q (.mk op t kids sp)) : ∀ l : List Ex, ∀ k ∈ l, Q k
  | [], _, hk => by cases hk
  | e :: l, k, hk => match List.mem_cons.1 hk with
    | .inl e1 => e1 ▸ Ex.ind h e
    | .inr hk => Ex.indL h l k hk
end

mutual
def Ex.row : Ex → List C
  | .mk op t kids sp => [cI .i8 op, cS (bs t.v), cI .i8 t.x.k, cI .i64 t.x.n, cS (bs t.x.s), .sl (exRows kids) sp]
def exRows : List Ex → List (List C)
  | [] => []
  | e :: l => e.row :: exRows l
end
theorem exRows_map : ∀ l : List Ex, exRows l = l.map Ex.row
  | [] => rfl
  | e :: l => by rw [exRows, exRows_map l]; rfl
theorem Ex.row_mk (op : Int) (t : Tm) (kids : List Ex) (sp : Sp) : (Ex.mk op t kids sp).row = [cI .i8 op, cS (bs t.v), cI .i8 t.x.k, cI .i64 t.x.n, cS (bs t.x.s), .sl (kids.map Ex.row) sp] := by
  rw [Ex.row, exRows_map]
theorem Ex.row_eq (e : Ex) : e.row = [cI .i8 e.op, cS (bs e.t.v), cI .i8 e.t.x.k, cI .i64 e.t.x.n, cS (bs e.t.x.s), .sl (e.kids.map Ex.row) e.sp] := by
  cases e; exact Ex.row_mk ..
@[simp] theorem Ex.row_length (e : Ex) : e.row.length = 6 := by rw [Ex.row_eq]; rfl

mutual
/-- The terms of an expression, its own first. -/
def Ex.terms : Ex → List Tm
  | .mk _ t kids _ => t :: exTerms kids
def exTerms : List Ex → List Tm
  | [] => []
  | e :: l => e.terms ++ exTerms l
end
theorem exTerms_flat : ∀ l : List Ex, exTerms l = l.flatMap Ex.terms
  | [] => rfl
  | e :: l => by rw [exTerms, exTerms_flat l]; rfl
theorem Ex.terms_mk (op : Int) (t : Tm) (kids : List Ex) (sp : Sp) : (Ex.mk op t kids sp).terms = t :: kids.flatMap Ex.terms := by rw [Ex.terms, exTerms_flat]

mutual
/-- The same but for what is spare. -/
def Ex.same : Ex → Ex → Bool
  | .mk op t kids _, .mk op' t' kids' _ => op == op' && t == t' && exSame kids kids'
def exSame : List Ex → List Ex → Bool
  | [], [] => true
  | e :: l, e' :: l' => e.same e' && exSame l l'
  | _, _ => false
end
mutual
/-- No list in it is longer than N. -/
def Ex.small (N : Nat) : Ex → Prop
  | .mk _ _ kids _ => kids.length ≤ N ∧ exSmall N kids
def exSmall (N : Nat) : List Ex → Prop
  | [] => True
  | e :: l => e.small N ∧ exSmall N l
end
theorem exSmall_iff {N : Nat} : ∀ {l : List Ex}, exSmall N l ↔ ∀ e ∈ l, e.small N
  | [] => by simp [exSmall]
  | e :: l => by rw [exSmall, exSmall_iff]; simp
theorem Ex.small_mk {N : Nat} {op : Int} {t : Tm} {kids : List Ex} {sp : Sp} : (Ex.mk op t kids sp).small N ↔ kids.length ≤ N ∧ ∀ k ∈ kids, k.small N := by rw [Ex.small, exSmall_iff]

/-- How many kids an operation takes. -/
def arity (op : Int) : Int := if op = 1 ∨ op = 8 ∨ op = 9 ∨ op = 10 then 1 else if 2 ≤ op ∧ op ≤ 7 then 2 else -1
def zeroT : Tm := ⟨[], zeroV⟩
def solidOk (t : Tm) : Bool := t.v != us && t.ok
/-- Is it an expression as it may be, of a depth up to d? -/
def exOk : Nat → Ex → Bool
  | 0, _ => false
  | d + 1, .mk op t kids _ => if op = 0 then kids.isEmpty && solidOk t else t == zeroT && (kids.length : Int) == arity op && kids.all (exOk d)

structure Lit where
  kind : Int
  p : Name
  l : List Tm
  sp : Sp
  rel : Int
  left : Ex
  right : Ex
  deriving Inhabited
def Lit.row (x : Lit) : List C := [cI .i8 x.kind, cS (bs x.p), .sl (x.l.map Tm.row) x.sp, cI .i8 x.rel] ++ x.left.row ++ x.right.row
@[simp] theorem Lit.row_length (x : Lit) : x.row.length = 16 := by simp [Lit.row]
def Lit.terms (x : Lit) : List Tm := x.l ++ x.left.terms ++ x.right.terms
def Lit.small (N : Nat) (x : Lit) : Prop := x.l.length ≤ N ∧ x.left.small N ∧ x.right.small N

structure Arg where
  agg : Int
  t : Tm
  deriving DecidableEq, Inhabited
def Arg.row (x : Arg) : List C := cI .i8 x.agg :: x.t.row
@[simp] theorem Arg.row_length (x : Arg) : x.row.length = 5 := rfl

structure Rule where
  p : Name
  head : List Arg
  hsp : Sp
  body : List Lit
  bsp : Sp
  deriving Inhabited
def Rule.row (r : Rule) : List C := [cS (bs r.p), .sl (r.head.map Arg.row) r.hsp, .sl (r.body.map Lit.row) r.bsp]
@[simp] theorem Rule.row_length (x : Rule) : x.row.length = 3 := rfl
def Rule.terms (r : Rule) : List Tm := r.head.map Arg.t ++ r.body.flatMap Lit.terms
def Rule.small (N : Nat) (r : Rule) : Prop := r.head.length ≤ N ∧ r.body.length ≤ N ∧ ∀ x ∈ r.body, x.small N

/-- The zero expression. -/
def exNone (e : Ex) : Bool := e.op == 0 && e.t == zeroT && e.kids.isEmpty
def litOk (x : Lit) : Bool :=
  if x.kind = 1 ∨ x.kind = 2 then atomOk x.p x.l && x.rel == 0 && exNone x.left && exNone x.right
  else if x.kind = 3 then x.p == [] && x.l.isEmpty && decide (1 ≤ x.rel) && decide (x.rel ≤ 6) && exOk 8 x.left && exOk 8 x.right
  else false
def argOk (a : Arg) : Bool :=
  if a.agg = 0 then solidOk a.t else if a.agg = 1 then a.t == zeroT else if a.agg = 2 ∨ a.agg = 3 ∨ a.agg = 4 then a.t.v != [] && solidOk a.t else false
abbrev varsOf (l : List Tm) : List Name := varsOn [] (l.map Tm.v)
def ruleOk (r : Rule) : Bool :=
  nameOk r.p && decide (r.head.length ≤ 24) && decide (r.body.length ≤ 16) && r.head.all argOk && r.body.all litOk && decide ((varsOf r.terms).length ≤ 24)
end Go.Proofs.Ytiomojlcnemnhaa

import Derived.Test.YtiomojlcnemnhaaGreatDoorPGxM6
import Derived.Test.YtiomojlcnemnhaaGreatDoorPGxN3
import Derived.Test.YtiomojlcnemnhaaGreatDoorPGxIcD
/- What is read, on: expressions, literals, heads, rules, as they lie in rows; the spare places are told too. -/
namespace Go.Proofs.YtiomojlcnemnhaaGreatDoor
open Go.Fx Go.RowKit Go.Ped

abbrev Sp := List (List C)

/-- An expression, with the spare places of its kids' slice. -/
inductive Ex where
  | mk (op : Int) (t : Tm) (kids : List Ex) (sp : Sp)
  deriving Inhabited

def Ex.op : Ex → Int | .mk op _ _ _ => op
def Ex.t : Ex → Tm | .mk _ t _ _ => t
def Ex.kids : Ex → List Ex | .mk _ _ kids _ => kids
def Ex.sp : Ex → Sp | .mk _ _ _ sp => sp
@[simp] theorem Ex.op_mk (op : Int) (t : Tm) (kids : List Ex) (sp : Sp) : (Ex.mk op t kids sp).op = op := rfl
@[simp] theorem Ex.t_mk (op : Int) (t : Tm) (kids : List Ex) (sp : Sp) : (Ex.mk op t kids sp).t = t := rfl
@[simp] theorem Ex.kids_mk (op : Int) (t : Tm) (kids : List Ex) (sp : Sp) : (Ex.mk op t kids sp).kids = kids := rfl
@[simp] theorem Ex.sp_mk (op : Int) (t : Tm) (kids : List Ex) (sp : Sp) : (Ex.mk op t kids sp).sp = sp := rfl

mutual
theorem Ex.ind {Q : Ex → Prop} (h : ∀ op t kids sp, (∀ k ∈ kids, Q k) → Q (.mk op t kids sp)) : ∀ e, Q e
  | .mk op t kids sp => h op t kids sp (Ex.indL h kids)
theorem Ex.indL {Q : Ex → Prop} (h : ∀ op t kids sp, (∀ k ∈ kids, Q k) → Q (.mk op t kids sp)) : ∀ l : List Ex, ∀ k ∈ l, Q k
  | [], _, hk => by cases hk
  | e :: l, k, hk => match List.mem_cons.1 hk with
    | .inl e1 => e1 ▸ Ex.ind h e
    | .inr hk => Ex.indL h l k hk
end

mutual
def Ex.row : Ex → List C
  | .mk op t kids sp => [cI .i8 op, cS (bs t.v), cI .i8 t.x.k, cI .i64 t.x.n, cS (bs t.x.s), .sl (exRows kids) sp]
def exRows : List Ex → List (List C)
  | [] => []
  | e :: l => e.row :: exRows l
end
theorem exRows_map : ∀ l : List Ex, exRows l = l.map Ex.row
  | [] => rfl
  | e :: l => by rw [exRows, exRows_map l]; rfl
theorem Ex.row_mk (op : Int) (t : Tm) (kids : List Ex) (sp : Sp) : (Ex.mk op t kids sp).row = [cI .i8 op, cS (bs t.v), cI .i8 t.x.k, cI .i64 t.x.n, cS (bs t.x.s), .sl (kids.map Ex.row) sp] := by
  rw [Ex.row, exRows_map]
theorem Ex.row_eq (e : Ex) : e.row = [cI .i8 e.op, cS (bs e.t.v), cI .i8 e.t.x.k, cI .i64 e.t.x.n, cS (bs e.t.x.s), .sl (e.kids.map Ex.row) e.sp] := by
  cases e; exact Ex.row_mk ..
@[simp] theorem Ex.row_length (e : Ex) : e.row.length = 6 := by rw [Ex.row_eq]; rfl

mutual
/-- The terms of an expression, its own first. -/
def Ex.terms : Ex → List Tm
  | .mk _ t kids _ => t :: exTerms kids
def exTerms : List Ex → List Tm
  | [] => []
  | e :: l => e.terms ++ exTerms l
end
theorem exTerms_flat : ∀ l : List Ex, exTerms l = l.flatMap Ex.terms
  | [] => rfl
  | e :: l => by rw [exTerms, exTerms_flat l]; rfl
theorem Ex.terms_mk (op : Int) (t : Tm) (kids : List Ex) (sp : Sp) : (Ex.mk op t kids sp).terms = t :: kids.flatMap Ex.terms := by rw [Ex.terms, exTerms_flat]

mutual
/-- The copy with a mark behind each list. -/
def Ex.twin (mk : List C) : Ex → Ex
  | .mk op t kids _ => .mk op t (exTwin mk kids) [mk]
def exTwin (mk : List C) : List Ex → List Ex
  | [] => []
  | e :: l => e.twin mk :: exTwin mk l
end
theorem exTwin_map (mk : List C) : ∀ l : List Ex, exTwin mk l = l.map (Ex.twin mk)
  | [] => rfl
  | e :: l => by rw [exTwin, exTwin_map mk l]; rfl
theorem Ex.twin_mk (mk : List C) (op : Int) (t : Tm) (kids : List Ex) (sp : Sp) : (Ex.mk op t kids sp).twin mk = .mk op t (kids.map (Ex.twin mk)) [mk] := by rw [Ex.twin, exTwin_map]

mutual
/-- The same but for what is spare. -/
def Ex.same : Ex → Ex → Bool
  | .mk op t kids _, .mk op' t' kids' _ => op == op' && t == t' && exSame kids kids'
def exSame : List Ex → List Ex → Bool
  | [], [] => true
  | e :: l, e' :: l' => e.same e' && exSame l l'
  | _, _ => false
end
mutual
theorem Ex.terms_twin (mk : List C) : ∀ e : Ex, (e.twin mk).terms = e.terms
  | .mk op t kids sp => by simp only [Ex.twin, Ex.terms, exTerms_twin mk kids]
theorem exTerms_twin (mk : List C) : ∀ l : List Ex, exTerms (exTwin mk l) = exTerms l
  | [] => rfl
  | e :: l => by simp only [exTwin, exTerms, Ex.terms_twin mk e, exTerms_twin mk l]
end

mutual
/-- No list in it is longer than N. -/
def Ex.small (N : Nat) : Ex → Prop
  | .mk _ _ kids _ => kids.length ≤ N ∧ exSmall N kids
def exSmall (N : Nat) : List Ex → Prop
  | [] => True
  | e :: l => e.small N ∧ exSmall N l
end
theorem exSmall_iff {N : Nat} : ∀ {l : List Ex}, exSmall N l ↔ ∀ e ∈ l, e.small N
  | [] => by simp [exSmall]
  | e :: l => by rw [exSmall, exSmall_iff]; simp
theorem Ex.small_mk {N : Nat} {op : Int} {t : Tm} {kids : List Ex} {sp : Sp} : (Ex.mk op t kids sp).small N ↔ kids.length ≤ N ∧ ∀ k ∈ kids, k.small N := by rw [Ex.small, exSmall_iff]

def zeroT : Tm := ⟨[], zeroV⟩
structure Lit where
  kind : Int
  p : Name
  l : List Tm
  sp : Sp
  rel : Int
  left : Ex
  right : Ex
  deriving Inhabited
def Lit.row (x : Lit) : List C := [cI .i8 x.kind, cS (bs x.p), .sl (x.l.map Tm.row) x.sp, cI .i8 x.rel] ++ x.left.row ++ x.right.row
@[simp] theorem Lit.row_length (x : Lit) : x.row.length = 16 := by simp [Lit.row]
def Lit.terms (x : Lit) : List Tm := x.l ++ x.left.terms ++ x.right.terms
/-- mt, me: the marks behind terms and behind expressions. -/
def Lit.twin (mt me : List C) (x : Lit) : Lit := { x with sp := [mt], left := x.left.twin me, right := x.right.twin me }
def Lit.small (N : Nat) (x : Lit) : Prop := x.l.length ≤ N ∧ x.left.small N ∧ x.right.small N

structure Arg where
  agg : Int
  t : Tm
  deriving DecidableEq, Inhabited
def Arg.row (x : Arg) : List C := cI .i8 x.agg :: x.t.row
@[simp] theorem Arg.row_length (x : Arg) : x.row.length = 5 := rfl

structure Rule where
  p : Name
  head : List Arg
  hsp : Sp
  body : List Lit
  bsp : Sp
  deriving Inhabited
def Rule.row (r : Rule) : List C := [cS (bs r.p), .sl (r.head.map Arg.row) r.hsp, .sl (r.body.map Lit.row) r.bsp]
@[simp] theorem Rule.row_length (x : Rule) : x.row.length = 3 := rfl
def Rule.terms (r : Rule) : List Tm := r.head.map Arg.t ++ r.body.flatMap Lit.terms
def Rule.small (N : Nat) (r : Rule) : Prop := r.head.length ≤ N ∧ r.body.length ≤ N ∧ ∀ x ∈ r.body, x.small N

end Go.Proofs.YtiomojlcnemnhaaGreatDoor

/- Contracts, on: expressions: what they may be. -/
namespace Go.Proofs.YtiomojlcnemnhaaGreatDoor
open Go.Fx Go.RowKit Go.Ped
variable {G : World → Prop}

end Go.Proofs.YtiomojlcnemnhaaGreatDoor

/- Contracts, on: the document's expressions. -/
namespace Go.Proofs.YtiomojlcnemnhaaGreatDoor
open Go.Fx Go.RowKit Go.Ped
variable {G : World → Prop}

end Go.Proofs.YtiomojlcnemnhaaGreatDoor

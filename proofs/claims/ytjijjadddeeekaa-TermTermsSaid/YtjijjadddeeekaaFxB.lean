/- Fx, part B: a small language of operations, and what they do to the state that is told without addresses. -/
import Derived.Test.YtjijjadddeeekaaFxA
namespace Go.Fx
open Go.RowKit

inductive D where
  | t (n : Nat)
  | k (r : R)
  deriving Inhabited

/-- The kind of a scalar cell. -/
inductive Kd where
  | i (k : IntKind)
  | b
  | s
  deriving Inhabited

inductive IOp where
  | move (x : D)
  | pick (c a b : D)
  | box (ty : TypeId) (x : D)
  | zero (ty : TypeId) (z : List A)
  | build (z : List A) (parts : List (Nat × Nat × D))
  | row (ty : TypeId) (size : Nat) (ps : List D)
  | load (n : Option Nat) (x : D)
  | store (n : Option Nat) (x y : D)
  | faddr (off : Nat) (x : D)
  | field (off : Nat) (n : Option Nat) (x : D)
  | iaddr (size : Nat) (x i : D)
  | sindex (x i : D)
  | bin (op : BinOp) (x y : D)
  | eqs (neg : Bool) (ks : List Kd) (x y : D)
  | eqb (neg : Bool) (x y : D)
  | un (op : UnOp) (x : D)
  | conv (k : IntKind) (x : D)
  | bytes (x : D)
  | len (x : D)
  | slen (x : D)
  | ssl (x : D) (lo hi : Option D)
  | vsl (size : Nat) (x : D) (lo hi : Option D)
  | app (ty : TypeId) (size bytes : Nat) (x y : D)
  | make (ty : TypeId) (size bytes : Nat) (z : List A) (l c : D)
  | call (f : FuncId) (args : List D)
  | ext (x : D) (i : Nat)
  deriving Inhabited

structure IOper where
  dst : Option Nat
  op : IOp
  guard : Option (Nat × Bool)
  deriving Inhabited

def S.put (σ : S) (d : Option Nat) (t : T) : S :=
  match d with
  | some d => { σ with tmps := fun n => if n = d then t else σ.tmps n }
  | none => σ

def D.val (σ : S) : D → T
  | .t n => σ.tmps n
  | .k r => .k true r

def T.r : T → R
  | .k _ r => r
  | .lost => .x (.one .lost)
def T.g : T → Bool
  | .k g _ => g
  | .lost => false

/-- What an operation asks, and what it gives where that holds. -/
structure Out where
  need : Prop
  val : R

def bad : Out := ⟨False, .x (.one .lost)⟩

abbrev rI (k : IntKind) (n : Int) : R := .x (.one (.c (.v (.int k n))))
abbrev rB (b : Bool) : R := .x (.one (.c (.v (.bool b))))
abbrev rS (s : ByteArray) : R := .x (.one (.c (.v (.string s))))

/-- An integer, a bool, a string: what an operation of two of them gives. -/
def binO (op : BinOp) : R → R → Out
  | .x (.one (.c (.v (.int k a)))), .x (.one (.c (.v (.int k' b)))) =>
    match op with
    | .add => ⟨k = k', rI k (k.wrap (a + b))⟩
    | .sub => ⟨k = k', rI k (k.wrap (a - b))⟩
    | .mul => ⟨k = k', rI k (k.wrap (a * b))⟩
    | .quo => ⟨k = k' ∧ b ≠ 0, rI k (k.wrap (a.tdiv b))⟩
    | .rem => ⟨k = k' ∧ b ≠ 0, rI k (a.tmod b)⟩
    | .eql => ⟨k = k', rB (a == b)⟩
    | .neq => ⟨k = k', rB (a != b)⟩
    | .lss => ⟨k = k', rB (decide (a < b))⟩
    | .leq => ⟨k = k', rB (decide (a ≤ b))⟩
    | .gtr => ⟨k = k', rB (decide (a > b))⟩
    | .geq => ⟨k = k', rB (decide (a ≥ b))⟩
    | _ => bad
  | .x (.one (.c (.v (.string a)))), .x (.one (.c (.v (.string b)))) =>
    match op with
    | .add => ⟨a.size + b.size ≤ 9223372036854775807, rS (a ++ b)⟩
    | .eql => ⟨True, rB (a == b)⟩
    | .neq => ⟨True, rB (!(a == b))⟩
    | .lss => ⟨True, rB (Op.bytesLess a.toList b.toList)⟩
    | .geq => ⟨True, rB (!Op.bytesLess a.toList b.toList)⟩
    | .gtr => ⟨True, rB (!(Op.bytesLess a.toList b.toList || a == b))⟩
    | .leq => ⟨True, rB (Op.bytesLess a.toList b.toList || a == b)⟩
    | _ => bad
  | _, _ => bad

def eqbO (neg : Bool) : R → R → Out
  | .x (.one (.c (.v (.bool a)))), .x (.one (.c (.v (.bool b)))) => ⟨True, rB (if neg then !(a == b) else a == b)⟩
  | _, _ => bad

/-- Are two scalars of that kind the same? none: they are not of that kind. -/
def eqV : Kd → A → A → Option Bool
  | .i k, .c (.v (.int k1 a)), .c (.v (.int k2 b)) => if k1 = k ∧ k2 = k then some (a == b) else none
  | .s, .c (.v (.string a)), .c (.v (.string b)) => some (a == b)
  | .b, .c (.v (.bool a)), .c (.v (.bool b)) => some (a == b)
  | _, _, _ => none

/-- Are two rows of scalars the same? -/
def eqRows : List Kd → List A → List A → Option Bool
  | [], [], [] => some true
  | k :: ks, x :: xs, y :: ys =>
    match eqV k x y, eqRows ks xs ys with
    | some a, some b => some (a && b)
    | _, _ => none
  | _, _, _ => none

def eqsO (neg : Bool) (ks : List Kd) : R → R → Out
  | .x (.agg xs), .x (.agg ys) =>
    match eqRows ks xs ys with
    | some b => ⟨True, rB (if neg then !b else b)⟩
    | none => bad
  | _, _ => bad

def unO (op : UnOp) : R → Out
  | .x (.one (.c (.v (.int k n)))) =>
    match op with
    | .neg => ⟨True, rI k (k.wrap (0 - n))⟩
    | _ => bad
  | .x (.one (.c (.v (.bool b)))) =>
    match op with
    | .not => ⟨True, rB (!b)⟩
    | _ => bad
  | _ => bad

def convO (k : IntKind) : R → Out
  | .x (.one (.c (.v (.int _ n)))) => ⟨True, rI k (k.wrap n)⟩
  | _ => bad

/-- A slice's elements and the known ones behind. -/
def A.rows? : A → Option (List (List C) × List (List C))
  | .nil => some ([], [])
  | .c (.sl es sp) => some (es, sp)
  | .own _ es => some (es, [])
  | _ => none

def slenO : R → Out
  | .x (.one (.c (.v (.string s)))) => ⟨True, rI .i64 s.size⟩
  | _ => bad

def lenO : R → Out
  | .x (.one .nil) => ⟨True, rI .i64 0⟩
  | .x (.one (.c (.sl es _))) => ⟨True, rI .i64 es.length⟩
  | .x (.one (.own _ es)) => ⟨True, rI .i64 es.length⟩
  | .x (.one (.arr _ _ n _)) => ⟨True, rI .i64 n⟩
  | _ => bad

def byteRow (b : UInt8) : List C := [.v (.int .u8 b.toNat)]

def bytesO : R → Out
  | .x (.one (.c (.v (.string s)))) => ⟨s.size ≤ maxLen, .x (.one (.c (.sl (s.data.toList.map byteRow) [])))⟩
  | _ => bad

def iaddrO (σ : S) (size : Nat) : R → R → Out
  | .x (.one (.c (.sl es sp))), .x (.one (.c (.v (.int _ i)))) => ⟨0 ≤ i ∧ i < es.length ∧ (es.getD i.toNat []).length = size, .x (.one (.elem es sp i.toNat 0))⟩
  | .x (.one (.own _ es)), .x (.one (.c (.v (.int _ i)))) => ⟨0 ≤ i ∧ i < es.length ∧ (es.getD i.toNat []).length = size, .x (.one (.elem es [] i.toNat 0))⟩
  | .x (.one (.arr k off n _)), .x (.one (.c (.v (.int _ i)))) => ⟨0 ≤ i ∧ i < n ∧ (match σ.objs k with | some b => b.size = size | none => False), .x (.one (.ref k (off + i.toNat) 0))⟩
  | _, _ => bad

def sindexO : R → R → Out
  | .x (.one (.c (.v (.string s)))), .x (.one (.c (.v (.int _ i)))) => ⟨0 ≤ i ∧ i < s.size, rI .u8 ((s.data.toList.getD i.toNat 0).toNat)⟩
  | _, _ => bad

def faddrO (off : Nat) : R → Out
  | .x (.one (.ref k i o)) => ⟨True, .x (.one (.ref k i (o + off)))⟩
  | .x (.one (.elem es sp i o)) => ⟨True, .x (.one (.elem es sp i (o + off)))⟩
  | _ => bad

/-- Part of a row of cells: one cell, or so many. -/
def partO (cs : List A) (off : Nat) : Option Nat → Out
  | none => ⟨off < cs.length, .x (.one (cs.getD off .lost))⟩
  | some n => ⟨off + n ≤ cs.length, .x (.agg ((cs.drop off).take n))⟩

def fieldO (off : Nat) (n : Option Nat) : R → Out
  | .x (.agg cs) => partO cs off n
  | _ => bad

def splice (cs : List A) (off : Nat) (news : List A) : List A := cs.take off ++ news ++ cs.drop (off + news.length)

def X.cells : X → List A
  | .one a => [a]
  | .agg cs => cs

def R.cells : R → Option (List A)
  | .x y => some y.cells
  | .tup _ => none

def fillO (cs : List A) : List (Nat × Nat × R) → Option (List A)
  | [] => some cs
  | (off, size, r) :: rest =>
    match r.cells with
    | some l => if l.length = size ∧ off + size ≤ cs.length then fillO (splice cs off l) rest else none
    | none => none

def intD (o : Option R) (dflt : Int) : Option Int :=
  match o with
  | none => some dflt
  | some (.x (.one (.c (.v (.int _ n))))) => some n
  | _ => none

def sslO (lo hi : Option R) : R → Out
  | .x (.one (.c (.v (.string s)))) =>
    match intD lo 0, intD hi s.size with
    | some l, some h => ⟨0 ≤ l ∧ l ≤ h ∧ h ≤ s.size, rS (s.extract l.toNat h.toNat)⟩
    | _, _ => bad
  | _ => bad

def vslO (size : Nat) (lo hi : Option R) : R → Out
  | .x (.one (.c (.sl es sp))) =>
    match intD lo 0, intD hi es.length with
    | some l, some h => ⟨(0 ≤ l ∧ l ≤ h ∧ h ≤ es.length + sp.length) ∧ ∀ e ∈ es ++ sp, e.length = size,
        .x (.one (.c (.sl (((es ++ sp).take h.toNat).drop l.toNat) ((es ++ sp).drop h.toNat))))⟩
    | _, _ => bad
  | .x (.one (.own _ es)) =>
    match intD lo 0, intD hi es.length with
    | some l, some h => ⟨(0 ≤ l ∧ l ≤ h ∧ h ≤ es.length) ∧ ∀ e ∈ es, e.length = size, .x (.one (.c (.sl ((es.take h.toNat).drop l.toNat) (es.drop h.toNat))))⟩
    | _, _ => bad
  | .x (.one (.arr k off n cap)) =>
    match intD lo 0, intD hi n with
    | some l, some h => ⟨l = 0 ∧ 0 ≤ h ∧ h ≤ cap, .x (.one (.arr k off h.toNat cap))⟩
    | _, _ => bad
  | _ => bad

def extO (i : Nat) : R → Out
  | .tup xs => ⟨i < xs.length, .x (xs.getD i (.one .lost))⟩
  | _ => bad

/-- What a load from a pointer gives. -/
def loadO (σ : S) (n : Option Nat) : R → Out
  | .x (.one (.elem es _ i off)) =>
    match n with
    | none => ⟨off < (es.getD i []).length, .x (.one (((es.getD i []).map A.c).getD off .lost))⟩
    | some n => ⟨off + n ≤ (es.getD i []).length, .x (.agg ((((es.getD i []).map A.c).drop off).take n))⟩
  | .x (.one (.ref k i off)) =>
    match σ.objs k with
    | some b => ⟨i < b.rows.length ∧ (match n with | none => off < (b.rows.getD i []).length | some n => off + n ≤ (b.rows.getD i []).length), (partO (b.rows.getD i []) off n).val⟩
    | none => bad
  | _ => bad

/-- The operations that neither make nor turn anything of the function's own. -/
def pureO (σ : S) : IOp → Option Out
  | .build z ps => some (match fillO z (ps.map fun p => (p.1, p.2.1, (p.2.2.val σ).r)) with
      | some cs => ⟨(ps.all fun p => (p.2.2.val σ).g) = true, .x (.agg cs)⟩
      | none => bad)
  | .load n x => some ⟨(x.val σ).g = true ∧ (loadO σ n (x.val σ).r).need, (loadO σ n (x.val σ).r).val⟩
  | .faddr off x => some ⟨(x.val σ).g = true ∧ (faddrO off (x.val σ).r).need, (faddrO off (x.val σ).r).val⟩
  | .field off n x => some ⟨(x.val σ).g = true ∧ (fieldO off n (x.val σ).r).need, (fieldO off n (x.val σ).r).val⟩
  | .iaddr size x i => some ⟨(x.val σ).g = true ∧ (i.val σ).g = true ∧ (iaddrO σ size (x.val σ).r (i.val σ).r).need, (iaddrO σ size (x.val σ).r (i.val σ).r).val⟩
  | .sindex x i => some ⟨(x.val σ).g = true ∧ (i.val σ).g = true ∧ (sindexO (x.val σ).r (i.val σ).r).need, (sindexO (x.val σ).r (i.val σ).r).val⟩
  | .bin op x y => some ⟨(x.val σ).g = true ∧ (y.val σ).g = true ∧ (binO op (x.val σ).r (y.val σ).r).need, (binO op (x.val σ).r (y.val σ).r).val⟩
  | .eqs neg ks x y => some ⟨(x.val σ).g = true ∧ (y.val σ).g = true ∧ (eqsO neg ks (x.val σ).r (y.val σ).r).need, (eqsO neg ks (x.val σ).r (y.val σ).r).val⟩
  | .eqb neg x y => some ⟨(x.val σ).g = true ∧ (y.val σ).g = true ∧ (eqbO neg (x.val σ).r (y.val σ).r).need, (eqbO neg (x.val σ).r (y.val σ).r).val⟩
  | .un op x => some ⟨(x.val σ).g = true ∧ (unO op (x.val σ).r).need, (unO op (x.val σ).r).val⟩
  | .conv k x => some ⟨(x.val σ).g = true ∧ (convO k (x.val σ).r).need, (convO k (x.val σ).r).val⟩
  | .bytes x => some ⟨(x.val σ).g = true ∧ (bytesO (x.val σ).r).need, (bytesO (x.val σ).r).val⟩
  | .len x => some ⟨(x.val σ).g = true ∧ (lenO (x.val σ).r).need, (lenO (x.val σ).r).val⟩
  | .slen x => some ⟨(x.val σ).g = true ∧ (slenO (x.val σ).r).need, (slenO (x.val σ).r).val⟩
  | .ssl x lo hi => some ⟨(x.val σ).g = true ∧ (lo.all fun d => (d.val σ).g) = true ∧ (hi.all fun d => (d.val σ).g) = true ∧
      (sslO (lo.map fun d => (d.val σ).r) (hi.map fun d => (d.val σ).r) (x.val σ).r).need, (sslO (lo.map fun d => (d.val σ).r) (hi.map fun d => (d.val σ).r) (x.val σ).r).val⟩
  | .vsl size x lo hi => some ⟨(x.val σ).g = true ∧ (lo.all fun d => (d.val σ).g) = true ∧ (hi.all fun d => (d.val σ).g) = true ∧
      (vslO size (lo.map fun d => (d.val σ).r) (hi.map fun d => (d.val σ).r) (x.val σ).r).need, (vslO size (lo.map fun d => (d.val σ).r) (hi.map fun d => (d.val σ).r) (x.val σ).r).val⟩
  | .ext x i => some ⟨(x.val σ).g = true ∧ (extO i (x.val σ).r).need, (extO i (x.val σ).r).val⟩
  | _ => none

/-- Is an operation wanted? none: it can't be told. -/
def guardO (σ : S) : Option (Nat × Bool) → Option Bool
  | none => some true
  | some (s, b) =>
    match σ.tmps s with
    | .k g (.x (.one (.c (.v (.bool t))))) => some (g && (t == b))
    | _ => none

/-- Closed values, as they go into a call and come out of it. -/
inductive CX where
  | one (c : C)
  | agg (cs : List C)
  deriving Inhabited
inductive CR where
  | x (x : CX)
  | tup (xs : List CX)
  deriving Inhabited

def A.close : A → Option C
  | .c y => some y
  | .nil => some (.sl [] [])
  | .own _ es => some (.sl es [])
  | _ => none

def closeL : List A → Option (List C)
  | [] => some []
  | a :: l =>
    match a.close, closeL l with
    | some c, some cs => some (c :: cs)
    | _, _ => none

def X.close : X → Option CX
  | .one a => a.close.map .one
  | .agg cs => (closeL cs).map .agg

def T.close : T → Option CX
  | .k true (.x y) => y.close
  | _ => none

def R.close : R → Option CX
  | .x y => y.close
  | _ => none

def closeArgs : List R → Option (List CX)
  | [] => some []
  | r :: l =>
    match r.close, closeArgs l with
    | some c, some cs => some (c :: cs)
    | _, _ => none

def CX.open : CX → X
  | .one c => .one (.c c)
  | .agg cs => .agg (cs.map .c)
def CR.open : CR → R
  | .x y => .x y.open
  | .tup xs => .tup (xs.map CX.open)

def RepCX (V : Nat → Nat → Prop) (w : World) : CX → Value → Prop
  | .one c, v => RepC V w c v
  | .agg cs, v => ∃ us : List Value, v = .agg us.toArray ∧ All2 (RepC V w) cs us
def RepCR (V : Nat → Nat → Prop) (w : World) : CR → Value → Prop
  | .x x, v => RepCX V w x v
  | .tup xs, v => ∃ vs : List Value, v = .tuple vs.toArray ∧ All2 (RepCX V w) xs vs

/-- G holds, and goes on holding while nothing that is there turns. -/
def Held (G : World → Prop) (w : World) : Prop := ∀ w', Below w.heap.size w w' → G w'

theorem Held.later {G : World → Prop} {w w' : World} (h : Held G w) (hb : Below w.heap.size w w') : Held G w' := fun w2 h2 => h w2 (hb.trans (h2.mono hb.size))

/-- THE CONTRACT OF A PLAIN FUNCTION: called with values that read as args it returns one that reads as res; whatever was there is as it was; what it answers lies in what the arguments lie in, or in new memory. -/
def Meets (P : Program) (G : World → Prop) (f : FuncId) (args : List CX) (res : CR) : Prop :=
  ∀ (w : World) (V : Nat → Nat → Prop) (vs : List Value), Held G w → (∀ b o, V b o → b < w.heap.size) → All2 (RepCX V w) args vs →
    Calls P f vs.toArray w fun e w' => ∃ v, e = .returned v ∧ RepCR (fun b o => V b o ∨ w.heap.size ≤ b) w' res v ∧ Below w.heap.size w w'

end Go.Fx

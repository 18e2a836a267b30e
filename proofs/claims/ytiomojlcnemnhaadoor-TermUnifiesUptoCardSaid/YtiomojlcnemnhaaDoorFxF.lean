/- Fx, part F: from the model's operations and code to the small language; whatever is not served is none. -/
import Derived.Test.YtiomojlcnemnhaaDoorFxE
namespace Go.Fx
open Go.RowKit

def ofCell : Value → Option A
  | .slice none 0 0 => some .nil
  | .agg _ => none
  | .tuple _ => none
  | v => some (.c (.v v))

def ofCells : List Value → Option (List A)
  | [] => some []
  | v :: l =>
    match ofCell v, ofCells l with
    | some a, some as => some (a :: as)
    | _, _ => none

def ofValue : Value → Option R
  | .agg cs => (ofCells cs.toList).map fun l => .x (.agg l)
  | v => (ofCell v).map fun a => .x (.one a)

def cmpD : Operand → Option D
  | .tmp t => some (.t t)
  | .const v => (ofValue v).map .k
  | .func f => some (.k (.x (.one (.c (.v (.func (.func f) #[] #[]))))))
  | .global _ => none

def cmpDs : List Operand → Option (List D)
  | [] => some []
  | x :: l =>
    match cmpD x, cmpDs l with
    | some d, some ds => some (d :: ds)
    | _, _ => none

/-- How many cells a load of the type gives: none: one, and no aggregate. -/
def cellsIn (P : Program) (t : TypeId) : Option (Option Nat) :=
  match P.underlying t with
  | some (.struct _) => (P.info? t).map fun i => some i.size
  | some (.array _ _) => (P.info? t).map fun i => some i.size
  | some _ => some none
  | none => none

def zeroIn (P : Program) (t : TypeId) : Option (List A) :=
  match P.info? t with
  | some i =>
    match i.zero with
    | some z => ofCells z.cells.toList
    | none => none
  | none => none

/-- Is the type's zero value one cell (true), or an aggregate (false)? -/
def zeroAgg (P : Program) (t : TypeId) : Option Bool :=
  match P.info? t with
  | some i =>
    match i.zero with
    | some (.agg _) => some false
    | some (.tuple _) => none
    | some _ => some true
    | none => none
  | none => none

/-- A struct's places: offset and size of each field. -/
def placesIn (P : Program) (fs : List Field) : Option (List (Nat × Nat)) := fs.mapM (fun f => (P.info? f.type).map fun i => (f.offset, i.size))

/-- A struct literal's parts: offset, size, value. -/
def cmpParts (places : List (Nat × Nat)) : List (Nat × Operand) → Option (List (Nat × Nat × D))
  | [] => some []
  | (j, x) :: l =>
    match places[j]?, cmpD x, cmpParts places l with
    | some p, some d, some ps => some ((p.1, p.2, d) :: ps)
    | _, _, _ => none

/-- A slice literal's parts, in order, from k on. -/
def cmpRow : Nat → List (Nat × Operand) → Option (List D)
  | _, [] => some []
  | k, (j, x) :: l =>
    if j = k then
      match cmpD x, cmpRow (k + 1) l with
      | some d, some ds => some (d :: ds)
      | _, _ => none
    else none

def flatFs (P : Program) (f : TypeId → Option (List Kd)) : List Field → Nat → Option (List Kd)
  | [], _ => some []
  | x :: fs, off =>
    match P.info? x.type, f x.type, flatFs P f fs (off + match P.info? x.type with | some i => i.size | none => 0) with
    | some i, some ks, some rest => if x.name ≠ "_" ∧ x.offset = off ∧ ks.length = i.size then some (ks ++ rest) else none
    | _, _, _ => none

/-- A type whose values are compared cell by cell: an integer, a bool, a text, or a struct of such, one field behind the other: the kinds of its cells. -/
def flatTy (P : Program) : Nat → TypeId → Option (List Kd)
  | 0, _ => none
  | d + 1, t =>
    match P.underlying t with
    | some (.int k) => some [.i k]
    | some .bool => some [.b]
    | some .string => some [.s]
    | some (.struct fs) => if P.stoodInHeld t = false then flatFs P (flatTy P d) fs.toList 0 else none
    | _ => none

/-- What is claimed of the operations beside. ops: for a slot, the keys that its operation keeps to (none: any); a call that is named here may share memory, one that is not is plain. fz: for a slot, what is done to the telling ahead of its region. -/
structure Notes where
  ops : List (Nat × Option (List Nat))
  fz : List (Nat × Prep)

def noteOf (fl : Notes) (o : Oper) : Option (Option (List Nat)) := o.dst.bind fun d => (fl.ops.find? fun p => p.1 == d).map (·.2)

def cmpOp (P : Program) (fl : Notes) (o : Oper) : Option IOp :=
  match o.op with
  | .move x => (cmpD x).map .move
  | .assign x => (cmpD x).map .move
  | .pick c a b =>
    match cmpD c, cmpD a, cmpD b with
    | some c, some a, some b => some (.pick c a b)
    | _, _, _ => none
  | .alloc e => (zeroIn P e).map (.zero e)
  | .box e x => (cmpD x).map (.box e)
  | .build t parts =>
    match P.underlying t, zeroIn P t with
    | some (.struct fs), some z =>
      match placesIn P fs.toList with
      | some places => (cmpParts places parts.toList).map (.build z)
      | none => none
    | _, _ => none
  | .buildSlice t len parts =>
    match P.underlying t with
    | some (.slice e) =>
      match P.info? e, zeroIn P e with
      | some i, some z => if len * i.size ≤ 16777216 ∧ parts.size = len ∧ 0 < i.size ∧ z.length = i.size then (cmpRow 0 parts.toList).map (.row e i.size) else none
      | _, _ => none
    | _ => none
  | .load t x =>
    match cellsIn P t, cmpD x with
    | some n, some d => some (.load n d)
    | _, _ => none
  | .store t x y =>
    match P.info? t, cmpD x, cmpD y with
    | some i, some x, some y => some (.store (some i.size) x y)
    | _, _, _ => none
  | .binOp op t x y _ =>
    match P.underlying t, cmpD x, cmpD y with
    | some (.int _), some x, some y => some (.bin op x y)
    | some .bool, some x, some y =>
      match op with
      | .eql => some (.eqb false x y)
      | .neq => some (.eqb true x y)
      | _ => none
    | some .string, some x, some y => some (.bin op x y)
    | some (.struct _), some x, some y =>
      match flatTy P 20 t with
      | some ks =>
        if P.eqGuardType P.depth t = false then
          match op with
          | .eql => some (.eqs false ks x y)
          | .neq => some (.eqs true ks x y)
          | _ => none
        else none
      | none => none
    | _, _, _ => none
  | .unOp op _ x => (cmpD x).map (.un op)
  | .convert src dst x =>
    match P.underlying src, P.underlying dst, cmpD x with
    | some (.int _), some (.int k), some d => some (.conv k d)
    | some .string, some (.slice e), some d =>
      match P.underlying e with
      | some (.int .u8) => some (.bytes d)
      | _ => none
    | _, _, _ => none
  | .makeSlice t l c =>
    match P.underlying t, cmpD l, cmpD c with
    | some (.slice e), some l, some c =>
      match P.info? e, zeroIn P e with
      | some i, some z => some (.make e i.size i.bytes z l c)
      | _, _ => none
    | _, _, _ => none
  | .slice t x lo hi none =>
    match P.underlying t, cmpD x with
    | some .string, some d =>
      match lo.map cmpD, hi.map cmpD with
      | none, none => some (.ssl d none none)
      | some (some l), none => some (.ssl d (some l) none)
      | none, some (some h) => some (.ssl d none (some h))
      | some (some l), some (some h) => some (.ssl d (some l) (some h))
      | _, _ => none
    | some (.slice e), some d =>
      match P.info? e, lo.map cmpD, hi.map cmpD with
      | some inf, none, none => some (.vsl inf.size d none none)
      | some inf, some (some l), none => some (.vsl inf.size d (some l) none)
      | some inf, none, some (some h) => some (.vsl inf.size d none (some h))
      | some inf, some (some l), some (some h) => some (.vsl inf.size d (some l) (some h))
      | _, _, _ => none
    | _, _ => none
  | .fieldAddr t x f =>
    match P.underlying t, cmpD x with
    | some (.struct fs), some d =>
      match fs[f]? with
      | some fl =>
        match P.info? fl.type with
        | some i => if i.size = 0 then none else some (.faddr fl.offset d)
        | none => none
      | none => none
    | _, _ => none
  | .field t x f =>
    match P.underlying t, cmpD x with
    | some (.struct fs), some d =>
      match fs[f]? with
      | some fl =>
        match cellsIn P fl.type with
        | some n => some (.field fl.offset n d)
        | none => none
      | none => none
    | _, _ => none
  | .indexAddr t x i =>
    match P.underlying t, cmpD x, cmpD i with
    | some (.slice e), some d, some j =>
      match P.info? e with
      | some inf => some (.iaddr inf.size d j)
      | none => none
    | _, _, _ => none
  | .index t x i =>
    match P.underlying t, cmpD x, cmpD i with
    | some .string, some d, some j => some (.sindex d j)
    | _, _, _ => none
  | .extract x i => (cmpD x).map fun d => .ext d i
  | .call c =>
    match c.callee with
    | .builtin .len =>
      match c.args.toList, c.argTypes.toList with
      | [x], [t] =>
        match P.underlying t with
        | some .string => (cmpD x).map .slen
        | some (.slice _) => (cmpD x).map .len
        | _ => none
      | _, _ => none
    | .builtin .append =>
      match c.args.toList, c.argTypes.toList with
      | [x, y], [t, u] =>
        if t = u then
          match P.underlying t, cmpD x, cmpD y with
          | some (.slice e), some x, some y =>
            match P.info? e, zeroIn P e with
            | some i, some z => if 0 < i.size ∧ z.length = i.size then some (.app e i.size i.bytes x y) else none
            | _, _ => none
          | _, _, _ => none
        else none
      | _, _ => none
    | .value f =>
      match cmpD f, cmpDs c.args.toList with
      | some f, some ds => some (if (noteOf fl o).isSome then .call f ds else .callp f ds)
      | _, _ => none
    | _ => none
  | .makeMap t none =>
    match P.underlying t with
    | some (.map kt et) =>
      match P.underlying kt, P.info? et, zeroAgg P et with
      | some d, some i, some one => some (.mkmap d (i.size + 1) one)
      | _, _, _ => none
    | _ => none
  | .lookup t m k comma =>
    match P.underlying t with
    | some (.map kt et) =>
      match P.underlying kt, zeroIn P et, zeroAgg P et, cmpD m, cmpD k with
      | some d, some z, some one, some m, some k => some (.mlook d one comma z m k)
      | _, _, _, _, _ => none
    | _ => none
  | .mapUpdate t m k v =>
    match P.underlying t with
    | some (.map kt et) =>
      match P.underlying kt, zeroAgg P et, cmpD m, cmpD k, cmpD v with
      | some d, some one, some m, some k, some v => some (.mapup d one m k v)
      | _, _, _, _, _ => none
    | _ => none
  | .makeFunc (.func f) fs cs =>
    match cmpDs fs.toList, cmpDs cs.toList with
    | some a, some b => some (.clo f a b)
    | _, _ => none
  | .makeInterface t x =>
    match P.underlying t, cmpD x with
    | some (.interface _), _ => none
    | some _, some d => some (.mki t d)
    | _, _ => none
  | .typeAssert x _ t comma =>
    match P.underlying t, zeroIn P t, zeroAgg P t, cmpD x with
    | some (.interface _), _, _, _ => none
    | some _, some z, some one, some d => some (.asrt t comma one z d)
    | _, _, _, _ => none
  | .nilCheck x => (cmpD x).map .nilchk
  | _ => none

def cmpGuard (ops : Array Oper) : Option (Nat × Bool) → Option (Option (Nat × Bool))
  | none => some none
  | some (j, b) =>
    match ops[j]? with
    | some o =>
      match o.dst with
      | some d => some (some (d, b))
      | none => none
    | none => none

def cmpOper (P : Program) (fl : Notes) (ops : Array Oper) (N : Nat) (o : Oper) : Option IOper :=
  match cmpOp P fl o, cmpGuard ops o.guard with
  | some op, some g =>
    match o.dst with
    | none => some ⟨none, op, g, (noteOf fl o).join⟩
    | some d => if d < N then some ⟨some d, op, g, (noteOf fl o).join⟩ else none
  | _, _ => none

end Go.Fx

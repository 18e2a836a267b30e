import Derived.Test.YtckhkfchgcdajaaGreatDoorYFxSd
namespace Go.Fx
open Go.RowKit
def gd1 (b t : Bool) : Bool := t == b
@[simp] theorem gd1_t (b : Bool) : gd1 b true = b := by cases b <;> rfl
@[simp] theorem gd1_f (b : Bool) : gd1 b false = !b := by cases b <;> rfl
@[simp high] theorem pickT_or (g t x : Bool) : pickT g t (.k true (rB true)) (.k (gd1 false t) (rB x)) = .k g (rB (t || x)) := by
  cases t <;> simp [pickT, gd1]
@[simp high] theorem pickT_and (g t x : Bool) : pickT g t (.k (gd1 true t) (rB x)) (.k true (rB false)) = .k g (rB (t && x)) := by
  cases t <;> simp [pickT, gd1]
@[simp high] theorem pickT_or' (g t x : Bool) : pickT g t (.k true (rB true)) (.k (g && gd1 false t) (rB x)) = .k g (rB (t || x)) := by
  cases t <;> simp [pickT, gd1]
@[simp high] theorem pickT_and' (g t x : Bool) : pickT g t (.k (g && gd1 true t) (rB x)) (.k true (rB false)) = .k g (rB (t && x)) := by
  cases t <;> simp [pickT, gd1]
@[simp] theorem len_beq_zero {α : Type} (l : List α) : ((l.length : Int) == 0) = l.isEmpty := by cases l <;> simp; omega
@[simp] theorem bneI (a b : Int) : (a != b) = !(a == b) := rfl
@[simp] theorem bneL (a b : List UInt8) : (a != b) = !(a == b) := rfl
@[simp] theorem ibeq_f {a b : Int} (h : ¬ a = b) : (a == b) = false := by simpa using h
@[simp] theorem lbeq_f {a b : List UInt8} (h : ¬ a = b) : (a == b) = false := by simpa using h
def guardU (b : Bool) : T → Option Bool
  | .k g (.x (.one (.c (.v (.bool t))))) => some (g && gd1 b t)
  | _ => none
@[simp] theorem guardU_k (b g t : Bool) : guardU b (.k g (rB t)) = some (g && gd1 b t) := rfl
def impG (g : Bool) (n : Prop) : Prop := g = true → n
@[simp] theorem impG_t (n : Prop) : impG true n = n := by simp [impG]
@[simp] theorem impG_f (n : Prop) : impG false n = True := by simp [impG]
@[simp] theorem impG_and (g : Bool) (a b : Prop) : impG g (a ∧ b) = (impG g a ∧ impG g b) := propext ⟨fun h => ⟨fun e => (h e).1, fun e => (h e).2⟩, fun h e => ⟨h.1 e, h.2 e⟩⟩
@[simp] theorem impG_self (g : Bool) : impG g (g = true) = True := propext ⟨fun _ => trivial, fun _ e => e⟩
@[simp] theorem impG_True (g : Bool) : impG g True = True := propext ⟨fun _ => trivial, fun _ _ => trivial⟩
@[simp] theorem impG_l (a b : Bool) : impG (a && b) (a = true) = True := propext ⟨fun _ => trivial, fun _ e => by simp only [Bool.and_eq_true] at e; exact e.1⟩
@[simp] theorem impG_r (a b : Bool) : impG (a && b) (b = true) = True := propext ⟨fun _ => trivial, fun _ e => by simp only [Bool.and_eq_true] at e; exact e.2⟩
def atS (F : S → Prop) (L : List (Nat × T)) (O : List (Nat × Box)) (U : List (Nat × Tok)) (H : FHp) : Prop := F (st L O U H)
@[simp] theorem atS_eq (F : S → Prop) (L : List (Nat × T)) (O : List (Nat × Box)) (U : List (Nat × Tok)) (H : FHp) : atS F L O U H = F (st L O U H) := rfl
def afterR (Q : Exit → S → Prop) (ks : List Nat) (σ : S) : Prop := Q .normal (σ.keep ks)
section
variable (P : Program) (G : World → Prop)
def regS (l : List IOper) (σ : S) (K : S → Prop) : Prop := runK P G l σ K
def atK (l : List IOper) (L : List (Nat × T)) (O : List (Nat × Box)) (U : List (Nat × Tok)) (H : FHp) (K : S → Prop) : Prop := runK P G l (st L O U H) K
def pureS (g : Option Bool) (o : Option Out) (d : Nat) (l : List IOper) (L : List (Nat × T)) (O : List (Nat × Box)) (U : List (Nat × Tok)) (H : FHp) (K : S → Prop) : Prop := pureK g o (fun t => runK P G l (st ((d, t) :: L) O U H) K)
def moveG (g : Option Bool) (x : T) (d : Nat) (l : List IOper) (L : List (Nat × T)) (O : List (Nat × Box)) (U : List (Nat × Tok)) (H : FHp) (K : S → Prop) : Prop := someK g (fun g => runK P G l (st ((d, moveT g x) :: L) O U H) K)
def pickS (g : Option Bool) (c a b : T) (d : Nat) (l : List IOper) (L : List (Nat × T)) (O : List (Nat × Box)) (U : List (Nat × Tok)) (H : FHp) (K : S → Prop) : Prop := pickK g c (fun g t => runK P G l (st ((d, pickT g t a b) :: L) O U H) K)
def newS (o : Option Box) (t : T) (b : Box) (d : Nat) (l : List IOper) (L : List (Nat × T)) (O : List (Nat × Box)) (U : List (Nat × Tok)) (H : FHp) (K : S → Prop) : Prop := zeroK o (runK P G l (st ((d, t) :: L) ((d, b) :: O) U H) K)
def boxS (o : Option Box) (c : T) (ty : TypeId) (d : Nat) (l : List IOper) (L : List (Nat × T)) (O : List (Nat × Box)) (U : List (Nat × Tok)) (H : FHp) (K : S → Prop) : Prop := boxK o c (fun y => runK P G l (st ((d, .k true (.x (.one (.ref d 0 0)))) :: L) ((d, ⟨ty, y.cells.length, [y.cells], none⟩) :: O) U H) K)
def storeS (n : Option Nat) (x y : T) (l : List IOper) (L : List (Nat × T)) (O : List (Nat × Box)) (U : List (Nat × Tok)) (H : FHp) (K : S → Prop) : Prop := storeK x y n (st L O U H).objs (fun k b => runK P G l (st L (updO k b O) U H) K)
def storeB (n : Option Nat) (i off : Nat) (yv : X) (k : Nat) (o : Option Box) (l : List IOper) (L : List (Nat × T)) (O : List (Nat × Box)) (U : List (Nat × Tok)) (H : FHp) (K : S → Prop) : Prop :=
  match o with
  | some b => (b.mp = none ∧ i < b.rows.length ∧ off + yv.cells.length ≤ (b.rows.getD i []).length ∧ yv.cells.length = n.getD 1) ∧ runK P G l (st L (updO k { b with rows := b.rows.set i (splice (b.rows.getD i []) off yv.cells) } O) U H) K
  | none => False
def mapS (dk : TypeDesc) (one : Bool) (m k v : T) (l : List IOper) (L : List (Nat × T)) (O : List (Nat × Box)) (U : List (Nat × Tok)) (H : FHp) (K : S → Prop) : Prop := mapK dk one m k v (st L O U H).objs (fun j b => runK P G l (st L (updO j b O) U H) K)
def mapB (dk : TypeDesc) (one : Bool) (x : Value) (yv : X) (j : Nat) (o : Option Box) (l : List IOper) (L : List (Nat × T)) (O : List (Nat × Box)) (U : List (Nat × Tok)) (H : FHp) (K : S → Prop) : Prop :=
  match o with
  | some b => (b.mp = some (dk, one) ∧ MapKept.IsKey dk x ∧ formX one yv.cells = yv ∧ yv.cells.length + 1 = b.size) ∧ runK P G l (st L (updO j { b with rows := mapPut b.rows x yv.cells } O) U H) K
  | none => False
def condI (t : T) (a b : IC) (Q : Exit → S → Prop) (L : List (Nat × T)) (O : List (Nat × Box)) (U : List (Nat × Tok)) (H : FHp) : Prop := ∃ v, t = .k true (rB v) ∧ (v = true → wpI P G a Q (st L O U H)) ∧ (v = false → wpI P G b Q (st L O U H))
def callK (f : FuncId) (g : Option Bool) (a : Bool) (cs : Option (List CX)) (d : Nat) (l : List IOper) (L : List (Nat × T)) (O : List (Nat × Box)) (U : List (Nat × Tok)) (H : FHp) (K : S → Prop) : Prop :=
  ∃ g', g = some g' ∧ ∃ cs' res, (g' = true → a = true ∧ cs = some cs' ∧ Meets P G f cs' res) ∧ runK P G l (st ((d, .k g' res.open) :: L) O U H) K
def rowS (ty : TypeId) (size : Nat) (a : Bool) (es : Option (List (List C))) (o : Option Tok) (d : Nat) (l : List IOper) (L : List (Nat × T)) (O : List (Nat × Box)) (U : List (Nat × Tok)) (H : FHp) (K : S → Prop) : Prop :=
  a = true ∧ o = none ∧ ∃ es', es = some es' ∧ (∀ e ∈ es', e.length = size) ∧ runK P G l (st ((d, .k true (.x (.one (.own d es')))) :: L) O ((d, ⟨ty, size, es'.length⟩) :: U) H) K
def tokIs (o : Option Tok) (ty : TypeId) (size n : Nat) : Prop := ∃ q, o = some q ∧ q.ty = ty ∧ q.size = size ∧ n = q.n
def appS (ty : TypeId) (size bytes : Nat) (fp : Option (List Nat)) (d : Nat) (x y : T) (l : List IOper) (L : List (Nat × T)) (O : List (Nat × Box)) (U : List (Nat × Tok)) (H : FHp) (K : S → Prop) : Prop :=
  x.g = true ∧ y.g = true ∧ ∃ news sp, y.r.rows? = some (news, sp) ∧ (∀ e ∈ news, e.length = size) ∧
    match x.r with
    | .x (.one (.own k es)) => fpK fp k ∧ tokIs ((lookT U k).or (H.toks k)) ty size es.length ∧ es.length + news.length ≤ maxLen ∧ (es.length + news.length) * bytes ≤ maxBytes ∧ runK P G l (st ((d, .k true (.x (.one (.own k (es ++ news))))) :: L) O (updT k ⟨ty, size, es.length + news.length⟩ U) H) K
    | .x (.one .nil) => (lookT U d).or (H.toks d) = none ∧ news.length ≤ maxLen ∧ news.length * bytes ≤ maxBytes ∧ runK P G l (st ((d, .k true (.x (.one (.own d news)))) :: L) O ((d, ⟨ty, size, news.length⟩) :: U) H) K
    | _ => False
def makeS (ty : TypeId) (size bytes : Nat) (z : List A) (x y : T) (o : Option Box) (d : Nat) (l : List IOper) (L : List (Nat × T)) (O : List (Nat × Box)) (U : List (Nat × Tok)) (H : FHp) (K : S → Prop) : Prop :=
  ∃ n m, x = .k true (rI .i64 n) ∧ y = .k true (rI .i64 m) ∧ o = none ∧ 0 ≤ n ∧ n ≤ m ∧ m ≤ maxLen ∧ bytes * m ≤ maxBytes ∧ z.length = size ∧ runK P G l (st ((d, .k true (.x (.one (.arr d 0 n.toNat m.toNat)))) :: L) ((d, ⟨ty, size, List.replicate m.toNat z, none⟩) :: O) U H) K
end
@[simp] theorem tokIs_some (ty ty' : TypeId) (size size' n n' : Nat) : tokIs (some ⟨ty', size', n'⟩) ty size n = (ty' = ty ∧ size' = size ∧ n = n') :=
  propext ⟨fun ⟨q, h, h1, h2, h3⟩ => by injection h with h; subst h; exact ⟨h1, h2, h3⟩, fun ⟨h1, h2, h3⟩ => ⟨_, rfl, h1, h2, h3⟩⟩
section
variable {P : Program} {G : World → Prop} {Q : Exit → S → Prop} {L : List (Nat × T)} {O : List (Nat × Box)} {U : List (Nat × Tok)} {H : FHp} {l : List IOper} {K : S → Prop} {d : Nat}
@[simp] theorem atK_eq : atK P G l L O U H K = runK P G l (st L O U H) K := rfl
@[simp] theorem regS_st : regS P G l (st L O U H) K = runK P G l (st L O U H) K := rfl
theorem e_regionS {news keep : List Nat} {fz : List Prep} {ops : List IOper} : wpI P G (.region news fz keep ops) Q (st L O U H) = regS P G ops (((st L O U H).prep fz).strike news) (afterR Q keep) := e_region
theorem e_region0 {keep : List Nat} {ops : List IOper} : wpI P G (.region [] [] keep ops) Q (st L O U H) = runK P G ops (st L O U H) (afterR Q keep) := e_region
theorem runK_after {ks : List Nat} : runK P G [] (st L O U H) (afterR Q ks) = atS (Q .normal) (ks.map fun k => (k, look L k)) O U H := by
  show Q .normal _ = Q .normal _
  rw [keep_st]
@[simp] theorem pureS_some (g : Bool) (n : Prop) (v : R) : pureS P G (some g) (some ⟨n, v⟩) d l L O U H K = (impG g n ∧ atK P G l ((d, .k g v) :: L) O U H K) := rfl
@[simp] theorem moveG_k (g gx : Bool) (r : R) : moveG P G (some g) (.k gx r) d l L O U H K = atK P G l ((d, .k (g && gx) r) :: L) O U H K := rfl
@[simp] theorem moveG_lost (g : Bool) : moveG P G (some g) .lost d l L O U H K = atK P G l ((d, .lost) :: L) O U H K := rfl
@[simp] theorem pickS_b (g gc t : Bool) (a b : T) : pickS P G (some g) (.k gc (rB t)) a b d l L O U H K = (impG g (gc = true) ∧ atK P G l ((d, pickT g t a b) :: L) O U H K) := rfl
@[simp] theorem newS_none (t : T) (b : Box) : newS P G none t b d l L O U H K = atK P G l ((d, t) :: L) ((d, b) :: O) U H K := rfl
@[simp] theorem boxS_one (a : A) (ty : TypeId) : boxS P G none (.k true (.x (.one a))) ty d l L O U H K = atK P G l ((d, .k true (.x (.one (.ref d 0 0)))) :: L) ((d, ⟨ty, 1, [[a]], none⟩) :: O) U H K := rfl
@[simp] theorem boxS_agg (cs : List A) (ty : TypeId) : boxS P G none (.k true (.x (.agg cs))) ty d l L O U H K = atK P G l ((d, .k true (.x (.one (.ref d 0 0)))) :: L) ((d, ⟨ty, cs.length, [cs], none⟩) :: O) U H K := rfl
@[simp] theorem storeS_x (n : Option Nat) (k i off : Nat) (yv : X) : storeS P G n (.k true (.x (.one (.ref k i off)))) (.k true (.x yv)) l L O U H K = storeB P G n i off yv k ((lookO O k).or (H.objs k)) l L O U H K := rfl
@[simp] theorem storeB_some (n : Option Nat) (i off : Nat) (yv : X) (k : Nat) (ty : TypeId) (s : Nat) (rows : List (List A)) (mp : Option (TypeDesc × Bool)) : storeB P G n i off yv k (some ⟨ty, s, rows, mp⟩) l L O U H K =
    ((mp = none ∧ i < rows.length ∧ off + yv.cells.length ≤ (rows.getD i []).length ∧ yv.cells.length = n.getD 1) ∧ atK P G l L (updO k ⟨ty, s, rows.set i (splice (rows.getD i []) off yv.cells), mp⟩ O) U H K) := rfl
@[simp] theorem mapS_x (dk : TypeDesc) (one : Bool) (j : Nat) (x : Value) (yv : X) : mapS P G dk one (.k true (.x (.one (.mapr j)))) (.k true (.x (.one (.c (.v x))))) (.k true (.x yv)) l L O U H K = mapB P G dk one x yv j ((lookO O j).or (H.objs j)) l L O U H K := rfl
@[simp] theorem mapB_some (dk : TypeDesc) (one : Bool) (x : Value) (yv : X) (j : Nat) (ty : TypeId) (s : Nat) (rows : List (List A)) (mp : Option (TypeDesc × Bool)) : mapB P G dk one x yv j (some ⟨ty, s, rows, mp⟩) l L O U H K =
    ((mp = some (dk, one) ∧ MapKept.IsKey dk x ∧ formX one yv.cells = yv ∧ yv.cells.length + 1 = s) ∧ atK P G l L (updO j ⟨ty, s, mapPut rows x yv.cells, mp⟩ O) U H K) := rfl
@[simp] theorem rowS_some (ty : TypeId) (size : Nat) (es : List (List C)) : rowS P G ty size true (some es) none d l L O U H K = ((∀ e ∈ es, e.length = size) ∧ atK P G l ((d, .k true (.x (.one (.own d es)))) :: L) O ((d, ⟨ty, size, es.length⟩) :: U) H K) :=
  propext ⟨fun ⟨_, _, es', h1, h2, h3⟩ => by injection h1 with h1; subst h1; exact ⟨h2, h3⟩, fun ⟨h2, h3⟩ => ⟨rfl, rfl, es, rfl, h2, h3⟩⟩
theorem appS_own {ty : TypeId} {size bytes : Nat} {fp : Option (List Nat)} {k : Nat} {es news sp : List (List C)} {y : R} (hy : y.rows? = some (news, sp)) :
    appS P G ty size bytes fp d (.k true (.x (.one (.own k es)))) (.k true y) l L O U H K = (fpK fp k ∧ (∀ e ∈ news, e.length = size) ∧ tokIs ((lookT U k).or (H.toks k)) ty size es.length ∧ es.length + news.length ≤ maxLen ∧ (es.length + news.length) * bytes ≤ maxBytes ∧ atK P G l ((d, .k true (.x (.one (.own k (es ++ news))))) :: L) O (updT k ⟨ty, size, es.length + news.length⟩ U) H K) :=
  propext ⟨fun ⟨_, _, n', s', h1, h2, h3, h4, h5, h6, h7⟩ => by
    rw [show (T.k true y).r = y from rfl, hy] at h1; injection h1 with h1; injection h1 with h1 h1'; subst h1; subst h1'; exact ⟨h3, h2, h4, h5, h6, h7⟩, fun ⟨h3, h2, h4, h5, h6, h7⟩ => ⟨rfl, rfl, news, sp, hy, h2, h3, h4, h5, h6, h7⟩⟩
theorem appS_nil {ty : TypeId} {size bytes : Nat} {fp : Option (List Nat)} {news sp : List (List C)} {y : R} (hy : y.rows? = some (news, sp)) :
    appS P G ty size bytes fp d (.k true (.x (.one .nil))) (.k true y) l L O U H K = ((lookT U d).or (H.toks d) = none ∧ (∀ e ∈ news, e.length = size) ∧ news.length ≤ maxLen ∧ news.length * bytes ≤ maxBytes ∧ atK P G l ((d, .k true (.x (.one (.own d news)))) :: L) O ((d, ⟨ty, size, news.length⟩) :: U) H K) :=
  propext ⟨fun ⟨_, _, n', s', h1, h2, h3, h4, h5, h6⟩ => by
    rw [show (T.k true y).r = y from rfl, hy] at h1; injection h1 with h1; injection h1 with h1 h1'; subst h1; subst h1'; exact ⟨h3, h2, h4, h5, h6⟩, fun ⟨h3, h2, h4, h5, h6⟩ => ⟨rfl, rfl, news, sp, hy, h2, h3, h4, h5, h6⟩⟩
@[simp] theorem appS_own_own {ty : TypeId} {size bytes : Nat} {fp : Option (List Nat)} {k j : Nat} {es news : List (List C)} :
    appS P G ty size bytes fp d (.k true (.x (.one (.own k es)))) (.k true (.x (.one (.own j news)))) l L O U H K = (fpK fp k ∧ (∀ e ∈ news, e.length = size) ∧ tokIs ((lookT U k).or (H.toks k)) ty size es.length ∧ es.length + news.length ≤ maxLen ∧ (es.length + news.length) * bytes ≤ maxBytes ∧ atK P G l ((d, .k true (.x (.one (.own k (es ++ news))))) :: L) O (updT k ⟨ty, size, es.length + news.length⟩ U) H K) := appS_own rfl
@[simp] theorem appS_own_sl {ty : TypeId} {size bytes : Nat} {fp : Option (List Nat)} {k : Nat} {es news sp : List (List C)} :
    appS P G ty size bytes fp d (.k true (.x (.one (.own k es)))) (.k true (.x (.one (.c (.sl news sp))))) l L O U H K = (fpK fp k ∧ (∀ e ∈ news, e.length = size) ∧ tokIs ((lookT U k).or (H.toks k)) ty size es.length ∧ es.length + news.length ≤ maxLen ∧ (es.length + news.length) * bytes ≤ maxBytes ∧ atK P G l ((d, .k true (.x (.one (.own k (es ++ news))))) :: L) O (updT k ⟨ty, size, es.length + news.length⟩ U) H K) := appS_own rfl
@[simp] theorem appS_nil_own {ty : TypeId} {size bytes : Nat} {fp : Option (List Nat)} {j : Nat} {news : List (List C)} :
    appS P G ty size bytes fp d (.k true (.x (.one .nil))) (.k true (.x (.one (.own j news)))) l L O U H K = ((lookT U d).or (H.toks d) = none ∧ (∀ e ∈ news, e.length = size) ∧ news.length ≤ maxLen ∧ news.length * bytes ≤ maxBytes ∧ atK P G l ((d, .k true (.x (.one (.own d news)))) :: L) O ((d, ⟨ty, size, news.length⟩) :: U) H K) := appS_nil rfl
@[simp] theorem appS_nil_sl {ty : TypeId} {size bytes : Nat} {fp : Option (List Nat)} {news sp : List (List C)} :
    appS P G ty size bytes fp d (.k true (.x (.one .nil))) (.k true (.x (.one (.c (.sl news sp))))) l L O U H K = ((lookT U d).or (H.toks d) = none ∧ (∀ e ∈ news, e.length = size) ∧ news.length ≤ maxLen ∧ news.length * bytes ≤ maxBytes ∧ atK P G l ((d, .k true (.x (.one (.own d news)))) :: L) O ((d, ⟨ty, size, news.length⟩) :: U) H K) := appS_nil rfl
theorem e_condI {c : D} {a b : IC} : wpI P G (.cond c a b) Q (st L O U H) = condI P G (c.val (st L O U H)) a b Q L O U H := rfl
@[simp] theorem condI_t {a b : IC} : condI P G (.k true (rB true)) a b Q L O U H = wpI P G a Q (st L O U H) :=
  propext ⟨fun ⟨v, h1, h2, _⟩ => by injection h1 with _ h1; injection h1 with h1; injection h1 with h1; injection h1 with h1; injection h1 with h1; injection h1 with h1; exact h2 h1.symm, fun h => ⟨true, rfl, fun _ => h, fun e => Bool.noConfusion e⟩⟩
@[simp] theorem condI_f {a b : IC} : condI P G (.k true (rB false)) a b Q L O U H = wpI P G b Q (st L O U H) :=
  propext ⟨fun ⟨v, h1, _, h2⟩ => by injection h1 with _ h1; injection h1 with h1; injection h1 with h1; injection h1 with h1; injection h1 with h1; injection h1 with h1; exact h2 h1.symm, fun h => ⟨false, rfl, fun e => Bool.noConfusion e, fun _ => h⟩⟩
theorem s_move (x : D) {fp : Option (List Nat)} : runK P G (⟨some d, .move x, none, fp⟩ :: l) (st L O U H) K = moveG P G (some true) (x.val (st L O U H)) d l L O U H K := m_move x
theorem u_move (x : D) {s : Nat} {b : Bool} {fp : Option (List Nat)} : runK P G (⟨some d, .move x, some (s, b), fp⟩ :: l) (st L O U H) K = moveG P G (guardU b (look L s)) (x.val (st L O U H)) d l L O U H K := m_move x
theorem s_pick (c a b : D) {fp : Option (List Nat)} : runK P G (⟨some d, .pick c a b, none, fp⟩ :: l) (st L O U H) K = pickS P G (some true) (c.val (st L O U H)) (a.val (st L O U H)) (b.val (st L O U H)) d l L O U H K := r_pick c a b
theorem u_pick (c a b : D) {s : Nat} {b' : Bool} {fp : Option (List Nat)} : runK P G (⟨some d, .pick c a b, some (s, b'), fp⟩ :: l) (st L O U H) K = pickS P G (guardU b' (look L s)) (c.val (st L O U H)) (a.val (st L O U H)) (b.val (st L O U H)) d l L O U H K := r_pick c a b
theorem s_box (ty : TypeId) (x : D) {fp : Option (List Nat)} : runK P G (⟨some d, .box ty x, none, fp⟩ :: l) (st L O U H) K = boxS P G ((lookO O d).or (H.objs d)) (x.val (st L O U H)) ty d l L O U H K := r_box ty x
theorem s_zero (ty : TypeId) (z : List A) {fp : Option (List Nat)} : runK P G (⟨some d, .zero ty z, none, fp⟩ :: l) (st L O U H) K = newS P G ((lookO O d).or (H.objs d)) (.k true (.x (.one (.ref d 0 0)))) ⟨ty, z.length, [z], none⟩ d l L O U H K := r_zero ty z
theorem s_mkmap (dk : TypeDesc) (size : Nat) (one : Bool) {fp : Option (List Nat)} : runK P G (⟨some d, .mkmap dk size one, none, fp⟩ :: l) (st L O U H) K = newS P G ((lookO O d).or (H.objs d)) (.k true (.x (.one (.mapr d)))) ⟨0, size, [], some (dk, one)⟩ d l L O U H K := r_mkmap dk size one
theorem s_store (n : Option Nat) (x y : D) {fp : Option (List Nat)} : runK P G (⟨none, .store n x y, none, fp⟩ :: l) (st L O U H) K = (touchP fp (x.val (st L O U H)) ∧ storeS P G n (x.val (st L O U H)) (y.val (st L O U H)) l L O U H K) := r_store n x y
theorem s_mapup (dk : TypeDesc) (one : Bool) (m k v : D) {fp : Option (List Nat)} : runK P G (⟨none, .mapup dk one m k v, none, fp⟩ :: l) (st L O U H) K = (touchP fp (m.val (st L O U H)) ∧ mapS P G dk one (m.val (st L O U H)) (k.val (st L O U H)) (v.val (st L O U H)) l L O U H K) := r_mapup dk one m k v
theorem s_callp {f : FuncId} {args : List D} {fp : Option (List Nat)} : runK P G (⟨some d, .callp (.k (rF f)) args, none, fp⟩ :: l) (st L O U H) K = callK P G f (some true) (args.all fun d => (d.val (st L O U H)).g) (closeArgs (args.map fun d => (d.val (st L O U H)).r)) d l L O U H K := by
  refine propext ⟨fun ⟨σ1, ⟨_, g, h1, cs, res, h2, h3⟩, h4⟩ => ?_, fun ⟨g, h1, cs, res, h2, h3⟩ => ?_⟩
  · subst h3
    refine ⟨g, h1, cs, res, fun e => ?_, h4⟩
    obtain ⟨q1, q2, fn, q3, q4⟩ := h2 e
    injection q3 with _ q3; injection q3 with q3; injection q3 with q3; injection q3 with q3; injection q3 with q3; injection q3 with q3; injection q3 with q3
    subst q3
    exact ⟨q1, q2, q4⟩
  · exact ⟨_, ⟨trivial, g, h1, cs, res, fun e => ⟨(h2 e).1, (h2 e).2.1, f, rfl, (h2 e).2.2⟩, rfl⟩, h3⟩
theorem u_callp {f : FuncId} {args : List D} {s : Nat} {b : Bool} {fp : Option (List Nat)} : runK P G (⟨some d, .callp (.k (rF f)) args, some (s, b), fp⟩ :: l) (st L O U H) K = callK P G f (guardU b (look L s)) (args.all fun d => (d.val (st L O U H)).g) (closeArgs (args.map fun d => (d.val (st L O U H)).r)) d l L O U H K := by
  refine propext ⟨fun ⟨σ1, ⟨_, g, h1, cs, res, h2, h3⟩, h4⟩ => ?_, fun ⟨g, h1, cs, res, h2, h3⟩ => ?_⟩
  · subst h3
    refine ⟨g, h1, cs, res, fun e => ?_, h4⟩
    obtain ⟨q1, q2, fn, q3, q4⟩ := h2 e
    injection q3 with _ q3; injection q3 with q3; injection q3 with q3; injection q3 with q3; injection q3 with q3; injection q3 with q3; injection q3 with q3
    subst q3
    exact ⟨q1, q2, q4⟩
  · exact ⟨_, ⟨trivial, g, h1, cs, res, fun e => ⟨(h2 e).1, (h2 e).2.1, f, rfl, (h2 e).2.2⟩, rfl⟩, h3⟩
theorem s_row {ty : TypeId} {size : Nat} {ps : List D} {fp : Option (List Nat)} : runK P G (⟨some d, .row ty size ps, none, fp⟩ :: l) (st L O U H) K = rowS P G ty size (ps.all fun d => (d.val (st L O U H)).g) (rowsO (ps.map fun d => (d.val (st L O U H)).r)) ((lookT U d).or (H.toks d)) d l L O U H K := by
  refine propext ⟨fun ⟨σ1, ⟨_, hg, es, hr, hw, d', e, hn, h3⟩, h4⟩ => ?_, fun ⟨hg, hn, es, hr, hw, h⟩ => k_row hg hr hw hn h⟩
  injection e with e; subst e; subst h3
  exact ⟨hg, hn, es, hr, hw, by simpa only [setTok_st, put_st] using h4⟩
theorem s_app {ty : TypeId} {size bytes : Nat} {x y : D} {fp : Option (List Nat)} : runK P G (⟨some d, .app ty size bytes x y, none, fp⟩ :: l) (st L O U H) K = appS P G ty size bytes fp d (x.val (st L O U H)) (y.val (st L O U H)) l L O U H K := by
  refine propext ⟨fun ⟨σ1, ⟨ht, _, hx, hy, news, sp, hr, hw, hm⟩, h4⟩ => ?_, fun ⟨hx, hy, news, sp, hr, hw, hm⟩ => ?_⟩
  · refine ⟨hx, hy, news, sp, hr, hw, ?_⟩
    split at hm
    · rename_i k es e
      obtain ⟨q, h1, h2, h3, h5, h6, h7, h8⟩ := hm
      subst h8
      rw [e]
      refine ⟨ht k (by rw [e]; rfl), ⟨q, h1, h2, h3, h5⟩, h6, h7, ?_⟩
      simpa only [setTok_upd, put_st] using h4
    · rename_i e
      obtain ⟨d', h0, h1, h6, h7, h8⟩ := hm
      injection h0 with h0; subst h0; subst h8
      rw [e]
      refine ⟨h1, h6, h7, ?_⟩
      simpa only [setTok_st, put_st] using h4
    · exact hm.elim
  · split at hm
    · rename_i k es e
      obtain ⟨h0, ⟨q, h1, h2, h3, h5⟩, h6, h7, h8⟩ := hm
      refine ⟨_, ⟨fun j hj => ?_, rfl, hx, hy, news, sp, hr, hw, ?_⟩, h8⟩
      · rw [e] at hj; injection hj with hj; subst hj; exact h0
      · rw [e]
        exact ⟨q, h1, h2, h3, h5, h6, h7, by simp only [setTok_upd, put_st]⟩
    · rename_i e
      obtain ⟨h1, h6, h7, h8⟩ := hm
      refine ⟨_, ⟨fun j hj => ?_, rfl, hx, hy, news, sp, hr, hw, ?_⟩, h8⟩
      · rw [e] at hj; cases hj
      · rw [e]
        exact ⟨d, rfl, h1, h6, h7, by simp only [setTok_st, put_st]⟩
    · exact hm.elim
theorem s_make {ty : TypeId} {size bytes : Nat} {z : List A} {x y : D} {fp : Option (List Nat)} : runK P G (⟨some d, .make ty size bytes z x y, none, fp⟩ :: l) (st L O U H) K = makeS P G ty size bytes z (x.val (st L O U H)) (y.val (st L O U H)) ((lookO O d).or (H.objs d)) d l L O U H K := by
  refine propext ⟨fun ⟨σ1, ⟨_, _, d', n, m, e, hn, hx, hy, h0, h1, h2, h3, h4, h5⟩, h⟩ => ?_, fun ⟨n, m, hx, hy, hn, h0, h1, h2, h3, h4, h⟩ => k_make hx hy hn h0 h1 h2 h3 h4 h⟩
  injection e with e; subst e; subst h5
  exact ⟨n, m, hx, hy, hn, h0, h1, h2, h3, h4, by simpa only [setObj_st, put_st] using h⟩
theorem s_build (z : List A) (ps : List (Nat × Nat × D)) {fp : Option (List Nat)} : runK P G (⟨some d, .build z ps, none, fp⟩ :: l) (st L O U H) K = pureS P G (some true) (pureO (st L O U H) (.build z ps)) d l L O U H K := pure_eq0 (gd := none) rfl (fun _ => rfl) (fun _ => Iff.rfl)
theorem u_build (z : List A) (ps : List (Nat × Nat × D)) {s : Nat} {b : Bool} {fp : Option (List Nat)} : runK P G (⟨some d, .build z ps, some (s, b), fp⟩ :: l) (st L O U H) K = pureS P G (guardU b (look L s)) (pureO (st L O U H) (.build z ps)) d l L O U H K := pure_eq0 (gd := some (s, b)) rfl (fun _ => rfl) (fun _ => Iff.rfl)
theorem s_load (n : Option Nat) (x : D) {fp : Option (List Nat)} : runK P G (⟨some d, .load n x, none, fp⟩ :: l) (st L O U H) K = (touchP fp (x.val (st L O U H)) ∧ pureS P G (some true) (pureO (st L O U H) (.load n x)) d l L O U H K) := pure_eq (gd := none) (fun _ => rfl) (fun _ => Iff.rfl)
theorem u_load (n : Option Nat) (x : D) {s : Nat} {b : Bool} {fp : Option (List Nat)} : runK P G (⟨some d, .load n x, some (s, b), fp⟩ :: l) (st L O U H) K = (touchP fp (x.val (st L O U H)) ∧ pureS P G (guardU b (look L s)) (pureO (st L O U H) (.load n x)) d l L O U H K) := pure_eq (gd := some (s, b)) (fun _ => rfl) (fun _ => Iff.rfl)
theorem s_faddr (off : Nat) (x : D) {fp : Option (List Nat)} : runK P G (⟨some d, .faddr off x, none, fp⟩ :: l) (st L O U H) K = pureS P G (some true) (pureO (st L O U H) (.faddr off x)) d l L O U H K := pure_eq0 (gd := none) rfl (fun _ => rfl) (fun _ => Iff.rfl)
theorem u_faddr (off : Nat) (x : D) {s : Nat} {b : Bool} {fp : Option (List Nat)} : runK P G (⟨some d, .faddr off x, some (s, b), fp⟩ :: l) (st L O U H) K = pureS P G (guardU b (look L s)) (pureO (st L O U H) (.faddr off x)) d l L O U H K := pure_eq0 (gd := some (s, b)) rfl (fun _ => rfl) (fun _ => Iff.rfl)
theorem s_field (off : Nat) (n : Option Nat) (x : D) {fp : Option (List Nat)} : runK P G (⟨some d, .field off n x, none, fp⟩ :: l) (st L O U H) K = pureS P G (some true) (pureO (st L O U H) (.field off n x)) d l L O U H K := pure_eq0 (gd := none) rfl (fun _ => rfl) (fun _ => Iff.rfl)
theorem u_field (off : Nat) (n : Option Nat) (x : D) {s : Nat} {b : Bool} {fp : Option (List Nat)} : runK P G (⟨some d, .field off n x, some (s, b), fp⟩ :: l) (st L O U H) K = pureS P G (guardU b (look L s)) (pureO (st L O U H) (.field off n x)) d l L O U H K := pure_eq0 (gd := some (s, b)) rfl (fun _ => rfl) (fun _ => Iff.rfl)
theorem s_iaddr (size : Nat) (x i : D) {fp : Option (List Nat)} : runK P G (⟨some d, .iaddr size x i, none, fp⟩ :: l) (st L O U H) K = (touchP fp (x.val (st L O U H)) ∧ pureS P G (some true) (pureO (st L O U H) (.iaddr size x i)) d l L O U H K) := pure_eq (gd := none) (fun _ => rfl) (fun _ => Iff.rfl)
theorem u_iaddr (size : Nat) (x i : D) {s : Nat} {b : Bool} {fp : Option (List Nat)} : runK P G (⟨some d, .iaddr size x i, some (s, b), fp⟩ :: l) (st L O U H) K = (touchP fp (x.val (st L O U H)) ∧ pureS P G (guardU b (look L s)) (pureO (st L O U H) (.iaddr size x i)) d l L O U H K) := pure_eq (gd := some (s, b)) (fun _ => rfl) (fun _ => Iff.rfl)
theorem s_sindex (x i : D) {fp : Option (List Nat)} : runK P G (⟨some d, .sindex x i, none, fp⟩ :: l) (st L O U H) K = pureS P G (some true) (pureO (st L O U H) (.sindex x i)) d l L O U H K := pure_eq0 (gd := none) rfl (fun _ => rfl) (fun _ => Iff.rfl)
theorem u_sindex (x i : D) {s : Nat} {b : Bool} {fp : Option (List Nat)} : runK P G (⟨some d, .sindex x i, some (s, b), fp⟩ :: l) (st L O U H) K = pureS P G (guardU b (look L s)) (pureO (st L O U H) (.sindex x i)) d l L O U H K := pure_eq0 (gd := some (s, b)) rfl (fun _ => rfl) (fun _ => Iff.rfl)
theorem s_bin (op : BinOp) (x y : D) {fp : Option (List Nat)} : runK P G (⟨some d, .bin op x y, none, fp⟩ :: l) (st L O U H) K = pureS P G (some true) (pureO (st L O U H) (.bin op x y)) d l L O U H K := pure_eq0 (gd := none) rfl (fun _ => rfl) (fun _ => Iff.rfl)
theorem u_bin (op : BinOp) (x y : D) {s : Nat} {b : Bool} {fp : Option (List Nat)} : runK P G (⟨some d, .bin op x y, some (s, b), fp⟩ :: l) (st L O U H) K = pureS P G (guardU b (look L s)) (pureO (st L O U H) (.bin op x y)) d l L O U H K := pure_eq0 (gd := some (s, b)) rfl (fun _ => rfl) (fun _ => Iff.rfl)
theorem s_eqs (neg : Bool) (ks : List Kd) (x y : D) {fp : Option (List Nat)} : runK P G (⟨some d, .eqs neg ks x y, none, fp⟩ :: l) (st L O U H) K = pureS P G (some true) (pureO (st L O U H) (.eqs neg ks x y)) d l L O U H K := pure_eq0 (gd := none) rfl (fun _ => rfl) (fun _ => Iff.rfl)
theorem u_eqs (neg : Bool) (ks : List Kd) (x y : D) {s : Nat} {b : Bool} {fp : Option (List Nat)} : runK P G (⟨some d, .eqs neg ks x y, some (s, b), fp⟩ :: l) (st L O U H) K = pureS P G (guardU b (look L s)) (pureO (st L O U H) (.eqs neg ks x y)) d l L O U H K := pure_eq0 (gd := some (s, b)) rfl (fun _ => rfl) (fun _ => Iff.rfl)
theorem s_eqb (neg : Bool) (x y : D) {fp : Option (List Nat)} : runK P G (⟨some d, .eqb neg x y, none, fp⟩ :: l) (st L O U H) K = pureS P G (some true) (pureO (st L O U H) (.eqb neg x y)) d l L O U H K := pure_eq0 (gd := none) rfl (fun _ => rfl) (fun _ => Iff.rfl)
theorem u_eqb (neg : Bool) (x y : D) {s : Nat} {b : Bool} {fp : Option (List Nat)} : runK P G (⟨some d, .eqb neg x y, some (s, b), fp⟩ :: l) (st L O U H) K = pureS P G (guardU b (look L s)) (pureO (st L O U H) (.eqb neg x y)) d l L O U H K := pure_eq0 (gd := some (s, b)) rfl (fun _ => rfl) (fun _ => Iff.rfl)
theorem s_un (op : UnOp) (x : D) {fp : Option (List Nat)} : runK P G (⟨some d, .un op x, none, fp⟩ :: l) (st L O U H) K = pureS P G (some true) (pureO (st L O U H) (.un op x)) d l L O U H K := pure_eq0 (gd := none) rfl (fun _ => rfl) (fun _ => Iff.rfl)
theorem u_un (op : UnOp) (x : D) {s : Nat} {b : Bool} {fp : Option (List Nat)} : runK P G (⟨some d, .un op x, some (s, b), fp⟩ :: l) (st L O U H) K = pureS P G (guardU b (look L s)) (pureO (st L O U H) (.un op x)) d l L O U H K := pure_eq0 (gd := some (s, b)) rfl (fun _ => rfl) (fun _ => Iff.rfl)
theorem s_conv (k : IntKind) (x : D) {fp : Option (List Nat)} : runK P G (⟨some d, .conv k x, none, fp⟩ :: l) (st L O U H) K = pureS P G (some true) (pureO (st L O U H) (.conv k x)) d l L O U H K := pure_eq0 (gd := none) rfl (fun _ => rfl) (fun _ => Iff.rfl)
theorem u_conv (k : IntKind) (x : D) {s : Nat} {b : Bool} {fp : Option (List Nat)} : runK P G (⟨some d, .conv k x, some (s, b), fp⟩ :: l) (st L O U H) K = pureS P G (guardU b (look L s)) (pureO (st L O U H) (.conv k x)) d l L O U H K := pure_eq0 (gd := some (s, b)) rfl (fun _ => rfl) (fun _ => Iff.rfl)
theorem s_bytes (x : D) {fp : Option (List Nat)} : runK P G (⟨some d, .bytes x, none, fp⟩ :: l) (st L O U H) K = pureS P G (some true) (pureO (st L O U H) (.bytes x)) d l L O U H K := pure_eq0 (gd := none) rfl (fun _ => rfl) (fun _ => Iff.rfl)
theorem u_bytes (x : D) {s : Nat} {b : Bool} {fp : Option (List Nat)} : runK P G (⟨some d, .bytes x, some (s, b), fp⟩ :: l) (st L O U H) K = pureS P G (guardU b (look L s)) (pureO (st L O U H) (.bytes x)) d l L O U H K := pure_eq0 (gd := some (s, b)) rfl (fun _ => rfl) (fun _ => Iff.rfl)
theorem s_len (x : D) {fp : Option (List Nat)} : runK P G (⟨some d, .len x, none, fp⟩ :: l) (st L O U H) K = pureS P G (some true) (pureO (st L O U H) (.len x)) d l L O U H K := pure_eq0 (gd := none) rfl (fun _ => rfl) (fun _ => Iff.rfl)
theorem u_len (x : D) {s : Nat} {b : Bool} {fp : Option (List Nat)} : runK P G (⟨some d, .len x, some (s, b), fp⟩ :: l) (st L O U H) K = pureS P G (guardU b (look L s)) (pureO (st L O U H) (.len x)) d l L O U H K := pure_eq0 (gd := some (s, b)) rfl (fun _ => rfl) (fun _ => Iff.rfl)
theorem s_slen (x : D) {fp : Option (List Nat)} : runK P G (⟨some d, .slen x, none, fp⟩ :: l) (st L O U H) K = pureS P G (some true) (pureO (st L O U H) (.slen x)) d l L O U H K := pure_eq0 (gd := none) rfl (fun _ => rfl) (fun _ => Iff.rfl)
theorem u_slen (x : D) {s : Nat} {b : Bool} {fp : Option (List Nat)} : runK P G (⟨some d, .slen x, some (s, b), fp⟩ :: l) (st L O U H) K = pureS P G (guardU b (look L s)) (pureO (st L O U H) (.slen x)) d l L O U H K := pure_eq0 (gd := some (s, b)) rfl (fun _ => rfl) (fun _ => Iff.rfl)
theorem s_ssl (x : D) (lo hi : Option D) {fp : Option (List Nat)} : runK P G (⟨some d, .ssl x lo hi, none, fp⟩ :: l) (st L O U H) K = pureS P G (some true) (pureO (st L O U H) (.ssl x lo hi)) d l L O U H K := pure_eq0 (gd := none) rfl (fun _ => rfl) (fun _ => Iff.rfl)
theorem u_ssl (x : D) (lo hi : Option D) {s : Nat} {b : Bool} {fp : Option (List Nat)} : runK P G (⟨some d, .ssl x lo hi, some (s, b), fp⟩ :: l) (st L O U H) K = pureS P G (guardU b (look L s)) (pureO (st L O U H) (.ssl x lo hi)) d l L O U H K := pure_eq0 (gd := some (s, b)) rfl (fun _ => rfl) (fun _ => Iff.rfl)
theorem s_vsl (size : Nat) (x : D) (lo hi : Option D) {fp : Option (List Nat)} : runK P G (⟨some d, .vsl size x lo hi, none, fp⟩ :: l) (st L O U H) K = pureS P G (some true) (pureO (st L O U H) (.vsl size x lo hi)) d l L O U H K := pure_eq0 (gd := none) rfl (fun _ => rfl) (fun _ => Iff.rfl)
theorem u_vsl (size : Nat) (x : D) (lo hi : Option D) {s : Nat} {b : Bool} {fp : Option (List Nat)} : runK P G (⟨some d, .vsl size x lo hi, some (s, b), fp⟩ :: l) (st L O U H) K = pureS P G (guardU b (look L s)) (pureO (st L O U H) (.vsl size x lo hi)) d l L O U H K := pure_eq0 (gd := some (s, b)) rfl (fun _ => rfl) (fun _ => Iff.rfl)
theorem s_ext (x : D) (i : Nat) {fp : Option (List Nat)} : runK P G (⟨some d, .ext x i, none, fp⟩ :: l) (st L O U H) K = pureS P G (some true) (pureO (st L O U H) (.ext x i)) d l L O U H K := pure_eq0 (gd := none) rfl (fun _ => rfl) (fun _ => Iff.rfl)
theorem u_ext (x : D) (i : Nat) {s : Nat} {b : Bool} {fp : Option (List Nat)} : runK P G (⟨some d, .ext x i, some (s, b), fp⟩ :: l) (st L O U H) K = pureS P G (guardU b (look L s)) (pureO (st L O U H) (.ext x i)) d l L O U H K := pure_eq0 (gd := some (s, b)) rfl (fun _ => rfl) (fun _ => Iff.rfl)
theorem s_clo (f : FuncId) (fs cs : List D) {fp : Option (List Nat)} : runK P G (⟨some d, .clo f fs cs, none, fp⟩ :: l) (st L O U H) K = pureS P G (some true) (pureO (st L O U H) (.clo f fs cs)) d l L O U H K := pure_eq0 (gd := none) rfl (fun _ => rfl) (fun _ => Iff.rfl)
theorem u_clo (f : FuncId) (fs cs : List D) {s : Nat} {b : Bool} {fp : Option (List Nat)} : runK P G (⟨some d, .clo f fs cs, some (s, b), fp⟩ :: l) (st L O U H) K = pureS P G (guardU b (look L s)) (pureO (st L O U H) (.clo f fs cs)) d l L O U H K := pure_eq0 (gd := some (s, b)) rfl (fun _ => rfl) (fun _ => Iff.rfl)
theorem s_mki (t : TypeId) (x : D) {fp : Option (List Nat)} : runK P G (⟨some d, .mki t x, none, fp⟩ :: l) (st L O U H) K = pureS P G (some true) (pureO (st L O U H) (.mki t x)) d l L O U H K := pure_eq0 (gd := none) rfl (fun _ => rfl) (fun _ => Iff.rfl)
theorem u_mki (t : TypeId) (x : D) {s : Nat} {b : Bool} {fp : Option (List Nat)} : runK P G (⟨some d, .mki t x, some (s, b), fp⟩ :: l) (st L O U H) K = pureS P G (guardU b (look L s)) (pureO (st L O U H) (.mki t x)) d l L O U H K := pure_eq0 (gd := some (s, b)) rfl (fun _ => rfl) (fun _ => Iff.rfl)
theorem s_asrt (t : TypeId) (comma one : Bool) (z : List A) (x : D) {fp : Option (List Nat)} : runK P G (⟨some d, .asrt t comma one z x, none, fp⟩ :: l) (st L O U H) K = pureS P G (some true) (pureO (st L O U H) (.asrt t comma one z x)) d l L O U H K := pure_eq0 (gd := none) rfl (fun _ => rfl) (fun _ => Iff.rfl)
theorem u_asrt (t : TypeId) (comma one : Bool) (z : List A) (x : D) {s : Nat} {b : Bool} {fp : Option (List Nat)} : runK P G (⟨some d, .asrt t comma one z x, some (s, b), fp⟩ :: l) (st L O U H) K = pureS P G (guardU b (look L s)) (pureO (st L O U H) (.asrt t comma one z x)) d l L O U H K := pure_eq0 (gd := some (s, b)) rfl (fun _ => rfl) (fun _ => Iff.rfl)
theorem s_nilchk (x : D) {fp : Option (List Nat)} : runK P G (⟨some d, .nilchk x, none, fp⟩ :: l) (st L O U H) K = pureS P G (some true) (pureO (st L O U H) (.nilchk x)) d l L O U H K := pure_eq0 (gd := none) rfl (fun _ => rfl) (fun _ => Iff.rfl)
theorem u_nilchk (x : D) {s : Nat} {b : Bool} {fp : Option (List Nat)} : runK P G (⟨some d, .nilchk x, some (s, b), fp⟩ :: l) (st L O U H) K = pureS P G (guardU b (look L s)) (pureO (st L O U H) (.nilchk x)) d l L O U H K := pure_eq0 (gd := some (s, b)) rfl (fun _ => rfl) (fun _ => Iff.rfl)
theorem s_gidx (len size g : Nat) (x : D) {fp : Option (List Nat)} : runK P G (⟨some d, .gidx len size g x, none, fp⟩ :: l) (st L O U H) K = pureS P G (some true) (pureO (st L O U H) (.gidx len size g x)) d l L O U H K := pure_eq0 (gd := none) rfl (fun _ => rfl) (fun _ => Iff.rfl)
theorem u_gidx (len size g : Nat) (x : D) {s : Nat} {b : Bool} {fp : Option (List Nat)} : runK P G (⟨some d, .gidx len size g x, some (s, b), fp⟩ :: l) (st L O U H) K = pureS P G (guardU b (look L s)) (pureO (st L O U H) (.gidx len size g x)) d l L O U H K := pure_eq0 (gd := some (s, b)) rfl (fun _ => rfl) (fun _ => Iff.rfl)
theorem s_mlook (dk : TypeDesc) (one comma : Bool) (z : List A) (m k : D) {fp : Option (List Nat)} : runK P G (⟨some d, .mlook dk one comma z m k, none, fp⟩ :: l) (st L O U H) K = (touchP fp (m.val (st L O U H)) ∧ pureS P G (some true) (pureO (st L O U H) (.mlook dk one comma z m k)) d l L O U H K) := pure_eq (gd := none) (fun _ => rfl) (fun _ => Iff.rfl)
theorem u_mlook (dk : TypeDesc) (one comma : Bool) (z : List A) (m k : D) {s : Nat} {b : Bool} {fp : Option (List Nat)} : runK P G (⟨some d, .mlook dk one comma z m k, some (s, b), fp⟩ :: l) (st L O U H) K = (touchP fp (m.val (st L O U H)) ∧ pureS P G (guardU b (look L s)) (pureO (st L O U H) (.mlook dk one comma z m k)) d l L O U H K) := pure_eq (gd := some (s, b)) (fun _ => rfl) (fun _ => Iff.rfl)
theorem promoteT_st {k t : Nat} {ty : TypeId} {size : Nat} (hk : k < 10000) (h1 : (lookT U k).or (H.toks k) = none) (h2 : look L t = .k true (.x (.one .nil))) : (st L O U H).promoteT k t ty size = st ((t, .k true (.x (.one (.own k [])))) :: L) O ((k, ⟨ty, size, 0⟩) :: U) H := by
  unfold S.promoteT
  simp only [st_toks, st_tmps, h1, h2]
  rw [if_pos (.inl hk)]
  show S.mk _ _ _ _ = S.mk _ _ _ _
  rw [S.mk.injEq]
  refine ⟨rfl, rfl, ?_, rfl⟩
  funext i; simp only [lookT_cons]; split <;> simp
theorem promoteO_st {k j off : Nat} {ty : TypeId} {size : Nat} {t : TypeId} {s : Nat} {r : List A} (hk : k < 10000) (h1 : (lookT U k).or (H.toks k) = none) (h2 : (lookO O j).or (H.objs j) = some ⟨t, s, [r], none⟩) (h3 : nilAt r off = true) : (st L O U H).promoteO k j off ty size = st L (updO j ⟨t, s, [r.set off (.own k [])], none⟩ O) ((k, ⟨ty, size, 0⟩) :: U) H := by
  unfold S.promoteO
  simp only [st_toks, st_objs, h1, h2]
  rw [if_pos ⟨.inl hk, h3⟩]
  show S.mk _ _ _ _ = S.mk _ _ _ _
  rw [S.mk.injEq]
  refine ⟨rfl, ?_, ?_, rfl⟩
  · funext i; simp only [lookO_upd]; split <;> simp
  · funext i; simp only [lookT_cons]; split <;> simp
def promoteOK (L : List (Nat × T)) (O : List (Nat × Box)) (U : List (Nat × Tok)) (H : FHp) (k j off : Nat) (ty : TypeId) (size : Nat) : Option Tok → Option Box → S
  | none, some ⟨t, s, [r], none⟩ => if nilAt r off = true then st L (updO j ⟨t, s, [r.set off (.own k [])], none⟩ O) ((k, ⟨ty, size, 0⟩) :: U) H else st L O U H
  | _, _ => st L O U H
@[simp] theorem promoteOK_nil (k j off : Nat) (ty : TypeId) (size : Nat) (t : TypeId) (s : Nat) (r : List A) : promoteOK L O U H k j off ty size none (some ⟨t, s, [r], none⟩) = if nilAt r off = true then st L (updO j ⟨t, s, [r.set off (.own k [])], none⟩ O) ((k, ⟨ty, size, 0⟩) :: U) H else st L O U H := rfl
theorem promoteO_eq {k j off : Nat} {ty : TypeId} {size : Nat} (hk : k < 10000) : (st L O U H).promoteO k j off ty size = promoteOK L O U H k j off ty size ((lookT U k).or (H.toks k)) ((lookO O j).or (H.objs j)) := by
  unfold promoteOK
  split
  · rename_i t s r h1 h2
    split
    · rename_i h3; exact promoteO_st hk h1 h2 h3
    · rename_i h3
      unfold S.promoteO
      simp only [st_toks, st_objs, h1, h2]
      rw [if_neg (fun h => h3 h.2)]
  · rename_i hn
    unfold S.promoteO
    split
    · rename_i t s r h1 h2; exact (hn t s r h1 h2).elim
    · rfl
@[simp] theorem mapGetLast {α β : Type} {f : α → β} {l : List α} {x : β} : (l.map f ++ [x])[l.length]? = some x := by simp
inductive LPrep where
  | t (k t : Nat) (ty : TypeId) (size : Nat)
  | o (k j off : Nat) (ty : TypeId) (size : Nat)
def S.lprep : List LPrep → S → S
  | [], σ => σ
  | .t k t ty size :: l, σ => S.lprep l (σ.promoteT k t ty size)
  | .o k j off ty size :: l, σ => S.lprep l (σ.promoteO k j off ty size)
theorem Weak.lprep : ∀ (l : List LPrep) (σ : S), Weak σ (σ.lprep l)
  | [], σ => .refl σ
  | .t k t ty size :: l, σ => .trans (.proT k t ty size σ) (Weak.lprep l _)
  | .o k j off ty size :: l, σ => .trans (.proO k j off ty size σ) (Weak.lprep l _)
end
attribute [simp ↓] e_skip e_exit e_ret e_seq e_block e_regionS e_condI thenQ_normal thenQ_exit thenQ_ret blockQ_normal blockQ_exit blockQ_ret runK_after s_move u_move s_pick u_pick s_callp u_callp s_row s_app s_make s_box s_zero s_store s_mkmap s_mapup
attribute [simp ↓ high] e_region0
attribute [simp ↓] s_build s_load s_faddr s_field s_iaddr s_sindex s_bin s_eqs s_eqb s_un s_conv s_bytes s_len s_slen s_ssl s_vsl s_ext s_clo s_mki s_asrt s_nilchk s_gidx s_mlook
attribute [simp ↓] u_build u_load u_faddr u_field u_iaddr u_sindex u_bin u_eqs u_eqb u_un u_conv u_bytes u_len u_slen u_ssl u_vsl u_ext u_clo u_mki u_asrt u_nilchk u_gidx u_mlook
attribute [simp] S.lprep fpK rowsO promoteT_st promoteO_eq nilAt
end Go.Fx

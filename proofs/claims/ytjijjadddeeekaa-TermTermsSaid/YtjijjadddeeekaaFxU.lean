/- Fx, part U: the walk in steps that simp can take. -/
import Derived.Test.YtjijjadddeeekaaFxT
namespace Go.Fx
open Go.RowKit

def bs (l : List UInt8) : ByteArray := ⟨l.toArray⟩

def look : List (Nat × T) → Nat → T
  | [], _ => .lost
  | (d, t) :: l, n => if n = d then t else look l n
def lookO : List (Nat × Box) → Nat → Option Box
  | [], _ => none
  | (d, t) :: l, n => if n = d then some t else lookO l n
def lookT : List (Nat × Tok) → Nat → Option Tok
  | [], _ => none
  | (d, t) :: l, n => if n = d then some t else lookT l n

/-- A state written out. -/
def st (L : List (Nat × T)) (O : List (Nat × Box)) (K : List (Nat × Tok)) : S := ⟨look L, lookO O, lookT K⟩

/-- A region, step by step, up to what follows. -/
def runK (P : Program) (G : World → Prop) : List IOper → S → (S → Prop) → Prop
  | [], σ, K => K σ
  | o :: l, σ, K => ∃ σ1, StepI P G o σ σ1 ∧ runK P G l σ1 K

/-- What follows, then. -/
def thenQ (K : S → Prop) (Q : Exit → S → Prop) : Exit → S → Prop
  | .normal, σ => K σ
  | e, σ => Q e σ

section
variable {P : Program} {G : World → Prop} {σ σ' : S} {Q : Exit → S → Prop} {L : List (Nat × T)} {O : List (Nat × Box)} {U : List (Nat × Tok)} {l : List IOper} {K : S → Prop} {d : Nat}

theorem run_of_runK : ∀ {l : List IOper} {σ : S}, runK P G l σ K → ∃ σ', RunI P G l σ σ' ∧ K σ'
  | [], σ, h => ⟨σ, rfl, h⟩
  | o :: l, σ, ⟨σ1, h1, h2⟩ => by
    obtain ⟨σ', h3, h4⟩ := run_of_runK h2
    exact ⟨σ', ⟨σ1, h1, h3⟩, h4⟩

theorem wpI_mono : ∀ {c : IC} {Q Q' : Exit → S → Prop} {σ : S}, (∀ e σ, Q e σ → Q' e σ) → wpI P G c Q σ → wpI P G c Q' σ
  | .skip, _, _, _, h, hw => h _ _ hw
  | .region _ _ _, _, _, _, h, ⟨σ', h1, h2⟩ => ⟨σ', h1, h _ _ h2⟩
  | .seq a b, _, _, _, h, hw => wpI_mono (c := a) (fun e σ hq => by cases e <;> first | exact wpI_mono (c := b) h hq | exact h _ _ hq) hw
  | .cond _ a b, _, _, _, h, ⟨t, h1, h2, h3⟩ => ⟨t, h1, fun e => wpI_mono (c := a) h (h2 e), fun e => wpI_mono (c := b) h (h3 e)⟩
  | .block _ a, _, _, _, h, hw => wpI_mono (c := a) (fun e σ hq => by
      cases e <;> first
        | exact h _ _ hq
        | (simp only at hq ⊢
           split
           · rename_i e; rw [if_pos e] at hq; exact h _ _ hq
           · rename_i e; rw [if_neg e] at hq; exact h _ _ hq)) hw
  | .loop a, _, _, _, h, ⟨I, μ, h0, hr⟩ => ⟨I, μ, h0, fun σ1 h1 => wpI_mono (c := a) (fun e σ hq => by cases e <;> first | exact hq | exact h _ _ hq) (hr σ1 h1)⟩
  | .exit _, _, _, _, h, hw => h _ _ hw
  | .ret, _, _, _, h, hw => h _ _ hw

/- Code. -/
theorem w_skip (h : Q .normal σ) : wpI P G .skip Q σ := h
theorem w_exit {id : Nat} (h : Q (.exit id) σ) : wpI P G (.exit id) Q σ := h
theorem w_ret (h : Q .ret σ) : wpI P G .ret Q σ := h
theorem w_seq {a b : IC} (h : ∀ K : S → Prop, (∀ σ, wpI P G b Q σ → K σ) → wpI P G a (thenQ K Q) σ) : wpI P G (.seq a b) Q σ :=
  wpI_mono (c := a) (fun e σ hq => by cases e <;> exact hq) (h _ fun _ h => h)
theorem w_cond {c : D} {a b : IC} {t : Bool} (hc : c.val σ = .k true (rB t)) (h1 : t = true → wpI P G a Q σ) (h2 : t = false → wpI P G b Q σ) : wpI P G (.cond c a b) Q σ := ⟨t, hc, h1, h2⟩
def blockQ (id : Nat) (Q : Exit → S → Prop) : Exit → S → Prop
  | .exit i, σ => if i = id then Q .normal σ else Q (.exit i) σ
  | e, σ => Q e σ
theorem w_block {id : Nat} {a : IC} (h : wpI P G a (blockQ id Q) σ) : wpI P G (.block id a) Q σ := wpI_mono (c := a) (fun e σ hq => by cases e <;> exact hq) h
theorem w_loop {a : IC} (I : S → Prop) (μ : S → Nat) (h0 : I σ) (hr : ∀ σ1, I σ1 → wpI P G a (thenQ (fun σ' => I σ' ∧ μ σ' < μ σ1) Q) σ1) : wpI P G (.loop a) Q σ :=
  ⟨I, μ, h0, fun σ1 h1 => wpI_mono (c := a) (fun e σ hq => by cases e <;> exact hq) (hr σ1 h1)⟩
theorem w_region {news keep : List Nat} {ops : List IOper} (h : runK P G ops (σ.strike news) (fun σ' => Q .normal (σ'.keep keep))) : wpI P G (.region news keep ops) Q σ := run_of_runK h

/- States. -/
@[simp] theorem thenQ_normal : thenQ K Q .normal σ = K σ := rfl
@[simp] theorem thenQ_exit {id : Nat} : thenQ K Q (.exit id) σ = Q (.exit id) σ := rfl
@[simp] theorem thenQ_ret : thenQ K Q .ret σ = Q .ret σ := rfl
@[simp] theorem blockQ_normal {id : Nat} : blockQ id Q .normal σ = Q .normal σ := rfl
@[simp] theorem blockQ_exit {id i : Nat} : blockQ id Q (.exit i) σ = if i = id then Q .normal σ else Q (.exit i) σ := rfl
@[simp] theorem blockQ_ret {id : Nat} : blockQ id Q .ret σ = Q .ret σ := rfl

@[simp] theorem look_nil (n : Nat) : look [] n = .lost := rfl
@[simp] theorem look_cons (d n : Nat) (t : T) (l : List (Nat × T)) : look ((d, t) :: l) n = if n = d then t else look l n := rfl
@[simp] theorem lookO_nil (n : Nat) : lookO [] n = none := rfl
@[simp] theorem lookO_cons (d n : Nat) (t : Box) (l : List (Nat × Box)) : lookO ((d, t) :: l) n = if n = d then some t else lookO l n := rfl
@[simp] theorem lookT_nil (n : Nat) : lookT [] n = none := rfl
@[simp] theorem lookT_cons (d n : Nat) (t : Tok) (l : List (Nat × Tok)) : lookT ((d, t) :: l) n = if n = d then some t else lookT l n := rfl
@[simp] theorem st_tmps (n : Nat) : (st L O U).tmps n = look L n := rfl
@[simp] theorem st_objs (n : Nat) : (st L O U).objs n = lookO O n := rfl
@[simp] theorem st_toks (n : Nat) : (st L O U).toks n = lookT U n := rfl
@[simp] theorem val_t (n : Nat) : (D.t n).val (st L O U) = look L n := rfl
@[simp] theorem val_k (r : R) : (D.k r).val σ = .k true r := rfl
@[simp] theorem T_r (g : Bool) (r : R) : (T.k g r).r = r := rfl
@[simp] theorem T_g (g : Bool) (r : R) : (T.k g r).g = g := rfl
@[simp] theorem strike_nil : σ.strike [] = σ := rfl

theorem put_st (t : T) : (st L O U).put (some d) t = st ((d, t) :: L) O U := rfl
theorem setObj_st (b : Box) : (st L O U).setObj d b = st L ((d, b) :: O) U := rfl
theorem setTok_st (q : Tok) : (st L O U).setTok d q = st L O ((d, q) :: U) := rfl

theorem look_restrict (ks : List Nat) (n : Nat) : look (ks.map fun k => (k, look L k)) n = if n ∈ ks then look L n else .lost := by
  induction ks with
  | nil => rfl
  | cons k ks ih =>
    simp only [List.map_cons, look_cons, ih, List.mem_cons]
    by_cases h : n = k
    · subst h; simp
    · by_cases h2 : n ∈ ks <;> simp [h, h2]

@[simp] theorem keep_st (ks : List Nat) : (st L O U).keep ks = st (ks.map fun k => (k, look L k)) O U := by
  have e : (fun n => if n ∈ ks then look L n else T.lost) = look (ks.map fun k => (k, look L k)) := funext fun n => (look_restrict ks n).symm
  exact congrArg (fun f => S.mk f (lookO O) (lookT U)) e

theorem strikeA_none {ks : List Nat} (hO : ∀ k ∈ ks, lookO O k = none) (hU : ∀ k ∈ ks, lookT U k = none) (hL : ∀ n, (look L n).strike ks = look L n) (hB : ∀ k b, lookO O k = some b → b.rows.map (·.map (A.strike ks)) = b.rows) : (st L O U).strike ks = st L O U := by
  unfold S.strike
  split
  · rfl
  · unfold st
    simp only [S.mk.injEq]
    refine ⟨funext hL, funext fun k => ?_, funext fun k => ?_⟩
    · split
      · rename_i hk; rw [hO k hk]
      · cases hb : lookO O k with
        | none => rfl
        | some b => simp only [Option.map_some, hB k b hb]
    · split
      · rename_i hk; rw [hU k hk]
      · rfl

theorem init_st : ∀ (args : List CX) (k : Nat), (fun t => match args[t - k]? with | some c => if k ≤ t then T.k true (.x c.open) else .lost | none => .lost) = look (args.zipIdx k |>.map fun p => (p.2, .k true (.x p.1.open)))
  | [], k => by funext t; simp
  | c :: args, k => by
    funext t
    have ih := congrFun (init_st args (k + 1)) t
    simp only [List.zipIdx_cons, List.map_cons, look_cons]
    by_cases h : t = k
    · subst h; simp
    · rw [if_neg h, ← ih]
      by_cases hlt : t < k
      · have h1 : ¬ k ≤ t := by omega
        have h2 : ¬ k + 1 ≤ t := by omega
        simp only [h1, h2, if_false]
        split <;> split <;> rfl
      · have h1 : k ≤ t := by omega
        have h2 : k + 1 ≤ t := by omega
        have h3 : t - k = (t - (k + 1)) + 1 := by omega
        simp only [h1, h2, if_true, h3, List.getElem?_cons_succ]

theorem init_eq (args : List CX) : S.init args = st (args.zipIdx.map fun p => (p.2, .k true (.x p.1.open))) [] [] := by
  unfold S.init st
  rw [← init_st args 0]
  congr 1

/- Operations. -/
@[simp] theorem runK_nil : runK P G [] σ K = K σ := rfl

theorem k_pure {op : IOp} {out : Out} (hp : pureO (st L O U) op = some out) (hop : ∀ (σ σ' : S), (∃ g, guardO σ none = some g ∧ ∃ out, pureO σ op = some out ∧ (g = true → out.need) ∧ σ' = σ.put (some d) (.k g out.val)) → StepI P G ⟨some d, op, none⟩ σ σ')
    (hn : out.need) (h : runK P G l (st ((d, .k true out.val) :: L) O U) K) : runK P G (⟨some d, op, none⟩ :: l) (st L O U) K :=
  ⟨_, hop _ _ ⟨true, rfl, out, hp, fun _ => hn, rfl⟩, h⟩

theorem k_pureg {op : IOp} {out : Out} {gd : Nat × Bool} {g : Bool} (hg : guardO (st L O U) (some gd) = some g) (hp : pureO (st L O U) op = some out) (hop : ∀ (σ σ' : S), (∃ g, guardO σ (some gd) = some g ∧ ∃ out, pureO σ op = some out ∧ (g = true → out.need) ∧ σ' = σ.put (some d) (.k g out.val)) → StepI P G ⟨some d, op, some gd⟩ σ σ')
    (hn : g = true → out.need) (h : runK P G l (st ((d, .k g out.val) :: L) O U) K) : runK P G (⟨some d, op, some gd⟩ :: l) (st L O U) K :=
  ⟨_, hop _ _ ⟨g, hg, out, hp, hn, rfl⟩, h⟩

theorem k_call {f : FuncId} {args : List D} (cs : List CX) (res : CR) (hg : (args.all fun d => (d.val (st L O U)).g) = true) (hc : closeArgs (args.map fun d => (d.val (st L O U)).r) = some cs) (hm : Meets P G f cs res)
    (h : runK P G l (st ((d, .k true res.open) :: L) O U) K) : runK P G (⟨some d, .call f args, none⟩ :: l) (st L O U) K :=
  ⟨_, ⟨true, rfl, cs, res, fun _ => ⟨hg, hc, hm⟩, rfl⟩, h⟩

theorem k_callg {f : FuncId} {args : List D} {gd : Nat × Bool} (cs : List CX) (res : CR) {g : Bool} (hg : guardO (st L O U) (some gd) = some g) (hc : g = true → (args.all fun d => (d.val (st L O U)).g) = true ∧ closeArgs (args.map fun d => (d.val (st L O U)).r) = some cs ∧ Meets P G f cs res)
    (h : runK P G l (st ((d, .k g res.open) :: L) O U) K) : runK P G (⟨some d, .call f args, some gd⟩ :: l) (st L O U) K :=
  ⟨_, ⟨g, hg, cs, res, hc, rfl⟩, h⟩

theorem k_move {x : D} (h : runK P G l (st ((d, moveT true (x.val (st L O U))) :: L) O U) K) : runK P G (⟨some d, .move x, none⟩ :: l) (st L O U) K := ⟨_, ⟨true, rfl, rfl⟩, h⟩
theorem k_moveg {x : D} {gd : Nat × Bool} {g : Bool} (hg : guardO (st L O U) (some gd) = some g) (h : runK P G l (st ((d, moveT g (x.val (st L O U))) :: L) O U) K) : runK P G (⟨some d, .move x, some gd⟩ :: l) (st L O U) K := ⟨_, ⟨g, hg, rfl⟩, h⟩
theorem k_pick {c a b : D} {t : Bool} (hc : c.val (st L O U) = .k true (rB t)) (h : runK P G l (st ((d, pickT true t (a.val (st L O U)) (b.val (st L O U))) :: L) O U) K) : runK P G (⟨some d, .pick c a b, none⟩ :: l) (st L O U) K :=
  ⟨_, ⟨true, rfl, true, t, hc, fun _ => rfl, rfl⟩, h⟩
theorem k_pickg {c a b : D} {gd : Nat × Bool} {g gc : Bool} {t : Bool} (hg : guardO (st L O U) (some gd) = some g) (hc : c.val (st L O U) = .k gc (rB t)) (hgc : g = true → gc = true)
    (h : runK P G l (st ((d, pickT g t (a.val (st L O U)) (b.val (st L O U))) :: L) O U) K) : runK P G (⟨some d, .pick c a b, some gd⟩ :: l) (st L O U) K :=
  ⟨_, ⟨g, hg, gc, t, hc, hgc, rfl⟩, h⟩
theorem k_box {ty : TypeId} {x : D} {y : X} (hx : x.val (st L O U) = .k true (.x y)) (hn : lookO O d = none) (h : runK P G l (st ((d, .k true (.x (.one (.ref d 0 0)))) :: L) ((d, ⟨ty, y.cells.length, [y.cells]⟩) :: O) U) K) :
    runK P G (⟨some d, .box ty x, none⟩ :: l) (st L O U) K := ⟨_, ⟨rfl, d, y, rfl, hn, hx, rfl⟩, h⟩
theorem k_zero {ty : TypeId} {z : List A} (hn : lookO O d = none) (h : runK P G l (st ((d, .k true (.x (.one (.ref d 0 0)))) :: L) ((d, ⟨ty, z.length, [z]⟩) :: O) U) K) :
    runK P G (⟨some d, .zero ty z, none⟩ :: l) (st L O U) K := ⟨_, ⟨rfl, d, rfl, hn, rfl⟩, h⟩
theorem k_row {ty : TypeId} {size : Nat} {ps : List D} {es : List (List C)} (hg : (ps.all fun d => (d.val (st L O U)).g) = true) (hr : rowsO (ps.map fun d => (d.val (st L O U)).r) = some es) (hw : ∀ e ∈ es, e.length = size) (hn : lookT U d = none)
    (h : runK P G l (st ((d, .k true (.x (.one (.own d es)))) :: L) O ((d, ⟨ty, size, es.length⟩) :: U)) K) : runK P G (⟨some d, .row ty size ps, none⟩ :: l) (st L O U) K :=
  ⟨_, ⟨hg, es, hr, hw, d, rfl, hn, rfl⟩, h⟩
theorem k_rowg {ty : TypeId} {size : Nat} {ps : List D} {gd : Nat × Bool} {g : Bool} {es : List (List C)} (hgd : guardO (st L O U) (some gd) = some g) (hg : (ps.all fun d => (d.val (st L O U)).g) = true) (hr : rowsO (ps.map fun d => (d.val (st L O U)).r) = some es) (hw : ∀ e ∈ es, e.length = size)
    (h : runK P G l (st ((d, .k g (.x (.one (.c (.sl es []))))) :: L) O U) K) : runK P G (⟨some d, .row ty size ps, some gd⟩ :: l) (st L O U) K :=
  ⟨_, ⟨hg, es, hr, hw, g, hgd, rfl⟩, h⟩
theorem k_app {ty : TypeId} {size bytes k : Nat} {x y : D} {es news sp : List (List C)} {q : Tok} (hx : x.val (st L O U) = .k true (.x (.one (.own k es)))) (gy : (y.val (st L O U)).g = true) (hy : (y.val (st L O U)).r.rows? = some (news, sp))
    (hw : ∀ e ∈ news, e.length = size) (hq : lookT U k = some q) (h1 : q.ty = ty) (h2 : q.size = size) (h3 : es.length = q.n) (h4 : es.length + news.length ≤ maxLen) (h5 : (es.length + news.length) * bytes ≤ maxBytes)
    (h : runK P G l (st ((d, .k true (.x (.one (.own k (es ++ news))))) :: L) O ((k, ⟨ty, size, es.length + news.length⟩) :: U)) K) : runK P G (⟨some d, .app ty size bytes x y, none⟩ :: l) (st L O U) K :=
  ⟨_, ⟨rfl, by rw [hx]; rfl, gy, news, sp, hy, hw, by rw [hx]; exact ⟨q, hq, h1, h2, h3, h4, h5, rfl⟩⟩, h⟩
theorem k_app0 {ty : TypeId} {size bytes : Nat} {x y : D} {news sp : List (List C)} (hx : x.val (st L O U) = .k true (.x (.one .nil))) (gy : (y.val (st L O U)).g = true) (hy : (y.val (st L O U)).r.rows? = some (news, sp))
    (hw : ∀ e ∈ news, e.length = size) (hq : lookT U d = none) (h4 : news.length ≤ maxLen) (h5 : news.length * bytes ≤ maxBytes)
    (h : runK P G l (st ((d, .k true (.x (.one (.own d news)))) :: L) O ((d, ⟨ty, size, news.length⟩) :: U)) K) : runK P G (⟨some d, .app ty size bytes x y, none⟩ :: l) (st L O U) K :=
  ⟨_, ⟨rfl, by rw [hx]; rfl, gy, news, sp, hy, hw, by rw [hx]; exact ⟨d, rfl, hq, h4, h5, rfl⟩⟩, h⟩
theorem k_make {ty : TypeId} {size bytes : Nat} {z : List A} {x y : D} {n m : Int} (hx : x.val (st L O U) = .k true (rI .i64 n)) (hy : y.val (st L O U) = .k true (rI .i64 m)) (hn : lookO O d = none) (h0 : 0 ≤ n) (h1 : n ≤ m) (h2 : m ≤ maxLen) (h3 : bytes * m ≤ maxBytes) (h4 : z.length = size)
    (h : runK P G l (st ((d, .k true (.x (.one (.arr d 0 n.toNat m.toNat)))) :: L) ((d, ⟨ty, size, List.replicate m.toNat z⟩) :: O) U) K) : runK P G (⟨some d, .make ty size bytes z x y, none⟩ :: l) (st L O U) K :=
  ⟨_, ⟨rfl, d, n, m, rfl, hn, hx, hy, h0, h1, h2, h3, h4, rfl⟩, h⟩
theorem k_store {n : Option Nat} {x y : D} {k i off : Nat} {b : Box} {yv : X} (hx : x.val (st L O U) = .k true (.x (.one (.ref k i off)))) (hb : lookO O k = some b) (hy : y.val (st L O U) = .k true (.x yv)) (h1 : i < b.rows.length) (h2 : off + yv.cells.length ≤ (b.rows.getD i []).length) (h3 : yv.cells.length = n.getD 1)
    (h : runK P G l (st L ((k, { b with rows := b.rows.set i (splice (b.rows.getD i []) off yv.cells) }) :: O) U) K) : runK P G (⟨none, .store n x y, none⟩ :: l) (st L O U) K :=
  ⟨_, ⟨rfl, k, i, off, b, yv, hx, hb, hy, h1, h2, h3, rfl⟩, h⟩

end
end Go.Fx

/- Fx, part T: code, functions, contracts. -/
import Derived.Test.YtjijjadddeeekaaFxS
import Derived.Deep.LoopGhost
namespace Go.Fx
open Go.RowKit

/-- The keys of what a region makes. -/
def newsOf (ios : List IOper) : List Nat := ios.filterMap fun o => match o.op with | .box .. | .zero .. | .make .. | .row .. => o.dst | _ => none

def cmpCode (P : Program) (N : Nat) (K : List Nat) : Code → Option IC
  | .skip => some .skip
  | .region _ ops draw =>
    match cmpOpers P ops N ops.toList with
    | some ios => if draw = true → (regOk ops ios = true ∧ P.follows .mixedOrders = true) then some (.region (newsOf ios) K ios) else none
    | none => none
  | .seq a b =>
    match cmpCode P N K a, cmpCode P N K b with
    | some a, some b => some (.seq a b)
    | _, _ => none
  | .cond c a b =>
    match cmpD c, cmpCode P N K a, cmpCode P N K b with
    | some c, some a, some b => some (.cond c a b)
    | _, _, _ => none
  | .block id a => (cmpCode P N K a).map (.block id)
  | .loop a => (cmpCode P N K a).map .loop
  | .exit id => some (.exit id)
  | .ret => some .ret
  | _ => none

section
variable {P : Program} {G : World → Prop} {w0 : World} {V0 : Nat → Nat → Prop} {N : Nat} {env : Env} {σ σ' τ : S} {a : Act} {w : World}

theorem Sim.keep (h : Sim w0 V0 N env σ a w) (ks : List Nat) : Sim w0 V0 N env (σ.keep ks) a w :=
  { h with tmps := fun t => (by
      simp only [S.keep]
      split
      · exact h.tmps t
      · trivial) }

def Env.strike (ks : List Nat) (env : Env) : Env := { env with ρ := fun k => if k ∈ ks then none else env.ρ k, τ := fun k => if k ∈ ks then none else env.τ k }

theorem RepA.strike {ks : List Nat} {toks : Nat → Option Tok} {x : A} {v : Value} (h : RepA env toks w x v) : RepA (env.strike ks) (fun k => if k ∈ ks then none else toks k) w (x.strike ks) v := by
  cases x with
  | c y => exact h
  | nil => exact h
  | own k es =>
    simp only [A.strike]
    split
    · exact h.1
    · rename_i hk
      obtain ⟨h1, t, h2, h3, h4, h5⟩ := h
      exact ⟨h1, t, by simp only [if_neg hk]; exact h2, h3, h4, fun e => by simp only [Env.strike, if_neg hk]; exact h5 e⟩
  | ref k i off =>
    simp only [A.strike]
    split
    · exact RepA.oneCell h
    · rename_i hk
      obtain ⟨b, s, h1, h2⟩ := h
      exact ⟨b, s, by simp only [Env.strike, if_neg hk]; exact h1, h2⟩
  | arr k off n c =>
    simp only [A.strike]
    split
    · exact RepA.oneCell h
    · rename_i hk
      obtain ⟨b, s, h1, h2⟩ := h
      exact ⟨b, s, by simp only [Env.strike, if_neg hk]; exact h1, h2⟩
  | elem es sp i off => exact h
  | lost => exact h

theorem RepX.strike {ks : List Nat} {toks : Nat → Option Tok} {x : X} {v : Value} (h : RepX env toks w x v) : RepX (env.strike ks) (fun k => if k ∈ ks then none else toks k) w (x.strike ks) v := by
  cases x with
  | one y => exact RepA.strike h
  | agg cs =>
    obtain ⟨us, e, hu⟩ := h
    exact ⟨us, e, All2.map_left (hu.imp fun _ _ _ => RepA.strike)⟩

theorem RepT.strike {ks : List Nat} {toks : Nat → Option Tok} {t : T} {v : Value} (h : RepT env toks w t v) : RepT (env.strike ks) (fun k => if k ∈ ks then none else toks k) w (t.strike ks) v := by
  cases t with
  | lost => trivial
  | k g r =>
    cases g with
    | false => exact h
    | true =>
      refine RepT.mk ?_
      have h := RepT.tt h
      cases r with
      | x y => exact RepX.strike h
      | tup xs =>
        obtain ⟨vs, e, hv⟩ := h
        exact ⟨vs, e, All2.map_left (hv.imp fun _ _ _ => RepX.strike)⟩

theorem Sim.strike (h : Sim w0 V0 N env σ a w) (ks : List Nat) : ∃ env', Sim w0 V0 N env' (σ.strike ks) a w := by
  unfold S.strike
  split
  · exact ⟨env, h⟩
  · refine ⟨env.strike ks, { h with tmps := fun t => (h.tmps t).strike, objs := fun k x hx => ?_, dom := fun k hk => ?_, inj := fun k k' b s s' hk hk' => ?_, toks := fun k t ht => ?_, tdom := fun k hk => ?_, tinj := fun k k' v v' b hk hk' hv hv' => ?_ }⟩
    · simp only at hx
      split at hx
      · cases hx
      · rename_i hk
        cases hb : σ.objs k with
        | none => rw [hb] at hx; cases hx
        | some y =>
          rw [hb] at hx
          simp only [Option.map_some, Option.some.injEq] at hx
          subst hx
          obtain ⟨b, us, h1, h2, h3, h4, h5, h6⟩ := h.objs k y hb
          refine ⟨b, us, by simp only [Env.strike, if_neg hk]; exact h1, h2, h3, ?_, fun r hr => ?_, h6⟩
          · have : (y.rows.map (·.map (A.strike ks))).flatten = y.rows.flatten.map (A.strike ks) := by rw [List.map_flatten]
            rw [this]
            exact All2.map_left (h4.imp fun _ _ _ => RepA.strike)
          · obtain ⟨r', hr', rfl⟩ := List.mem_map.1 hr
            rw [List.length_map]; exact h5 r' hr'
    · simp only [Env.strike] at hk ⊢
      split
      · rfl
      · rename_i hkk
        rw [if_neg hkk] at hk
        cases hb : σ.objs k with
        | none => exact h.dom k hb
        | some y => rw [hb] at hk; cases hk
    · simp only [Env.strike] at hk hk'
      split at hk
      · cases hk
      · split at hk'
        · cases hk'
        · exact h.inj k k' b s s' hk hk'
    · simp only at ht
      split at ht
      · cases ht
      · rename_i hk
        obtain ⟨v, xs, h1, h2, h3⟩ := h.toks k t ht
        refine ⟨v, xs, by simp only [Env.strike, if_neg hk]; exact h1, h2, fun b hb => ⟨(h3 b hb).1, fun k' s => ?_⟩⟩
        simp only [Env.strike]
        split
        · intro e; cases e
        · exact (h3 b hb).2 k' s
    · simp only [Env.strike] at hk ⊢
      split
      · rfl
      · rename_i hkk
        rw [if_neg hkk] at hk
        exact h.tdom k hk
    · simp only [Env.strike] at hk hk'
      split at hk
      · cases hk
      · split at hk'
        · cases hk'
        · exact h.tinj k k' v v' b hk hk' hv hv'

/-- What a way out of the walk says of frames and worlds. -/
def Out' (w0 : World) (V0 : Nat → Nat → Prop) (N : Nat) (Q : Exit → S → Prop) (e : Exit) (a : Act) (w : World) : Prop := ∃ σ env, Q e σ ∧ Sim w0 V0 N env σ a w

theorem code_sound (hG : Held G w0) {K : List Nat} : ∀ (c : Code) (ic : IC), cmpCode P N K c = some ic → ∀ (Q : Exit → S → Prop) (σ : S) (env : Env) (a : Act) (w : World), wpI P G ic Q σ → Sim w0 V0 N env σ a w → c.wp P (Out' w0 V0 N Q) a w := by
  intro c
  induction c with
  | skip => intro ic h Q σ env a w hw hs; injection h with h; subst h; exact wp_skip ⟨σ, env, hw, hs⟩
  | region id ops draw =>
    intro ic h Q σ env a w hw hs
    unfold cmpCode at h
    split at h
    · rename_i ios hc
      split at h
      · rename_i hok
        injection h with h; subst h
        obtain ⟨σ', h1, h2⟩ := hw
        obtain ⟨env1, hs1⟩ := hs.strike (newsOf ios)
        exact region_sound hG hc hok h1 hs1 fun env' a' w' hs' => ⟨_, env', h2, hs'.keep K⟩
      · cases h
    · cases h
  | seq x y ihx ihy =>
    intro ic h Q σ env a w hw hs
    unfold cmpCode at h
    split at h
    · rename_i ix iy hx hy
      injection h with h; subst h
      refine wp_seq (Code.wp_mono ?_ (ihx ix hx _ σ env a w hw hs))
      rintro e a' w' ⟨σ', env', h1, h2⟩
      cases e with
      | normal => exact ihy iy hy Q σ' env' a' w' h1 h2
      | _ => exact ⟨σ', env', h1, h2⟩
    · cases h
  | cond c x y ihx ihy =>
    intro ic h Q σ env a w hw hs
    unfold cmpCode at h
    split at h
    · rename_i d ix iy hd hx hy
      injection h with h; subst h
      obtain ⟨t, h1, h2, h3⟩ := hw
      have hv := hs.opd hd
      rw [h1] at hv
      refine wp_cond_split (t := t) (rep_bool (RepT.tt hv)) (fun e => ihx ix hx Q σ env a w (h2 e) hs) (fun e => ihy iy hy Q σ env a w (h3 e) hs)
    · cases h
  | block id x ih =>
    intro ic h Q σ env a w hw hs
    unfold cmpCode at h
    cases hx : cmpCode P N K x with
    | none => rw [hx] at h; cases h
    | some ix =>
      rw [hx] at h; simp at h; subst h
      refine wp_block (Code.wp_mono ?_ (ih ix hx _ σ env a w hw hs))
      rintro e a' w' ⟨σ', env', h1, h2⟩
      cases e with
      | exit i =>
        simp only [Exit.inBlock]
        simp only at h1
        split
        · rename_i e; rw [if_pos e] at h1; exact ⟨σ', env', h1, h2⟩
        · rename_i e; rw [if_neg e] at h1; exact ⟨σ', env', h1, h2⟩
      | _ => exact ⟨σ', env', h1, h2⟩
  | loop x ih =>
    intro ic h Q σ env a w hw hs
    unfold cmpCode at h
    cases hx : cmpCode P N K x with
    | none => rw [hx] at h; cases h
    | some ix =>
      rw [hx] at h; simp at h; subst h
      obtain ⟨I, μ, h0, hr⟩ := hw
      refine wp_loop_ghost (fun n a w => ∃ σ env, I σ ∧ μ σ = n ∧ Sim w0 V0 N env σ a w) (μ σ) ⟨σ, env, h0, rfl, hs⟩ ?_
      rintro n a1 w1 ⟨σ1, env1, h1, h2, h3⟩
      refine Code.wp_mono ?_ (ih ix hx _ σ1 env1 a1 w1 (hr σ1 h1) h3)
      rintro e a' w' ⟨σ', env', h4, h5⟩
      cases e with
      | normal => exact ⟨μ σ', by omega, σ', env', h4.1, rfl, h5⟩
      | _ => exact ⟨σ', env', h4, h5⟩
  | exit id => intro ic h Q σ env a w hw hs; injection h with h; subst h; exact wp_exit ⟨σ, env, hw, hs⟩
  | ret => intro ic h Q σ env a w hw hs; injection h with h; subst h; exact wp_ret ⟨σ, env, hw, hs⟩
  | _ => intro ic h; simp [cmpCode] at h

inductive IRes where
  | tmp (t : Nat)
  | cell (t : Nat) (n : Option Nat)

def cmpRes (P : Program) : List ResultVar → Option (List IRes)
  | [] => some []
  | .tmp t :: l => (cmpRes P l).map (.tmp t :: ·)
  | .cell t ty :: l =>
    match cellsIn P ty, cmpRes P l with
    | some n, some r => some (.cell t n :: r)
    | _, _ => none

def resO (σ : S) : IRes → Out
  | .tmp t => ⟨(σ.tmps t).g = true, (σ.tmps t).r⟩
  | .cell t n => ⟨(σ.tmps t).g = true ∧ (loadO σ n (σ.tmps t).r).need, (loadO σ n (σ.tmps t).r).val⟩

def closeLL : List (List A) → Option (List (List C))
  | [] => some []
  | r :: l =>
    match closeL r, closeLL l with
    | some c, some cs => some (c :: cs)
    | _, _ => none

/-- Closed at the call's end: what the function made itself is closed too. -/
def closeEnd (σ : S) : A → Option C
  | .arr k off n cap =>
    match σ.objs k with
    | some b =>
      if off + cap ≤ b.rows.length ∧ n ≤ cap ∧ cap ≤ maxLen then
        match closeLL ((b.rows.drop off).take n), closeLL (((b.rows.drop off).take cap).drop n) with
        | some es, some sp => some (.sl es sp)
        | _, _ => none
      else none
    | none => none
  | a => a.close

def closeEndL (σ : S) : List A → Option (List C)
  | [] => some []
  | a :: l =>
    match closeEnd σ a, closeEndL σ l with
    | some c, some cs => some (c :: cs)
    | _, _ => none

def closeEndR (σ : S) : R → Option CX
  | .x (.one a) => (closeEnd σ a).map .one
  | .x (.agg cs) => (closeEndL σ cs).map .agg
  | .tup _ => none

def closeEndRs (σ : S) : List IRes → Option (List CX)
  | [] => some []
  | r :: l =>
    match closeEndR σ (resO σ r).val, closeEndRs σ l with
    | some c, some cs => some (c :: cs)
    | _, _ => none

/-- The call's results are res. -/
def retO (σ : S) (ress : List IRes) (res : CR) : Prop :=
  (∀ r ∈ ress, (resO σ r).need) ∧
    match ress with
    | [r] => ∃ c, closeEndR σ (resO σ r).val = some c ∧ res = .x c
    | _ => ∃ cs, closeEndRs σ ress = some cs ∧ res = .tup cs

def S.init (args : List CX) : S := { tmps := fun t => match args[t]? with | some c => .k true (.x c.open) | none => .lost, objs := fun _ => none, toks := fun _ => none }

theorem closeLL_rep {toks : Nat → Option Tok} : ∀ {l : List (List A)} {es : List (List C)} {us : List Value}, closeLL l = some es → All2 (RepA env toks w) l.flatten us → All2 (RepC env.V w) es.flatten us ∧ es.map List.length = l.map List.length
  | [], es, us, h, hu => by
    simp [closeLL] at h; subst h
    rw [List.flatten_nil] at hu
    rw [hu.nil_left]
    exact ⟨All2.nil, rfl⟩
  | r :: l, es, us, h, hu => by
    unfold closeLL at h
    split at h
    · rename_i c cs hr hl
      injection h with h; subst h
      rw [List.flatten_cons] at hu
      have h1 := hu.take r.length
      have h2 := hu.drop r.length
      rw [List.take_left' rfl] at h1
      rw [List.drop_left' rfl] at h2
      have g1 := closeL_rep h1 hr
      obtain ⟨g2, g3⟩ := closeLL_rep hl h2
      refine ⟨?_, ?_⟩
      · rw [List.flatten_cons]
        have := g1.append g2
        rwa [List.take_append_drop] at this
      · have : c.length = r.length := by rw [g1.1, ← h1.1]
        simp [this, g3]
    · cases h

theorem closeEnd_rep (hs : Sim w0 V0 N env σ a w) {x : A} {c : C} {v : Value} (h : RepA env σ.toks w x v) (hc : closeEnd σ x = some c) : RepC (fun b o => V0 b o ∨ w0.heap.size ≤ b) w c v := by
  unfold closeEnd at hc
  split at hc
  · rename_i k off n cap
    split at hc
    · rename_i b hb
      split at hc
      · rename_i hcond
        obtain ⟨hc1, hc2, hc3⟩ := hcond
        split at hc
        · rename_i es sp h1 h2
          injection hc with hc; subst hc
          obtain ⟨bl, us, e1, e2, e3, e4, e5, e6⟩ := hs.objs k b hb
          obtain ⟨bl', s, q1, q2⟩ := h
          rw [e1] at q1
          injection q1 with q1; injection q1 with q3 q4
          subst q3; subst q4
          subst q2
          have hrowsl : ∀ r ∈ (b.rows.drop off).take cap, r.length = b.size := fun r hr => e5 r (List.mem_of_mem_drop (List.mem_of_mem_take hr))
          have hul : us.length = b.rows.length * b.size := by rw [← e4.1, length_flatten b.rows e5]
          have hall : All2 (RepA env σ.toks w) ((b.rows.drop off).take cap).flatten ((us.drop (off * b.size)).take (cap * b.size)) := by
            have hsplit : b.rows.flatten = (b.rows.take off).flatten ++ (((b.rows.drop off).take cap).flatten ++ ((b.rows.drop off).drop cap).flatten) := by
              rw [← List.flatten_append, List.take_append_drop, ← List.flatten_append, List.take_append_drop]
            have hl1 : (b.rows.take off).flatten.length = off * b.size := by
              rw [length_flatten _ (fun x hx => e5 x (List.mem_of_mem_take hx)), List.length_take, Nat.min_eq_left (by omega)]
            have hl2 : ((b.rows.drop off).take cap).flatten.length = cap * b.size := by
              rw [length_flatten _ hrowsl, List.length_take, List.length_drop, Nat.min_eq_left (by omega)]
            have := (e4.drop (off * b.size)).take (cap * b.size)
            rw [hsplit, List.drop_left' hl1, List.take_left' hl2] at this
            exact this
          have hparts : (b.rows.drop off).take cap = (b.rows.drop off).take n ++ ((b.rows.drop off).take cap).drop n := by
            have : (b.rows.drop off).take n = ((b.rows.drop off).take cap).take n := by rw [List.take_take, Nat.min_eq_left hc2]
            rw [this, List.take_append_drop]
          have hclose : closeLL ((b.rows.drop off).take cap) = some (es ++ sp) := by
            rw [hparts]
            have app : ∀ (l m : List (List A)) (p q : List (List C)), closeLL l = some p → closeLL m = some q → closeLL (l ++ m) = some (p ++ q) := by
              intro l
              induction l with
              | nil => intro m p q h1 h2; simp [closeLL] at h1; subst h1; exact h2
              | cons r l ih =>
                intro m p q h1 h2
                unfold closeLL at h1
                split at h1
                · rename_i c cs hr hl
                  injection h1 with h1; subst h1
                  simp only [List.cons_append, closeLL, hr, ih m cs q hl h2]
                · cases h1
            exact app _ _ _ _ h1 h2
          obtain ⟨g1, g2⟩ := closeLL_rep hclose hall
          have hlens : es.length = n ∧ sp.length = cap - n := by
            have hle : ∀ (l : List (List A)) (p : List (List C)), closeLL l = some p → p.length = l.length := by
              intro l
              induction l with
              | nil => intro p h; simp [closeLL] at h; subst h; rfl
              | cons r l ih =>
                intro p h
                unfold closeLL at h
                split at h
                · rename_i c cs hr hl
                  injection h with h; subst h
                  simp [ih cs hl]
                · cases h
            refine ⟨by rw [hle _ _ h1, List.length_take, List.length_drop]; omega, by rw [hle _ _ h2, List.length_drop, List.length_take, List.length_drop]; omega⟩
          have hw : ∀ e ∈ es ++ sp, e.length = b.size := fun e he => by
            have : e.length ∈ (es ++ sp).map List.length := List.mem_map.2 ⟨e, he, rfl⟩
            rw [g2] at this
            obtain ⟨r, hr, hrl⟩ := List.mem_map.1 this
            rw [← hrl]; exact hrowsl r hr
          refine .sl es sp b.size bl (off * b.size) n cap ((us.drop (off * b.size)).take (cap * b.size)) hlens.1.symm (by omega) hc3 hw g1.1.symm (fun j u hj => ?_) (fun j c u hcj hu => ?_)
          · have hjlt : j < cap * b.size := by
              have := (List.getElem?_eq_some_iff.1 hj).1
              rw [List.length_take] at this; omega
            rw [List.getElem?_take, if_pos hjlt, List.getElem?_drop] at hj
            exact ⟨(block_row e3 _).trans hj, .inr e2⟩
          · exact RepC.mono (fun b o h => hs.vnew b o h) (fun _ _ _ => rfl) (g1.2 j c u hcj hu)
        · cases hc
      · cases hc
    · cases hc
  · exact RepC.mono (fun b o h => hs.vnew b o h) (fun _ _ _ => rfl) (close_rep h hc)

theorem closeEndL_rep (hs : Sim w0 V0 N env σ a w) : ∀ {l : List A} {cs : List C} {us : List Value}, All2 (RepA env σ.toks w) l us → closeEndL σ l = some cs → All2 (RepC (fun b o => V0 b o ∨ w0.heap.size ≤ b) w) cs us
  | [], cs, us, h, hc => by
    simp [closeEndL] at hc; subst hc
    rw [h.nil_left]; exact All2.nil
  | x :: l, cs, us, h, hc => by
    obtain ⟨v, vs', e, h1, h2⟩ := h.head
    subst e
    unfold closeEndL at hc
    split at hc
    · rename_i c cs' hx hl
      injection hc with hc; subst hc
      exact All2.cons (closeEnd_rep hs h1 hx) (closeEndL_rep hs h2 hl)
    · cases hc

theorem closeEndR_rep (hs : Sim w0 V0 N env σ a w) {r : R} {c : CX} {v : Value} (h : RepR env σ.toks w r v) (hc : closeEndR σ r = some c) : RepCX (fun b o => V0 b o ∨ w0.heap.size ≤ b) w c v := by
  unfold closeEndR at hc
  split at hc
  · rename_i x
    cases hx : closeEnd σ x with
    | none => rw [hx] at hc; cases hc
    | some y => rw [hx] at hc; simp at hc; subst hc; exact closeEnd_rep hs h hx
  · rename_i cs
    cases hx : closeEndL σ cs with
    | none => rw [hx] at hc; cases hc
    | some y =>
      rw [hx] at hc; simp at hc; subst hc
      obtain ⟨us, e, hu⟩ := h
      exact ⟨us, e, closeEndL_rep hs hu hx⟩
  · cases hc

/-- One result, in the model. -/
def resSem (a : Act) : ResultVar → Sem Value
  | .tmp t => pure (a.tmps.getD t undef)
  | .cell x t => do loadVar t (← asAddr (a.tmps.getD x undef))

/-- The value of one result. -/
theorem res_sound (hs : Sim w0 V0 N env σ a w) {rv : ResultVar} {r : IRes} {l : List ResultVar} {rs : List IRes} (hc : cmpRes P (rv :: l) = some (r :: rs)) (hn : (resO σ r).need) :
    ∃ v, (resSem a rv).run P w = .ok v w ∧ RepR env σ.toks w (resO σ r).val v ∧ cmpRes P l = some rs := by
  cases rv with
  | tmp t =>
    simp only [cmpRes] at hc
    cases hl : cmpRes P l with
    | none => rw [hl] at hc; cases hc
    | some rs' =>
      rw [hl] at hc
      simp only [Option.map_some, Option.some.injEq, List.cons.injEq] at hc
      obtain ⟨rfl, rfl⟩ := hc
      exact ⟨_, by simp [resSem], (hs.tmps t).r hn, rfl⟩
  | cell t ty =>
    simp only [cmpRes] at hc
    split at hc
    · rename_i n rs' h1 h2
      simp only [Option.some.injEq, List.cons.injEq] at hc
      obtain ⟨rfl, rfl⟩ := hc
      obtain ⟨hg, hn⟩ := hn
      obtain ⟨v, hv, hrep⟩ := loadO_sound (P := P) ty hs ((hs.tmps t).r hg) hn h1
      refine ⟨v, ?_, hrep, h2⟩
      -- a load from a pointer
      have : ∃ ad, a.tmps.getD t undef = .pointer (some ad) := by
        generalize a.tmps.getD t undef = pv at hv
        cases pv with
        | pointer q =>
          cases q with
          | some ad => exact ⟨ad, rfl⟩
          | none => simp [Instr.loadAt, Instr.sureAddr] at hv
        | _ => simp [Instr.loadAt, Instr.sureAddr] at hv
      obtain ⟨ad, e⟩ := this
      rw [e] at hv
      simp only [resSem]
      rw [e]
      simpa [Instr.loadAt, Instr.sureAddr, asAddr] using hv
    · cases hc

theorem ress_sound (hs : Sim w0 V0 N env σ a w) : ∀ (rvs : List ResultVar) (ress : List IRes), cmpRes P rvs = some ress → (∀ r ∈ ress, (resO σ r).need) →
    ∃ vs : List Value, (rvs.mapM (resSem a)).run P w = .ok vs w ∧
      All2 (fun r v => RepR env σ.toks w (resO σ r).val v) ress vs
  | [], ress, h, _ => by
    simp [cmpRes] at h; subst h
    exact ⟨[], by simp, All2.nil⟩
  | rv :: rvs, ress, h, hn => by
    have hne : ∃ r rs, ress = r :: rs := by
      cases rv with
      | tmp t =>
        simp only [cmpRes] at h
        cases hl : cmpRes P rvs with
        | none => rw [hl] at h; cases h
        | some rs => rw [hl] at h; simp at h; exact ⟨_, _, h.symm⟩
      | cell t ty =>
        simp only [cmpRes] at h
        split at h
        · injection h with h; exact ⟨_, _, h.symm⟩
        · cases h
    obtain ⟨r, rs, rfl⟩ := hne
    obtain ⟨v, h1, h2, h3⟩ := res_sound (P := P) hs h (hn r (by simp))
    obtain ⟨vs, h4, h5⟩ := ress_sound hs rvs rs h3 (fun q hq => hn q (List.mem_cons_of_mem _ hq))
    exact ⟨v :: vs, by rw [List.mapM_cons, Sem.run_bind, h1, Result.andThen_ok, Sem.run_bind, h4, Result.andThen_ok, Sem.run_pure], All2.cons h2 h5⟩

theorem closeEndRs_rep (hs : Sim w0 V0 N env σ a w) : ∀ {ress : List IRes} {cs : List CX} {vs : List Value}, All2 (fun r v => RepR env σ.toks w (resO σ r).val v) ress vs → closeEndRs σ ress = some cs →
    All2 (RepCX (fun b o => V0 b o ∨ w0.heap.size ≤ b) w) cs vs
  | [], cs, vs, h, hc => by
    simp [closeEndRs] at hc; subst hc
    rw [h.nil_left]; exact All2.nil
  | r :: l, cs, vs, h, hc => by
    obtain ⟨v, vs', e, h1, h2⟩ := h.head
    subst e
    unfold closeEndRs at hc
    split at hc
    · rename_i c cs' hx hl
      injection hc with hc; subst hc
      exact All2.cons (closeEndR_rep hs h1 hx) (closeEndRs_rep hs h2 hl)
    · cases hc

/-- The results, at the call's end. -/
theorem ret_sound (hs : Sim w0 V0 N env σ a w) {fn : Func} {ress : List IRes} {res : CR} (hc : cmpRes P fn.results.toList = some ress) (hr : retO σ ress res) :
    ∃ v, (results fn a.tmps).run P w = .ok v w ∧ RepCR (fun b o => V0 b o ∨ w0.heap.size ≤ b) w res v := by
  obtain ⟨hn, hm⟩ := hr
  obtain ⟨vs, h1, h2⟩ := ress_sound (P := P) hs _ ress hc hn
  have hrun : (results fn a.tmps).run P w = .ok (if h : vs.toArray.size = 1 then vs.toArray[0] else .tuple vs.toArray) w := by
    have e : results fn a.tmps = (do
        let vs ← fn.results.mapM (resSem a)
        pure (if h : vs.size = 1 then vs[0] else .tuple vs)) := by
      unfold results
      congr 1
    rw [e, Array.mapM_eq_mapM_toList]
    simp only [Sem.run_bind, Sem.run_map, h1, Result.andThen_ok, Sem.run_pure]
  refine ⟨_, hrun, ?_⟩
  split at hm
  · rename_i r
    obtain ⟨c, h3, rfl⟩ := hm
    obtain ⟨v, vs', e, h4, h5⟩ := h2.head
    subst e
    have := h5.nil_left
    subst this
    simp only [List.size_toArray, List.length_singleton, dite_true]
    exact closeEndR_rep hs h4 h3
  · rename_i hne
    obtain ⟨cs, h3, rfl⟩ := hm
    have hlen : ¬ vs.toArray.size = 1 := by
      rw [List.size_toArray, ← h2.1]
      intro e
      match ress, e with
      | [r], _ => exact hne r rfl
    rw [dif_neg hlen]
    exact ⟨vs, rfl, closeEndRs_rep hs h2 h3⟩

theorem getElem?_toArray_append {vs : List Value} {n t : Nat} : (vs.toArray ++ Array.replicate n undef).getD t undef = vs.getD t undef := by
  simp only [Array.getD_eq_getD_getElem?, List.getD_eq_getElem?_getD]
  rw [Array.getElem?_append]
  simp only [List.size_toArray, List.getElem?_toArray]
  split
  · rfl
  · rename_i h
    rw [List.getElem?_eq_none (by omega)]
    rw [Array.getElem?_replicate]
    split <;> rfl

theorem init_sim {args : List CX} {vs : List Value} {n : Nat} (hn : args.length ≤ n) (hV : ∀ b o, V0 b o → b < w0.heap.size) (ha : All2 (RepCX V0 w0) args vs) :
    Sim w0 V0 n ⟨V0, fun _ => none, fun _ => none⟩ (S.init args) { tmps := vs.toArray ++ Array.replicate (n - vs.toArray.size) undef, defers := [] } w0 where
  below := Below.refl _ _
  defers := rfl
  size := by have := ha.1; simp; omega
  vlt := hV
  vnew := fun _ _ h => .inl h
  v0 := hV
  tmps := fun t => by
    rw [getElem?_toArray_append]
    simp only [S.init]
    cases hc : args[t]? with
    | none => trivial
    | some c =>
      obtain ⟨v, h1, h2⟩ := ha.get hc
      refine RepT.mk ?_
      rw [List.getD_eq_getElem?_getD, h1]
      exact open_rep (fun _ _ h => h) h2
  objs := fun k x h => by cases h
  dom := fun _ _ => rfl
  inj := fun _ _ _ _ _ h => by cases h
  toks := fun k t h => by cases h
  tdom := fun _ _ => rfl
  tinj := fun _ _ _ _ _ h => by cases h

/-- A CONTRACT OUT OF A WALK. -/
theorem meets_of {f : FuncId} {fn : Func} {K : List Nat} {ic : IC} {ress : List IRes} {args : List CX} {res : CR} (hf : P.funcs[f]? = some fn) (hc : fn.body.bind (cmpCode P fn.ntmps K) = some ic) (hr : cmpRes P fn.results.toList = some ress)
    (hn : args.length ≤ fn.ntmps) (h : ∀ Q : Exit → S → Prop, (∀ σ, retO σ ress res → Q .ret σ) → (∀ σ, retO σ ress res → Q .normal σ) → wpI P G ic Q (S.init args)) : Meets P G f args res := by
  intro w V vs hG hV ha
  cases hb : fn.body with
  | none => rw [hb] at hc; cases hc
  | some c =>
    rw [hb] at hc
    simp only [Option.bind_some] at hc
    refine calls_of_wp hf hb ?_
    have hwalk := h (fun e σ => (e = .ret ∨ e = .normal) ∧ retO σ ress res) (fun σ h => ⟨.inl rfl, h⟩) (fun σ h => ⟨.inr rfl, h⟩)
    refine Code.wp_mono ?_ (code_sound hG c ic hc _ _ _ _ _ hwalk (init_sim hn hV ha))
    rintro e a' w' ⟨σ', env', ⟨he, hret⟩, hs⟩
    obtain ⟨v, h1, h2⟩ := ret_sound (P := P) hs hr hret
    rcases he with rfl | rfl
    · exact ⟨hs.defers, v, h1, v, rfl, h2, hs.below⟩
    · exact ⟨hs.defers, v, h1, v, rfl, h2, hs.below⟩

end
end Go.Fx

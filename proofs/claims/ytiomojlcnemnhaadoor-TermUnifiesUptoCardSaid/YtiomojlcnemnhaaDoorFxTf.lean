/- Fx, part Tf: a round of a range over a function, as a contract. -/
import Derived.Test.YtiomojlcnemnhaaDoorFxTe
namespace Go.Fx
open Go.RowKit

section
variable {P : Program} {G : World → Prop} {w0 : World} {V0 : Base} {N : Nat} {env : Env} {σ σ' τ : S} {a a' : Act} {w w' : World} {fl : Notes} {rd : Option Nat} {rn : Nat}

theorem foldl_ext (B : XP) : ∀ (l : List (Nat × X)) (σ : S), { (l.foldl (fun σ p => σ.put (some p.1) (.k true (.x p.2))) σ) with ext := B } = l.foldl (fun σ p => σ.put (some p.1) (.k true (.x p.2))) { σ with ext := B }
  | [], _ => rfl
  | p :: l, σ => by simp only [List.foldl_cons]; exact foldl_ext B l _
theorem round_ext (ks : List Nat) (zs : List A) (ps : List Nat) (args : List X) (h : Hp) (B B' : XP) : { (S.round ks zs ps args h B) with ext := B' } = S.round ks zs ps args h B' := foldl_ext B' _ _
theorem foldl_same : ∀ (l : List (Nat × X)) (σ : S), (l.foldl (fun σ p => σ.put (some p.1) (.k true (.x p.2))) σ).toks = σ.toks ∧ (l.foldl (fun σ p => σ.put (some p.1) (.k true (.x p.2))) σ).ext = σ.ext
  | [], _ => ⟨rfl, rfl⟩
  | p :: l, σ => by simp only [List.foldl_cons]; exact foldl_same l _

theorem fold_sim : ∀ {ps : List Nat} {args : List X} {vs : List Value} {σ : S} {tm : Array Value}, Sim w0 V0 N env σ { tmps := tm, defers := [] } w → (∀ p ∈ ps, p < N) → All2 (RepX env σ.toks w) args vs →
    Sim w0 V0 N env ((ps.zip args).foldl (fun σ p => σ.put (some p.1) (.k true (.x p.2))) σ) { tmps := (ps.zip vs).foldl (fun tmps p => tmps.setIfInBounds p.1 p.2) tm, defers := [] } w
  | [], _, _, _, _, h, _, _ => by simpa using h
  | p :: ps, [], vs, _, _, h, _, ha => by rw [ha.nil_left]; simpa using h
  | p :: ps, x :: args, vs, σ, tm, h, hp, ha => by
    obtain ⟨v, vs', rfl, h1, h2⟩ := ha.head
    simp only [List.zip_cons_cons, List.foldl_cons]
    have h3 : Sim w0 V0 N env (σ.put (some p) (.k true (.x x))) { tmps := tm.setIfInBounds p v, defers := [] } w :=
      h.put (d := some p) (fun n e => by injection e with e; subst e; exact hp _ (List.mem_cons_self ..)) (RepT.mk h1)
    exact fold_sim h3 (fun q hq => hp q (List.mem_cons_of_mem _ hq)) h2

theorem repAs_at {toks : Nat → Option Tok} {ta : Array Value} {t : Nat} {z : A} : ∀ {ks : List Nat} {zs : List A}, RepAs env toks w zs (ks.map fun k => ta.getD k undef) → (ks.zip zs).find? (·.1 == t) = some (t, z) → RepA env toks w z (ta.getD t undef)
  | [], _, _, h => by simp at h
  | _ :: _, [], _, h => by simp at h
  | k :: ks, y :: zs, hr, h => by
    simp only [List.map_cons] at hr
    simp only [List.zip_cons_cons, List.find?_cons] at h
    by_cases e : k = t
    · subst e
      simp only [beq_self_eq_true, Option.some.injEq, Prod.mk.injEq, true_and] at h
      subst h; exact hr.1
    · have : (k == t) = false := by simpa using e
      rw [this] at h
      exact repAs_at hr.2 h

theorem find_fst {t : Nat} {p : Nat × A} {l : List (Nat × A)} (h : l.find? (·.1 == t) = some p) : p = (t, p.2) := by
  have := List.find?_some h
  simp at this
  rw [← this]

/-- A round's frame, as it begins. -/
theorem round_sim {h : Hp} {F : Nat → Prop} {ks : List Nat} {zs : List A} {ps : Array Tmp} {args : List X} {vs : List Value} {ta : Array Value} (hm : HMem env h F w0) (ho : h.Outer) (hN : N ≤ 10000) (hta : ta.size = N)
    (hz : RepAs env h.toks w0 zs (ks.map fun k => ta.getD k undef)) (hzo : onlyL (fun k => ¬ ownKey k) (fun k => h.toks k ≠ none) zs) (ha : All2 (RepX env h.toks w0) args vs) (hao : ∀ x ∈ args, x.only (fun k => ¬ ownKey k) (fun k => h.toks k ≠ none)) (hp : ∀ p ∈ ps.toList, p < N) :
    Sim w0 ⟨env, h, F⟩ N env.outer (S.round ks zs ps.toList args h h.ext) { tmps := (ps.zip vs.toArray).foldl (fun tmps (t, a) => tmps.setIfInBounds t a) ta, defers := [] } w0 := by
  have hre : ReOn (fun k => ¬ ownKey k) (fun k => h.toks k ≠ none) env env.outer h.toks h.toks w0 w0 :=
    ⟨fun _ _ x => x, fun _ _ _ => rfl, fun k b hk hb => outer_ρ.2 ⟨hk, hb⟩, fun k t hq ht => ⟨t, ht, rfl, Nat.le_refl _, fun _ => by
      have : ¬ ownKey k := fun e => hq (ho.own k e).2
      exact if_neg this⟩⟩
  have s0 := init_sim (args := []) (vs := []) (n := N) (Nat.zero_le _) hN ho hm (fun _ h => by cases h) All2.nil
  have s1 : Sim w0 ⟨env, h, F⟩ N env.outer { tmps := fun t => match (ks.zip zs).find? (·.1 == t) with | some p => .k true (.x (.one p.2)) | none => .lost, objs := h.objs, toks := h.toks, ext := h.ext } { tmps := ta, defers := [] } w0 :=
    { s0 with
      defers := ⟨.inl rfl, .inl rfl⟩
      size := hta
      tmps := fun t => by
        simp only
        split
        · rename_i p hp
          refine RepT.mk ?_
          have e := find_fst hp
          rw [e] at hp
          have hin : p.2 ∈ zs := (List.of_mem_zip (e ▸ List.mem_of_find?_eq_some hp)).2
          exact RepA.re hre (onlyL_iff.1 hzo p.2 hin) (repAs_at hz hp)
        · trivial }
  have hzip : (ps.zip vs.toArray).foldl (fun tmps (t, a) => tmps.setIfInBounds t a) ta = (ps.toList.zip vs).foldl (fun tmps p => tmps.setIfInBounds p.1 p.2) ta := by
    rw [← Array.foldl_toList, Array.toList_zip]
  rw [hzip]
  exact fold_sim s1 hp (ha.imp fun x _ hx hr => RepX.re hre (hao x hx) hr)

/-- YIELD's CONTRACT, out of a walk of the round's body. -/
theorem yld_meets {ia ib : IC} {l r : Nat} {o : Loop} (ho : o.defers = r) (hst : o.state = .ready) (hpe : o.pending = none) (hN : N ≤ 10000) (hta : o.tmps.size = N) (hps : ∀ p ∈ o.params.toList, p < N)
    (ha' : ∀ (n : Nat) (w0 : World) (V0 : Base), HeldM G V0.M w0 → ∀ (Q : Exit → S → Prop) (σ : S) (env : Env) (a : Act) (w : World), wpI P G ia Q σ → Sim w0 V0 N env σ a w → o.assign.wpIn (FW (some l)) n P (Out' w0 V0 N Q) a w)
    (hb : ∀ (n : Nat) (w0 : World) (V0 : Base), HeldM G V0.M w0 → ∀ (Q : Exit → S → Prop) (σ : S) (env : Env) (a : Act) (w : World), wpI P G ib Q σ → Sim w0 V0 N env σ a w → o.body.wpIn (FW (some l)) n P (Out' w0 V0 N Q) a w)
    {ks : List Nat} {zs : List A} {args : List X} {h h' : Hp} {e : Exit} (hal : args.length = o.params.toList.length) (he : RoundExit e) (hh : h.ext = recX l r (o.behind .normal) ho) (hh' : h'.ext = recX l r (o.behind e) ho) (hr : Rnd zs args h h')
    (hw : wpI P G ia (fun e1 σ1 => e1 = .normal ∧ σ1.ext = recX l r (o.behind .normal) ho ∧ wpI P G ib (fun e' σ' => e' = e ∧ leftB h' (recX l r { o with state := .busy } ho) σ') { σ1 with ext := recX l r { o with state := .busy } ho }) (S.round ks zs o.params.toList args h (recX l r (o.behind .normal) ho))) : MeetsV P G (.yld l o.tmps ks zs) args h (rB (goesOn e)) h' := by
  refine ⟨onlyL_mono (l := zs) (fun _ _ => trivial) (fun _ h => h) hr.zs, fun x hx => X.only_mono (fun _ _ => trivial) (fun _ h => h) (hr.args x hx), fun k b hk r' hr' => onlyL_mono (fun _ _ => trivial) (fun _ h => h) (hr.only k b hk r' hr'), ?_⟩
  intro w env F v vs hG hmem hfr hv ha
  obtain ⟨rfl, hzr⟩ := hv
  have hx := hmem.ext
  rw [hh] at hx
  obtain ⟨x1, x2, x3, x4⟩ := hx
  have hob : o.behind .normal = o := by cases o; simp only at hst hpe; subst hst hpe; rfl
  rw [hob] at x3
  have hsz : vs.toArray.size = o.params.size := by have := ha.1; simp at this hal ⊢; omega
  have hout : h.Outer := ⟨hr.own, hr.only⟩
  refine ⟨rfl, rfl, _, _, _, _, Go.run_yield x3 hsz, fun n => ?_⟩
  have hs0 := round_sim (F := F) (ks := ks) hmem hout hN hta hzr hr.zs ha hr.args hps
  refine roundIn_of_wpIn (F := Fence.wide) trivial ?_
  have hmk : h.ext.mark = some r := by rw [hh]; rfl
  rw [hh] at hs0
  refine wpIn_mono (ha' n w ⟨env, h, F⟩ hG _ _ _ _ _ hw hs0) ?_
  rintro e1 a1 w1 ⟨σ1, env1, ⟨rfl, hx1, hw1⟩, hs0⟩
  have hdef0 : a1.defers = [] := by
    rcases hs0.defers.2 with hd | ⟨_, _, _, hd⟩
    · exact hd
    · rw [show (Base.mk env h F).h.ext.mark = h.ext.mark from rfl, hmk] at hd; cases hd
  obtain ⟨F1, q1, _⟩ := hs0.ext
  rw [hx1] at q1
  obtain ⟨x1, x2, x3, x4⟩ := q1
  rw [hob] at x3
  refine ⟨_, run_beginRound x3 hst, ?_⟩
  have hs1 : Sim w ⟨env, h, F⟩ N env1 { σ1 with ext := recX l r { o with state := .busy } ho } a1 (w1.putObj l (.loop { o with state := .busy })) := by
    refine hs0.turn (e' := recX l r { o with state := .busy } ho) rfl (fun F' hF' => ?_) ⟨.inl hmk.symm, .inl hdef0⟩
    rw [hx1] at hF'
    obtain ⟨y1, y2, y3, y4⟩ := hF'
    refine ⟨keptBut_put ((y1 l).2 (.inl rfl)), F', ⟨y1, y2, ?_, ?_⟩, fun c hc => .inl hc⟩
    · exact World.putObj_heap_same (heap_lt y3)
    · rw [World.putObj_heap_other (Ne.symm y2)]; exact y4
  refine wpIn_mono (hb n w ⟨env, h, F⟩ hG _ _ _ _ _ hw1 hs1) ?_
  rintro e' a' w3 ⟨σ', env', ⟨rfl, τ, hwk, hO, hT, hX⟩, hs2⟩
  obtain ⟨env2, hs3⟩ := Sim.weak hwk hs2
  have hdef : a'.defers = [] := by
    rcases hs3.defers.2 with hd | ⟨_, _, _, hd⟩
    · exact hd
    · rw [show (Base.mk env h F).h.ext.mark = h.ext.mark from rfl, hmk] at hd; cases hd
  obtain ⟨F3, f1, f2⟩ := hs3.ext
  rw [hX] at f1
  obtain ⟨y1, y2, y3, y4⟩ := f1
  have hend := run_endRound (P := P) (pendOf e') y3
  have hw4 : ({ ({ o with state := .busy } : Loop) with state := if (pendOf e').isNone then .ready else .done, pending := pendOf e' } : Loop) = o.behind e' := rfl
  rw [hw4] at hend
  have hs4 : Sim w ⟨env, h, F⟩ N env2 { τ with ext := recX l r (o.behind e') ho } a' (w3.putObj l (.loop (o.behind e'))) := by
    refine hs3.turn (e' := recX l r (o.behind e') ho) rfl (fun F' hF' => ?_) ⟨.inl hmk.symm, .inl hdef⟩
    rw [hX] at hF'
    obtain ⟨y1, y2, y3, y4⟩ := hF'
    refine ⟨keptBut_put ((y1 l).2 (.inl rfl)), F', ⟨y1, y2, ?_, ?_⟩, fun c hc => .inl hc⟩
    · exact World.putObj_heap_same (heap_lt y3)
    · rw [World.putObj_heap_other (Ne.symm y2)]; exact y4
  obtain ⟨env3, F2, hlf, hre⟩ := leave_sim hs4 hmem hout hfr hO hT hh' hr.keyT hr.only'
  have hres : ∀ b : Bool, RepR env3 h'.toks (w3.putObj l (.loop (o.behind e'))) (rB b) (.bool b) := fun b => RepC.v _ rfl
  cases e' with
  | normal => exact ⟨_, _, hend, _, env3, F2, rfl, hres true, hlf⟩
  | ret => exact ⟨_, _, hend, _, env3, F2, rfl, hres false, hlf⟩
  | exit id => exact ⟨_, _, hend, _, env3, F2, rfl, hres false, hlf⟩
  | goto _ => exact he.elim
  | panic _ => exact he.elim
  | outgrown => exact he.elim

end
end Go.Fx

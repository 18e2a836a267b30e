import Derived.Test.YtiomojlcnemnhaaGreatDoorRFxS
import Derived.Sort.LoopGhostIn
namespace Go.Fx
open Go.RowKit
def newsOf (ios:List IOper):List Nat:=ios.filterMap fun o=>match o.op with | .box .. | .zero .. | .make .. | .mkmap .. | .row .. | .rowb .. | .appb ..=>o.dst | _=>none
def fzOf (fl:Notes) (ios:List IOper):List Prep:=ios.flatMap fun o=>match o.dst with | some d=>(fl.fz.filter fun p=>p.1 == d).map (·.2) | none=>[]
def noRange:Code→Bool
  | .seq a b=>noRange a && noRange b
  | .cond _ a b=>noRange a && noRange b
  | .block _ a=>noRange a
  | .loop a=>noRange a
  | .rangeFunc ..=>false
  | _=>true
def cmpCode (P:Program) (fl:Notes) (N:Nat) (K:List Nat):Code→Option IC
  | .skip=>some .skip
  | .region _ ops draw =>
    match cmpOpers P fl ops N ops.toList with
    | some ios=>if draw = true→(regOk ops ios = true∧P.follows .mixedOrders = true) then some (.region (newsOf ios) (fzOf fl ios) K ios) else some .bad
    | none=>some .bad
  | .seq a b =>
    match cmpCode P fl N K a,cmpCode P fl N K b with
    | some a,some b=>some (.seq a b)
    | _,_=>none
  | .cond c a b =>
    match cmpD c,cmpCode P fl N K a,cmpCode P fl N K b with
    | some c,some a,some b=>some (.cond c a b)
    | _,_,_=>some .bad
  | .block id a=>(cmpCode P fl N K a).map (.block id)
  | .loop a=>(cmpCode P fl N K a).map .loop
  | .exit id=>some (.exit id)
  | .ret=>some .ret
  | .rangeFunc g ps assign body =>
    match cmpD g,cmpCode P fl N K assign,cmpCode P fl N K body with
    | some g,some a,some b=>if noRange assign = true∧noRange body = true∧(ps.toList.all fun p=>decide (p < N)) = true then some (.rangeF g ps.toList a b) else some .bad
    | _,_,_=>some .bad
  | _=>some .bad
def cmpFunc (P:Program) (fl:Notes) (fn:Func) (K:List Nat):Option IC:=if fn.name ≠ "runtime.NumGoroutine" ∧ fn.ntmps≤10000 then fn.body.bind (cmpCode P fl fn.ntmps K) else none
section
variable {P:Program} {G:World→Prop} {w0:World} {V0:Base} {N:Nat} {env:Env} {σ σ' τ:S} {a:Act} {w:World} {fl:Notes} {rd:Option Nat} {rn:Nat}
theorem Sim.keep (h:Sim w0 V0 N env σ a w) (ks:List Nat):Sim w0 V0 N env (σ.keep ks) a w :=
  { h with tmps:=fun t=>(by
      simp only [S.keep]
      split
      · exact h.tmps t
      · trivial) }
def Env.strike (ks:List Nat) (env:Env):Env:={ env with ρ:=fun k=>if k∈ks then none else env.ρ k,τ:=fun k=>if k∈ks then none else env.τ k }
mutual
theorem RepA.strike {ks:List Nat} {toks:Nat→Option Tok}:∀ {x:A} {v:Value},RepA env toks w x v→RepA (env.strike ks) (fun k=>if k∈ks then none else toks k) w (x.strike ks) v
  | .c y,v,h=>h
  | .nil,v,h=>h
  | .own k es,v,h=>by
    simp only [A.strike]
    split
    · exact h.1
    · rename_i hk
      obtain ⟨h1,t,h2,h3,h4,h5⟩:=h
      exact ⟨h1,t,by simp only [if_neg hk]; exact h2,h3,h4,fun e=>by simp only [Env.strike,if_neg hk]; exact h5 e⟩
  | .ref k i off,v,h=>by
    simp only [A.strike]
    split
    · exact RepA.oneCell h
    · rename_i hk
      obtain ⟨b,s,h1,h2⟩:=h
      exact ⟨b,s,by simp only [Env.strike,if_neg hk]; exact h1,h2⟩
  | .mapr k,v,h=>by
    simp only [A.strike]
    split
    · exact RepA.oneCell h
    · rename_i hk
      obtain ⟨b,s,h1,h2⟩:=h
      exact ⟨b,s,by simp only [Env.strike,if_neg hk]; exact h1,h2⟩
  | .arr k off n c,v,h=>by
    simp only [A.strike]
    split
    · exact RepA.oneCell h
    · rename_i hk
      obtain ⟨b,s,c',h1,h2⟩:=h
      exact ⟨b,s,c',by simp only [Env.strike,if_neg hk]; exact h1,h2⟩
  | .elem es sp i off,v,h=>h
  | .clo f fs cs,v,h=>by
    obtain ⟨us,vs,h1,h2,h3⟩:=h
    exact ⟨us,vs,h1,RepAs.strike h2,RepAs.strike h3⟩
  | .yld l ta js xs,v,h=>by
    obtain ⟨h1,h2⟩:=h
    exact ⟨h1,RepAs.strike h2⟩
  | .ifc t x,v,h=>by
    obtain ⟨u,h1,h2⟩:=h
    exact ⟨u,h1,RepA.strike h2⟩
  | .lost,v,h=>h
theorem RepAs.strike {ks:List Nat} {toks:Nat→Option Tok}:∀ {xs:List A} {vs:List Value},RepAs env toks w xs vs→RepAs (env.strike ks) (fun k=>if k∈ks then none else toks k) w (strikeL ks xs) vs
  | [],[],_=>trivial
  | _ :: _,_ :: _,h=>⟨RepA.strike h.1,RepAs.strike h.2⟩
end
theorem RepX.strike {ks:List Nat} {toks:Nat→Option Tok} {x:X} {v:Value} (h:RepX env toks w x v):RepX (env.strike ks) (fun k=>if k∈ks then none else toks k) w (x.strike ks) v:=by
  cases x with
  | one y=>exact RepA.strike h
  | agg cs =>
    obtain ⟨us,e,hu⟩:=h
    refine ⟨us,e,?_⟩
    rw [strikeL_map]
    exact All2.map_left (hu.imp fun _ _ _=>RepA.strike)
theorem RepT.strike {ks:List Nat} {toks:Nat→Option Tok} {t:T} {v:Value} (h:RepT env toks w t v):RepT (env.strike ks) (fun k=>if k∈ks then none else toks k) w (t.strike ks) v:=by
  cases t with
  | lost=>trivial
  | k g r =>
    cases g with
    | false=>exact h
    | true =>
      refine RepT.mk ?_
      have h:=RepT.tt h
      cases r with
      | x y=>exact RepX.strike h
      | tup xs =>
        obtain ⟨vs,e,hv⟩:=h
        exact ⟨vs,e,All2.map_left (hv.imp fun _ _ _=>RepX.strike)⟩
theorem Sim.strike (h:Sim w0 V0 N env σ a w) (ks:List Nat) (hks:∀ k∈ks,ownKey k):∃ env',Sim w0 V0 N env' (σ.strike ks) a w:=by
  unfold S.strike
  split
  · exact ⟨env,h⟩
  · have hρ:∀ k p,(env.strike ks).ρ k = some p→env.ρ k = some p:=fun k p hk=>by
      simp only [Env.strike] at hk
      split at hk
      · cases hk
      · exact hk
    have hτ:∀ k p,(env.strike ks).τ k = some p→env.τ k = some p:=fun k p hk=>by
      simp only [Env.strike] at hk
      split at hk
      · cases hk
      · exact hk
    refine ⟨env.strike ks,{
      below:=h.below,defers:=h.defers,size:=h.size,nn:=h.nn,vlt:=h.vlt,vnew:=h.vnew,vold:=h.vold,v0:=h.v0,vcell:=h.vcell,own:=h.own
      tmps:=fun t=>(h.tmps t).strike,objs:=fun k x hx=>?_,dom:=fun k ho hk=>?_,ρlt:=fun k b s hk=>h.ρlt k b s (hρ k _ hk),inj:=fun k k' b s s' hk hk'=>h.inj k k' b s s' (hρ k _ hk) (hρ k' _ hk'),
      toks:=fun k t ht=>?_,tdom:=fun k ho hk=>?_,τlt:=fun k v b hk hv=>h.τlt k v b (hτ k _ hk) hv,tinj:=fun k k' v v' b hk hk' hv hv'=>h.tinj k k' v v' b (hτ k _ hk) (hτ k' _ hk') hv hv',sep:=fun k k' v b s hk hv hr=>h.sep k k' v b s (hτ k _ hk) hv (hρ k' _ hr),
      ext:=?_,keepO:=fun k hk=>?_,keepN:=fun k hk h0=>?_,keepT:=fun k t t' h0 h1=>?_ }⟩
    · simp only at hx
      split at hx
      · cases hx
      · rename_i hk
        cases hb:σ.objs k with
        | none=>rw [hb] at hx; cases hx
        | some y =>
          rw [hb] at hx
          simp only [Option.map_some,Option.some.injEq] at hx
          subst hx
          obtain ⟨b,us,h1,h2,h3,h4,h5,h6⟩:=h.objs k y hb
          refine ⟨b,us,by simp only [Env.strike,if_neg hk]; exact h1,h2,h3.struck ks,?_,fun r hr=>?_,h6⟩
          · have:(y.rows.map (strikeL ks)).flatten = y.rows.flatten.map (A.strike ks):=by
              rw [List.map_flatten]; congr 1; exact List.map_congr_left fun r _=>strikeL_map _ r
            rw [this]
            exact All2.map_left (h4.imp fun _ _ _=>RepA.strike)
          · obtain ⟨r',hr',rfl⟩:=List.mem_map.1 hr
            rw [strikeL_map,List.length_map]; exact h5 r' hr'
    · simp only [Env.strike] at hk ⊢
      split
      · rfl
      · rename_i hkk
        rw [if_neg hkk] at hk
        cases hb:σ.objs k with
        | none=>exact h.dom k ho hb
        | some y=>rw [hb] at hk; cases hk
    · simp only at ht
      split at ht
      · cases ht
      · rename_i hk
        obtain ⟨v,xs,h1,h2,h3⟩:=h.toks k t ht
        exact ⟨v,xs,by simp only [Env.strike,if_neg hk]; exact h1,h2,fun b hb=>⟨(h3 b hb).1,(h3 b hb).2.1,fun k' s e=>(h3 b hb).2.2 k' s (hρ k' _ e)⟩⟩
    · simp only [Env.strike] at hk ⊢
      split
      · rfl
      · rename_i hkk
        rw [if_neg hkk] at hk
        exact h.tdom k ho hk
    · obtain ⟨F,f1,f2⟩:=h.ext
      refine ⟨F,f1,fun b hb=>?_⟩
      obtain ⟨g1,g2,g3,g4,g5⟩:=f2 b hb
      exact ⟨g1,g2,g3,fun k s e=>g4 k s (hρ k _ e),fun k v e=>g5 k v (hτ k _ e)⟩
    · have:k ∉ ks:=fun e=>hk (hks k e)
      simp only [Env.strike,if_neg this]
      exact h.keepO k hk
    · have:k ∉ ks:=fun e=>hk (hks k e)
      simp only [Env.strike,if_neg this]
      exact h.keepN k hk h0
    · simp only at h1
      split at h1
      · cases h1
      · rename_i hk
        simp only [Env.strike,if_neg hk]
        exact h.keepT k t t' h0 h1
theorem Sim.promote (h:Sim w0 V0 N env σ a w) (k j:Nat) (ty:TypeId) (size:Nat):∃ env',Sim w0 V0 N env' (σ.promote k j ty size) a w:=by
  unfold S.promote
  split
  case h_2=>exact ⟨env,h⟩
  rename_i t s m hk hj
  split
  case isFalse=>exact ⟨env,h⟩
  rename_i hown
  have hkn:=h.tdom k hown hk
  let env':Env:={ env with τ:=fun i=>if i = k then some (.slice none 0 0) else env.τ i }
  have τne:∀ i,i≠k→env'.τ i = env.τ i:=fun i hi=>if_neg hi
  have τk:env'.τ k = some (.slice none 0 0):=if_pos rfl
  have hle:env.Le env' σ.toks (fun i=>if i = k then some ⟨ty,size,0⟩ else σ.toks i) w w:=⟨fun _ _ x=>x,fun _ _ _=>rfl,fun _ _ x=>x,fun i t ht=>by
    have:i≠k:=fun e=>by rw [e,hk] at ht; cases ht
    exact ⟨t,by rw [if_neg this]; exact ht,rfl,Nat.le_refl _,fun _=>τne i this⟩⟩
  refine ⟨env',{
    below:=h.below,defers:=h.defers,size:=h.size,nn:=h.nn,vlt:=h.vlt,vnew:=h.vnew,vold:=h.vold,v0:=h.v0,vcell:=h.vcell,own:=h.own,ρlt:=h.ρlt,inj:=h.inj,ext:=?_,keepO:=h.keepO
    tmps:=fun i=>(h.tmps i).mono hle
    objs:=fun i x hx=>?_
    dom:=fun i ho hi=>?_
    toks:=fun i x hx=>?_
    tdom:=fun i ho hi=>?_
    τlt:=fun i v b hi hv=>?_
    tinj:=fun i i' v v' b hi hi' hv hv'=>?_
    sep:=fun i i' v b s hi hv=>?_
    keepN:=fun i hi h0=>?_
    keepT:=fun i t0 t1 h0 h1=>?_ }⟩
  · simp only at hx
    split at hx
    · rename_i e
      subst e
      injection hx with hx; subst hx
      obtain ⟨b,us,h1,h2,h3,h4,h5,h6⟩:=h.objs i _ hj
      refine ⟨b,us,h1,h2,?_,?_,fun r hr=>?_,h6⟩
      · obtain ⟨ob,q1,q2⟩:=h3
        refine ⟨ob,q1,?_⟩
        unfold Holds at q2 ⊢
        simp only at q2 ⊢
        split at q2
        · exact q2
        · obtain ⟨_,q3⟩:=q2
          obtain ⟨y,t',e⟩:=q3 [.nil] (by simp)
          cases e
      · obtain ⟨v,vs',rfl,g1,g2⟩:=h4.head
        obtain rfl:vs' = []:=All2.nil_left g2
        refine All2.cons ?_ All2.nil
        cases g1
        exact ⟨.nil 0,⟨ty,size,0⟩,by simp,by simp,by simp,fun _=>τk⟩
      · simp only [List.mem_singleton] at hr; subst hr
        simpa using h5 [.nil] (by simp)
    · obtain ⟨b,us,h1,h2,h3,h4,h5,h6⟩:=h.objs i x hx
      exact ⟨b,us,h1,h2,h3,h4.imp fun _ _ _=>RepA.mono hle,h5,h6⟩
  · simp only at hi
    split at hi
    · cases hi
    · exact h.dom i ho hi
  · simp only at hx
    split at hx
    · rename_i e
      subst e
      injection hx with hx; subst hx
      exact ⟨_,[],τk,World.ownsRow_nil _ _ _ _,fun b hb=>by simp [Value.ownBlock] at hb⟩
    · rename_i e
      obtain ⟨v,xs,h1,h2,h3⟩:=h.toks i x hx
      exact ⟨v,xs,by rw [τne i e]; exact h1,h2,h3⟩
  · simp only at hi
    split at hi
    · cases hi
    · rename_i e; rw [τne i e]; exact h.tdom i ho hi
  · by_cases e:i = k
    · subst e; rw [τk] at hi; injection hi with hi; subst hi; simp [Value.ownBlock] at hv
    · rw [τne i e] at hi; exact h.τlt i v b hi hv
  · by_cases e:i = k
    · subst e; rw [τk] at hi; injection hi with hi; subst hi; simp [Value.ownBlock] at hv
    · by_cases e':i' = k
      · subst e'; rw [τk] at hi'; injection hi' with hi'; subst hi'; simp [Value.ownBlock] at hv'
      · rw [τne i e] at hi; rw [τne i' e'] at hi'; exact h.tinj i i' v v' b hi hi' hv hv'
  · by_cases e:i = k
    · subst e; rw [τk] at hi; injection hi with hi; subst hi; simp [Value.ownBlock] at hv
    · rw [τne i e] at hi; exact h.sep i i' v b s hi hv
  · obtain ⟨F,f1,f2⟩:=h.ext
    refine ⟨F,f1,fun b hb=>?_⟩
    obtain ⟨g1,g2,g3,g4,g5⟩:=f2 b hb
    refine ⟨g1,g2,g3,g4,fun i v hi=>?_⟩
    by_cases e:i = k
    · subst e; rw [τk] at hi; injection hi with hi; subst hi; simp [Value.ownBlock]
    · rw [τne i e] at hi; exact g5 i v hi
  · have e:i≠k:=fun e=>hi (e ▸ hown)
    obtain ⟨g1,g2⟩:=h.keepN i hi h0
    exact ⟨(τne i e).trans g1,by simp only [if_neg e]; exact g2⟩
  · have e:i≠k:=fun e=>by subst e; rw [(h.own i hown).2] at h0; cases h0
    simp only [if_neg e] at h1
    rw [τne i e]
    exact h.keepT i t0 t1 h0 h1
theorem Sim.promoteT (h:Sim w0 V0 N env σ a w) (k t:Nat) (ty:TypeId) (size:Nat):∃ env',Sim w0 V0 N env' (σ.promoteT k t ty size) a w:=by
  unfold S.promoteT
  split
  case h_2=>exact ⟨env,h⟩
  rename_i hk hj
  split
  case isFalse=>exact ⟨env,h⟩
  rename_i hown
  have hkn:=h.tdom k hown hk
  let env':Env:={ env with τ:=fun i=>if i = k then some (.slice none 0 0) else env.τ i }
  have τne:∀ i,i≠k→env'.τ i = env.τ i:=fun i hi=>if_neg hi
  have τk:env'.τ k = some (.slice none 0 0):=if_pos rfl
  have hle:env.Le env' σ.toks (fun i=>if i = k then some ⟨ty,size,0⟩ else σ.toks i) w w:=⟨fun _ _ x=>x,fun _ _ _=>rfl,fun _ _ x=>x,fun i t ht=>by
    have:i≠k:=fun e=>by rw [e,hk] at ht; cases ht
    exact ⟨t,by rw [if_neg this]; exact ht,rfl,Nat.le_refl _,fun _=>τne i this⟩⟩
  refine ⟨env',{
    below:=h.below,defers:=h.defers,size:=h.size,nn:=h.nn,vlt:=h.vlt,vnew:=h.vnew,vold:=h.vold,v0:=h.v0,vcell:=h.vcell,own:=h.own,ρlt:=h.ρlt,inj:=h.inj,ext:=?_,keepO:=h.keepO
    tmps:=fun i=>?_
    objs:=fun i x hx=>?_
    dom:=h.dom
    toks:=fun i x hx=>?_
    tdom:=fun i ho hi=>?_
    τlt:=fun i v b hi hv=>?_
    tinj:=fun i i' v v' b hi hi' hv hv'=>?_
    sep:=fun i i' v b s hi hv=>?_
    keepN:=fun i hi h0=>?_
    keepT:=fun i t0 t1 h0 h1=>?_ }⟩
  · simp only
    split
    · rename_i e
      subst e
      have h1:=h.tmps i
      rw [hj] at h1
      have h2:a.tmps.getD i undef = .slice none 0 0:=h1
      rw [h2]
      exact ⟨.nil 0,⟨ty,size,0⟩,by simp,by simp,by simp,fun _=>τk⟩
    · exact (h.tmps i).mono hle
  · obtain ⟨b,us,h1,h2,h3,h4,h5,h6⟩:=h.objs i x hx
    exact ⟨b,us,h1,h2,h3,h4.imp fun _ _ _=>RepA.mono hle,h5,h6⟩
  · simp only at hx
    split at hx
    · rename_i e
      subst e
      injection hx with hx; subst hx
      exact ⟨_,[],τk,World.ownsRow_nil _ _ _ _,fun b hb=>by simp [Value.ownBlock] at hb⟩
    · rename_i e
      obtain ⟨v,xs,h1,h2,h3⟩:=h.toks i x hx
      exact ⟨v,xs,by rw [τne i e]; exact h1,h2,h3⟩
  · simp only at hi
    split at hi
    · cases hi
    · rename_i e; rw [τne i e]; exact h.tdom i ho hi
  · by_cases e:i = k
    · subst e; rw [τk] at hi; injection hi with hi; subst hi; simp [Value.ownBlock] at hv
    · rw [τne i e] at hi; exact h.τlt i v b hi hv
  · by_cases e:i = k
    · subst e; rw [τk] at hi; injection hi with hi; subst hi; simp [Value.ownBlock] at hv
    · by_cases e':i' = k
      · subst e'; rw [τk] at hi'; injection hi' with hi'; subst hi'; simp [Value.ownBlock] at hv'
      · rw [τne i e] at hi; rw [τne i' e'] at hi'; exact h.tinj i i' v v' b hi hi' hv hv'
  · by_cases e:i = k
    · subst e; rw [τk] at hi; injection hi with hi; subst hi; simp [Value.ownBlock] at hv
    · rw [τne i e] at hi; exact h.sep i i' v b s hi hv
  · obtain ⟨F,f1,f2⟩:=h.ext
    refine ⟨F,f1,fun b hb=>?_⟩
    obtain ⟨g1,g2,g3,g4,g5⟩:=f2 b hb
    refine ⟨g1,g2,g3,g4,fun i v hi=>?_⟩
    by_cases e:i = k
    · subst e; rw [τk] at hi; injection hi with hi; subst hi; simp [Value.ownBlock]
    · rw [τne i e] at hi; exact g5 i v hi
  · have e:i≠k:=fun e=>hi (e ▸ hown)
    obtain ⟨g1,g2⟩:=h.keepN i hi h0
    exact ⟨(τne i e).trans g1,by simp only [if_neg e]; exact g2⟩
  · have e:i≠k:=fun e=>by subst e; rw [(h.own i hown).2] at h0; cases h0
    simp only [if_neg e] at h1
    rw [τne i e]
    exact h.keepT i t0 t1 h0 h1
theorem Sim.promoteO (h:Sim w0 V0 N env σ a w) (k j off:Nat) (ty:TypeId) (size:Nat):∃ env',Sim w0 V0 N env' (σ.promoteO k j off ty size) a w:=by
  unfold S.promoteO
  split
  case h_2=>exact ⟨env,h⟩
  rename_i t s r hk hj
  split
  case isFalse=>exact ⟨env,h⟩
  rename_i hc
  obtain ⟨hown,hnil⟩:=hc
  have hr0:r[off]? = some .nil:=by
    unfold nilAt at hnil
    split at hnil
    · assumption
    · cases hnil
  have hkn:=h.tdom k hown hk
  let env':Env:={ env with τ:=fun i=>if i = k then some (.slice none 0 0) else env.τ i }
  have τne:∀ i,i≠k→env'.τ i = env.τ i:=fun i hi=>if_neg hi
  have τk:env'.τ k = some (.slice none 0 0):=if_pos rfl
  have hle:env.Le env' σ.toks (fun i=>if i = k then some ⟨ty,size,0⟩ else σ.toks i) w w:=⟨fun _ _ x=>x,fun _ _ _=>rfl,fun _ _ x=>x,fun i t ht=>by
    have:i≠k:=fun e=>by rw [e,hk] at ht; cases ht
    exact ⟨t,by rw [if_neg this]; exact ht,rfl,Nat.le_refl _,fun _=>τne i this⟩⟩
  refine ⟨env',{
    below:=h.below,defers:=h.defers,size:=h.size,nn:=h.nn,vlt:=h.vlt,vnew:=h.vnew,vold:=h.vold,v0:=h.v0,vcell:=h.vcell,own:=h.own,ρlt:=h.ρlt,inj:=h.inj,ext:=?_,keepO:=h.keepO
    tmps:=fun i=>(h.tmps i).mono hle
    objs:=fun i x hx=>?_
    dom:=fun i ho hi=>?_
    toks:=fun i x hx=>?_
    tdom:=fun i ho hi=>?_
    τlt:=fun i v b hi hv=>?_
    tinj:=fun i i' v v' b hi hi' hv hv'=>?_
    sep:=fun i i' v b s hi hv=>?_
    keepN:=fun i hi h0=>?_
    keepT:=fun i t0 t1 h0 h1=>?_ }⟩
  · simp only at hx
    split at hx
    · rename_i e
      subst e
      injection hx with hx; subst hx
      obtain ⟨b,us,h1,h2,h3,h4,h5,h6⟩:=h.objs i _ hj
      simp only [List.flatten_cons,List.flatten_nil,List.append_nil] at h4
      refine ⟨b,us,h1,h2,?_,?_,fun r' hr=>?_,h6⟩
      · obtain ⟨ob,q1,q2⟩:=h3
        exact ⟨ob,q1,q2⟩
      · simp only [List.flatten_cons,List.flatten_nil,List.append_nil]
        obtain ⟨v,hv,g1⟩:=h4.get hr0
        cases g1
        have h7:=(h4.imp fun _ _ _=>RepA.mono hle).set off (x:=.own k []) (y:=.slice none 0 0) ⟨.nil 0,⟨ty,size,0⟩,by simp,by simp,by simp,fun _=>τk⟩
        have h8:us.set off (.slice none 0 0) = us:=by
          apply List.ext_getElem?
          intro m
          rw [List.getElem?_set]
          split
          · rename_i e; subst e
            split
            · exact hv.symm
            · rename_i hl; rw [List.getElem?_eq_none (by omega)]
          · rfl
        rw [h8] at h7
        exact h7
      · simp only [List.mem_singleton] at hr; subst hr
        simpa using h5 r (by simp)
    · obtain ⟨b,us,h1,h2,h3,h4,h5,h6⟩:=h.objs i x hx
      exact ⟨b,us,h1,h2,h3,h4.imp fun _ _ _=>RepA.mono hle,h5,h6⟩
  · simp only at hi
    split at hi
    · cases hi
    · exact h.dom i ho hi
  · simp only at hx
    split at hx
    · rename_i e
      subst e
      injection hx with hx; subst hx
      exact ⟨_,[],τk,World.ownsRow_nil _ _ _ _,fun b hb=>by simp [Value.ownBlock] at hb⟩
    · rename_i e
      obtain ⟨v,xs,h1,h2,h3⟩:=h.toks i x hx
      exact ⟨v,xs,by rw [τne i e]; exact h1,h2,h3⟩
  · simp only at hi
    split at hi
    · cases hi
    · rename_i e; rw [τne i e]; exact h.tdom i ho hi
  · by_cases e:i = k
    · subst e; rw [τk] at hi; injection hi with hi; subst hi; simp [Value.ownBlock] at hv
    · rw [τne i e] at hi; exact h.τlt i v b hi hv
  · by_cases e:i = k
    · subst e; rw [τk] at hi; injection hi with hi; subst hi; simp [Value.ownBlock] at hv
    · by_cases e':i' = k
      · subst e'; rw [τk] at hi'; injection hi' with hi'; subst hi'; simp [Value.ownBlock] at hv'
      · rw [τne i e] at hi; rw [τne i' e'] at hi'; exact h.tinj i i' v v' b hi hi' hv hv'
  · by_cases e:i = k
    · subst e; rw [τk] at hi; injection hi with hi; subst hi; simp [Value.ownBlock] at hv
    · rw [τne i e] at hi; exact h.sep i i' v b s hi hv
  · obtain ⟨F,f1,f2⟩:=h.ext
    refine ⟨F,f1,fun b hb=>?_⟩
    obtain ⟨g1,g2,g3,g4,g5⟩:=f2 b hb
    refine ⟨g1,g2,g3,g4,fun i v hi=>?_⟩
    by_cases e:i = k
    · subst e; rw [τk] at hi; injection hi with hi; subst hi; simp [Value.ownBlock]
    · rw [τne i e] at hi; exact g5 i v hi
  · have e:i≠k:=fun e=>hi (e ▸ hown)
    obtain ⟨g1,g2⟩:=h.keepN i hi h0
    exact ⟨(τne i e).trans g1,by simp only [if_neg e]; exact g2⟩
  · have e:i≠k:=fun e=>by subst e; rw [(h.own i hown).2] at h0; cases h0
    simp only [if_neg e] at h1
    rw [τne i e]
    exact h.keepT i t0 t1 h0 h1
theorem Sim.prep:∀ (l:List Prep) {σ:S} {env:Env},Sim w0 V0 N env σ a w→∃ env',Sim w0 V0 N env' (σ.prep l) a w
  | [],_,env,h=>⟨env,h⟩
  | .fz ks :: l,_,_,h=>Sim.prep l (h.freeze ks)
  | .pm k j ty size :: l,_,_,h=>by obtain ⟨e,h1⟩:=h.promote k j ty size; exact Sim.prep l h1
theorem Sim.weak {σ τ:S} (hw:Weak σ τ):∀ {env:Env},Sim w0 V0 N env σ a w→∃ env',Sim w0 V0 N env' τ a w:=by
  induction hw with
  | refl σ=>intro env h; exact ⟨env,h⟩
  | strike ks σ hk=>intro env h; exact h.strike ks hk
  | freeze ks σ=>intro env h; exact ⟨_,h.freeze ks⟩
  | keep ks σ=>intro env h; exact ⟨env,h.keep ks⟩
  | proT k t ty size σ=>intro env h; exact h.promoteT k t ty size
  | proO k j off ty size σ=>intro env h; exact h.promoteO k j off ty size
  | trans h1 h2 ih1 ih2=>intro env h; obtain ⟨e1,g1⟩:=ih1 h; exact ih2 g1
def Out' (w0:World) (V0:Base) (N:Nat) (Q:Exit→S→Prop) (e:Exit) (a:Act) (w:World):Prop:=∃ σ env,Q e σ∧Sim w0 V0 N env σ a w
theorem cmpOpers_own {ops:Array Oper}:∀ {l:List Oper} {ios:List IOper},cmpOpers P fl ops N l = some ios→∀ io∈ios,∀ d,io.dst = some d→d < N
  | [],ios,h,io,hm,_,_=>by simp [cmpOpers] at h; subst h; cases hm
  | x :: l,ios,h,io,hm,d,hd=>by
    unfold cmpOpers at h
    split at h
    · rename_i i0 is0 h1 h2
      injection h with h; subst h
      rcases List.mem_cons.1 hm with e | hm
      · subst e
        unfold cmpOper at h1
        split at h1
        · split at h1
          · injection h1 with h1; subst h1; cases hd
          · split at h1
            · rename_i hlt
              injection h1 with h1; subst h1; injection hd with hd; subst hd; exact hlt
            · cases h1
        · cases h1
      · exact cmpOpers_own h2 io hm d hd
    · cases h
inductive IRes where
  | tmp (t:Nat)
  | cell (t:Nat) (n:Option Nat)
def cmpRes (P:Program):List ResultVar→Option (List IRes)
  | []=>some []
  | .tmp t :: l=>(cmpRes P l).map (.tmp t :: ·)
  | .cell t ty :: l =>
    match cellsIn P ty,cmpRes P l with
    | some n,some r=>some (.cell t n :: r)
    | _,_=>none
def resO (σ:S):IRes→Out
  | .tmp t=>⟨(σ.tmps t).g = true,(σ.tmps t).r⟩
  | .cell t n=>⟨(σ.tmps t).g = true∧(loadO σ n (σ.tmps t).r).need,(loadO σ n (σ.tmps t).r).val⟩
def resSem (a:Act):ResultVar→Sem Value
  | .tmp t=>pure (a.tmps.getD t undef)
  | .cell x t=>do loadVar t (← asAddr (a.tmps.getD x undef))
theorem res_sound (hs:Sim w0 V0 N env σ a w) {rv:ResultVar} {r:IRes} {l:List ResultVar} {rs:List IRes} (hc:cmpRes P (rv :: l) = some (r :: rs)) (hn:(resO σ r).need) :
    ∃ v,(resSem a rv).run P w = .ok v w∧RepR env σ.toks w (resO σ r).val v∧cmpRes P l = some rs:=by
  cases rv with
  | tmp t =>
    simp only [cmpRes] at hc
    cases hl:cmpRes P l with
    | none=>rw [hl] at hc; cases hc
    | some rs' =>
      rw [hl] at hc
      simp only [Option.map_some,Option.some.injEq,List.cons.injEq] at hc
      obtain ⟨rfl,rfl⟩:=hc
      exact ⟨_,by simp [resSem],(hs.tmps t).r hn,rfl⟩
  | cell t ty =>
    simp only [cmpRes] at hc
    split at hc
    · rename_i n rs' h1 h2
      simp only [Option.some.injEq,List.cons.injEq] at hc
      obtain ⟨rfl,rfl⟩:=hc
      obtain ⟨hg,hn⟩:=hn
      obtain ⟨v,hv,hrep⟩:=loadO_sound (P:=P) ty hs ((hs.tmps t).r hg) hn h1
      refine ⟨v,?_,hrep,h2⟩
      -- a load from a pointer
      have:∃ ad,a.tmps.getD t undef = .pointer (some ad):=by
        generalize a.tmps.getD t undef = pv at hv
        cases pv with
        | pointer q =>
          cases q with
          | some ad=>exact ⟨ad,rfl⟩
          | none=>simp [Instr.loadAt,Instr.sureAddr] at hv
        | _=>simp [Instr.loadAt,Instr.sureAddr] at hv
      obtain ⟨ad,e⟩:=this
      rw [e] at hv
      simp only [resSem]
      rw [e]
      simpa [Instr.loadAt,Instr.sureAddr,asAddr] using hv
    · cases hc
theorem ress_sound (hs:Sim w0 V0 N env σ a w):∀ (rvs:List ResultVar) (ress:List IRes),cmpRes P rvs = some ress→(∀ r∈ress,(resO σ r).need) →
    ∃ vs:List Value,(rvs.mapM (resSem a)).run P w = .ok vs w ∧
      All2 (fun r v=>RepR env σ.toks w (resO σ r).val v) ress vs
  | [],ress,h,_=>by
    simp [cmpRes] at h; subst h
    exact ⟨[],by simp,All2.nil⟩
  | rv :: rvs,ress,h,hn=>by
    have hne:∃ r rs,ress = r :: rs:=by
      cases rv with
      | tmp t =>
        simp only [cmpRes] at h
        cases hl:cmpRes P rvs with
        | none=>rw [hl] at h; cases h
        | some rs=>rw [hl] at h; simp at h; exact ⟨_,_,h.symm⟩
      | cell t ty =>
        simp only [cmpRes] at h
        split at h
        · injection h with h; exact ⟨_,_,h.symm⟩
        · cases h
    obtain ⟨r,rs,rfl⟩:=hne
    obtain ⟨v,h1,h2,h3⟩:=res_sound (P:=P) hs h (hn r (by simp))
    obtain ⟨vs,h4,h5⟩:=ress_sound hs rvs rs h3 (fun q hq=>hn q (List.mem_cons_of_mem _ hq))
    exact ⟨v :: vs,by rw [List.mapM_cons,Sem.run_bind,h1,Result.andThen_ok,Sem.run_bind,h4,Result.andThen_ok,Sem.run_pure],All2.cons h2 h5⟩
def fitRes:List R→R→Prop
  | [.x y],.x z=>y.fits z
  | [_],_=>False
  | l,.tup zs=>fitsR l zs
  | _,_=>False
theorem fitsRs_rep {toks:Nat→Option Tok}:∀ {rs:List R} {zs:List X} {vs:List Value},fitsR rs zs→All2 (RepR env toks w) rs vs→All2 (RepX env toks w) zs vs
  | [],[],vs,_,h=>by rw [h.nil_left]; exact All2.nil
  | .x y :: rs,z :: zs,vs,hf,h=>by
    obtain ⟨v,vs',rfl,h1,h2⟩:=h.head
    exact All2.cons (fitsX_rep hf.1 h1) (fitsRs_rep hf.2 h2)
  | [],_ :: _,_,hf,_=>hf.elim
  | .x _ :: _,[],_,hf,_=>hf.elim
  | .tup _ :: _,[],_,hf,_=>hf.elim
  | .tup _ :: _,_ :: _,_,hf,_=>hf.elim
def retH (ress:List IRes) (res:R) (h':Hp) (σ:S):Prop :=
  ∃ τ,Weak σ τ∧(∀ r∈ress,(resO τ r).need)∧fitRes (ress.map fun r=>(resO τ r).val) res ∧
    (∀ k b,h'.objs k = some b→τ.objs k = some b)∧(∀ k t,h'.toks k = some t→τ.toks k = some t)∧(h'.ext = τ.ext∨(τ.ext.mark≠none∧h'.ext = XP.emp))
theorem results_run {fn:Func} {vs:List Value} (h1:(fn.results.toList.mapM (resSem a)).run P w = .ok vs w):(results fn a.tmps).run P w = .ok (if h:vs.toArray.size = 1 then vs.toArray[0] else .tuple vs.toArray) w:=by
  have e:results fn a.tmps = (do
      let vs ← fn.results.mapM (resSem a)
      pure (if h:vs.size = 1 then vs[0] else .tuple vs)):=by
    unfold results
    congr 1
  rw [e,Array.mapM_eq_mapM_toList]
  simp only [Sem.run_bind,Sem.run_map,h1,Result.andThen_ok,Sem.run_pure]
theorem ret_sound (hs:Sim w0 V0 N env σ a w) {fn:Func} {ress:List IRes} {res:R} (hc:cmpRes P fn.results.toList = some ress) (hn:∀ r∈ress,(resO σ r).need) (hf:fitRes (ress.map fun r=>(resO σ r).val) res) :
    ∃ v,(results fn a.tmps).run P w = .ok v w∧RepR env σ.toks w res v:=by
  obtain ⟨vs,h1,h2⟩:=ress_sound (P:=P) hs _ ress hc hn
  refine ⟨_,results_run h1,?_⟩
  have h3:All2 (RepR env σ.toks w) (ress.map fun r=>(resO σ r).val) vs:=All2.map_left h2
  generalize (ress.map fun r=>(resO σ r).val) = rs at hf h3
  unfold fitRes at hf
  split at hf
  · rename_i y z
    obtain ⟨v,vs',rfl,h4,h5⟩:=h3.head
    rw [h5.nil_left]
    simp only [List.size_toArray,List.length_singleton,dite_true]
    exact fitsX_rep hf h4
  · exact hf.elim
  · rename_i l zs hne
    have hlen:¬ vs.toArray.size = 1:=by
      rw [List.size_toArray,← h3.1]
      intro e
      match rs,e with
      | [r],_=>exact hne r rfl
    rw [dif_neg hlen]
    exact ⟨vs,rfl,fitsRs_rep hf h3⟩
  · exact hf.elim
theorem getElem?_toArray_append {vs:List Value} {n t:Nat}:(vs.toArray++Array.replicate n undef).getD t undef = vs.getD t undef:=by
  simp only [Array.getD_eq_getD_getElem?,List.getD_eq_getElem?_getD]
  rw [Array.getElem?_append]
  simp only [List.size_toArray,List.getElem?_toArray]
  split
  · rfl
  · rename_i h
    rw [List.getElem?_eq_none (by omega)]
    rw [Array.getElem?_replicate]
    split <;> rfl
def S.init (args:List X) (h:Hp):S:={ tmps:=fun t=>match args[t]? with | some x=>.k true (.x x) | none=>.lost,objs:=h.objs,toks:=h.toks,ext:=h.ext }
def Env.outer (env:Env):Env:={ env with ρ:=fun k=>if k < 10000∨20000≤k then none else env.ρ k,τ:=fun k=>if k < 10000∨20000≤k then none else env.τ k }
theorem outer_ρ {k:Nat} {p:Nat × Nat}:env.outer.ρ k = some p↔¬ ownKey k∧env.ρ k = some p:=by
  simp only [Env.outer,ownKey]; split <;> simp_all
theorem outer_τ {k:Nat} {v:Value}:env.outer.τ k = some v↔¬ ownKey k∧env.τ k = some v:=by
  simp only [Env.outer,ownKey]; split <;> simp_all
structure Hp.Outer (h:Hp):Prop where
  own:∀ k,ownKey k→h.objs k = none∧h.toks k = none
  only:h.only (fun k=>¬ ownKey k) (fun k=>h.toks k≠none)
theorem init_sim {args:List X} {vs:List Value} {n:Nat} {h:Hp} {F:Nat→Prop} (hn:args.length≤n) (hN:n≤10000) (ho:h.Outer) (hm:HMem env h F w0) (hao:∀ x∈args,x.only (fun k=>¬ ownKey k) (fun k=>h.toks k≠none)) (ha:All2 (RepX env h.toks w0) args vs) :
    Sim w0 ⟨env,h,F⟩ n env.outer (S.init args h) { tmps:=vs.toArray++Array.replicate (n - vs.toArray.size) undef,defers:=[] } w0:=by
  have hre:ReOn (fun k=>¬ ownKey k) (fun k=>h.toks k≠none) env env.outer h.toks h.toks w0 w0 :=
    ⟨fun _ _ x=>x,fun _ _ _=>rfl,fun k b hk hb=>outer_ρ.2 ⟨hk,hb⟩,fun k t hq ht=>⟨t,ht,rfl,Nat.le_refl _,fun _=>by
      have:¬ ownKey k:=fun e=>hq (ho.own k e).2
      exact if_neg this⟩⟩
  exact {
    below:=KeptBut.refl _ _
    defers:=⟨.inl rfl,.inl rfl⟩
    size:=by have:=ha.1; simp; omega
    nn:=hN
    vlt:=hm.vlt
    vnew:=fun _ _ h=>.inl h
    vold:=fun _ _ h=>h
    v0:=hm.vlt
    vcell:=fun _ _ _=>rfl
    tmps:=fun t=>by
      rw [getElem?_toArray_append]
      simp only [S.init]
      cases hc:args[t]? with
      | none=>trivial
      | some c =>
        obtain ⟨v,h1,h2⟩:=ha.get hc
        refine RepT.mk ?_
        rw [List.getD_eq_getElem?_getD,h1]
        exact RepX.re hre (hao c (List.mem_of_getElem? hc)) h2
    objs:=fun k x hx=>by
      obtain ⟨b,us,g1,g2,g3,g4,g5⟩:=hm.objs k x hx
      have hk:¬ ownKey k:=fun e=>by have:=(ho.own k e).1; simp only [S.init] at hx; rw [this] at hx; cases hx
      exact ⟨b,us,outer_ρ.2 ⟨hk,g1⟩,.inr (.inl ⟨k,_,by simp only [S.init] at hx; rw [hx]; simp,g1⟩),g2,rows_re hre (ho.only k x hx) g3,g4,g5⟩
    dom:=fun k ho _=>by simp only [Env.outer]; exact if_pos ho
    ρlt:=fun k b s hk=>hm.ρlt k b s (outer_ρ.1 hk).2
    inj:=fun k k' b s s' hk hk'=>hm.inj k k' b s s' (outer_ρ.1 hk).2 (outer_ρ.1 hk').2
    toks:=fun k t ht=>by
      obtain ⟨v,xs,g1,g2,g3⟩:=hm.toks k t ht
      have hk:¬ ownKey k:=fun e=>by have:=(ho.own k e).2; simp only [S.init] at ht; rw [this] at ht; cases ht
      exact ⟨v,xs,outer_τ.2 ⟨hk,g1⟩,g2,fun b hb=>⟨.inr (.inr (.inl ⟨k,v,by simp only [S.init] at ht; rw [ht]; simp,g1,hb⟩)),(g3 b hb).1,fun k' s e=>(g3 b hb).2 k' s (outer_ρ.1 e).2⟩⟩
    tdom:=fun k ho _=>by simp only [Env.outer]; exact if_pos ho
    τlt:=fun k v b hk hv=>hm.τlt k v b (outer_τ.1 hk).2 hv
    tinj:=fun k k' v v' b hk hk' hv hv'=>hm.tinj k k' v v' b (outer_τ.1 hk).2 (outer_τ.1 hk').2 hv hv'
    sep:=fun k k' v b s hk hv hr=>hm.sep k k' v b s (outer_τ.1 hk).2 hv (outer_ρ.1 hr).2
    ext:=⟨F,hm.ext,fun b hb=>by
      obtain ⟨g1,g2,g3,g4⟩:=hm.flt b hb
      exact ⟨.inr (.inr (.inr hb)),g1,g2,fun k s e=>g3 k s (outer_ρ.1 e).2,fun k v e=>g4 k v (outer_τ.1 e).2⟩⟩
    own:=ho.own
    keepO:=fun k hk=>by simp only [Env.outer]; exact if_neg hk
    keepN:=fun k hk h0=>⟨by simp only [Env.outer]; exact if_neg hk,h0⟩
    keepT:=fun k t t' h0 h1=>by
      simp only [S.init] at h0 h1
      rw [h0] at h1; injection h1 with h1; subst h1
      have hk:¬ ownKey k:=fun e=>by have:=(ho.own k e).2; rw [this] at h0; cases h0
      exact ⟨rfl,Nat.le_refl _,fun _=>by simp only [Env.outer]; exact if_neg hk⟩ }
theorem leave_sim {h h':Hp} {F:Nat→Prop} {env1:Env} (hs:Sim w0 ⟨env,h,F⟩ N env1 σ a w) (hm:HMem env h F w0) (ho:h.Outer) (hfr:Fresh env h h')
    (hO:∀ k b,h'.objs k = some b→σ.objs k = some b) (hT:∀ k t,h'.toks k = some t→σ.toks k = some t) (hX:h'.ext = σ.ext)
    (hsT:∀ k,h.toks k≠none→h'.toks k≠none)
    (hon:h'.only (fun k=>¬ ownKey k∨h'.objs k≠none) (fun k=>h'.toks k≠none)) :
    ∃ env2 F2,Left env h F w0 env2 h' F2 w∧ReOn (fun k=>¬ ownKey k∨h'.objs k≠none) (fun k=>h'.toks k≠none) env1 env2 σ.toks h'.toks w w:=by
  obtain ⟨F2,f1,f2⟩:=hs.ext
  -- the names of what came back,and those that were known outside
  let env2:Env:={ V:=env1.V,ρ:=fun k=>if h'.objs k≠none then env1.ρ k else env.ρ k,τ:=fun k=>if h'.toks k≠none then env1.τ k else env.τ k }
  have ρin:∀ k,h'.objs k≠none→env2.ρ k = env1.ρ k:=fun k hk=>if_pos hk
  have ρout:∀ k,h'.objs k = none→env2.ρ k = env.ρ k:=fun k hk=>if_neg (fun e=>e hk)
  have τin:∀ k,h'.toks k≠none→env2.τ k = env1.τ k:=fun k hk=>if_pos hk
  have τout:∀ k,h'.toks k = none→env2.τ k = env.τ k:=fun k hk=>if_neg (fun e=>e hk)
  have tnone:∀ k,h'.toks k = none→h.toks k = none:=fun k hk=>by
    cases hh:h.toks k with
    | none=>rfl
    | some t=>exact absurd hk (hsT k (by rw [hh]; simp))
  have keepO:∀ k,¬ ownKey k→env1.ρ k = env.ρ k:=hs.keepO
  have keepN:∀ k,¬ ownKey k→h.toks k = none→env1.τ k = env.τ k:=fun k hk h0=>(hs.keepN k hk h0).1
  have newlt:∀ b,b < w0.heap.size→New w0 ⟨env,h,F⟩ b→Owned env h F b:=fun b hlt hn=>hn.elim (fun h1=>absurd hlt (Nat.not_lt.mpr h1)) id
  have boxNew:∀ k b s,h'.objs k≠none→env1.ρ k = some (b,s)→New w0 ⟨env,h,F⟩ b:=fun k b s hk hr=>by
    cases hb:h'.objs k with
    | none=>exact absurd hb hk
    | some x =>
      obtain ⟨bl,us,g1,g2,_⟩:=hs.objs k x (hO k x hb)
      rw [g1] at hr; injection hr with hr; injection hr with hr _; subst hr
      exact g2
  have tokNew:∀ k v b,h'.toks k≠none→env1.τ k = some v→v.ownBlock = some b→New w0 ⟨env,h,F⟩ b:=fun k v b hk hr hv=>by
    cases hb:h'.toks k with
    | none=>exact absurd hb hk
    | some x =>
      obtain ⟨v',xs,g1,g2,g3⟩:=hs.toks k x (hT k x hb)
      rw [g1] at hr; injection hr with hr; subst hr
      exact (g3 b hv).1
  -- what was named outside under a name of the function's own is not handed over
  have notOwned:∀ k b s,ownKey k→env.ρ k = some (b,s)→¬ Owned env h F b:=by
    rintro k b s hk hr (⟨k',s',q1,q2⟩ | ⟨k',v,q1,q2,q3⟩ | q)
    · have:=hm.inj k k' b s s' hr q2
      subst this; exact q1 (ho.own k hk).1
    · exact hm.sep k' k v b s q2 q3 hr
    · exact (hm.flt b q).2.2.1 k s hr
  have notOwnedT:∀ k v b,ownKey k→env.τ k = some v→v.ownBlock = some b→¬ Owned env h F b:=by
    rintro k v b hk hr hv (⟨k',s',q1,q2⟩ | ⟨k',v',q1,q2,q3⟩ | q)
    · exact hm.sep k k' v b s' hr hv q2
    · have:=hm.tinj k k' v v' b hr q2 hv q3
      subst this; exact q1 (ho.own k hk).2
    · exact (hm.flt b q).2.2.2 k v hr hv
  -- a new block is named outside by a name from outside alone
  have seen:∀ k b s,New w0 ⟨env,h,F⟩ b→env.ρ k = some (b,s)→env1.ρ k = some (b,s):=fun k b s hn hr=>by
    by_cases hk:ownKey k
    · exact absurd (newlt b (hm.ρlt k b s hr) hn) (notOwned k b s hk hr)
    · rw [keepO k hk]; exact hr
  have seenT:∀ k v b,New w0 ⟨env,h,F⟩ b→h.toks k = none→env.τ k = some v→v.ownBlock = some b→env1.τ k = some v:=fun k v b hn h0 hr hv=>by
    by_cases hk:ownKey k
    · exact absurd (newlt b (hm.τlt k v b hr hv) hn) (notOwnedT k v b hk hr hv)
    · rw [keepN k hk h0]; exact hr
  have hre:ReOn (fun k=>¬ ownKey k∨h'.objs k≠none) (fun k=>h'.toks k≠none) env1 env2 σ.toks h'.toks w w:={
    V:=fun _ _ x=>x
    cell:=fun _ _ _=>rfl
    ρ:=fun k b hp hr=>by
      by_cases hk:h'.objs k = none
      · rw [ρout k hk]
        rcases hp with hp | hp
        · rw [← keepO k hp]; exact hr
        · exact absurd hk hp
      · rw [ρin k hk]; exact hr
    tok:=fun k t hq ht=>by
      cases hh:h'.toks k with
      | none=>exact absurd hh hq
      | some t' =>
        have:=hT k t' hh
        rw [ht] at this; injection this with this; subst this
        exact ⟨t,rfl,rfl,Nat.le_refl _,fun _=>τin k hq⟩ }
  refine ⟨env2,F2,{
    mem:={
      vlt:=hs.vlt
      ρlt:=fun k b s hk=>by
        by_cases hh:h'.objs k = none
        · rw [ρout k hh] at hk; exact Nat.lt_of_lt_of_le (hm.ρlt k b s hk) hs.below.size
        · rw [ρin k hh] at hk; exact hs.ρlt k b s hk
      τlt:=fun k v b hk hv=>by
        by_cases hh:h'.toks k = none
        · rw [τout k hh] at hk; exact Nat.lt_of_lt_of_le (hm.τlt k v b hk hv) hs.below.size
        · rw [τin k hh] at hk; exact hs.τlt k v b hk hv
      objs:=fun k x hk=>by
        obtain ⟨b,us,g1,g2,g3,g4,g5,g6⟩:=hs.objs k x (hO k x hk)
        exact ⟨b,us,by rw [ρin k (by rw [hk]; simp)]; exact g1,g3,rows_re hre (hon k x hk) g4,g5,g6⟩
      inj:=fun k k' b s s' hk hk'=>by
        by_cases h1:h'.objs k = none <;> by_cases h2:h'.objs k' = none
        · rw [ρout k h1] at hk; rw [ρout k' h2] at hk'; exact hm.inj k k' b s s' hk hk'
        · rw [ρout k h1] at hk; rw [ρin k' h2] at hk'
          exact hs.inj k k' b s s' (seen k b s (boxNew k' b s' h2 hk') hk) hk'
        · rw [ρin k h1] at hk; rw [ρout k' h2] at hk'
          exact hs.inj k k' b s s' hk (seen k' b s' (boxNew k b s h1 hk) hk')
        · rw [ρin k h1] at hk; rw [ρin k' h2] at hk'; exact hs.inj k k' b s s' hk hk'
      toks:=fun k t hk=>by
        obtain ⟨v,xs,g1,g2,g3⟩:=hs.toks k t (hT k t hk)
        refine ⟨v,xs,by rw [τin k (by rw [hk]; simp)]; exact g1,g2,fun b hb=>⟨(g3 b hb).2.1,fun k' s hr=>?_⟩⟩
        by_cases hh:h'.objs k' = none
        · rw [ρout k' hh] at hr
          exact (g3 b hb).2.2 k' s (seen k' b s (g3 b hb).1 hr)
        · rw [ρin k' hh] at hr; exact (g3 b hb).2.2 k' s hr
      tinj:=fun k k' v v' b hk hk' hv hv'=>by
        by_cases h1:h'.toks k = none <;> by_cases h2:h'.toks k' = none
        · rw [τout k h1] at hk; rw [τout k' h2] at hk'; exact hm.tinj k k' v v' b hk hk' hv hv'
        · rw [τout k h1] at hk; rw [τin k' h2] at hk'
          exact hs.tinj k k' v v' b (seenT k v b (tokNew k' v' b h2 hk' hv') (tnone k h1) hk hv) hk' hv hv'
        · rw [τin k h1] at hk; rw [τout k' h2] at hk'
          exact hs.tinj k k' v v' b hk (seenT k' v' b (tokNew k v b h1 hk hv) (tnone k' h2) hk' hv') hv hv'
        · rw [τin k h1] at hk; rw [τin k' h2] at hk'; exact hs.tinj k k' v v' b hk hk' hv hv'
      sep:=fun k k' v b s hk hv hr=>by
        by_cases h1:h'.toks k = none <;> by_cases h2:h'.objs k' = none
        · rw [τout k h1] at hk; rw [ρout k' h2] at hr; exact hm.sep k k' v b s hk hv hr
        · rw [τout k h1] at hk; rw [ρin k' h2] at hr
          exact hs.sep k k' v b s (seenT k v b (boxNew k' b s h2 hr) (tnone k h1) hk hv) hv hr
        · rw [τin k h1] at hk; rw [ρout k' h2] at hr
          exact hs.sep k k' v b s hk hv (seen k' b s (tokNew k v b h1 hk hv) hr)
        · rw [τin k h1] at hk; rw [ρin k' h2] at hr; exact hs.sep k k' v b s hk hv hr
      ext:=by rw [hX]; exact f1
      flt:=fun b hb=>by
        obtain ⟨g1,g2,g3,g4,g5⟩:=f2 b hb
        refine ⟨g2,g3,fun k s hr=>?_,fun k v hr hv=>?_⟩
        · by_cases hh:h'.objs k = none
          · rw [ρout k hh] at hr; exact g4 k s (seen k b s g1 hr)
          · rw [ρin k hh] at hr; exact g4 k s hr
        · by_cases hh:h'.toks k = none
          · rw [τout k hh] at hr; exact g5 k v (seenT k v b g1 (tnone k hh) hr hv) hv
          · rw [τin k hh] at hr; exact g5 k v hr hv }
    kept:=hs.below
    owned:=by
      rintro b (⟨k,s,q1,q2⟩ | ⟨k,v,q1,q2,q3⟩ | q)
      · rw [ρin k q1] at q2; exact boxNew k b s q1 q2
      · rw [τin k q1] at q2; exact tokNew k v b q1 q2 q3
      · exact (f2 b q).1
    vold:=hs.vold
    vcell:=hs.vcell
    vnew:=hs.vnew
    ρold:=fun k p hr=>by
      by_cases hh:h'.objs k = none
      · rw [ρout k hh]; exact hr
      · rw [ρin k hh]
        by_cases hk:ownKey k
        · rw [hfr.1 k hh (ho.own k hk).1] at hr; cases hr
        · rw [keepO k hk]; exact hr
    ρnew:=fun k p hr=>by
      by_cases hh:h'.objs k = none
      · rw [ρout k hh] at hr; exact .inl hr
      · rw [ρin k hh] at hr
        by_cases hk:ownKey k
        · exact .inr ⟨hh,(ho.own k hk).1⟩
        · rw [keepO k hk] at hr; exact .inl hr
    τold:=fun k h0 hn=>by
      by_cases hh:h'.toks k = none
      · exact τout k hh
      · by_cases hk:ownKey k
        · exact absurd (hfr.2 k hh h0) hn
        · rw [τin k hh]; exact keepN k hk h0
    τnew:=fun k v hr=>by
      by_cases hh:h'.toks k = none
      · rw [τout k hh] at hr; exact .inl (by rw [hr]; simp)
      · cases h0:h.toks k with
        | none=>exact .inr ⟨hh,rfl⟩
        | some t=>obtain ⟨v',xs,g1,_⟩:=hm.toks k t h0; exact .inl (by rw [g1]; simp)
    tok:=fun k t t' h0 h1=>by
      obtain ⟨g1,g2,g3⟩:=hs.keepT k t t' h0 (hT k t' h1)
      exact ⟨g1,g2,fun e=>(τin k (by rw [h1]; simp)).trans (g3 e)⟩ },hre⟩
end
end Go.Fx

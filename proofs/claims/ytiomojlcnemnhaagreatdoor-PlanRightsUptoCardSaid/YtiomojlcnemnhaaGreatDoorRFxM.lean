import Derived.Test.YtiomojlcnemnhaaGreatDoorRFxLa
namespace Go.Fx
open Go.RowKit
section
variable {P:Program} {G:World→Prop} {w0:World} {V0:Base} {N:Nat} {env env':Env} {σ σ':S} {a:Act} {w w':World} {o:Oper} {toks toks':Nat→Option Tok} {p q:Nat→Prop}
structure ReOn (p q:Nat→Prop) (env env':Env) (toks toks':Nat→Option Tok) (w w':World):Prop where
  V:∀ b o,env.V b o→env'.V b o
  cell:∀ b o,env.V b o→w'.cell? ⟨b,o,none⟩ = w.cell? ⟨b,o,none⟩
  ρ:∀ k b,p k→env.ρ k = some b→env'.ρ k = some b
  tok:∀ k t,q k→toks k = some t→∃ t',toks' k = some t'∧t'.size = t.size∧t.n≤t'.n∧(t'.n = t.n→env'.τ k = env.τ k)
mutual
theorem RepA.re (h:ReOn p q env env' toks toks' w w'):∀ {a:A} {v:Value},a.only p q→RepA env toks w a v→RepA env' toks' w' a v
  | .c x,v,_,hr=>RepC.mono h.V h.cell hr
  | .own k es,v,ho,hr=>by
    obtain ⟨h1,t,ht,hl,hs,he⟩:=hr
    obtain ⟨t',ht',hsz,hn,hv⟩:=h.tok k t ho ht
    refine ⟨h1.mono h.V h.cell,t',ht',by omega,fun e m=>by rw [hsz]; exact hs e m,fun e=>?_⟩
    have:t'.n = t.n:=by omega
    rw [hv this]; exact he (by omega)
  | .nil,v,_,hr=>hr
  | .ref k i off,v,ho,hr=>by obtain ⟨b,s,hb,hv⟩:=hr; exact ⟨b,s,h.ρ k _ ho hb,hv⟩
  | .arr k off n cap,v,ho,hr=>by obtain ⟨b,s,c,hb,hv⟩:=hr; exact ⟨b,s,c,h.ρ k _ ho hb,hv⟩
  | .mapr k,v,ho,hr=>by obtain ⟨b,s,hb,hv⟩:=hr; exact ⟨b,s,h.ρ k _ ho hb,hv⟩
  | .elem es sp i off,v,_,hr=>by
    obtain ⟨b,o,n,cap,s,h1,h2,h3,h4⟩:=hr
    exact ⟨b,o,n,cap,s,h1,h2,h3,h4.mono h.V h.cell⟩
  | .clo f fs cs,v,ho,hr=>by
    obtain ⟨us,vs,h1,h2,h3⟩:=hr
    exact ⟨us,vs,h1,RepAs.re h ho.1 h2,RepAs.re h ho.2 h3⟩
  | .yld l ta ks xs,v,ho,hr=>by
    obtain ⟨h1,h2⟩:=hr
    exact ⟨h1,RepAs.re h ho h2⟩
  | .ifc t a,v,ho,hr=>by
    obtain ⟨u,h1,h2⟩:=hr
    exact ⟨u,h1,RepA.re (a:=a) h ho h2⟩
  | .lost,v,_,hr=>hr
theorem RepAs.re (h:ReOn p q env env' toks toks' w w'):∀ {xs:List A} {vs:List Value},onlyL p q xs→RepAs env toks w xs vs→RepAs env' toks' w' xs vs
  | [],[],_,_=>trivial
  | _ :: _,_ :: _,ho,hr=>⟨RepA.re h ho.1 hr.1,RepAs.re h ho.2 hr.2⟩
end
theorem onlyL_iff:∀ {l:List A},onlyL p q l↔∀ x∈l,x.only p q
  | []=>by simp [onlyL]
  | x :: l=>by simp only [onlyL,List.mem_cons,forall_eq_or_imp,onlyL_iff (l:=l)]
mutual
theorem A.only_mono {p q p' q':Nat→Prop} (hp:∀ k,p k→p' k) (hq:∀ k,q k→q' k):∀ {a:A},a.only p q→a.only p' q'
  | .c _,_=>trivial
  | .nil,_=>trivial
  | .own k _,h=>hq k h
  | .ref k _ _,h=>hp k h
  | .arr k _ _ _,h=>hp k h
  | .mapr k,h=>hp k h
  | .elem _ _ _ _,_=>trivial
  | .clo _ _ _,h=>⟨onlyL_mono hp hq h.1,onlyL_mono hp hq h.2⟩
  | .yld _ _ _ xs,h=>onlyL_mono hp hq (l:=xs) h
  | .ifc _ a,h=>A.only_mono (a:=a) hp hq h
  | .lost,_=>trivial
theorem onlyL_mono {p q p' q':Nat→Prop} (hp:∀ k,p k→p' k) (hq:∀ k,q k→q' k):∀ {l:List A},onlyL p q l→onlyL p' q' l
  | [],_=>trivial
  | _ :: _,h=>⟨A.only_mono hp hq h.1,onlyL_mono hp hq h.2⟩
end
theorem X.only_mono {p q p' q':Nat→Prop} (hp:∀ k,p k→p' k) (hq:∀ k,q k→q' k) {x:X} (h:x.only p q):x.only p' q':=by
  cases x with
  | one a=>exact A.only_mono hp hq h
  | agg cs=>exact onlyL_mono hp hq h
theorem RepX.re (h:ReOn p q env env' toks toks' w w') {x:X} {v:Value} (ho:x.only p q) (hr:RepX env toks w x v):RepX env' toks' w' x v:=by
  cases x with
  | one a=>exact RepA.re h ho hr
  | agg cs=>obtain ⟨us,e,hu⟩:=hr; exact ⟨us,e,hu.imp fun x _ hx=>RepA.re h (onlyL_iff.1 ho x hx)⟩
theorem RepR.re (h:ReOn p q env env' toks toks' w w') {r:R} {v:Value} (ho:r.only p q) (hr:RepR env toks w r v):RepR env' toks' w' r v:=by
  cases r with
  | x x=>exact RepX.re h ho hr
  | tup xs=>obtain ⟨us,e,hu⟩:=hr; exact ⟨us,e,hu.imp fun x _ hx=>RepX.re h (ho x hx)⟩
theorem rows_re (h:ReOn p q env env' toks toks' w w') {rows:List (List A)} {us:List Value} (ho:∀ r∈rows,onlyL p q r) (hr:All2 (RepA env toks w) rows.flatten us):All2 (RepA env' toks' w') rows.flatten us :=
  hr.imp fun x _ hx=>by
    obtain ⟨r,hr,hx⟩:=List.mem_flatten.1 hx
    exact RepA.re h (onlyL_iff.1 (ho r hr) x hx)
theorem ownsRow_of_block {base size n:Nat} {e:TypeId} {v:Value} {xs:List Value} (h:w.ownsRow base e size v n xs) (hb:∀ b,v.ownBlock = some b→w'.heap[b]? = w.heap[b]?):w'.ownsRow base e size v n xs:=by
  obtain ⟨h1,h2⟩:=h
  refine ⟨h1,h2.imp id ?_⟩
  rintro ⟨g,cap,cur,hv,hbg,hg,hrest⟩
  exact ⟨g,cap,cur,hv,hbg,(hb g (by rw [hv]; rfl)).trans hg,hrest⟩
theorem Sim.owned_new (hs:Sim w0 V0 N env σ a w) {x:Bool} {h h':Hp} (hl:Lends σ x h h') {F:Nat→Prop} (hF:∀ b,F b→New w0 V0 b):∀ b,Owned env h F b→New w0 V0 b:=by
  rintro b (⟨k,s,hk,hρ⟩ | ⟨k,v,hk,hτ,hv⟩ | hf)
  · cases hb:h.objs k with
    | none=>exact absurd hb hk
    | some bx =>
      obtain ⟨bl,us,h1,h2,_⟩:=hs.objs k bx (hl.obj k bx hb)
      rw [h1] at hρ; injection hρ with hρ; injection hρ with hρ _; subst hρ
      exact h2
  · cases ht:h.toks k with
    | none=>exact absurd ht hk
    | some t =>
      obtain ⟨v',xs,h1,h2,h3⟩:=hs.toks k t (hl.tok k t ht)
      rw [h1] at hτ; injection hτ with hτ; subst hτ
      exact (h3 b hv).1
  · exact hF b hf
theorem Sim.lend (hs:Sim w0 V0 N env σ a w) {x:Bool} {h h':Hp} (hl:Lends σ x h h') (ho:h.only (fun _=>True) (fun k=>h.toks k≠none)) :
    ∃ F:Nat→Prop,HMem env h F w∧Fresh env h h'∧(∀ b,F b→New w0 V0 b)∧(x = false→∀ b,¬ F b):=by
  have hre:ReOn (fun _=>True) (fun k=>h.toks k≠none) env env σ.toks h.toks w w :=
    ⟨fun _ _ x=>x,fun _ _ _=>rfl,fun _ _ _ x=>x,fun k t hq ht=>by
      cases hk:h.toks k with
      | none=>exact absurd hk hq
      | some t' =>
        have:=hl.tok k t' hk
        rw [ht] at this; injection this with this; subst this
        exact ⟨t,rfl,rfl,Nat.le_refl _,fun _=>rfl⟩⟩
  have mk:∀ F:Nat→Prop,h.ext.holds env.V F w→(∀ b,F b→b < w.heap.size∧(∀ o,¬ env.V b o)∧(∀ k s,env.ρ k≠some (b,s))∧∀ k v,env.τ k = some v→v.ownBlock≠some b)→HMem env h F w:=fun F h1 h2=>{
    vlt:=hs.vlt
    ρlt:=hs.ρlt
    τlt:=hs.τlt
    objs:=fun k bx hk=>by
      obtain ⟨b,us,g1,g2,g3,g4,g5,g6⟩:=hs.objs k bx (hl.obj k bx hk)
      exact ⟨b,us,g1,g3,rows_re hre (ho k bx hk) g4,g5,g6⟩
    inj:=hs.inj
    toks:=fun k t hk=>by
      obtain ⟨v,xs,g1,g2,g3⟩:=hs.toks k t (hl.tok k t hk)
      exact ⟨v,xs,g1,g2,fun b hb=>⟨(g3 b hb).2.1,(g3 b hb).2.2⟩⟩
    tinj:=hs.tinj
    sep:=hs.sep
    ext:=h1
    flt:=h2 }
  have hfr:Fresh env h h':=⟨fun k h1 h2=>hs.dom k (hl.newO k h1 h2).2 (hl.newO k h1 h2).1,fun k h1 h2=>hs.tdom k (hl.newT k h1 h2).2 (hl.newT k h1 h2).1⟩
  have he:=hl.ext
  cases x with
  | true =>
    obtain ⟨F,f1,f2⟩:=hs.ext
    simp only [if_true] at he
    refine ⟨F,mk F (by rw [he.1]; exact f1) (fun b hb=>(f2 b hb).2),hfr,fun b hb=>(f2 b hb).1,fun e=>by cases e⟩
  | false =>
    simp only [Bool.false_eq_true,if_false] at he
    exact ⟨fun _=>False,mk _ (by rw [he.1]; exact fun _ h=>h) (fun b h=>h.elim),hfr,fun b h=>h.elim,fun _ b h=>h⟩
theorem Sim.back (hs:Sim w0 V0 N env σ a w) {x:Bool} {h h':Hp} (hl:Lends σ x h h') {F F':Nat→Prop} (hm:HMem env h F w) (hF:∀ b,F b→New w0 V0 b) (hx:x = false→∀ b,¬ F b) (hlf:Left env h F w env' h' F' w') :
    Sim w0 V0 N env' (σ.over x h') a w':=by
  have hnew:=hs.owned_new hl hF
  have htin:∀ k t,h'.toks k = some t→(σ.over x h').toks k = some t:=fun k t ht=>by simp [S.over,ht]
  have hcell:=hlf.vcell
  -- a token that is no part of h: nor is it of h'
  have hout:∀ k,σ.toks k≠none→h.toks k = none→h'.toks k = none:=fun k h1 h2=>by
    cases hk:h'.toks k with
    | none=>rfl
    | some t=>exact absurd (hl.newT k (by rw [hk]; simp) h2).1 h1
  have hτnn:∀ k,σ.toks k≠none→env.τ k≠none:=fun k hk=>by
    cases ht:σ.toks k with
    | none=>exact absurd ht hk
    | some t=>obtain ⟨v,xs,h1,_⟩:=hs.toks k t ht; rw [h1]; simp
  have hle:env.Le env' σ.toks (σ.over x h').toks w w':=⟨hlf.vold,hcell,hlf.ρold,fun k t ht=>by
    cases hk:h.toks k with
    | some t0 =>
      have:=hl.tok k t0 hk
      rw [ht] at this; injection this with this; subst this
      cases hk':h'.toks k with
      | none=>exact absurd hk' (hl.tok' k (by rw [hk]; simp))
      | some t' =>
        obtain ⟨g1,g2,g3⟩:=hlf.tok k t t' hk hk'
        exact ⟨t',htin k t' hk',g1,g2,g3⟩
    | none =>
      have hk':=hout k (by rw [ht]; simp) hk
      refine ⟨t,by simp [S.over,hk',ht],rfl,Nat.le_refl _,fun _=>hlf.τold k hk (hτnn k (by rw [ht]; simp))⟩⟩
  -- blocks that were not handed over
  have hkeep:∀ b,b < w.heap.size→¬ Owned env h F b→w'.heap[b]? = w.heap[b]?:=hlf.kept.block
  have hVkeep:∀ b o,b < w.heap.size→¬ Owned env h F b→env'.V b o→env.V b o:=fun b o h1 h2 h3=>(hlf.vnew b o h3).elim id fun h4=>h4.elim (fun h5=>absurd h1 (Nat.not_lt.mpr h5)) fun h5=>absurd h5 h2
  have hρback:∀ b s k,b < w.heap.size→¬ Owned env h F b→env'.ρ k = some (b,s)→env.ρ k = some (b,s):=fun b s k h1 h2 h3=>by
    rcases hlf.ρnew k _ h3 with h4 | ⟨h4,h5⟩
    · exact h4
    · exact absurd (hlf.owned b (.inl ⟨k,s,h4,h3⟩)) (fun h6=>h6.elim (fun h7=>absurd h1 (Nat.not_lt.mpr h7)) h2)
  have hτback:∀ b k v,b < w.heap.size→¬ Owned env h F b→env'.τ k = some v→v.ownBlock = some b→env.τ k = some v:=fun b k v h1 h2 h3 h3'=>by
    by_cases h6:h'.toks k = none
    · have h7:h.toks k = none:=by
        cases hk:h.toks k with
        | none=>rfl
        | some t=>exact absurd h6 (hl.tok' k (by rw [hk]; simp))
      rcases hlf.τnew k v h3 with h4 | ⟨h4,_⟩
      · rw [← hlf.τold k h7 h4]; exact h3
      · exact absurd h6 h4
    · exact absurd (hlf.owned b (.inr (.inl ⟨k,v,h6,h3,h3'⟩))) (fun h6=>h6.elim (fun h7=>absurd h1 (Nat.not_lt.mpr h7)) h2)
  have boxOut:∀ k bx b s,σ.objs k = some bx→h.objs k = none→env.ρ k = some (b,s)→¬ Owned env h F b:=by
    rintro k bx b s h1 h2 h3 (⟨k',s',q1,q2⟩ | ⟨k',v,q1,q2,q3⟩ | q)
    · have:=hs.inj k k' b s s' h3 q2
      subst this; exact q1 h2
    · cases ht:h.toks k' with
      | none=>exact q1 ht
      | some t =>
        obtain ⟨v',xs,g1,g2,g3⟩:=hm.toks k' t ht
        rw [g1] at q2; injection q2 with q2; subst q2
        exact (g3 b q3).2 k s h3
    · exact (hm.flt b q).2.2.1 k s h3
  have tokOut:∀ k v b,σ.toks k≠none→h.toks k = none→env.τ k = some v→v.ownBlock = some b→¬ Owned env h F b:=by
    rintro k v b h1 h2 h3 h4 (⟨k',s',q1,q2⟩ | ⟨k',v',q1,q2,q3⟩ | q)
    · cases ht:σ.toks k with
      | none=>exact h1 ht
      | some t =>
        obtain ⟨v',xs,g1,g2,g3⟩:=hs.toks k t ht
        rw [g1] at h3; injection h3 with h3; subst h3
        exact (g3 b h4).2.2 k' s' q2
    · have:=hs.tinj k k' v v' b h3 q2 h4 q3
      subst this; exact q1 h2
    · exact (hm.flt b q).2.2.2 k v h3 h4
  exact {
    below:=hs.below.trans hlf.kept hnew
    defers:=by
      have hm:(σ.over x h').ext.mark = σ.ext.mark:=by
        have he:=hl.ext
        cases x with
        | true=>simp only [if_true] at he; show h'.ext.mark = _; rw [he.2,he.1]
        | false=>rfl
      rw [hm]
      exact hs.defers
    size:=hs.size
    nn:=hs.nn
    vlt:=hlf.mem.vlt
    vnew:=fun b o hv=>by
      rcases hlf.vnew b o hv with h1 | h1 | h1
      · exact hs.vnew b o h1
      · exact .inr (.inl (Nat.le_trans hs.below.size h1))
      · exact .inr (hnew b h1)
    vold:=fun b o hv=>hlf.vold b o (hs.vold b o hv)
    v0:=hs.v0
    vcell:=fun b o hv=>(hcell b o (hs.vold b o hv)).trans (hs.vcell b o hv)
    tmps:=fun t=>(hs.tmps t).mono hle
    objs:=fun k bx hk=>by
      simp only [S.over] at hk
      cases hk':h'.objs k with
      | some b1 =>
        rw [hk'] at hk; injection hk with hk; subst hk
        obtain ⟨b,us,g1,g2,g3,g4,g5⟩:=hlf.mem.objs k _ hk'
        refine ⟨b,us,g1,?_,g2,g3.imp fun _ _ _ hr=>RepA.mono ⟨fun _ _ x=>x,fun _ _ _=>rfl,fun _ _ x=>x,fun k t ht=>⟨t,htin k t ht,rfl,Nat.le_refl _,fun _=>rfl⟩⟩ hr,g4,g5⟩
        rcases hlf.owned b (.inl ⟨k,_,by rw [hk']; simp,g1⟩) with h1 | h1
        · exact .inl (Nat.le_trans hs.below.size h1)
        · exact hnew b h1
      | none =>
        rw [hk'] at hk
        have hn:h.objs k = none:=by
          cases hh:h.objs k with
          | none=>rfl
          | some _=>exact absurd hk' (hl.obj' k (by rw [hh]; simp))
        obtain ⟨b,us,g1,g2,g3,g4,g5,g6⟩:=hs.objs k bx hk
        have hno:=boxOut k bx b _ hk hn g1
        exact ⟨b,us,hlf.ρold k _ g1,g2,g3.of (hkeep b g3.lt hno),g4.imp fun _ _ _=>RepA.mono hle,g5,fun o hv=>g6 o (hVkeep b o g3.lt hno hv)⟩
    dom:=fun k ho hk=>by
      simp only [S.over] at hk
      cases hk':h'.objs k with
      | some b1=>rw [hk'] at hk; cases hk
      | none =>
        rw [hk'] at hk
        cases hr:env'.ρ k with
        | none=>rfl
        | some p =>
          rcases hlf.ρnew k p hr with h1 | ⟨h1,_⟩
          · rw [hs.dom k ho hk] at h1; cases h1
          · exact absurd hk' h1
    ρlt:=hlf.mem.ρlt
    inj:=hlf.mem.inj
    toks:=fun k t hk=>by
      simp only [S.over] at hk
      cases hk':h'.toks k with
      | some t1 =>
        rw [hk'] at hk; injection hk with hk; subst hk
        obtain ⟨v,xs,g1,g2,g3⟩:=hlf.mem.toks k _ hk'
        refine ⟨v,xs,g1,g2,fun b hb=>⟨?_,(g3 b hb).1,(g3 b hb).2⟩⟩
        rcases hlf.owned b (.inr (.inl ⟨k,v,by rw [hk']; simp,g1,hb⟩)) with h1 | h1
        · exact .inl (Nat.le_trans hs.below.size h1)
        · exact hnew b h1
      | none =>
        rw [hk'] at hk
        have hk:σ.toks k = some t:=hk
        have hn:h.toks k = none:=by
          cases hh:h.toks k with
          | none=>rfl
          | some _=>exact absurd hk' (hl.tok' k (by rw [hh]; simp))
        obtain ⟨v,xs,g1,g2,g3⟩:=hs.toks k t hk
        have hno:∀ b,v.ownBlock = some b→¬ Owned env h F b:=fun b hb=>tokOut k v b (by rw [hk]; simp) hn g1 hb
        refine ⟨v,xs,(hlf.τold k hn (by rw [g1]; simp)).trans g1,ownsRow_of_block g2 fun b hb=>hkeep b (g2.lt b hb).2 (hno b hb),fun b hb=>⟨(g3 b hb).1,fun o ho hv=>(g3 b hb).2.1 o ho (hVkeep b o (g2.lt b hb).2 (hno b hb) hv),fun k' s hr=>(g3 b hb).2.2 k' s (hρback b s k' (g2.lt b hb).2 (hno b hb) hr)⟩⟩
    tdom:=fun k ho hk=>by
      simp only [S.over] at hk
      cases hk':h'.toks k with
      | some b1=>rw [hk'] at hk; cases hk
      | none =>
        rw [hk'] at hk
        cases hr:env'.τ k with
        | none=>rfl
        | some p =>
          rcases hlf.τnew k p hr with h1 | ⟨h1,_⟩
          · exact absurd (hs.tdom k ho hk) h1
          · exact absurd hk' h1
    τlt:=hlf.mem.τlt
    tinj:=hlf.mem.tinj
    sep:=hlf.mem.sep
    ext:=by
      cases x with
      | true =>
        refine ⟨F',hlf.mem.ext,fun b hb=>⟨?_,hlf.mem.flt b hb⟩⟩
        rcases hlf.owned b (.inr (.inr hb)) with h1 | h1
        · exact .inl (Nat.le_trans hs.below.size h1)
        · exact hnew b h1
      | false =>
        obtain ⟨F0,f1,f2⟩:=hs.ext
        have hno:∀ b,F0 b→¬ Owned env h F b:=by
          rintro b hb (⟨k',s',q1,q2⟩ | ⟨k',v',q1,q2,q3⟩ | q)
          · exact (f2 b hb).2.2.2.1 k' s' q2
          · exact (f2 b hb).2.2.2.2 k' v' q2 q3
          · exact hx rfl b q
        refine ⟨F0,σ.ext.mono (w:=w) hlf.vold hcell (fun b hb=>hkeep b (f2 b hb).2.1 (hno b hb)) f1,fun b hb=>?_⟩
        obtain ⟨g1,g2,g3,g4,g5⟩:=f2 b hb
        exact ⟨g1,Nat.lt_of_lt_of_le g2 hlf.kept.size,fun o hv=>g3 o (hVkeep b o g2 (hno b hb) hv),fun k s hr=>g4 k s (hρback b s k g2 (hno b hb) hr),fun k v hr hv=>g5 k v (hτback b k v g2 (hno b hb) hr hv) hv⟩
    own:=hs.own
    keepO:=fun k hn=>by
      rw [← hs.keepO k hn]
      cases hr:env.ρ k with
      | some p=>exact hlf.ρold k p hr
      | none =>
        cases hr':env'.ρ k with
        | none=>rfl
        | some p =>
          rcases hlf.ρnew k p hr' with h1 | ⟨h1,h2⟩
          · rw [hr] at h1; cases h1
          · exact absurd (hl.newO k h1 h2).2 hn
    keepN:=fun k hn h0=>by
      obtain ⟨g1,g2⟩:=hs.keepN k hn h0
      have h1:h.toks k = none:=by
        cases hk:h.toks k with
        | none=>rfl
        | some t=>rw [hl.tok k t hk] at g2; cases g2
      have h2:h'.toks k = none:=by
        cases hk:h'.toks k with
        | none=>rfl
        | some t=>exact absurd (hl.newT k (by rw [hk]; simp) h1).2 hn
      refine ⟨?_,by simp [S.over,h2,g2]⟩
      rw [← g1]
      by_cases he:env.τ k = none
      · cases hr:env'.τ k with
        | none=>rw [he]
        | some v =>
          rcases hlf.τnew k v hr with h3 | ⟨h3,_⟩
          · exact absurd he h3
          · exact absurd h2 h3
      · exact hlf.τold k h1 he
    keepT:=fun k t t' h0 hk=>by
      simp only [S.over] at hk
      cases hk':h'.toks k with
      | some t1 =>
        rw [hk'] at hk; injection hk with hk; subst hk
        cases hh:h.toks k with
        | none =>
          have:=(hs.own k (hl.newT k (by rw [hk']; simp) hh).2).2
          rw [h0] at this; cases this
        | some t2 =>
          obtain ⟨g1,g2,g3⟩:=hs.keepT k t t2 h0 (hl.tok k t2 hh)
          obtain ⟨q1,q2,q3⟩:=hlf.tok k t2 _ hh hk'
          exact ⟨q1.trans g1,Nat.le_trans g2 q2,fun e=>(q3 (by omega)).trans (g3 (by omega))⟩
      | none =>
        rw [hk'] at hk
        have hk:σ.toks k = some t':=hk
        have hn:h.toks k = none:=by
          cases hh:h.toks k with
          | none=>rfl
          | some _=>exact absurd hk' (hl.tok' k (by rw [hh]; simp))
        obtain ⟨g1,g2,g3⟩:=hs.keepT k t t' h0 hk
        exact ⟨g1,g2,fun e=>(hlf.τold k hn (hτnn k (by rw [hk]; simp))).trans (g3 e)⟩ }
theorem fits_rep:∀ {x y:A} {v:Value},x.fits y→RepA env toks w x v→RepA env toks w y v:=by
  intro x y v hf hr
  unfold A.fits at hf
  split at hf
  · obtain ⟨rfl,rfl⟩:=hf; exact hr.1
  · obtain ⟨rfl,rfl⟩:=hf; cases hr; exact .nil 0
  · exact RepA.oneCell hr
  · subst hf; exact hr
theorem fitsL_rep:∀ {l m:List A} {vs:List Value},fitsL l m→All2 (RepA env toks w) l vs→All2 (RepA env toks w) m vs
  | [],[],vs,_,h=>h
  | a :: l,b :: m,vs,hf,h=>by
    obtain ⟨v,vs',rfl,h1,h2⟩:=h.head
    exact All2.cons (fits_rep hf.1 h1) (fitsL_rep hf.2 h2)
  | [],_ :: _,_,hf,_=>hf.elim
  | _ :: _,[],_,hf,_=>hf.elim
theorem fitsX_rep {x y:X} {v:Value} (hf:x.fits y) (h:RepX env toks w x v):RepX env toks w y v:=by
  cases x with
  | one a=>cases y with
    | one b=>exact fits_rep hf h
    | agg _=>exact hf.elim
  | agg l=>cases y with
    | one _=>exact hf.elim
    | agg m=>obtain ⟨us,e,hu⟩:=h; exact ⟨us,e,fitsL_rep hf hu⟩
theorem argsX_rep (hs:Sim w0 V0 N env σ a w):∀ (os:List Operand) (ds:List D) (xs:List X),cmpDs os = some ds→(ds.all fun d=>(d.val σ).g) = true→fitsR (ds.map fun d=>(d.val σ).r) xs →
    All2 (RepX env σ.toks w) xs (os.map a.eval)
  | [],ds,xs,h,_,hc=>by
    simp [cmpDs] at h; subst h
    cases xs with
    | nil=>exact All2.nil
    | cons _ _=>exact hc.elim
  | x :: os,ds,xs,h,hg,hc=>by
    unfold cmpDs at h
    split at h
    · rename_i d ds' h1 h2
      injection h with h; subst h
      simp only [List.all_cons,Bool.and_eq_true] at hg
      simp only [List.map_cons] at hc
      have hr:=hs.opr h1 hg.1
      generalize (d.val σ).r = r at hc hr
      cases r with
      | tup _=>cases xs <;> exact hc.elim
      | x y=>cases xs with
        | nil=>exact hc.elim
        | cons z zs=>exact All2.cons (fitsX_rep hc.1 hr) (argsX_rep hs os ds' zs h2 hg.2 hc.2)
    · cases h
theorem run_yield {c:Call} {x:Operand} {l:Nat} (hop:o.op = .call c) (hcal:c.callee = .value x) (hev:a.eval x = .func (.yield l) #[] #[]) :
    (execOp a.eval o).run P w = (Instr.yield l (c.args.map a.eval)).run P w:=by
  simp [execOp,hop,resolve,hcal,hev,Deferred.ofValue,invoke]
theorem good_call (hd:∀ n,o.dst = some n→n < N) {c:Call} {f:Operand} {df:D} {ds:List D} {xs:List X} {fv:A} {x:Bool} {h h':Hp} {res:R} (hop:o.op = .call c) (hcal:c.callee = .value f) (hdf:cmpD f = some df) (hx:cmpDs c.args.toList = some ds)
    (hg:(ds.all fun d=>(d.val σ).g) = true) (hfit:fitsR (ds.map fun d=>(d.val σ).r) xs) (hfv:df.val σ = .k true (.x (.one fv))) (hG:HeldM G V0.M w0) (hm:MeetsV P G fv xs h res h') (hl:Lends σ x h h') :
    Good P w0 V0 N o σ ((σ.over x h').put o.dst (.k true res)):=fun rd n env a w K Q hs hK=>by
  obtain ⟨m1,m2,m3,m4⟩:=hm
  obtain ⟨F,hmem,hfr,hF,hxF⟩:=hs.lend hl m3
  have hre:ReOn (fun _=>True) (fun k=>h.toks k≠none) env env σ.toks h.toks w w :=
    ⟨fun _ _ x=>x,fun _ _ _=>rfl,fun _ _ _ x=>x,fun k t hq ht=>by
      cases hk:h.toks k with
      | none=>exact absurd hk hq
      | some t' =>
        have:=hl.tok k t' hk
        rw [ht] at this; injection this with this; subst this
        exact ⟨t,rfl,rfl,Nat.le_refl _,fun _=>rfl⟩⟩
  have hv:=hs.opd hdf
  rw [hfv] at hv
  simp only [RepT,if_true] at hv
  have hfvr:RepA env h.toks w fv (a.eval f):=RepA.re hre m1 hv
  have hargs:All2 (RepX env h.toks w) xs (c.args.toList.map a.eval):=(argsX_rep hs _ _ _ hx hg hfit).imp fun y _ hy=>RepX.re hre (m2 y hy)
  have hGw:HeldM G (Owned env h F) w:=hG.later hs.below (hs.owned_new hl hF)
  have hc:=m4 w env F (a.eval f) (c.args.toList.map a.eval) hGw hmem hfr hfvr hargs
  have harr:(c.args.toList.map a.eval).toArray = c.args.map a.eval:=Array.toList_inj.1 (by rw [Array.toList_map])
  have fin:∀ (e:Ending) (w':World),(∃ v env' F',e = .returned v∧RepR env' h'.toks w' res v∧Left env h F w env' h' F' w')→∃ v,e = .returned v∧K (a.put o.dst v) w':=by
    rintro e w' ⟨v,env',F',rfl,hr,hlf⟩
    refine ⟨v,rfl,hK _ _ _ ((hs.back hl hmem hF hxF hlf).put hd ?_)⟩
    simp only [RepT,if_true]
    exact RepR.mono ⟨fun _ _ x=>x,fun _ _ _=>rfl,fun _ _ x=>x,fun k t ht=>⟨t,by simp [S.over,ht],rfl,Nat.le_refl _,fun _=>rfl⟩⟩ hr
  unfold CallsV at hc
  split at hc
  · rename_i g fs cs hev
    obtain ⟨hcl,hc⟩:=hc
    have hrun:=run_func (P:=P) (w:=w) hop hcal hev hcl
    refine wp_next hrun (fun d e=>by cases e) ?_
    rw [Oper.uponIn_enter]
    refine ⟨fun h=>(by cases h),?_⟩
    rw [harr] at hc
    refine (show CallsIn (FW rd) (n - 1) P g _ w _ from (callsIn_wide (n:=n - 1)).2 hc).mono fun e w' he=>?_
    obtain ⟨v,rfl,hk⟩:=fin e w' he
    exact hk
  · rename_i l fs cs hev
    obtain ⟨rfl,rfl,fn,tmps,assign,body,hy,hro⟩:=hc
    have hrun:=run_yield (P:=P) (w:=w) hop hcal hev
    rw [harr] at hy
    rw [hy] at hrun
    refine wp_next hrun (fun d e=>by cases e) ?_
    rw [Oper.uponIn_round]
    refine ⟨fun h=>(by cases h),?_⟩
    refine (show RoundIn (FW rd) (n - 1) P l fn tmps assign body w _ from hro (n - 1)).mono fun e w' he=>?_
    obtain ⟨v,rfl,hk⟩:=fin e w' he
    exact hk
  · exact hc.elim
end
end Go.Fx

namespace Go.Fx
open Go.RowKit
section
variable {P:Program} {w0:World} {V0:Base} {N:Nat} {env:Env} {σ σ':S} {a:Act} {w:World} {o:Oper} {toks:Nat→Option Tok}
theorem RepT.tt {r:R} {v:Value} (h:RepT env toks w (.k true r) v):RepR env toks w r v:=by simpa [RepT] using h
theorem RepT.mk {r:R} {v:Value} (h:RepR env toks w r v):RepT env toks w (.k true r) v:=by simpa [RepT] using h
theorem splice_mid {L1 M L2 new:List A} {p off:Nat} (h1:L1.length = p) (h2:off + new.length≤M.length):splice (L1++(M++L2)) (p + off) new = L1++(splice M off new++L2):=by
  subst h1
  unfold splice
  have e1:(L1++(M++L2)).take (L1.length + off) = L1++M.take off:=by
    rw [List.take_append,List.take_of_length_le (by omega),Nat.add_sub_cancel_left,List.take_append_of_le_length (by omega)]
  have e2:(L1++(M++L2)).drop (L1.length + off + new.length) = M.drop (off + new.length)++L2:=by
    rw [Nat.add_assoc,List.drop_append,List.drop_eq_nil_of_le (by omega),Nat.add_sub_cancel_left,List.drop_append_of_le_length h2,List.nil_append]
  rw [e1,e2]
  simp
theorem over_append {us ex:List Value} {o:Nat} {vs:List Value} (h:o + vs.length≤us.length):over (us++ex) o vs = over us o vs++ex:=by
  unfold over
  rw [List.take_append_of_le_length (by omega),List.drop_append_of_le_length h]
  simp only [List.append_assoc]
theorem good_store (hd:∀ n,o.dst = some n→n < N) {t:TypeId} {i:TypeInfo} {x y:Operand} {dx dy:D} (hop:o.op = .store t x y) (hi:P.info? t = some i) (hx:cmpD x = some dx) (hy:cmpD y = some dy)
    {k r off:Nat} {b:Box} {yv:X} (h1:dx.val σ = .k true (.x (.one (.ref k r off)))) (hk:σ.objs k = some b) (hmp:b.mp = none) (h2:dy.val σ = .k true (.x yv)) (hr:r < b.rows.length)
    (hoff:off + yv.cells.length≤(b.rows.getD r []).length) (hsz:yv.cells.length = i.size) :
    Good P w0 V0 N o σ ((σ.setObj k { b with rows:=b.rows.set r (splice (b.rows.getD r []) off yv.cells) }).put o.dst nothing):=fun rd rn env a w K Q hs hK=>by
  have g1:=hs.opd hx
  rw [h1] at g1
  obtain ⟨bl,s,hρ,ea⟩:=(g1.tt:RepA env σ.toks w (.ref k r off) (a.eval x))
  have g2:=hs.opd hy
  rw [h2] at g2
  have hc:=RepX.cells (x:=yv) (g2.tt:RepX env σ.toks w yv (a.eval y))
  obtain ⟨b',us,e1,e2,e3,e4,e5,e6⟩:=hs.objs k b hk
  obtain ⟨ex,e3⟩:=e3.cells hmp
  rw [e1] at hρ
  injection hρ with hρ; injection hρ with hb hs2
  subst hb; subst hs2
  have hri:b.rows[r]? = some (b.rows.getD r []):=by rw [List.getD_eq_getElem?_getD,List.getElem?_eq_getElem hr]; rfl
  have hlen:(b.rows.getD r []).length = b.size:=e5 _ (List.mem_of_getElem? hri)
  have hul:us.length = b.rows.length * b.size:=by rw [← e4.1,length_flatten b.rows e5]
  have hfull:r * b.size + off + yv.cells.length≤us.length:=by
    have:(r + 1) * b.size≤b.rows.length * b.size:=Nat.mul_le_mul_right _ (by omega)
    rw [Nat.succ_mul] at this
    omega
  have hvs:(a.eval y).cells.size = yv.cells.length:=by rw [hc.1]; simp
  obtain ⟨w',q1,q2,q3,q4⟩:=run_storeAt (P:=P) (w:=w) (t:=t) (b:=b') (o:=r * b.size + off) (v:=a.eval y) hi (by rw [hvs,hsz]) e3 (by rw [hvs,List.length_append]; omega)
    (fun u hu=>by obtain ⟨j,hj⟩:=List.getElem?_of_mem hu; obtain ⟨x,_,hx⟩:=hc.get' hj; exact RepA.oneCell hx)
  rw [over_append (by rw [Array.length_toList,hvs]; exact hfull)] at q2
  -- the row written over is the flattened rows written over
  have hfl:(b.rows.set r (splice (b.rows.getD r []) off yv.cells)).flatten = splice b.rows.flatten (r * b.size + off) yv.cells:=by
    have hset:b.rows.set r (splice (b.rows.getD r []) off yv.cells) = b.rows.take r++splice (b.rows.getD r []) off yv.cells :: b.rows.drop (r + 1):=by
      rw [List.set_eq_take_append_cons_drop,if_pos hr]
    have hsplit:b.rows = b.rows.take r++b.rows.getD r [] :: b.rows.drop (r + 1):=by
      conv=>lhs; rw [← List.take_append_drop r b.rows]
      congr 1
      rw [List.drop_eq_getElem_cons hr]
      congr 1
      rw [List.getD_eq_getElem?_getD,List.getElem?_eq_getElem hr]; rfl
    have htl:(b.rows.take r).flatten.length = r * b.size:=by
      rw [length_flatten _ (fun x hx=>e5 x (List.mem_of_mem_take hx)),List.length_take,Nat.min_eq_left (by omega)]
    have hfl0:b.rows.flatten = (b.rows.take r).flatten++(b.rows.getD r []++(b.rows.drop (r + 1)).flatten):=by
      conv=>lhs; rw [hsplit]
      rw [List.flatten_append,List.flatten_cons]
    rw [hset,hfl0,List.flatten_append,List.flatten_cons,splice_mid htl hoff]
  have hrows:∀ q∈b.rows.set r (splice (b.rows.getD r []) off yv.cells),q.length = b.size:=fun q hq=>by
    rcases List.mem_or_eq_of_mem_set hq with h | h
    · exact e5 q h
    · subst h
      unfold splice
      simp only [List.length_append,List.length_take,List.length_drop]
      omega
  have hrun:(execOp a.eval o).run P w = .ok .skip w':=by
    have ea':a.eval x = .pointer (some ⟨b',r * b.size + off,none⟩):=ea
    simp [execOp,hop,ea',q1]
  refine wp_skipped hrun (hK _ _ _ ((hs.write hk e1 q3 q4 (BoxIn.mk (x:={ b with rows:=b.rows.set r (splice (b.rows.getD r []) off yv.cells) }) ex hmp q2) ?_ hrows).put hd (by simp [nothing,RepT])))
  rw [hfl]
  exact e4.splice hc
theorem madeCells_at (z:Array Value) (n s:Nat) (hz:z.size = s):(madeCells z (n * s)).toList = (List.replicate n z.toList).flatten:=by
  subst hz
  apply List.ext_getElem?
  intro j
  have hall:∀ e∈List.replicate n z.toList,e.length = z.size:=fun e he=>by rw [(List.mem_replicate.1 he).2]; simp
  have hlen:(List.replicate n z.toList).flatten.length = n * z.size:=by rw [length_flatten _ hall,List.length_replicate]
  by_cases hj:j < n * z.size
  · have hs:0 < z.size:=by
      rcases Nat.eq_zero_or_pos z.size with h | h
      · rw [h] at hj; omega
      · exact h
    have hdm:j = j / z.size * z.size + j % z.size:=by rw [Nat.mul_comm]; exact (Nat.div_add_mod j z.size).symm
    have hm:j % z.size < z.size:=Nat.mod_lt _ hs
    have hd:j / z.size < n:=Nat.div_lt_of_lt_mul (by rw [Nat.mul_comm]; exact hj)
    have h1:(List.replicate n z.toList).flatten[j]? = some (z[j % z.size]):=by
      conv=>lhs; rw [hdm]
      rw [flatten_at _ _ _ hall hm,List.getElem?_replicate,if_pos hd]
      simp [hm]
    rw [h1]
    simp only [madeCells,Array.toList_map,List.getElem?_map,Array.toList_range]
    rw [List.getElem?_range hj]
    simp [hm]
  · rw [List.getElem?_eq_none (by simp [madeCells]; omega),List.getElem?_eq_none (by rw [hlen]; omega)]
theorem All2.flatten_replicate {p:A→Value→Prop} {z:List A} {us:List Value} (h:All2 p z us):∀ n,All2 p (List.replicate n z).flatten (List.replicate n us).flatten
  | 0=>All2.nil
  | n + 1=>by
    rw [List.replicate_succ,List.replicate_succ,List.flatten_cons,List.flatten_cons]
    exact h.append (All2.flatten_replicate h n)
theorem good_make (hd:∀ n,o.dst = some n→n < N) {t e:TypeId} {i:TypeInfo} {z:List A} {l c:Operand} {dl dc:D} {d:Nat} {n m:Int} (hop:o.op = .makeSlice t l c) (ht:P.underlying t = some (.slice e)) (hi:P.info? e = some i)
    (hz:zeroIn P e = some z) (hl:cmpD l = some dl) (hc:cmpD c = some dc) (hdst:o.dst = some d) (hn:σ.objs d = none) (h1:dl.val σ = .k true (rI .i64 n)) (h2:dc.val σ = .k true (rI .i64 m))
    (h0:0≤n) (hnm:n≤m) (hm:m≤maxLen) (hb:i.bytes * m≤maxBytes) (hzl:z.length = i.size) :
    Good P w0 V0 N o σ ((σ.setObj d ⟨e,i.size,List.replicate m.toNat z,none⟩).put o.dst (.k true (.x (.one (.arr d 0 n.toNat m.toNat))))):=fun rd rn env a w K Q hs hK=>by
  have g1:=hs.opd hl
  rw [h1] at g1
  have e1:=rep_int g1.tt
  have g2:=hs.opd hc
  rw [h2] at g2
  have e2:=rep_int g2.tt
  obtain ⟨i',v,hi',hv,hcz⟩:=zeroIn_rep (env:=env) (toks:=σ.toks) (w:=w) hz
  rw [hi] at hi'; injection hi' with hi'; subst hi'
  have hsz:v.cells.size = i.size:=by rw [← hzl,hcz.1]; simp
  have hrun:=run_make (P:=P) w t e i v ht hi hv .i64 .i64 n m h0 hnm (by unfold maxBytes at hb; omega) (by unfold maxLen at hm; omega)
  have hcells:madeCells v.cells (m.toNat * i.size) = (List.replicate m.toNat v.cells.toList).flatten.toArray:=Array.toList_inj.1 (by rw [madeCells_at v.cells m.toNat i.size hsz])
  rw [hcells] at hrun
  refine wp_value (v:=.slice (some ⟨w.heap.size,0,none⟩) n.toNat m.toNat) (w':=w.alloc (.cells (List.replicate m.toNat v.cells.toList).flatten.toArray e)) ?_
    (hK _ _ _ ((hs.alloc hn (own_dst hd hs.nn hdst) e i.size (List.replicate m.toNat z) _ (hcz.flatten_replicate m.toNat) (fun r hr=>by rw [(List.mem_replicate.1 hr).2,hzl])).put hd ?_))
  · simp only [execOp,hop,e1,e2,Sem.run_bind,hrun,Result.andThen_ok,Sem.run_pure]
  · refine RepT.mk ?_
    exact ⟨w.heap.size,i.size,m.toNat,by simp,by simp,Nat.le_refl _,by omega⟩
end
end Go.Fx

import Derived.Test.YtiomojlcnemnhaaGreatDoorRFxD
import Derived.Laws.IdiomStrings
namespace Go.Fx
open Go.RowKit
section
variable {w0:World} {V0:Base} {N:Nat} {env:Env} {σ:S} {a:Act} {w:World}
theorem heap_lt {w:World} {b:Nat} {x:Obj} (h:w.heap[b]? = some x):b < w.heap.size:=(Array.getElem?_eq_some_iff.1 h).1
theorem Sim.allocO (h:Sim w0 V0 N env σ a w) {d:Nat} (hd:σ.objs d = none) (hk:ownKey d) (ty size:Nat) (rows:List (List A)) (mp:Option (TypeDesc × Bool)) (ob:Obj) (us:List Value) (hO:Holds ⟨ty,size,rows,mp⟩ us ob) (hu:All2 (RepA env σ.toks w) rows.flatten us)
    (hs:∀ r∈rows,r.length = size) :
    Sim w0 V0 N { env with ρ:=fun k=>if k = d then some (w.heap.size,size) else env.ρ k } (σ.setObj d ⟨ty,size,rows,mp⟩) a (w.alloc ob):=by
  have hdn:=h.dom d hk hd
  have hb:Below w.heap.size w (w.alloc ob):=(Below.refl _ _).alloc (Nat.le_refl _) _
  have he:env.Le { env with ρ:=fun k=>if k = d then some (w.heap.size,size) else env.ρ k } σ.toks σ.toks w (w.alloc ob) :=
    ⟨fun _ _ x=>x,fun b o x=>hb.cell (p:=⟨b,o,none⟩) (h.vlt b o x),fun k b x=>by
      have hk:k≠d:=fun e=>by rw [e,hdn] at x; cases x
      show (if k = d then _ else _) = _
      rw [if_neg hk]; exact x,fun _ t x=>⟨t,x,rfl,Nat.le_refl _,fun _=>rfl⟩⟩
  have hρlt:∀ k b s,env.ρ k = some (b,s)→b < w.heap.size:=h.ρlt
  exact {
    below:=h.below.trans (KeptBut.of_below (M:=fun _=>False) hb) (fun _ x=>x.elim)
    defers:=h.defers
    size:=h.size
    nn:=h.nn
    vlt:=fun b o hv=>Nat.lt_of_lt_of_le (h.vlt b o hv) hb.size
    vnew:=h.vnew
    vold:=h.vold
    vcell:=fun b o x=>(hb.cell (p:=⟨b,o,none⟩) (h.vlt b o (h.vold b o x))).trans (h.vcell b o x)
    v0:=h.v0
    tmps:=fun t=>(h.tmps t).mono he
    objs:=fun k x hx=>by
      simp only [S.setObj] at hx
      by_cases e:k = d
      · rw [if_pos e] at hx
        injection hx with hx
        subst hx
        refine ⟨w.heap.size,us,by simp [e],.inl h.below.size,⟨ob,heap_alloc_new w _,hO⟩,hu.imp fun _ _ _=>RepA.mono he,hs,fun o hv=>?_⟩
        have:=h.vlt _ o hv
        omega
      · rw [if_neg e] at hx
        obtain ⟨b,us',h1,h2,h3,h4,h5⟩:=h.objs k x hx
        exact ⟨b,us',by simp only [if_neg e]; exact h1,h2,h3.of (Below.heap_alloc w _ b h3.lt),h4.imp fun _ _ _=>RepA.mono he,h5⟩
    dom:=fun k ho hk=>by
      simp only [S.setObj] at hk
      by_cases e:k = d
      · rw [if_pos e] at hk; cases hk
      · rw [if_neg e] at hk
        simp only [if_neg e]
        exact h.dom k ho hk
    ρlt:=fun k b s hk=>by
      simp only at hk
      by_cases e:k = d
      · rw [if_pos e] at hk; injection hk with hk; injection hk with hk _; subst hk
        exact heap_lt (heap_alloc_new w ob)
      · rw [if_neg e] at hk
        exact Nat.lt_of_lt_of_le (h.ρlt k b s hk) hb.size
    τlt:=fun k v b x y=>Nat.lt_of_lt_of_le (h.τlt k v b x y) hb.size
    inj:=fun k k' b s s' hk hk'=>by
      simp only at hk hk'
      by_cases e:k = d
      · by_cases e':k' = d
        · rw [e,e']
        · rw [if_pos e] at hk
          rw [if_neg e'] at hk'
          injection hk with hk; injection hk with hk _
          have:=hρlt k' b s' hk'
          omega
      · by_cases e':k' = d
        · rw [if_pos e'] at hk'
          rw [if_neg e] at hk
          injection hk' with hk'; injection hk' with hk' _
          have:=hρlt k b s hk
          omega
        · rw [if_neg e] at hk
          rw [if_neg e'] at hk'
          exact h.inj k k' b s s' hk hk'
    toks:=fun k t ht=>by
      obtain ⟨v,xs,h1,h2,h3⟩:=h.toks k t ht
      refine ⟨v,xs,h1,h2.alloc _,fun b hv=>⟨(h3 b hv).1,(h3 b hv).2.1,fun k' s=>?_⟩⟩
      simp only
      by_cases e:k' = d
      · rw [if_pos e]
        intro hh
        injection hh with hh; injection hh with hh _
        have:=(h2.lt b hv).2
        omega
      · rw [if_neg e]; exact (h3 b hv).2.2 k' s
    tdom:=h.tdom
    tinj:=h.tinj
    sep:=fun k k' v b s hk hv hr=>by
      simp only at hr
      by_cases e:k' = d
      · rw [if_pos e] at hr; injection hr with hr; injection hr with hr _
        have:=h.τlt k v b hk hv
        omega
      · rw [if_neg e] at hr; exact h.sep k k' v b s hk hv hr
    ext:=by
      obtain ⟨F,h1,h2⟩:=h.ext
      refine ⟨F,σ.ext.mono (w:=w) (fun _ _ x=>x) (fun b o x=>hb.cell (p:=⟨b,o,none⟩) (h.vlt b o x)) (fun b x=>hb.block b (h2 b x).2.1) h1,fun b x=>?_⟩
      obtain ⟨g1,g2,g3,g4,g5⟩:=h2 b x
      refine ⟨g1,Nat.lt_of_lt_of_le g2 hb.size,g3,fun k s=>?_,g5⟩
      simp only
      by_cases e:k = d
      · rw [if_pos e]
        intro hh
        injection hh with hh; injection hh with hh _
        omega
      · rw [if_neg e]; exact g4 k s
    own:=h.own
    keepO:=fun k hn=>by
      have e:k≠d:=fun e=>hn (e ▸ hk)
      simp only [if_neg e]
      exact h.keepO k hn
    keepN:=h.keepN
    keepT:=h.keepT }
theorem Sim.grewO (h:Sim w0 V0 N env σ a w) {d:Nat} (hd:σ.objs d = none) (hk:ownKey d) (ty size:Nat) (rows:List (List A)) (us:List Value) {w':World} {gb:Nat} (hb:Below w.heap.size w w') (hgb:w.heap.size≤gb) (hB:BoxIn w' ⟨ty,size,rows,none⟩ gb us) (hu:All2 (RepA env σ.toks w) rows.flatten us)
    (hs:∀ r∈rows,r.length = size) :
    Sim w0 V0 N { env with ρ:=fun k=>if k = d then some (gb,size) else env.ρ k } (σ.setObj d ⟨ty,size,rows,none⟩) a w':=by
  have hdn:=h.dom d hk hd
  have he:env.Le { env with ρ:=fun k=>if k = d then some (gb,size) else env.ρ k } σ.toks σ.toks w w' :=
    ⟨fun _ _ x=>x,fun b o x=>hb.cell (p:=⟨b,o,none⟩) (h.vlt b o x),fun k b x=>by
      have hk:k≠d:=fun e=>by rw [e,hdn] at x; cases x
      show (if k = d then _ else _) = _
      rw [if_neg hk]; exact x,fun _ t x=>⟨t,x,rfl,Nat.le_refl _,fun _=>rfl⟩⟩
  have hρlt:∀ k b s,env.ρ k = some (b,s)→b < w.heap.size:=h.ρlt
  exact {
    below:=h.below.trans (KeptBut.of_below (M:=fun _=>False) hb) (fun _ x=>x.elim)
    defers:=h.defers
    size:=h.size
    nn:=h.nn
    vlt:=fun b o hv=>Nat.lt_of_lt_of_le (h.vlt b o hv) hb.size
    vnew:=h.vnew
    vold:=h.vold
    vcell:=fun b o x=>(hb.cell (p:=⟨b,o,none⟩) (h.vlt b o (h.vold b o x))).trans (h.vcell b o x)
    v0:=h.v0
    tmps:=fun t=>(h.tmps t).mono he
    objs:=fun k x hx=>by
      simp only [S.setObj] at hx
      by_cases e:k = d
      · rw [if_pos e] at hx
        injection hx with hx
        subst hx
        refine ⟨gb,us,by simp [e],.inl (Nat.le_trans h.below.size hgb),hB,hu.imp fun _ _ _=>RepA.mono he,hs,fun o hv=>?_⟩
        have:=h.vlt _ o hv
        omega
      · rw [if_neg e] at hx
        obtain ⟨b,us',h1,h2,h3,h4,h5⟩:=h.objs k x hx
        exact ⟨b,us',by simp only [if_neg e]; exact h1,h2,h3.of (hb.block b h3.lt),h4.imp fun _ _ _=>RepA.mono he,h5⟩
    dom:=fun k ho hk=>by
      simp only [S.setObj] at hk
      by_cases e:k = d
      · rw [if_pos e] at hk; cases hk
      · rw [if_neg e] at hk
        simp only [if_neg e]
        exact h.dom k ho hk
    ρlt:=fun k b s hk=>by
      simp only at hk
      by_cases e:k = d
      · rw [if_pos e] at hk; injection hk with hk; injection hk with hk _; subst hk
        exact hB.lt
      · rw [if_neg e] at hk
        exact Nat.lt_of_lt_of_le (h.ρlt k b s hk) hb.size
    τlt:=fun k v b x y=>Nat.lt_of_lt_of_le (h.τlt k v b x y) hb.size
    inj:=fun k k' b s s' hk hk'=>by
      simp only at hk hk'
      by_cases e:k = d
      · by_cases e':k' = d
        · rw [e,e']
        · rw [if_pos e] at hk
          rw [if_neg e'] at hk'
          injection hk with hk; injection hk with hk _
          have:=hρlt k' b s' hk'
          omega
      · by_cases e':k' = d
        · rw [if_pos e'] at hk'
          rw [if_neg e] at hk
          injection hk' with hk'; injection hk' with hk' _
          have:=hρlt k b s hk
          omega
        · rw [if_neg e] at hk
          rw [if_neg e'] at hk'
          exact h.inj k k' b s s' hk hk'
    toks:=fun k t ht=>by
      obtain ⟨v,xs,h1,h2,h3⟩:=h.toks k t ht
      refine ⟨v,xs,h1,h2.kept (row:=none) ⟨hb.os,hb.tape,hb.output,hb.size,fun i hi _=>hb.block i hi⟩ (by cases v.ownBlock <;> simp),fun b hv=>⟨(h3 b hv).1,(h3 b hv).2.1,fun k' s=>?_⟩⟩
      simp only
      by_cases e:k' = d
      · rw [if_pos e]
        intro hh
        injection hh with hh; injection hh with hh _
        have:=(h2.lt b hv).2
        omega
      · rw [if_neg e]; exact (h3 b hv).2.2 k' s
    tdom:=h.tdom
    tinj:=h.tinj
    sep:=fun k k' v b s hk hv hr=>by
      simp only at hr
      by_cases e:k' = d
      · rw [if_pos e] at hr; injection hr with hr; injection hr with hr _
        have:=h.τlt k v b hk hv
        omega
      · rw [if_neg e] at hr; exact h.sep k k' v b s hk hv hr
    ext:=by
      obtain ⟨F,h1,h2⟩:=h.ext
      refine ⟨F,σ.ext.mono (w:=w) (fun _ _ x=>x) (fun b o x=>hb.cell (p:=⟨b,o,none⟩) (h.vlt b o x)) (fun b x=>hb.block b (h2 b x).2.1) h1,fun b x=>?_⟩
      obtain ⟨g1,g2,g3,g4,g5⟩:=h2 b x
      refine ⟨g1,Nat.lt_of_lt_of_le g2 hb.size,g3,fun k s=>?_,g5⟩
      simp only
      by_cases e:k = d
      · rw [if_pos e]
        intro hh
        injection hh with hh; injection hh with hh _
        omega
      · rw [if_neg e]; exact g4 k s
    own:=h.own
    keepO:=fun k hn=>by
      have e:k≠d:=fun e=>hn (e ▸ hk)
      simp only [if_neg e]
      exact h.keepO k hn
    keepN:=h.keepN
    keepT:=h.keepT }
theorem Sim.alloc (h:Sim w0 V0 N env σ a w) {d:Nat} (hd:σ.objs d = none) (hk:ownKey d) (ty size:Nat) (rows:List (List A)) (us:List Value) (hu:All2 (RepA env σ.toks w) rows.flatten us)
    (hs:∀ r∈rows,r.length = size) :
    Sim w0 V0 N { env with ρ:=fun k=>if k = d then some (w.heap.size,size) else env.ρ k } (σ.setObj d ⟨ty,size,rows,none⟩) a (w.alloc (.cells us.toArray ty)) :=
  h.allocO hd hk ty size rows none (.cells us.toArray ty) us ⟨[],by simp⟩ hu hs
theorem Sim.write (h:Sim w0 V0 N env σ a w) {k:Nat} {x:Box} (hx:σ.objs k = some x) {b:Nat} (hb:env.ρ k = some (b,x.size)) {rows':List (List A)} {us':List Value}
    {w':World} (hw:Below b w w') (hw':∀ j,j≠b→w'.heap[j]? = w.heap[j]?) (hcell:BoxIn w' { x with rows:=rows' } b us')
    (hu:All2 (RepA env σ.toks w) rows'.flatten us') (hs:∀ r∈rows',r.length = x.size) :
    Sim w0 V0 N env (σ.setObj k { x with rows:=rows' }) a w':=by
  obtain ⟨b',us,h1,h2,h3,h4,h5,h6⟩:=h.objs k x hx
  rw [h1] at hb
  injection hb with hb; injection hb with hb _
  subst hb
  have he:env.Le env σ.toks σ.toks w w' :=
    ⟨fun _ _ x=>x,fun i o hv=>by
      have hne:i≠b':=fun e=>h6 o (e ▸ hv)
      exact World.cell?_of_block (a:=⟨i,o,none⟩) (hw' i hne),fun _ _ x=>x,fun _ t x=>⟨t,x,rfl,Nat.le_refl _,fun _=>rfl⟩⟩
  exact {
    below:=h.below.trans (M':=fun j=>j = b') ⟨hw.os,hw.tape,hw.output,hw.size,fun i _ hn=>hw' i hn⟩ (fun j e=>e ▸ h2)
    defers:=h.defers
    size:=h.size
    nn:=h.nn
    vlt:=fun i o hv=>Nat.lt_of_lt_of_le (h.vlt i o hv) hw.size
    vnew:=h.vnew
    vold:=h.vold
    vcell:=fun i o x=>(World.cell?_of_block (a:=⟨i,o,none⟩) (hw' i fun e=>h6 o (e ▸ h.vold i o x))).trans (h.vcell i o x)
    v0:=h.v0
    tmps:=fun t=>(h.tmps t).mono he
    objs:=fun k' y hy=>by
      simp only [S.setObj] at hy
      by_cases e:k' = k
      · rw [if_pos e] at hy
        injection hy with hy
        subst hy
        exact ⟨b',us',by rw [e]; exact h1,h2,hcell,hu.imp fun _ _ _=>RepA.mono he,hs,h6⟩
      · rw [if_neg e] at hy
        obtain ⟨b2,us2,g1,g2,g3,g4,g5⟩:=h.objs k' y hy
        have hne:b2≠b':=fun e2=>e (h.inj k' k b' y.size x.size (by rw [g1,e2]) h1)
        exact ⟨b2,us2,g1,g2,g3.of (hw' b2 hne),g4.imp fun _ _ _=>RepA.mono he,g5⟩
    dom:=fun k' ho hk=>by
      simp only [S.setObj] at hk
      by_cases e:k' = k
      · rw [if_pos e] at hk; cases hk
      · rw [if_neg e] at hk; exact h.dom k' ho hk
    ρlt:=fun k b s x=>Nat.lt_of_lt_of_le (h.ρlt k b s x) hw.size
    τlt:=fun k v b x y=>Nat.lt_of_lt_of_le (h.τlt k v b x y) hw.size
    inj:=h.inj
    toks:=fun k' t ht=>by
      obtain ⟨v,xs,g1,g2,g3⟩:=h.toks k' t ht
      refine ⟨v,xs,g1,?_,g3⟩
      refine g2.kept (row:=some b') ⟨hw.os,hw.tape,hw.output,hw.size,fun i hi hne=>hw' i (fun e=>hne (by rw [e]))⟩ ?_
      cases hv:v.ownBlock with
      | none=>exact .inl rfl
      | some i =>
        refine .inr fun e=>?_
        injection e with e
        exact (g3 i hv).2.2 k x.size (by rw [e]; exact h1)
    tdom:=h.tdom
    tinj:=h.tinj
    sep:=h.sep
    ext:=by
      obtain ⟨F,f1,f2⟩:=h.ext
      have hne:∀ i,F i→i≠b':=fun i x e=>(f2 i x).2.2.2.1 k _ (e ▸ h1)
      refine ⟨F,σ.ext.mono (w:=w) (fun _ _ x=>x) (fun i o x=>World.cell?_of_block (a:=⟨i,o,none⟩) (hw' i fun e=>h6 o (e ▸ x))) (fun i x=>hw' i (hne i x)) f1,fun i x=>?_⟩
      obtain ⟨g1,g2,g3,g4,g5⟩:=f2 i x
      exact ⟨g1,Nat.lt_of_lt_of_le g2 hw.size,g3,g4,g5⟩
    own:=h.own
    keepO:=h.keepO
    keepN:=h.keepN
    keepT:=h.keepT }
theorem Sim.token (h:Sim w0 V0 N env σ a w) {k:Nat} {t':Tok} (hk:σ.toks k = none→ownKey k) {v v':Value} {xs':List Value} {w':World}
    (hold:(σ.toks k = none∧v.ownBlock = none∧t'.n = t'.n)∨∃ t,σ.toks k = some t∧env.τ k = some v∧t'.ty = t.ty∧t'.size = t.size∧t.n≤t'.n∧(t.n = t'.n→v' = v))
    (hg:w.grownBy w' v.ownBlock) (hown:w'.ownsRow 0 t'.ty t'.size v' t'.n xs')
    (hcells:∀ b o,env.V b o→w'.cell? ⟨b,o,none⟩ = w.cell? ⟨b,o,none⟩)
    (hb:v'.ownBlock = v.ownBlock∨v'.ownBlock = some w.heap.size) :
    Sim w0 V0 N { env with V:=fun b o=>env.V b o∨(v'.ownBlock = some b∧o < t'.n * t'.size),τ:=fun j=>if j = k then some v' else env.τ j } (σ.setTok k t') a w':=by
  have hvown:∀ b,v.ownBlock = some b→New w0 V0 b∧b < w.heap.size∧(∀ k' s,env.ρ k'≠some (b,s))∧(∀ k' u,env.τ k' = some u→u.ownBlock = some b→k' = k):=by
    intro b hv
    rcases hold with ⟨_,hn,_⟩ | ⟨t,ht,hτ,_⟩
    · rw [hn] at hv; cases hv
    · obtain ⟨v1,xs1,g1,g2,g3⟩:=h.toks k t ht
      rw [hτ] at g1
      injection g1 with g1
      subst g1
      exact ⟨(g3 b hv).1,(g2.lt b hv).2,(g3 b hv).2.2,fun k' u hu hub=>h.tinj k' k u v b hu hτ hub hv⟩
  have hτlt:∀ j u b,env.τ j = some u→u.ownBlock = some b→b < w.heap.size:=h.τlt
  have hρlt:∀ j b s,env.ρ j = some (b,s)→b < w.heap.size:=h.ρlt
  -- the block that is owned now is no box's,and no other token's
  have hnew:∀ b,v'.ownBlock = some b→(∀ k' s,env.ρ k'≠some (b,s))∧(∀ k' u,env.τ k' = some u→u.ownBlock = some b→k' = k)∧New w0 V0 b:=by
    intro b hv
    rcases hb with e | e
    · rw [e] at hv
      obtain ⟨g1,g2,g3,g4⟩:=hvown b hv
      exact ⟨g3,g4,g1⟩
    · rw [e] at hv
      injection hv with hv
      subst hv
      exact ⟨fun k' s hk=>by have:=hρlt k' _ s hk; omega,fun k' u hu hub=>by have:=hτlt k' u _ hu hub; omega,.inl h.below.size⟩
  have hblk:∀ b,(∀ e,v.ownBlock = some e→b≠e)→b < w.heap.size→w'.heap[b]? = w.heap[b]?:=fun b hne hlt=>hg.block b hlt (fun e=>hne b e.symm rfl)
  have he:env.Le { env with V:=fun b o=>env.V b o∨(v'.ownBlock = some b∧o < t'.n * t'.size),τ:=fun j=>if j = k then some v' else env.τ j } σ.toks (σ.setTok k t').toks w w' :=
    ⟨fun _ _ x=>.inl x,hcells,fun _ _ x=>x,fun j t ht=>by
      by_cases e:j = k
      · subst e
        rcases hold with ⟨hn,_⟩ | ⟨t2,ht2,hτ,hty,hsz,hle,heq⟩
        · rw [hn] at ht; cases ht
        · rw [ht2] at ht; injection ht with ht; subst ht
          refine ⟨t',by simp [S.setTok],hsz,hle,fun e=>?_⟩
          simp only [if_true]
          rw [hτ,heq e.symm]
      · exact ⟨t,by simp [S.setTok,e,ht],rfl,Nat.le_refl _,fun _=>by simp only [if_neg e]⟩⟩
  exact {
    below:=h.below.trans (M':=fun j=>v.ownBlock = some j) ⟨hg.os,hg.tape,hg.output,hg.size,fun i hi hn=>hg.block i hi fun e=>hn e.symm⟩ (fun b e=>(hvown b e).1)
    defers:=h.defers
    size:=h.size
    nn:=h.nn
    vlt:=fun b o hv=>hv.elim (fun x=>Nat.lt_of_lt_of_le (h.vlt b o x) hg.size) fun x=>(hown.lt b x.1).2
    vnew:=fun b o hv=>hv.elim (h.vnew b o) fun x=>.inr (hnew b x.1).2.2
    vold:=fun b o hv=>.inl (h.vold b o hv)
    vcell:=fun b o x=>(hcells b o (h.vold b o x)).trans (h.vcell b o x)
    v0:=h.v0
    tmps:=fun t=>(h.tmps t).mono he
    objs:=fun j x hx=>by
      obtain ⟨b,us,h1,h2,h3,h4,h5,h6⟩:=h.objs j x hx
      have hne:∀ e,v.ownBlock = some e→b≠e:=fun e hv e2=>(hvown e hv).2.2.1 j x.size (by rw [← e2]; exact h1)
      refine ⟨b,us,h1,h2,h3.of (hblk b hne h3.lt),h4.imp fun _ _ _=>RepA.mono he,h5,fun o hv=>?_⟩
      rcases hv with hv | ⟨hv,_⟩
      · exact h6 o hv
      · exact (hnew b hv).1 j x.size h1
    dom:=h.dom
    inj:=h.inj
    toks:=fun j t ht=>by
      simp only [S.setTok] at ht
      by_cases e:j = k
      · rw [if_pos e] at ht
        injection ht with ht
        subst ht
        refine ⟨v',xs',by simp [e],hown,fun b hv=>⟨(hnew b hv).2.2,fun o ho hh=>?_,(hnew b hv).1⟩⟩
        rcases hh with hh | ⟨_,hlt⟩
        · rcases hb with e2 | e2
          · rw [e2] at hv
            rcases hold with ⟨_,hn,_⟩ | ⟨t2,ht2,hτ,hty,hsz,hle,_⟩
            · rw [hn] at hv; cases hv
            · obtain ⟨v1,xs1,g1,g2,g3⟩:=h.toks k t2 ht2
              rw [hτ] at g1; injection g1 with g1; subst g1
              refine (g3 b hv).2.1 o (Nat.le_trans ?_ ho) hh
              rw [hsz]
              exact Nat.mul_le_mul_right _ hle
          · rw [e2] at hv
            injection hv with hv
            have:=h.vlt b o hh
            omega
        · omega
      · rw [if_neg e] at ht
        obtain ⟨v1,xs1,g1,g2,g3⟩:=h.toks j t ht
        have hne:∀ b,v1.ownBlock = some b→v.ownBlock≠some b:=fun b hv1 hv=>e ((hvown b hv).2.2.2 j v1 g1 hv1)
        refine ⟨v1,xs1,by simp only [if_neg e]; exact g1,g2.kept hg ?_,fun b hv=>⟨(g3 b hv).1,fun o ho hh=>?_,(g3 b hv).2.2⟩⟩
        · cases hv1:v1.ownBlock with
          | none=>exact .inl rfl
          | some b=>exact .inr fun e2=>hne b hv1 e2.symm
        · rcases hh with hh | ⟨hh,_⟩
          · exact (g3 b hv).2.1 o ho hh
          · exact e ((hnew b hh).2.1 j v1 g1 hv)
    tdom:=fun j ho hj=>by
      simp only [S.setTok] at hj
      by_cases e:j = k
      · rw [if_pos e] at hj; cases hj
      · rw [if_neg e] at hj
        simp only [if_neg e]
        exact h.tdom j ho hj
    ρlt:=fun j b s x=>Nat.lt_of_lt_of_le (h.ρlt j b s x) hg.size
    τlt:=fun j u b hj hu=>by
      simp only at hj
      by_cases e:j = k
      · rw [if_pos e] at hj; injection hj with hj; subst hj
        exact (hown.lt b hu).2
      · rw [if_neg e] at hj
        exact Nat.lt_of_lt_of_le (h.τlt j u b hj hu) hg.size
    tinj:=fun j j' u u' b hj hj' hub hub'=>by
      simp only at hj hj'
      by_cases e:j = k
      · by_cases e':j' = k
        · rw [e,e']
        · rw [if_pos e] at hj; rw [if_neg e'] at hj'
          injection hj with hj; subst hj
          exact e.trans ((hnew b hub).2.1 j' u' hj' hub').symm
      · by_cases e':j' = k
        · rw [if_pos e'] at hj'; rw [if_neg e] at hj
          injection hj' with hj'; subst hj'
          exact ((hnew b hub').2.1 j u hj hub).trans e'.symm
        · rw [if_neg e] at hj; rw [if_neg e'] at hj'
          exact h.tinj j j' u u' b hj hj' hub hub'
    sep:=fun j j' u b s hj hu hr=>by
      simp only at hj
      by_cases e:j = k
      · rw [if_pos e] at hj; injection hj with hj; subst hj
        exact (hnew b hu).1 j' s hr
      · rw [if_neg e] at hj; exact h.sep j j' u b s hj hu hr
    ext:=by
      obtain ⟨F,f1,f2⟩:=h.ext
      have hFv:∀ b,F b→v.ownBlock≠some b:=fun b x e=>by
        rcases hold with ⟨_,hn,_⟩ | ⟨t2,ht2,hτ,_⟩
        · rw [hn] at e; cases e
        · exact (f2 b x).2.2.2.2 k v hτ e
      have hFv':∀ b,F b→v'.ownBlock≠some b:=fun b x e=>by
        rcases hb with e2 | e2
        · rw [e2] at e; exact hFv b x e
        · rw [e2] at e; injection e with e; have:=(f2 b x).2.1; omega
      refine ⟨F,σ.ext.mono (w:=w) (fun _ _ x=>.inl x) hcells (fun b x=>hg.block b (f2 b x).2.1 (fun e=>hFv b x e.symm)) f1,fun b x=>?_⟩
      obtain ⟨g1,g2,g3,g4,g5⟩:=f2 b x
      refine ⟨g1,Nat.lt_of_lt_of_le g2 hg.size,fun o hv=>hv.elim (g3 o) fun y=>hFv' b x y.1,g4,fun j u hu=>?_⟩
      simp only at hu
      by_cases e:j = k
      · rw [if_pos e] at hu; injection hu with hu; subst hu; exact hFv' b x
      · rw [if_neg e] at hu; exact g5 j u hu
    own:=h.own
    keepO:=h.keepO
    keepN:=fun j hn h0=>by
      have e:j≠k:=fun e=>by
        subst e
        rcases hold with ⟨hn2,_⟩ | ⟨t2,ht2,_⟩
        · exact hn (hk hn2)
        · have:=(h.keepN j hn h0).2; rw [ht2] at this; cases this
      simp only [S.setTok,if_neg e]
      exact h.keepN j hn h0
    keepT:=fun j t0 t1 h0 h1=>by
      simp only [S.setTok] at h1
      by_cases e:j = k
      · rw [if_pos e] at h1; injection h1 with h1; subst h1
        subst e
        rcases hold with ⟨hn,_⟩ | ⟨t2,ht2,hτ,hty,hsz,hle,heq⟩
        · rw [(h.own j (hk hn)).2] at h0; cases h0
        · obtain ⟨g1,g2,g3⟩:=h.keepT j t0 t2 h0 ht2
          refine ⟨hsz.trans g1,Nat.le_trans g2 hle,fun e=>?_⟩
          simp only [if_true]
          rw [← g3 (by omega),hτ,heq (by omega)]
      · rw [if_neg e] at h1
        simp only [if_neg e]
        exact h.keepT j t0 t1 h0 h1 }
end
end Go.Fx

namespace Go.Fx
open Go.RowKit
def ofCell:Value→Option A
  | .slice none 0 0=>some .nil
  | .agg _=>none
  | .tuple _=>none
  | v=>some (.c (.v v))
def ofCells:List Value→Option (List A)
  | []=>some []
  | v :: l =>
    match ofCell v,ofCells l with
    | some a,some as=>some (a :: as)
    | _,_=>none
def ofValue:Value→Option R
  | .agg cs=>(ofCells cs.toList).map fun l=>.x (.agg l)
  | v=>(ofCell v).map fun a=>.x (.one a)
def cmpD:Operand→Option D
  | .tmp t=>some (.t t)
  | .const v=>(ofValue v).map .k
  | .func f=>some (.k (.x (.one (.c (.v (.func (.func f) #[] #[]))))))
  | .global _=>none
def cmpDs:List Operand→Option (List D)
  | []=>some []
  | x :: l =>
    match cmpD x,cmpDs l with
    | some d,some ds=>some (d :: ds)
    | _,_=>none
def cellsIn (P:Program) (t:TypeId):Option (Option Nat) :=
  match P.underlying t with
  | some (.struct _)=>(P.info? t).map fun i=>some i.size
  | some (.array _ _)=>(P.info? t).map fun i=>some i.size
  | some _=>some none
  | none=>none
def zeroIn (P:Program) (t:TypeId):Option (List A) :=
  match P.info? t with
  | some i =>
    match i.zero with
    | some z=>ofCells z.cells.toList
    | none=>none
  | none=>none
def zeroAgg (P:Program) (t:TypeId):Option Bool :=
  match P.info? t with
  | some i =>
    match i.zero with
    | some (.agg _)=>some false
    | some (.tuple _)=>none
    | some _=>some true
    | none=>none
  | none=>none
def placesIn (P:Program) (fs:List Field):Option (List (Nat × Nat)):=fs.mapM (fun f=>(P.info? f.type).map fun i=>(f.offset,i.size))
def cmpParts (places:List (Nat × Nat)):List (Nat × Operand)→Option (List (Nat × Nat × D))
  | []=>some []
  | (j,x) :: l =>
    match places[j]?,cmpD x,cmpParts places l with
    | some p,some d,some ps=>some ((p.1,p.2,d) :: ps)
    | _,_,_=>none
def cmpRow:Nat→List (Nat × Operand)→Option (List D)
  | _,[]=>some []
  | k,(j,x) :: l =>
    if j = k then
      match cmpD x,cmpRow (k + 1) l with
      | some d,some ds=>some (d :: ds)
      | _,_=>none
    else none
def flatFs (P:Program) (f:TypeId→Option (List Kd)):List Field→Nat→Option (List Kd)
  | [],_=>some []
  | x :: fs,off =>
    match P.info? x.type,f x.type,flatFs P f fs (off + match P.info? x.type with | some i=>i.size | none=>0) with
    | some i,some ks,some rest=>if x.name ≠ "_" ∧ x.offset = off∧ks.length = i.size then some (ks++rest) else none
    | _,_,_=>none
def flatTy (P:Program):Nat→TypeId→Option (List Kd)
  | 0,_=>none
  | d + 1,t =>
    match P.underlying t with
    | some (.int k)=>some [.i k]
    | some .bool=>some [.b]
    | some .string=>some [.s]
    | some (.struct fs)=>if P.stoodInHeld t = false then flatFs P (flatTy P d) fs.toList 0 else none
    | _=>none
structure Notes where
  ops:List (Nat × Option (List Nat))
  fz:List (Nat × Prep)
def noteOf (fl:Notes) (o:Oper):Option (Option (List Nat)) :=
  match o.dst with
  | some d=>(fl.ops.find? fun p=>p.1 == d).map (·.2)
  | none=>match o.op with
    | .store _ (.tmp a) _=>(fl.ops.find? fun p=>p.1 == 100000 + a).map (·.2)
    | _=>none
def isGl (fl:Notes) (o:Oper):Bool:=match noteOf fl o with | some (some [88888])=>true | _=>false
def isMb (fl:Notes) (o:Oper):Bool:=match noteOf fl o with | some (some [77777])=>true | _=>false
def cmpOp (P:Program) (fl:Notes) (o:Oper):Option IOp :=
  match o.op with
  | .move x=>(cmpD x).map .move
  | .assign x=>(cmpD x).map .move
  | .pick c a b =>
    match cmpD c,cmpD a,cmpD b with
    | some c,some a,some b=>some (.pick c a b)
    | _,_,_=>none
  | .alloc e=>(zeroIn P e).map (.zero e)
  | .box e x=>(cmpD x).map (.box e)
  | .build t parts =>
    match P.underlying t,zeroIn P t with
    | some (.struct fs),some z =>
      match placesIn P fs.toList with
      | some places=>(cmpParts places parts.toList).map (.build z)
      | none=>none
    | _,_=>none
  | .buildSlice t len parts =>
    match P.underlying t with
    | some (.slice e) =>
      match P.info? e,zeroIn P e with
      | some i,some z=>if len * i.size≤16777216∧parts.size = len∧0 < i.size∧z.length = i.size then (cmpRow 0 parts.toList).map (fun ds=>if isMb fl o then .rowb e i.size ds else .row e i.size ds) else none
      | _,_=>none
    | _=>none
  | .load t x =>
    match cellsIn P t,cmpD x with
    | some n,some d=>some (if isGl fl o∧n = none then .gload d else .load n d)
    | _,_=>none
  | .store t x y =>
    match P.info? t,cmpD x,cmpD y with
    | some i,some x,some y=>some (.store (some i.size) x y)
    | _,_,_=>none
  | .binOp op t x y _ =>
    match P.underlying t,cmpD x,cmpD y with
    | some (.int _),some x,some y=>some (.bin op x y)
    | some .bool,some x,some y =>
      match op with
      | .eql=>some (.eqb false x y)
      | .neq=>some (.eqb true x y)
      | _=>none
    | some .string,some x,some y=>some (.bin op x y)
    | some (.struct _),some x,some y =>
      match flatTy P 20 t with
      | some ks =>
        if P.eqGuardType P.depth t = false then
          match op with
          | .eql=>some (.eqs false ks x y)
          | .neq=>some (.eqs true ks x y)
          | _=>none
        else none
      | none=>none
    | _,_,_=>none
  | .unOp op _ x=>(cmpD x).map (.un op)
  | .convert src dst x =>
    match P.underlying src,P.underlying dst,cmpD x with
    | some (.int _),some (.int k),some d=>some (.conv k d)
    | some .string,some (.slice e),some d =>
      match P.underlying e with
      | some (.int .u8)=>some (.bytes d)
      | _=>none
    | _,_,_=>none
  | .makeSlice t l c =>
    match P.underlying t,cmpD l,cmpD c with
    | some (.slice e),some l,some c =>
      match P.info? e,zeroIn P e with
      | some i,some z=>some (.make e i.size i.bytes z l c)
      | _,_=>none
    | _,_,_=>none
  | .slice t x lo hi none =>
    match P.underlying t,cmpD x with
    | some .string,some d =>
      match lo.map cmpD,hi.map cmpD with
      | none,none=>some (.ssl d none none)
      | some (some l),none=>some (.ssl d (some l) none)
      | none,some (some h)=>some (.ssl d none (some h))
      | some (some l),some (some h)=>some (.ssl d (some l) (some h))
      | _,_=>none
    | some (.slice e),some d =>
      match P.info? e,lo.map cmpD,hi.map cmpD with
      | some inf,none,none=>some (.vsl inf.size d none none)
      | some inf,some (some l),none=>some (.vsl inf.size d (some l) none)
      | some inf,none,some (some h)=>some (.vsl inf.size d none (some h))
      | some inf,some (some l),some (some h)=>some (.vsl inf.size d (some l) (some h))
      | _,_,_=>none
    | _,_=>none
  | .fieldAddr t x f =>
    match P.underlying t,cmpD x with
    | some (.struct fs),some d =>
      match fs[f]? with
      | some fl =>
        match P.info? fl.type with
        | some i=>if i.size = 0 then none else some (.faddr fl.offset d)
        | none=>none
      | none=>none
    | _,_=>none
  | .field t x f =>
    match P.underlying t,cmpD x with
    | some (.struct fs),some d =>
      match fs[f]? with
      | some fl =>
        match cellsIn P fl.type with
        | some n=>some (.field fl.offset n d)
        | none=>none
      | none=>none
    | _,_=>none
  | .indexAddr t x i =>
    match P.underlying t,cmpD x,cmpD i with
    | some (.slice e),some d,some j =>
      match P.info? e with
      | some inf=>some (.iaddr inf.size d j)
      | none=>none
    | some (.array len e),none,some j =>
      match x,P.info? e with
      | .global g,some inf=>if 1 < len then some (.gidx len inf.size g j) else none
      | _,_=>none
    | _,_,_=>none
  | .index t x i =>
    match P.underlying t,cmpD x,cmpD i with
    | some .string,some d,some j=>some (.sindex d j)
    | _,_,_=>none
  | .extract x i=>(cmpD x).map fun d=>.ext d i
  | .call c =>
    match c.callee with
    | .builtin .len =>
      match c.args.toList,c.argTypes.toList with
      | [x],[t] =>
        match P.underlying t with
        | some .string=>(cmpD x).map .slen
        | some (.slice _)=>(cmpD x).map .len
        | _=>none
      | _,_=>none
    | .builtin .append =>
      match c.args.toList,c.argTypes.toList with
      | [x,y],[t,u] =>
        if t = u then
          match P.underlying t,cmpD x,cmpD y with
          | some (.slice e),some x,some y =>
            match P.info? e,zeroIn P e with
            | some i,some z=>if 0 < i.size∧z.length = i.size then some (if isMb fl o then .appb e i.size i.bytes x y else .app e i.size i.bytes x y) else none
            | _,_=>none
          | _,_,_=>none
        else none
      | _,_=>none
    | .value f =>
      match cmpD f,cmpDs c.args.toList with
      | some f,some ds=>some (if (noteOf fl o).isSome then .call f ds else .callp f ds)
      | _,_=>none
    | _=>none
  | .makeMap t none =>
    match P.underlying t with
    | some (.map kt et) =>
      match P.underlying kt,P.info? et,zeroAgg P et with
      | some d,some i,some one=>some (.mkmap d (i.size + 1) one)
      | _,_,_=>none
    | _=>none
  | .lookup t m k comma =>
    match P.underlying t with
    | some (.map kt et) =>
      match P.underlying kt,zeroIn P et,zeroAgg P et,cmpD m,cmpD k with
      | some d,some z,some one,some m,some k=>some (.mlook d one comma z m k)
      | _,_,_,_,_=>none
    | _=>none
  | .mapUpdate t m k v =>
    match P.underlying t with
    | some (.map kt et) =>
      match P.underlying kt,zeroAgg P et,cmpD m,cmpD k,cmpD v with
      | some d,some one,some m,some k,some v=>some (.mapup d one m k v)
      | _,_,_,_,_=>none
    | _=>none
  | .makeFunc (.func f) fs cs =>
    match cmpDs fs.toList,cmpDs cs.toList with
    | some a,some b=>some (.clo f a b)
    | _,_=>none
  | .makeInterface t x =>
    match P.underlying t,cmpD x with
    | some (.interface _),_=>none
    | some _,some d=>some (.mki t d)
    | _,_=>none
  | .typeAssert x _ t comma =>
    match P.underlying t,zeroIn P t,zeroAgg P t,cmpD x with
    | some (.interface _),_,_,_=>none
    | some _,some z,some one,some d=>some (.asrt t comma one z d)
    | _,_,_,_=>none
  | .nilCheck x=>(cmpD x).map .nilchk
  | _=>none
def cmpGuard (ops:Array Oper):Option (Nat × Bool)→Option (Option (Nat × Bool))
  | none=>some none
  | some (j,b) =>
    match ops[j]? with
    | some o =>
      match o.dst with
      | some d=>some (some (d,b))
      | none=>none
    | none=>none
def cmpOper (P:Program) (fl:Notes) (ops:Array Oper) (N:Nat) (o:Oper):Option IOper :=
  match cmpOp P fl o,cmpGuard ops o.guard with
  | some op,some g =>
    match o.dst with
    | none=>some ⟨none,op,g,(noteOf fl o).join⟩
    | some d=>if d < N then some ⟨some d,op,g,(noteOf fl o).join⟩ else none
  | _,_=>none
end Go.Fx

namespace Go.Fx
open Go.RowKit
section
variable {P:Program} {w:World}
theorem add_at (b o n:Nat):Addr.add ⟨b,o,none⟩ n = ⟨b,o + n,none⟩:=Addr.add_lit b o n
theorem run_loadAt_one {t:TypeId} {ad:Addr} {u:Value} (h:cellsIn P t = some none) (hc:w.cell? ad = some u) :
    (Instr.loadAt t (.pointer (some ad))).run P w = .ok u w:=by
  unfold cellsIn at h
  cases hu:P.underlying t with
  | none=>rw [hu] at h; cases h
  | some d =>
    rw [hu] at h
    cases d <;> simp at h <;> simp [Instr.loadAt,Instr.sureAddr,loadVar,isAgg,run_underlying hu,run_load,hc]
theorem run_loadAt_agg {t:TypeId} {b o n:Nat} {us:List Value} (h:cellsIn P t = some (some n)) (hl:us.length = n)
    (hc:∀ (j:Nat) (u:Value),us[j]? = some u→w.cell? ⟨b,o + j,none⟩ = some u) :
    (Instr.loadAt t (.pointer (some ⟨b,o,none⟩))).run P w = .ok (.agg us.toArray) w:=by
  unfold cellsIn at h
  have hr:(loadCells ⟨b,o,none⟩ n).run P w = .ok us.toArray w:=by
    subst hl
    exact run_loadCells_list w ⟨b,o,none⟩ us (fun j v hv=>by rw [add_at]; exact hc j v hv)
  cases hu:P.underlying t with
  | none=>rw [hu] at h; cases h
  | some d =>
    rw [hu] at h
    cases d <;> simp at h
    all_goals
      obtain ⟨i,hi,hs⟩:=h
      simp [Instr.loadAt,Instr.sureAddr,loadVar,isAgg,run_underlying hu,sizeOf,typeInfo,hi,hs,hr]
def over (us:List Value) (o:Nat) (vs:List Value):List Value:=us.take o++vs++us.drop (o + vs.length)
theorem length_over {us:List Value} {o:Nat} {vs:List Value} (h:o + vs.length≤us.length):(over us o vs).length = us.length:=by
  simp [over]; omega
theorem over_cons {us:List Value} {o:Nat} {v:Value} {vs:List Value} (h:o + (vs.length + 1)≤us.length):over (us.set o v) (o + 1) vs = over us o (v :: vs):=by
  unfold over
  have h1:(us.set o v).take (o + 1) = us.take o++[v]:=by
    rw [List.take_succ_eq_append_getElem (by simp; omega)]
    simp [List.take_set_of_le]
  have h2:(us.set o v).drop (o + 1 + vs.length) = us.drop (o + (vs.length + 1)):=by
    rw [List.drop_set_of_lt (by omega)]
    congr 1; omega
  rw [h1,h2]
  simp
theorem run_storeCells (b o:Nat) (ty:TypeId):∀ (vs:List Value) (i:Nat) (w:World) (us:List Value),w.heap[b]? = some (.cells us.toArray ty (0,0))→o + i + vs.length≤us.length →
    (∀ v∈vs,v.oneCell' = true)→∃ w',(storeCells ⟨b,o,none⟩ vs i).run P w = .ok () w'∧w'.heap[b]? = some (.cells (over us (o + i) vs).toArray ty (0,0))∧Below b w w'∧∀ j,j≠b→w'.heap[j]? = w.heap[j]?
  | [],i,w,us,h,_,_=>⟨w,rfl,by simpa [over] using h,Below.refl _ _,fun _ _=>rfl⟩
  | v :: vs,i,w,us,h,hl,hv=>by
    have hlt:o + i < us.length:=by simp at hl; omega
    have hcell:w.cell? ⟨b,o + i,none⟩ = some us[o + i]:=by
      rw [cell_of_row w b (o + i) us.toArray ty (0,0) h]
      simp [hlt]
    have hfr:w.frozen? ⟨b,o + i,none⟩ = false:=by simp [World.frozen?,h]
    have hset:(w.setCell ⟨b,o + i,none⟩ v).heap[b]? = some (.cells (us.set (o + i) v).toArray ty (0,0)):=by
      simp [World.setCell,Array.getElem?_modify,h]
    obtain ⟨w',hr,hh,hb,ho⟩:=run_storeCells b o ty vs (i + 1) (w.setCell ⟨b,o + i,none⟩ v) (us.set (o + i) v) hset (by simp at hl ⊢; omega) (fun u hu=>hv u (List.mem_cons_of_mem _ hu))
    refine ⟨w',?_,?_,((Below.refl b w).setCell (p:=⟨b,o + i,none⟩) (Nat.le_refl _) v).trans hb,fun j hj=>(ho j hj).trans (Below.heap_setCell w ⟨b,o + i,none⟩ v j hj)⟩
    · simp only [storeCells,Sem.run_bind,add_at,run_store P w _ v .plain (hv v (by simp)),hcell,hfr]
      simpa using hr
    · rw [hh,show o + (i + 1) = (o + i) + 1 by omega,over_cons (by simp at hl; omega)]
theorem run_storeAt {t:TypeId} {i:TypeInfo} {b o:Nat} {ty:TypeId} {us:List Value} {v:Value} (hi:P.info? t = some i) (hs:v.cells.size = i.size)
    (h:w.heap[b]? = some (.cells us.toArray ty (0,0))) (hl:o + v.cells.size≤us.length) (hv:∀ u∈v.cells.toList,u.oneCell' = true) :
    ∃ w',(Instr.storeAt t (.pointer (some ⟨b,o,none⟩)) v).run P w = .ok () w'∧w'.heap[b]? = some (.cells (over us o v.cells.toList).toArray ty (0,0))∧Below b w w'∧∀ j,j≠b→w'.heap[j]? = w.heap[j]?:=by
  obtain ⟨w',hr,hh,hb,ho⟩:=run_storeCells (P:=P) b o ty v.cells.toList 0 w us h (by simpa using hl) hv
  refine ⟨w',?_,by simpa using hh,hb,ho⟩
  have hne:¬ (v.cells.size≠i.size):=fun h=>h hs
  simp only [Instr.storeAt,Instr.sureAddr,Sem.run_bind,Sem.run_pure,Result.andThen_ok,storeVar,sizeOf,typeInfo,run_program,hi,if_neg hne]
  exact hr
theorem flatten_at {α:Type} {s:Nat}:∀ (l:List (List α)) (i m:Nat),(∀ e∈l,e.length = s)→m < s→l.flatten[i * s + m]? = (l[i]?).bind (·[m]?)
  | [],i,m,_,_=>by simp
  | e :: l,0,m,h,hm=>by
    have he:e.length = s:=h e (by simp)
    simp only [List.flatten_cons,Nat.zero_mul,Nat.zero_add,List.getElem?_cons_zero,Option.bind_some]
    rw [List.getElem?_append_left (by omega)]
  | e :: l,i + 1,m,h,hm=>by
    have he:e.length = s:=h e (by simp)
    have ih:=flatten_at l i m (fun x hx=>h x (List.mem_cons_of_mem _ hx)) hm
    simp only [List.flatten_cons,List.getElem?_cons_succ]
    rw [List.getElem?_append_right (by rw [he,Nat.succ_mul]; omega),he,← ih]
    congr 1
    rw [Nat.succ_mul]; omega
theorem length_flatten {α:Type} {s:Nat}:∀ (l:List (List α)),(∀ e∈l,e.length = s)→l.flatten.length = l.length * s
  | [],_=>by simp
  | e :: l,h=>by
    rw [List.flatten_cons,List.length_append,length_flatten l (fun x hx=>h x (List.mem_cons_of_mem _ hx)),h e (by simp),List.length_cons,Nat.succ_mul]
    omega
end
end Go.Fx

import Derived.Test.YtiomojlcnemnhaaGreatDoorRFxTg
namespace Go.Fx
open Go.RowKit
structure Ren where
  f:Nat→Nat
  g:Nat→Nat
  fg:∀ k,f (g k) = k
  gf:∀ k,g (f k) = k
def Ren.symm (π:Ren):Ren:=⟨π.g,π.f,π.gf,π.fg⟩
mutual
def A.ren (r:Nat→Nat):A→A
  | .own k es=>.own (r k) es
  | .ref k i off=>.ref (r k) i off
  | .arr k off n c=>.arr (r k) off n c
  | .mapr k=>.mapr (r k)
  | .clo f fs cs=>.clo f (renL r fs) (renL r cs)
  | .yld l ta ks xs=>.yld l ta ks (renL r xs)
  | .ifc t a=>.ifc t (a.ren r)
  | .c x=>.c x
  | .nil=>.nil
  | .elem es sp i off=>.elem es sp i off
  | .lost=>.lost
def renL (r:Nat→Nat):List A→List A
  | []=>[]
  | a :: l=>a.ren r :: renL r l
end
theorem renL_map (r:Nat→Nat):∀ l,renL r l = l.map (A.ren r)
  | []=>rfl
  | a :: l=>by rw [renL,renL_map r l]; rfl
def X.ren (r:Nat→Nat):X→X
  | .one a=>.one (a.ren r)
  | .agg cs=>.agg (renL r cs)
def R.ren (r:Nat→Nat):R→R
  | .x y=>.x (y.ren r)
  | .tup xs=>.tup (xs.map (X.ren r))
def Box.ren (r:Nat→Nat) (b:Box):Box:={ b with rows:=b.rows.map (renL r) }
def Hp.ren (π:Ren) (h:Hp):Hp:=⟨fun k=>(h.objs (π.g k)).map (Box.ren π.f),fun k=>h.toks (π.g k),h.ext⟩
def Env.ren (π:Ren) (env:Env):Env:=⟨env.V,fun k=>env.ρ (π.g k),fun k=>env.τ (π.g k)⟩
section
variable {P:Program} {G:World→Prop} {env env':Env} {w w':World} {toks:Nat→Option Tok} {p q:Nat→Prop} (π:Ren)
theorem Env.ren_symm:(env.ren π.symm).ren π = env:=by
  unfold Env.ren Ren.symm
  simp only [π.fg]
mutual
theorem A.ren_ren:∀ (a:A),(a.ren π.f).ren π.g = a
  | .own k es=>by simp only [A.ren,π.gf]
  | .ref k i off=>by simp only [A.ren,π.gf]
  | .arr k off n c=>by simp only [A.ren,π.gf]
  | .mapr k=>by simp only [A.ren,π.gf]
  | .clo f fs cs=>by simp only [A.ren,renL_renL fs,renL_renL cs]
  | .yld l ta ks xs=>by simp only [A.ren,renL_renL xs]
  | .ifc t a=>by simp only [A.ren,A.ren_ren a]
  | .c x=>rfl
  | .nil=>rfl
  | .elem es sp i off=>rfl
  | .lost=>rfl
theorem renL_renL:∀ (l:List A),renL π.g (renL π.f l) = l
  | []=>rfl
  | a :: l=>by simp only [renL,A.ren_ren a,renL_renL l]
end
theorem Hp.ren_symm (h:Hp):(h.ren π).ren π.symm = h:=by
  obtain ⟨o,t,e⟩:=h
  unfold Hp.ren
  simp only [Ren.symm,π.gf,Hp.mk.injEq,and_true]
  funext k
  cases o k with
  | none=>rfl
  | some b =>
    simp only [Option.map_some,Box.ren,List.map_map,Option.some.injEq]
    have:(renL π.g ∘ renL π.f) = id:=funext fun l=>renL_renL π l
    rw [this,List.map_id]
mutual
theorem RepA.ren:∀ {a:A} {v:Value},RepA env toks w a v↔RepA (env.ren π) (fun k=>toks (π.g k)) w (a.ren π.f) v
  | .c x,v=>Iff.rfl
  | .own k es,v=>by simp only [RepA,A.ren,Env.ren,π.gf]
  | .nil,v=>Iff.rfl
  | .ref k i off,v=>by simp only [RepA,A.ren,Env.ren,π.gf]
  | .arr k off n cap,v=>by simp only [RepA,A.ren,Env.ren,π.gf]
  | .mapr k,v=>by simp only [RepA,A.ren,Env.ren,π.gf]
  | .elem es sp i off,v=>Iff.rfl
  | .clo f fs cs,v=>by
    simp only [RepA,A.ren]
    constructor
    · rintro ⟨us,vs,h1,h2,h3⟩; exact ⟨us,vs,h1,RepAs.ren.1 h2,RepAs.ren.1 h3⟩
    · rintro ⟨us,vs,h1,h2,h3⟩; exact ⟨us,vs,h1,RepAs.ren.2 h2,RepAs.ren.2 h3⟩
  | .yld l ta ks xs,v=>by
    simp only [RepA,A.ren]
    constructor
    · rintro ⟨h1,h2⟩; exact ⟨h1,RepAs.ren.1 h2⟩
    · rintro ⟨h1,h2⟩; exact ⟨h1,RepAs.ren.2 h2⟩
  | .ifc t a,v=>by
    simp only [RepA,A.ren]
    constructor
    · rintro ⟨u,h1,h2⟩; exact ⟨u,h1,RepA.ren.1 h2⟩
    · rintro ⟨u,h1,h2⟩; exact ⟨u,h1,RepA.ren.2 h2⟩
  | .lost,v=>Iff.rfl
theorem RepAs.ren:∀ {xs:List A} {vs:List Value},RepAs env toks w xs vs↔RepAs (env.ren π) (fun k=>toks (π.g k)) w (renL π.f xs) vs
  | [],[]=>Iff.rfl
  | [],_ :: _=>Iff.rfl
  | _ :: _,[]=>Iff.rfl
  | _ :: _,_ :: _=>by simp only [RepAs,renL]; exact and_congr RepA.ren RepAs.ren
end
theorem all2_ren {α β γ:Type} {p:α→β→Prop} {q:γ→β→Prop} {f:α→γ} (h:∀ x y,p x y↔q (f x) y) {l:List α} {m:List β}:All2 p l m↔All2 q (l.map f) m:=by
  constructor
  · intro hl; exact All2.map_left (hl.imp fun x y _ hp=>(h x y).1 hp)
  · intro hl; exact (All2.of_map_left hl).imp fun x y _ hp=>(h x y).2 hp
theorem RepX.ren {x:X} {v:Value}:RepX env toks w x v↔RepX (env.ren π) (fun k=>toks (π.g k)) w (x.ren π.f) v:=by
  cases x with
  | one a=>exact RepA.ren π
  | agg cs =>
    simp only [RepX,X.ren,renL_map]
    constructor
    · rintro ⟨us,e,h⟩; exact ⟨us,e,(all2_ren fun x y=>RepA.ren π).1 h⟩
    · rintro ⟨us,e,h⟩; exact ⟨us,e,(all2_ren fun x y=>RepA.ren π).2 h⟩
theorem RepR.ren {r:R} {v:Value}:RepR env toks w r v↔RepR (env.ren π) (fun k=>toks (π.g k)) w (r.ren π.f) v:=by
  cases r with
  | x x=>exact RepX.ren π
  | tup xs =>
    simp only [RepR,R.ren]
    constructor
    · rintro ⟨us,e,h⟩; exact ⟨us,e,(all2_ren fun x y=>RepX.ren π).1 h⟩
    · rintro ⟨us,e,h⟩; exact ⟨us,e,(all2_ren fun x y=>RepX.ren π).2 h⟩
mutual
theorem A.only_ren:∀ {a:A},a.only (fun k=>p (π.f k)) (fun k=>q (π.f k))→(a.ren π.f).only p q
  | .c _,_=>trivial
  | .nil,_=>trivial
  | .own _ _,h=>h
  | .ref _ _ _,h=>h
  | .arr _ _ _ _,h=>h
  | .mapr _,h=>h
  | .elem _ _ _ _,_=>trivial
  | .clo _ _ _,h=>⟨onlyL_ren h.1,onlyL_ren h.2⟩
  | .yld _ _ _ xs,h=>onlyL_ren (l:=xs) h
  | .ifc _ a,h=>A.only_ren (a:=a) h
  | .lost,_=>trivial
theorem onlyL_ren:∀ {l:List A},onlyL (fun k=>p (π.f k)) (fun k=>q (π.f k)) l→onlyL p q (renL π.f l)
  | [],_=>trivial
  | _ :: _,h=>⟨A.only_ren h.1,onlyL_ren h.2⟩
end
theorem X.only_ren {x:X} (h:x.only (fun k=>p (π.f k)) (fun k=>q (π.f k))):(x.ren π.f).only p q:=by
  cases x with
  | one a=>exact A.only_ren π h
  | agg cs=>exact onlyL_ren π h
theorem Hp.ren_objs {h:Hp} {k:Nat}:(h.ren π).objs k≠none↔h.objs (π.g k)≠none:=by simp [Hp.ren]
theorem Hp.only_ren {h:Hp} (ho:h.only (fun k=>p (π.f k)) (fun k=>q (π.f k))):(h.ren π).only p q:=by
  intro k b hk r hr
  simp only [Hp.ren] at hk
  cases hb:h.objs (π.g k) with
  | none=>rw [hb] at hk; cases hk
  | some b' =>
    rw [hb] at hk
    simp only [Option.map_some,Option.some.injEq] at hk
    subst hk
    obtain ⟨r',hr',rfl⟩:=List.mem_map.1 hr
    exact onlyL_ren π (ho (π.g k) b' hb r' hr')
theorem HMem.ren {h:Hp} {F:Nat→Prop} (hm:HMem env h F w):HMem (env.ren π) (h.ren π) F w where
  vlt:=hm.vlt
  ρlt:=fun k b s hk=>hm.ρlt (π.g k) b s hk
  τlt:=fun k v b hk hv=>hm.τlt (π.g k) v b hk hv
  objs:=fun k x hk=>by
    simp only [Hp.ren] at hk
    cases hb:h.objs (π.g k) with
    | none=>rw [hb] at hk; cases hk
    | some y =>
      rw [hb] at hk
      simp only [Option.map_some,Option.some.injEq] at hk
      subst hk
      obtain ⟨b,us,g1,g2,g3,g4,g5⟩:=hm.objs (π.g k) y hb
      refine ⟨b,us,g1,g2.mapped (f:=renL π.f) (fun r hr=>?_),?_,fun r hr=>?_,g5⟩
      · obtain ⟨z,t,rfl⟩:=hr; exact ⟨z,renL π.f t,rfl⟩
      · have:(y.rows.map (renL π.f)).flatten = y.rows.flatten.map (A.ren π.f):=by
          rw [List.map_flatten]; congr 1; exact List.map_congr_left fun r _=>renL_map _ r
        show All2 _ (y.rows.map (renL π.f)).flatten us
        rw [this]
        exact (all2_ren fun x y=>RepA.ren π).1 g3
      · obtain ⟨r',hr',rfl⟩:=List.mem_map.1 hr
        rw [renL_map,List.length_map]; exact g4 r' hr'
  inj:=fun k k' b s s' hk hk'=>by
    have:=hm.inj (π.g k) (π.g k') b s s' hk hk'
    rw [← π.fg k,this,π.fg]
  toks:=fun k t hk=>by
    obtain ⟨v,xs,g1,g2,g3⟩:=hm.toks (π.g k) t hk
    exact ⟨v,xs,g1,g2,fun b hb=>⟨(g3 b hb).1,fun k' s=>(g3 b hb).2 (π.g k') s⟩⟩
  tinj:=fun k k' v v' b hk hk' hv hv'=>by
    have:=hm.tinj (π.g k) (π.g k') v v' b hk hk' hv hv'
    rw [← π.fg k,this,π.fg]
  sep:=fun k k' v b s hk hv=>hm.sep (π.g k) (π.g k') v b s hk hv
  ext:=hm.ext
  flt:=fun b hb=>⟨(hm.flt b hb).1,(hm.flt b hb).2.1,fun k s=>(hm.flt b hb).2.2.1 (π.g k) s,fun k v=>(hm.flt b hb).2.2.2 (π.g k) v⟩
theorem Owned.ren {h:Hp} {F:Nat→Prop} {b:Nat}:Owned (env.ren π) (h.ren π) F b↔Owned env h F b:=by
  constructor
  · rintro (⟨k,s,q1,q2⟩ | ⟨k,v,q1,q2,q3⟩ | q)
    · exact .inl ⟨π.g k,s,(Hp.ren_objs π).1 q1,q2⟩
    · exact .inr (.inl ⟨π.g k,v,q1,q2,q3⟩)
    · exact .inr (.inr q)
  · rintro (⟨k,s,q1,q2⟩ | ⟨k,v,q1,q2,q3⟩ | q)
    · exact .inl ⟨π.f k,s,(Hp.ren_objs π).2 (by rw [π.gf]; exact q1),by simp only [Env.ren,π.gf]; exact q2⟩
    · exact .inr (.inl ⟨π.f k,v,by simp only [Hp.ren,π.gf]; exact q1,by simp only [Env.ren,π.gf]; exact q2,q3⟩)
    · exact .inr (.inr q)
theorem Left.ren {h h':Hp} {F F':Nat→Prop} (hl:Left env h F w env' h' F' w'):Left (env.ren π) (h.ren π) F w (env'.ren π) (h'.ren π) F' w' where
  mem:=hl.mem.ren π
  kept:=hl.kept.mono fun b hb=>(Owned.ren π).2 hb
  owned:=fun b hb=>(hl.owned b ((Owned.ren π).1 hb)).imp id (Owned.ren π).2
  vold:=hl.vold
  vcell:=hl.vcell
  vnew:=fun b o hv=>(hl.vnew b o hv).imp id fun h=>h.imp id (Owned.ren π).2
  ρold:=fun k p hk=>hl.ρold (π.g k) p hk
  ρnew:=fun k p hk=>(hl.ρnew (π.g k) p hk).imp id fun h=>⟨(Hp.ren_objs π).2 h.1,by simp [Hp.ren,h.2]⟩
  τold:=fun k h1 h2=>hl.τold (π.g k) h1 h2
  τnew:=fun k v hk=>hl.τnew (π.g k) v hk
  tok:=fun k t t' h1 h2=>hl.tok (π.g k) t t' h1 h2
theorem MeetsV.ren {fv:A} {args:List X} {h:Hp} {res:R} {h':Hp} (hm:MeetsV P G fv args h res h'):MeetsV P G (fv.ren π.f) (args.map (X.ren π.f)) (h.ren π) (res.ren π.f) (h'.ren π):=by
  obtain ⟨m1,m2,m3,m4⟩:=hm
  have hq:∀ k,h.toks k≠none→(h.ren π).toks (π.f k)≠none:=fun k hk=>by simp only [Hp.ren,π.gf]; exact hk
  refine ⟨A.only_ren π (A.only_mono (fun _ _=>trivial) hq m1),fun x hx=>?_,Hp.only_ren π fun k b hk r hr=>onlyL_mono (fun _ _=>trivial) hq (m3 k b hk r hr),?_⟩
  · obtain ⟨y,hy,rfl⟩:=List.mem_map.1 hx
    exact X.only_ren π (X.only_mono (fun _ _=>trivial) hq (m2 y hy))
  intro w env F v vs hG hmem hfr hv ha
  have hmem':HMem (env.ren π.symm) h F w:=by
    have:=hmem.ren π.symm
    rwa [Hp.ren_symm] at this
  have hown:∀ b,Owned (env.ren π.symm) h F b↔Owned env (h.ren π) F b:=fun b=>by
    have:=Owned.ren (env:=env.ren π.symm) (h:=h) (F:=F) (b:=b) π
    rw [Env.ren_symm] at this
    exact this.symm
  have hfr':Fresh (env.ren π.symm) h h':=⟨fun k h1 h2=>by
      have:=hfr.1 (π.f k) (by simp only [Hp.ren,π.gf]; simpa using h1) (by simp only [Hp.ren,π.gf,h2]; rfl)
      exact this,fun k h1 h2=>by
      have:=hfr.2 (π.f k) (by simp only [Hp.ren,π.gf]; exact h1) (by simp only [Hp.ren,π.gf]; exact h2)
      exact this⟩
  have hv':RepA (env.ren π.symm) h.toks w fv v:=by
    have:=(RepA.ren (env:=env.ren π.symm) (toks:=h.toks) (w:=w) π (a:=fv) (v:=v)).2
    rw [Env.ren_symm] at this
    exact this hv
  have ha':All2 (RepX (env.ren π.symm) h.toks w) args vs:=by
    have:=(all2_ren (l:=args) (m:=vs) fun x y=>RepX.ren (env:=env.ren π.symm) (toks:=h.toks) (w:=w) π (x:=x) (v:=y)).2
    rw [Env.ren_symm] at this
    exact this ha
  have hc:=m4 w (env.ren π.symm) F v vs (fun w' hk=>hG w' (hk.mono fun b hb=>(hown b).1 hb)) hmem' hfr' hv' ha'
  have fin:∀ (e:Ending) (w':World),(∃ v env' F',e = .returned v∧RepR env' h'.toks w' res v∧Left (env.ren π.symm) h F w env' h' F' w') →
      ∃ v env' F',e = .returned v∧RepR env' (h'.ren π).toks w' (res.ren π.f) v∧Left env (h.ren π) F w env' (h'.ren π) F' w':=by
    rintro e w' ⟨u,env1,F1,he,hr,hl⟩
    have hl':=hl.ren π
    rw [Env.ren_symm] at hl'
    exact ⟨u,env1.ren π,F1,he,(RepR.ren π).1 hr,hl'⟩
  unfold CallsV at hc ⊢
  split at hc
  · exact ⟨hc.1,hc.2.mono fin⟩
  · obtain ⟨e1,e2,fn,tmps,assign,body,hy,hr⟩:=hc
    exact ⟨e1,e2,fn,tmps,assign,body,hy,fun n=>(hr n).mono fin⟩
  · exact hc
end
end Go.Fx

namespace Go.Fx
open Go.RowKit
section
variable {P:Program} {G:World→Prop} {env env':Env} {w w':World} {toks:Nat→Option Tok}
abbrev fnA (f:FuncId):A:=.c (.v (.func (.func f) #[] #[]))
theorem MeetsV.of_fun {f:FuncId} {args:List X} {h:Hp} {res:R} {h':Hp} (hm:MeetsH P G f args h res h'):MeetsV P G (fnA f) args h res h':=by
  obtain ⟨m1,m2,m3,m4⟩:=hm
  refine ⟨trivial,m2,m3,fun w env F v vs hG hmem hfr hv ha=>?_⟩
  cases hv
  refine ⟨m1,?_⟩
  have:=m4 w env F vs hG hmem hfr ha
  simpa using this
theorem repAs_map {xs:List A} {vs:List Value} (h:RepAs env toks w xs vs):All2 (RepX env toks w) (xs.map X.one) vs:=All2.map_left (repAs_iff.1 h)
theorem MeetsV.of_clo {f:FuncId} {fs cs:List A} {args:List X} {h:Hp} {res:R} {h':Hp} (hm:MeetsH P G f (fs.map X.one++args++cs.map X.one) h res h'):MeetsV P G (.clo f fs cs) args h res h':=by
  obtain ⟨m1,m2,m3,m4⟩:=hm
  have hone:∀ l:List A,(∀ a∈l,X.one a∈fs.map X.one++args++cs.map X.one)→onlyL (fun _=>True) (fun k=>h.toks k≠none) l:=fun l hl=>onlyL_iff.2 fun a ha=>m2 (.one a) (hl a ha)
  refine ⟨⟨hone fs fun a ha=>by simp [ha],hone cs fun a ha=>by simp [ha]⟩,fun x hx=>m2 x (by simp [hx]),m3,fun w env F v vs hG hmem hfr hv ha=>?_⟩
  obtain ⟨us,ws,rfl,h1,h2⟩:=hv
  refine ⟨m1,?_⟩
  have:=m4 w env F (us++vs++ws) hG hmem hfr (((repAs_map h1).append ha).append (repAs_map h2))
  simpa using this
def Hp.emp:Hp:=⟨fun _=>none,fun _=>none,XP.emp⟩
theorem CX.only_open {p q:Nat→Prop} (c:CX):c.open.only p q:=by
  cases c with
  | one x=>trivial
  | agg cs=>exact onlyL_iff.2 fun a ha=>by obtain ⟨c,_,rfl⟩:=List.mem_map.1 ha; trivial
theorem CR.only_open {p q:Nat→Prop} (c:CR):c.open.only p q:=by
  cases c with
  | x y=>exact CX.only_open y
  | tup xs=>intro x hx; obtain ⟨c,_,rfl⟩:=List.mem_map.1 hx; exact CX.only_open c
theorem open_close {c:CX} {v:Value} (h:RepX env toks w c.open v):RepCX env.V w c v:=by
  cases c with
  | one x=>exact h
  | agg cs=>obtain ⟨us,e,hu⟩:=h; exact ⟨us,e,(All2.of_map_left (f:=A.c) (p:=RepA env toks w) hu).imp fun _ _ _ h=>h⟩
theorem openR_close {c:CR} {v:Value} (h:RepR env toks w c.open v):RepCR env.V w c v:=by
  cases c with
  | x y=>exact open_close h
  | tup xs=>obtain ⟨us,e,hu⟩:=h; exact ⟨us,e,(All2.of_map_left hu).imp fun _ _ _=>open_close⟩
theorem MeetsH.plain {f:FuncId} {cs:List CX} {res:CR} (hm:MeetsH P G f (cs.map CX.open) Hp.emp res.open Hp.emp):Meets P G f cs res:=by
  obtain ⟨m1,m2,m3,m4⟩:=hm
  refine ⟨m1,fun w V vs hG hV ha=>?_⟩
  let env:Env:=⟨V,fun _=>none,fun _=>none⟩
  have hno:∀ b,¬ Owned env Hp.emp (fun _=>False) b:=by
    rintro b (⟨k,s,h1,_⟩ | ⟨k,v,h1,_⟩ | h)
    · exact h1 rfl
    · exact h1 rfl
    · exact h
  have hmem:HMem env Hp.emp (fun _=>False) w:={
    vlt:=hV
    ρlt:=fun k b s h=>by cases h
    τlt:=fun k v b h=>by cases h
    objs:=fun k x h=>by cases h
    inj:=fun k k' b s s' h=>by cases h
    toks:=fun k t h=>by cases h
    tinj:=fun k k' v v' b h=>by cases h
    sep:=fun k k' v b s h=>by cases h
    ext:=fun _ h=>h
    flt:=fun b h=>h.elim }
  refine (m4 w env (fun _=>False) vs (fun w' hk=>hG w' ⟨hk.os,hk.tape,hk.output,hk.size,fun i hi=>hk.block i hi (hno i)⟩) hmem ⟨fun _ _ _=>rfl,fun _ _ _=>rfl⟩ (All2.map_left (ha.imp fun _ _ _ h=>open_rep (fun _ _ x=>x) h))).mono ?_
  rintro e w' ⟨v,env',F',rfl,hr,hl⟩
  refine ⟨v,rfl,?_,⟨hl.kept.os,hl.kept.tape,hl.kept.output,hl.kept.size,fun i hi=>hl.kept.block i hi (hno i)⟩⟩
  have hc:=openR_close hr
  have hmono:∀ b o,env'.V b o→V b o∨w.heap.size≤b:=fun b o h=>(hl.vnew b o h).imp id fun h=>h.elim id fun h=>absurd h (hno b)
  cases res with
  | x y =>
    cases y with
    | one c=>exact RepC.mono hmono (fun _ _ _=>rfl) hc
    | agg cs=>obtain ⟨us,e,hu⟩:=hc; exact ⟨us,e,hu.imp fun _ _ _ h=>RepC.mono hmono (fun _ _ _=>rfl) h⟩
  | tup ys =>
    obtain ⟨vs,e,hu⟩:=hc
    refine ⟨vs,e,hu.imp fun y _ _ h=>?_⟩
    cases y with
    | one c=>exact RepC.mono hmono (fun _ _ _=>rfl) h
    | agg cs=>obtain ⟨us,e,hu⟩:=h; exact ⟨us,e,hu.imp fun _ _ _ h=>RepC.mono hmono (fun _ _ _=>rfl) h⟩
theorem MeetsH.of_plain {f:FuncId} {cs:List CX} {res:CR} {h:Hp} (hm:Meets P G f cs res) (ho:h.only (fun _=>True) (fun k=>h.toks k≠none)):MeetsH P G f (cs.map CX.open) h res.open h:=by
  refine ⟨hm.1,fun x hx=>?_,ho,fun w env F vs hG hmem hfr ha=>?_⟩
  · obtain ⟨c,_,rfl⟩:=List.mem_map.1 hx; exact CX.only_open c
  have hcall:=hm.2 w env.V vs (fun w' hb=>hG w' (KeptBut.of_below hb)) hmem.vlt ((All2.of_map_left ha).imp fun _ _ _ h=>open_close h)
  refine hcall.mono ?_
  rintro e w' ⟨v,rfl,hr,hb⟩
  have hcell:∀ b o,env.V b o→w'.cell? ⟨b,o,none⟩ = w.cell? ⟨b,o,none⟩:=fun b o hv=>hb.cell (p:=⟨b,o,none⟩) (hmem.vlt b o hv)
  let env':Env:={ env with V:=fun b o=>env.V b o∨(w.heap.size≤b∧b < w'.heap.size) }
  have hle:env.Le env' h.toks h.toks w w':=⟨fun _ _ x=>.inl x,hcell,fun _ _ x=>x,fun _ t x=>⟨t,x,rfl,Nat.le_refl _,fun _=>rfl⟩⟩
  have hV:∀ b o,b < w.heap.size→env'.V b o→env.V b o:=fun b o hlt hv=>hv.elim id fun h=>absurd hlt (Nat.not_lt.mpr h.1)
  refine ⟨v,env',F,rfl,openR_rep (fun b o h=>h.1.elim .inl fun hh=>.inr ⟨hh,h.2⟩) hr.bound,{
    mem:={
      vlt:=fun b o hv=>hv.elim (fun h=>Nat.lt_of_lt_of_le (hmem.vlt b o h) hb.size) fun h=>h.2
      ρlt:=fun k b s hk=>Nat.lt_of_lt_of_le (hmem.ρlt k b s hk) hb.size
      τlt:=fun k v b hk hv=>Nat.lt_of_lt_of_le (hmem.τlt k v b hk hv) hb.size
      objs:=fun k x hk=>by
        obtain ⟨b,us,g1,g2,g3,g4,g5⟩:=hmem.objs k x hk
        exact ⟨b,us,g1,g2.of (hb.block b g2.lt),g3.imp fun _ _ _=>RepA.mono hle,g4,fun o hv=>g5 o (hV b o g2.lt hv)⟩
      inj:=hmem.inj
      toks:=fun k t hk=>by
        obtain ⟨v,xs,g1,g2,g3⟩:=hmem.toks k t hk
        exact ⟨v,xs,g1,ownsRow_of_block g2 fun b hv=>hb.block b (g2.lt b hv).2,fun b hv=>⟨fun o ho hh=>(g3 b hv).1 o ho (hV b o (g2.lt b hv).2 hh),(g3 b hv).2⟩⟩
      tinj:=hmem.tinj
      sep:=hmem.sep
      ext:=h.ext.mono (w:=w) (fun _ _ x=>.inl x) hcell (fun b hF=>hb.block b (hmem.flt b hF).1) hmem.ext
      flt:=fun b hF=>by
        obtain ⟨g1,g2,g3,g4⟩:=hmem.flt b hF
        exact ⟨Nat.lt_of_lt_of_le g1 hb.size,fun o hv=>g2 o (hV b o g1 hv),g3,g4⟩ }
    kept:=KeptBut.of_below hb
    owned:=fun b hb=>.inr hb
    vold:=fun b o hv=>.inl hv
    vcell:=hcell
    vnew:=fun b o hv=>hv.imp id fun h=>.inl h.1
    ρold:=fun _ _ x=>x
    ρnew:=fun _ _ x=>.inl x
    τold:=fun _ _ _=>rfl
    τnew:=fun k v hk=>.inl (by rw [show env.τ k = some v from hk]; simp)
    tok:=fun k t t' h1 h2=>by rw [h1] at h2; injection h2 with h2; subst h2; exact ⟨rfl,Nat.le_refl _,fun _=>rfl⟩ }⟩
theorem Hp.emp_outer:Hp.emp.Outer:=⟨fun _ _=>⟨rfl,rfl⟩,fun k b h=>by cases h⟩
theorem meets_of {f:FuncId} {fn:Func} {fl:Notes} {K:List Nat} {ic:IC} {ress:List IRes} {args:List CX} {res:CR} (hf:P.funcs[f]? = some fn) (hc:cmpFunc P fl fn K = some ic) (hr:cmpRes P fn.results.toList = some ress)
    (hn:args.length≤fn.ntmps) (hw:∀ Q:Exit→S→Prop,(∀ σ,retH ress res.open Hp.emp σ→Q .ret σ)→(∀ σ,retH ress res.open Hp.emp σ→Q .normal σ)→wpI P G ic Q (S.init (args.map CX.open) Hp.emp)):Meets P G f args res :=
  MeetsH.plain (meetsH_of hf hc hr (by simpa using hn) rfl Hp.emp_outer (fun x hx=>by obtain ⟨c,_,rfl⟩:=List.mem_map.1 hx; exact CX.only_open c) (fun _ h=>h) (fun _ h=>h) (fun k b h=>by cases h) (CR.only_open res) hw)
end
end Go.Fx

namespace Go.Fx
open Go.RowKit
def bs (l:List UInt8):ByteArray:=⟨l.toArray⟩
def look:List (Nat × T)→Nat→T
  | [],_=>.lost
  | (d,t) :: l,n=>if n = d then t else look l n
def lookO:List (Nat × Box)→Nat→Option Box
  | [],_=>none
  | (d,t) :: l,n=>if n = d then some t else lookO l n
def lookT:List (Nat × Tok)→Nat→Option Tok
  | [],_=>none
  | (d,t) :: l,n=>if n = d then some t else lookT l n
def farKey (k:Nat):Prop:=15000≤k∧k < 20000
structure FHp extends Hp where
  key:∀ k,objs k≠none∨toks k≠none→farKey k
  names:toHp.only farKey (fun k=>toks k≠none)
def F0:FHp:=⟨Hp.emp,fun _ h=>h.elim (fun h=>absurd rfl h) fun h=>absurd rfl h,fun _ _ h=>by cases h⟩
theorem FHp.objs_near (H:FHp) {k:Nat} (h:k < 15000):H.objs k = none:=by
  cases hk:H.objs k with
  | none=>rfl
  | some b=>have:=(H.key k (.inl (by rw [hk]; simp))).1; omega
theorem FHp.toks_near (H:FHp) {k:Nat} (h:k < 15000):H.toks k = none:=by
  cases hk:H.toks k with
  | none=>rfl
  | some b=>have:=(H.key k (.inr (by rw [hk]; simp))).1; omega
def hp (O:List (Nat × Box)) (U:List (Nat × Tok)) (H:FHp):Hp:=⟨fun k=>(lookO O k).or (H.objs k),fun k=>(lookT U k).or (H.toks k),H.ext⟩
def st (L:List (Nat × T)) (O:List (Nat × Box)) (U:List (Nat × Tok)) (H:FHp):S:=⟨look L,fun k=>(lookO O k).or (H.objs k),fun k=>(lookT U k).or (H.toks k),H.ext⟩
theorem hp_emp:hp [] [] F0 = Hp.emp:=rfl
theorem hp_far (H:FHp):hp [] [] H = H.toHp:=by
  obtain ⟨h,_,_⟩:=H
  simp [hp,lookO,lookT]
def runK (P:Program) (G:World→Prop):List IOper→S→(S→Prop)→Prop
  | [],σ,K=>K σ
  | o :: l,σ,K=>∃ σ1,(touched o σ∧StepI P G o σ σ1)∧runK P G l σ1 K
def thenQ (K:S→Prop) (Q:Exit→S→Prop):Exit→S→Prop
  | .normal,σ=>K σ
  | e,σ=>Q e σ
section
variable {P:Program} {G:World→Prop} {σ σ':S} {Q:Exit→S→Prop} {L:List (Nat × T)} {O:List (Nat × Box)} {U:List (Nat × Tok)} {H:FHp} {l:List IOper} {K:S→Prop} {d:Nat}
theorem run_of_runK:∀ {l:List IOper} {σ:S},runK P G l σ K→∃ σ',RunI P G l σ σ'∧K σ'
  | [],σ,h=>⟨σ,rfl,h⟩
  | o :: l,σ,⟨σ1,h1,h2⟩=>by
    obtain ⟨σ',h3,h4⟩:=run_of_runK h2
    exact ⟨σ',⟨σ1,h1,h3⟩,h4⟩
theorem wpI_mono:∀ {c:IC} {Q Q':Exit→S→Prop} {σ:S},(∀ e σ,Q e σ→Q' e σ)→wpI P G c Q σ→wpI P G c Q' σ
  | .skip,_,_,_,h,hw=>h _ _ hw
  | .region _ _ _ _,_,_,_,h,⟨σ',h1,h2⟩=>⟨σ',h1,h _ _ h2⟩
  | .seq a b,_,_,_,h,hw=>wpI_mono (c:=a) (fun e σ hq=>by cases e <;> first | exact wpI_mono (c:=b) h hq | exact h _ _ hq) hw
  | .cond _ a b,_,_,_,h,⟨t,h1,h2,h3⟩=>⟨t,h1,fun e=>wpI_mono (c:=a) h (h2 e),fun e=>wpI_mono (c:=b) h (h3 e)⟩
  | .block _ a,_,_,_,h,hw=>wpI_mono (c:=a) (fun e σ hq=>by
      cases e <;> first
        | exact h _ _ hq
        | (simp only at hq ⊢
           split
           · rename_i e; rw [if_pos e] at hq; exact h _ _ hq
           · rename_i e; rw [if_neg e] at hq; exact h _ _ hq)) hw
  | .loop a,_,_,_,h,⟨I,μ,h0,hr⟩=>⟨I,μ,h0,fun σ1 h1=>wpI_mono (c:=a) (fun e σ hq=>by cases e <;> first | exact hq | exact h _ _ hq) (hr σ1 h1)⟩
  | .exit _,_,_,_,h,hw=>h _ _ hw
  | .ret,_,_,_,h,hw=>h _ _ hw
  | .bad,_,_,_,_,hw=>hw.elim
  | .rangeF _ _ _ _,_,_,_,h,⟨h1,gv,ks,xs,h2,h2f,h3,h4⟩=>⟨h1,gv,ks,xs,h2,h2f,h3,fun l ta E B m hE hB hb=>by
      obtain ⟨hh,hh',res,e,g1,g2,g3,g4,g5⟩:=h4 l ta E B m hE hB hb
      exact ⟨hh,hh',res,e,g1,g2,g3,g4,fun X hX=>h _ _ (g5 X hX)⟩⟩
def blockQ (id:Nat) (Q:Exit→S→Prop):Exit→S→Prop
  | .exit i,σ=>if i = id then Q .normal σ else Q (.exit i) σ
  | e,σ=>Q e σ
theorem w_loop {a:IC} (I:S→Prop) (μ:S→Nat) (h0:I σ) (hr:∀ σ1,I σ1→wpI P G a (thenQ (fun σ'=>I σ'∧μ σ' < μ σ1) Q) σ1):wpI P G (.loop a) Q σ :=
  ⟨I,μ,⟨σ,.refl σ,h0⟩,fun σ1 h1=>wpI_mono (c:=a) (fun e σ hq=>by cases e <;> first | exact ⟨σ,.refl σ,hq⟩ | exact hq) (hr σ1 h1)⟩
@[simp] theorem thenQ_normal:thenQ K Q .normal σ = K σ:=rfl
@[simp] theorem thenQ_exit {id:Nat}:thenQ K Q (.exit id) σ = Q (.exit id) σ:=rfl
@[simp] theorem thenQ_ret:thenQ K Q .ret σ = Q .ret σ:=rfl
@[simp] theorem blockQ_normal {id:Nat}:blockQ id Q .normal σ = Q .normal σ:=rfl
@[simp] theorem blockQ_exit {id i:Nat}:blockQ id Q (.exit i) σ = if i = id then Q .normal σ else Q (.exit i) σ:=rfl
@[simp] theorem blockQ_ret {id:Nat}:blockQ id Q .ret σ = Q .ret σ:=rfl
@[simp] theorem look_nil (n:Nat):look [] n = .lost:=rfl
@[simp] theorem look_cons (d n:Nat) (t:T) (l:List (Nat × T)):look ((d,t) :: l) n = if n = d then t else look l n:=rfl
@[simp] theorem lookO_nil (n:Nat):lookO [] n = none:=rfl
@[simp] theorem lookO_cons (d n:Nat) (t:Box) (l:List (Nat × Box)):lookO ((d,t) :: l) n = if n = d then some t else lookO l n:=rfl
@[simp] theorem lookT_nil (n:Nat):lookT [] n = none:=rfl
@[simp] theorem lookT_cons (d n:Nat) (t:Tok) (l:List (Nat × Tok)):lookT ((d,t) :: l) n = if n = d then some t else lookT l n:=rfl
@[simp] theorem st_tmps (n:Nat):(st L O U H).tmps n = look L n:=rfl
@[simp] theorem st_objs (n:Nat):(st L O U H).objs n = (lookO O n).or (H.objs n):=rfl
@[simp] theorem st_toks (n:Nat):(st L O U H).toks n = (lookT U n).or (H.toks n):=rfl
@[simp] theorem st_ext:(st L O U H).ext = H.ext:=rfl
@[simp] theorem val_t (n:Nat):(D.t n).val (st L O U H) = look L n:=rfl
@[simp] theorem val_k (r:R):(D.k r).val σ = .k true r:=rfl
@[simp] theorem T_r (g:Bool) (r:R):(T.k g r).r = r:=rfl
@[simp] theorem T_g (g:Bool) (r:R):(T.k g r).g = g:=rfl
@[simp] theorem strike_nil:σ.strike [] = σ:=rfl
@[simp] theorem prep_nil:σ.prep [] = σ:=rfl
@[simp] theorem prep_fz (ks:List Nat) (l:List Prep):σ.prep (.fz ks :: l) = (σ.freeze ks).prep l:=rfl
@[simp] theorem prep_pm (k j:Nat) (ty:TypeId) (size:Nat) (l:List Prep):σ.prep (.pm k j ty size :: l) = (σ.promote k j ty size).prep l:=rfl
theorem put_st (t:T):(st L O U H).put (some d) t = st ((d,t) :: L) O U H:=rfl
theorem put_st0 (t:T):(st L O U H).put none t = st L O U H:=rfl
theorem setObj_st (b:Box):(st L O U H).setObj d b = st L ((d,b) :: O) U H:=by
  unfold S.setObj st
  simp only [S.mk.injEq,true_and,and_true]
  funext k
  simp only [lookO_cons]
  split <;> simp
theorem setTok_st (q:Tok):(st L O U H).setTok d q = st L O ((d,q) :: U) H:=by
  unfold S.setTok st
  simp only [S.mk.injEq,true_and,and_true]
  funext k
  simp only [lookT_cons]
  split <;> simp
def updO (k:Nat) (b:Box):List (Nat × Box)→List (Nat × Box)
  | []=>[(k,b)]
  | (d,t) :: l=>if d = k then (k,b) :: l else (d,t) :: updO k b l
def updT (k:Nat) (b:Tok):List (Nat × Tok)→List (Nat × Tok)
  | []=>[(k,b)]
  | (d,t) :: l=>if d = k then (k,b) :: l else (d,t) :: updT k b l
theorem lookO_upd (k:Nat) (b:Box):∀ (O:List (Nat × Box)) (n:Nat),lookO (updO k b O) n = if n = k then some b else lookO O n
  | [],n=>rfl
  | (d,t) :: O,n=>by
    unfold updO
    by_cases h:d = k
    · subst h; rw [if_pos rfl,lookO_cons,lookO_cons]; split <;> rfl
    · rw [if_neg h,lookO_cons,lookO_cons,lookO_upd k b O n]
      by_cases h1:n = d
      · subst h1; rw [if_pos rfl,if_neg h,if_pos rfl]
      · rw [if_neg h1,if_neg h1]
theorem lookT_upd (k:Nat) (b:Tok):∀ (O:List (Nat × Tok)) (n:Nat),lookT (updT k b O) n = if n = k then some b else lookT O n
  | [],n=>rfl
  | (d,t) :: O,n=>by
    unfold updT
    by_cases h:d = k
    · subst h; rw [if_pos rfl,lookT_cons,lookT_cons]; split <;> rfl
    · rw [if_neg h,lookT_cons,lookT_cons,lookT_upd k b O n]
      by_cases h1:n = d
      · subst h1; rw [if_pos rfl,if_neg h,if_pos rfl]
      · rw [if_neg h1,if_neg h1]
@[simp] theorem updO_nil (k:Nat) (b:Box):updO k b [] = [(k,b)]:=rfl
@[simp] theorem updO_cons (k d:Nat) (b t:Box) (l:List (Nat × Box)):updO k b ((d,t) :: l) = if d = k then (k,b) :: l else (d,t) :: updO k b l:=rfl
@[simp] theorem updT_nil (k:Nat) (b:Tok):updT k b [] = [(k,b)]:=rfl
@[simp] theorem updT_cons (k d:Nat) (b t:Tok) (l:List (Nat × Tok)):updT k b ((d,t) :: l) = if d = k then (k,b) :: l else (d,t) :: updT k b l:=rfl
theorem setObj_upd (b:Box):(st L O U H).setObj d b = st L (updO d b O) U H:=by
  unfold S.setObj st
  simp only [S.mk.injEq,true_and,and_true]
  funext k
  simp only [lookO_upd]
  split <;> simp
theorem setTok_upd (q:Tok):(st L O U H).setTok d q = st L O (updT d q U) H:=by
  unfold S.setTok st
  simp only [S.mk.injEq,true_and,and_true]
  funext k
  simp only [lookT_upd]
  split <;> simp
def updsO:List (Nat × Box)→List (Nat × Box)→List (Nat × Box)
  | [],O=>O
  | (k,b) :: l,O=>updO k b (updsO l O)
def updsT:List (Nat × Tok)→List (Nat × Tok)→List (Nat × Tok)
  | [],O=>O
  | (k,b) :: l,O=>updT k b (updsT l O)
@[simp] theorem updsO_nil (O:List (Nat × Box)):updsO [] O = O:=rfl
@[simp] theorem updsO_cons (k:Nat) (b:Box) (l O:List (Nat × Box)):updsO ((k,b) :: l) O = updO k b (updsO l O):=rfl
@[simp] theorem updsT_nil (O:List (Nat × Tok)):updsT [] O = O:=rfl
@[simp] theorem updsT_cons (k:Nat) (b:Tok) (l O:List (Nat × Tok)):updsT ((k,b) :: l) O = updT k b (updsT l O):=rfl
theorem lookO_upds:∀ (A O:List (Nat × Box)) (n:Nat),lookO (updsO A O) n = (lookO A n).or (lookO O n)
  | [],O,n=>rfl
  | (k,b) :: A,O,n=>by simp only [updsO_cons,lookO_upd,lookO_cons,lookO_upds A O n]; split <;> rfl
theorem lookT_upds:∀ (A O:List (Nat × Tok)) (n:Nat),lookT (updsT A O) n = (lookT A n).or (lookT O n)
  | [],O,n=>rfl
  | (k,b) :: A,O,n=>by simp only [updsT_cons,lookT_upd,lookT_cons,lookT_upds A O n]; split <;> rfl
theorem look_restrict (ks:List Nat) (n:Nat):look (ks.map fun k=>(k,look L k)) n = if n∈ks then look L n else .lost:=by
  induction ks with
  | nil=>rfl
  | cons k ks ih =>
    simp only [List.map_cons,look_cons,ih,List.mem_cons]
    by_cases h:n = k
    · subst h; simp
    · by_cases h2:n∈ks <;> simp [h,h2]
@[simp] theorem keep_st (ks:List Nat):(st L O U H).keep ks = st (ks.map fun k=>(k,look L k)) O U H:=by
  have e:(fun n=>if n∈ks then look L n else T.lost) = look (ks.map fun k=>(k,look L k)):=funext fun n=>(look_restrict ks n).symm
  unfold S.keep st
  simp only [S.mk.injEq,and_true]
  exact e
theorem init_st:∀ (args:List X) (k:Nat),(fun t=>match args[t - k]? with | some c=>if k≤t then T.k true (.x c) else .lost | none=>.lost) = look (args.zipIdx k |>.map fun p=>(p.2,.k true (.x p.1)))
  | [],k=>by funext t; simp
  | c :: args,k=>by
    funext t
    have ih:=congrFun (init_st args (k + 1)) t
    simp only [List.zipIdx_cons,List.map_cons,look_cons]
    by_cases h:t = k
    · subst h; simp
    · rw [if_neg h,← ih]
      by_cases hlt:t < k
      · have h1:¬ k≤t:=by omega
        have h2:¬ k + 1≤t:=by omega
        simp only [h1,h2,if_false]
        split <;> split <;> rfl
      · have h1:k≤t:=by omega
        have h2:k + 1≤t:=by omega
        have h3:t - k = (t - (k + 1)) + 1:=by omega
        simp only [h1,h2,if_true,h3,List.getElem?_cons_succ]
theorem init_eq (args:List X):S.init args (hp O U H) = st (args.zipIdx.map fun p=>(p.2,.k true (.x p.1))) O U H:=by
  unfold S.init st hp
  rw [← init_st args 0]
  congr 1
@[simp] theorem runK_nil:runK P G [] σ K = K σ:=rfl
def touchP (fp:Option (List Nat)) (t:T):Prop:=∀ k,t.r.key? = some k→fpK fp k
@[simp] theorem touchP_none (t:T):touchP none t = True:=propext ⟨fun _=>trivial,fun _ _ _=>trivial⟩
@[simp] theorem touchP_some (ks:List Nat) (t:T):touchP (some ks) t = (match t.r.key? with | some k=>k∈ks | none=>True):=by
  refine propext ⟨fun h=>?_,fun h k hk=>?_⟩
  · split
    · rename_i k hk; exact h k hk
    · trivial
  · rw [hk] at h; exact h
def closeRs (σ:S):List IRes→Option (List CX)
  | []=>some []
  | r :: l =>
    match (resO σ r).val.close,closeRs σ l with
    | some c,some cs=>some (c :: cs)
    | _,_=>none
def retO (σ:S) (ress:List IRes) (res:CR):Prop :=
  (∀ r∈ress,(resO σ r).need) ∧
    match ress with
    | [r]=>∃ c,(resO σ r).val.close = some c∧res = .x c
    | _=>∃ cs,closeRs σ ress = some cs∧res = .tup cs
theorem close_fits {a:A} {c:C} (h:a.close = some c):a.fits (.c c):=by
  cases a <;> simp only [A.close,Option.some.injEq,reduceCtorEq] at h <;> subst h
  · rename_i x; cases x <;> rfl
  · exact ⟨rfl,rfl⟩
  · exact ⟨rfl,rfl⟩
theorem closeL_fits:∀ {l:List A} {cs:List C},closeL l = some cs→fitsL l (cs.map A.c)
  | [],cs,h=>by simp [closeL] at h; subst h; trivial
  | a :: l,cs,h=>by
    unfold closeL at h
    split at h
    · rename_i c cs' h1 h2
      injection h with h; subst h
      exact ⟨close_fits h1,closeL_fits h2⟩
    · cases h
theorem closeX_fits {x:X} {c:CX} (h:x.close = some c):x.fits c.open:=by
  cases x with
  | one a =>
    cases ha:a.close with
    | none=>simp [X.close,ha] at h
    | some y=>simp [X.close,ha] at h; subst h; exact close_fits ha
  | agg cs =>
    cases ha:closeL cs with
    | none=>simp [X.close,ha] at h
    | some y=>simp [X.close,ha] at h; subst h; exact closeL_fits ha
theorem closeRs_fits:∀ {ress:List IRes} {cs:List CX},closeRs σ ress = some cs→fitsR (ress.map fun r=>(resO σ r).val) (cs.map CX.open)
  | [],cs,h=>by simp [closeRs] at h; subst h; trivial
  | r :: l,cs,h=>by
    unfold closeRs at h
    split at h
    · rename_i c cs' h1 h2
      injection h with h; subst h
      have ih:=closeRs_fits h2
      simp only [List.map_cons]
      generalize (resO σ r).val = v at h1
      cases v with
      | x y=>exact ⟨closeX_fits h1,ih⟩
      | tup _=>simp [R.close] at h1
    · cases h
theorem ret_fits {ress:List IRes} {res:CR} (h:retO σ ress res):fitRes (ress.map fun r=>(resO σ r).val) res.open:=by
  obtain ⟨_,h⟩:=h
  match ress,h with
  | [r],⟨c,h1,e⟩ =>
    subst e
    simp only [List.map_cons,List.map_nil]
    generalize (resO σ r).val = v at h1
    cases v with
    | x y=>exact closeX_fits h1
    | tup _=>simp [R.close] at h1
  | [],⟨cs,h1,e⟩=>subst e; exact closeRs_fits h1
  | r :: q :: l,⟨cs,h1,e⟩ =>
    subst e
    have h2:=closeRs_fits h1
    simp only [List.map_cons] at h2 ⊢
    revert h2
    generalize (resO σ r).val = a
    cases a <;> exact id
mutual
theorem freezeA_none:∀ (a:A),a.freeze (fun _=>none) = a
  | .c _=>rfl
  | .nil=>rfl
  | .own _ _=>rfl
  | .ref _ _ _=>rfl
  | .arr _ _ _ _=>rfl
  | .mapr _=>rfl
  | .elem _ _ _ _=>rfl
  | .clo f fs cs=>by simp only [A.freeze,freezeL_none fs,freezeL_none cs]
  | .yld l ta ks xs=>by simp only [A.freeze,freezeL_none xs]
  | .ifc t a=>by simp only [A.freeze,freezeA_none a]
  | .lost=>rfl
theorem freezeL_none:∀ (l:List A),freezeL (fun _=>none) l = l
  | []=>rfl
  | a :: l=>by simp only [freezeL,freezeA_none a,freezeL_none l]
end
theorem freezeX_none (x:X):x.freeze (fun _=>none) = x:=by cases x <;> simp [X.freeze,freezeA_none,freezeL_none]
theorem freezeT_none (t:T):t.freeze (fun _=>none) = t:=by
  cases t with
  | lost=>rfl
  | k g r =>
    cases r with
    | x y=>simp [T.freeze,R.freeze,freezeX_none]
    | tup xs =>
      have:(X.freeze fun _=>none) = id:=funext freezeX_none
      simp [T.freeze,R.freeze,this]
def retQ (ks:List Nat) (ress:List IRes) (res:CR):Exit→S→Prop
  | .ret,σ=>retO (σ.freeze ks) ress res∧(σ.ext = XP.emp∨σ.ext.mark≠none)
  | .normal,σ=>retO (σ.freeze ks) ress res∧(σ.ext = XP.emp∨σ.ext.mark≠none)
  | _,_=>False
theorem freeze_nil:σ.freeze [] = σ:=by
  have hB:shutB σ [] = fun _=>none:=by funext k; simp [shutB]
  unfold S.freeze
  rw [hB]
  have e1:(fun t=>(σ.tmps t).freeze (fun _=>none)) = σ.tmps:=funext fun t=>freezeT_none _
  have e2:(fun k=>if ((fun _=>none:Nat→Option (List (List C))) k).isSome = true then none else (σ.objs k).map fun b=>{ b with rows:=b.rows.map (freezeL fun _=>none) }) = σ.objs:=by
    funext k
    simp only [Option.isSome_none,Bool.false_eq_true,if_false]
    cases σ.objs k with
    | none=>rfl
    | some b =>
      have:(freezeL fun _=>none) = id:=funext freezeL_none
      simp [this]
  rw [e1,e2]
theorem meetsF {f:FuncId} {fn:Func} {fl:Notes} {N:List Nat} {ic:IC} {ress:List IRes} {args:List CX} {res:CR} (ks:List Nat) (hf:P.funcs[f]? = some fn) (hc:cmpFunc P fl fn N = some ic) (hr:cmpRes P fn.results.toList = some ress)
    (hn:args.length≤fn.ntmps) (h:wpI P G ic (retQ ks ress res) (st ((args.map CX.open).zipIdx.map fun p=>(p.2,.k true (.x p.1))) [] [] F0)):Meets P G f args res :=
  meets_of hf hc hr hn fun Q h1 h2=>by
    have key:∀ σ,retO (σ.freeze ks) ress res∧(σ.ext = XP.emp∨σ.ext.mark≠none)→retH ress res.open Hp.emp σ:=fun σ ⟨h,hx⟩=>⟨σ.freeze ks,.freeze ks σ,h.1,ret_fits h,(fun k b hk=>by cases hk),(fun k b hk=>by cases hk),hx.imp (fun e=>e.symm) fun e=>⟨e,rfl⟩⟩
    rw [← hp_emp,init_eq]
    exact wpI_mono (fun e σ hq=>by
      cases e with
      | ret=>exact h1 _ (key σ hq)
      | normal=>exact h2 _ (key σ hq)
      | _=>exact False.elim hq) h
theorem meets {f:FuncId} {fn:Func} {fl:Notes} {N:List Nat} {ic:IC} {ress:List IRes} {args:List CX} {res:CR} (hf:P.funcs[f]? = some fn) (hc:cmpFunc P fl fn N = some ic) (hr:cmpRes P fn.results.toList = some ress)
    (hn:args.length≤fn.ntmps) (h:wpI P G ic (retQ [] ress res) (st ((args.map CX.open).zipIdx.map fun p=>(p.2,.k true (.x p.1))) [] [] F0)):Meets P G f args res:=meetsF [] hf hc hr hn h
end
end Go.Fx

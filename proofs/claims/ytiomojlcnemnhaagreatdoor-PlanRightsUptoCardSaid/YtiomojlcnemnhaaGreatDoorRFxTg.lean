import Derived.Test.YtiomojlcnemnhaaGreatDoorRFxT
import Derived.RangeFuncRecord
namespace Go.Fx
open Go.RowKit
section
variable {P:Program} {G:World→Prop} {w0:World} {V0:Base} {N:Nat} {env:Env} {σ σ' τ:S} {a a':Act} {w w':World} {fl:Notes} {rd:Option Nat} {rn:Nat}
theorem Sim.turn {e':XP} (h:Sim w0 V0 N env σ a w) (ht:a'.tmps = a.tmps)
    (hb:∀ F,σ.ext.holds env.V F w→KeptBut F w w'∧∃ F',e'.holds env.V F' w'∧∀ c,F' c→F c∨(w.heap.size≤c∧c < w'.heap.size))
    (hd:(e'.mark = V0.h.ext.mark∨V0.h.ext.mark = none)∧(a'.defers = []∨∃ r,e'.mark = some r∧a'.defers = [markD r]∧V0.h.ext.mark = none)):Sim w0 V0 N env { σ with ext:=e' } a' w':=by
  obtain ⟨F,f1,f2⟩:=h.ext
  obtain ⟨hk,F',g1,g2⟩:=hb F f1
  have hcell:∀ b o,env.V b o→w'.cell? ⟨b,o,none⟩ = w.cell? ⟨b,o,none⟩:=fun b o hv=>World.cell?_of_block (a:=⟨b,o,none⟩) (hk.block b (h.vlt b o hv) fun hf=>(f2 b hf).2.2.1 o hv)
  have hle:env.Le env σ.toks σ.toks w w':=⟨fun _ _ x=>x,hcell,fun _ _ x=>x,fun _ t x=>⟨t,x,rfl,Nat.le_refl _,fun _=>rfl⟩⟩
  exact {
    below:=h.below.trans hk fun b hf=>(f2 b hf).1
    defers:=hd
    size:=by rw [ht]; exact h.size
    nn:=h.nn
    vlt:=fun b o hv=>Nat.lt_of_lt_of_le (h.vlt b o hv) hk.size
    vnew:=h.vnew
    vold:=h.vold
    v0:=h.v0
    vcell:=fun b o hv=>(hcell b o (h.vold b o hv)).trans (h.vcell b o hv)
    tmps:=fun t=>by rw [ht]; exact (h.tmps t).mono hle
    objs:=fun k x hx=>by
      obtain ⟨b,us,h1,h2,h3,h4,h5,h6⟩:=h.objs k x hx
      exact ⟨b,us,h1,h2,h3.of (hk.block b h3.lt fun hf=>(f2 b hf).2.2.2.1 k _ h1),h4.imp fun _ _ _=>RepA.mono hle,h5,h6⟩
    dom:=h.dom
    ρlt:=fun k b s x=>Nat.lt_of_lt_of_le (h.ρlt k b s x) hk.size
    inj:=h.inj
    toks:=fun k t hx=>by
      obtain ⟨v,xs,h1,h2,h3⟩:=h.toks k t hx
      exact ⟨v,xs,h1,ownsRow_of_block h2 fun b hv=>hk.block b (h2.lt b hv).2 fun hf=>(f2 b hf).2.2.2.2 k v h1 hv,h3⟩
    tdom:=h.tdom
    τlt:=fun k v b x y=>Nat.lt_of_lt_of_le (h.τlt k v b x y) hk.size
    tinj:=h.tinj
    sep:=h.sep
    ext:=⟨F',g1,fun c hc=>by
      rcases g2 c hc with hf | ⟨hge,hlt⟩
      · obtain ⟨q1,q2,q3,q4,q5⟩:=f2 c hf
        exact ⟨q1,Nat.lt_of_lt_of_le q2 hk.size,q3,q4,q5⟩
      · refine ⟨.inl (Nat.le_trans h.below.size hge),hlt,fun o hv=>?_,fun k s hr=>?_,fun k v hr hv=>?_⟩
        · have:=h.vlt c o hv; omega
        · have:=h.ρlt k c s hr; omega
        · have:=h.τlt k v c hr hv; omega⟩
    own:=h.own
    keepO:=h.keepO
    keepN:=h.keepN
    keepT:=h.keepT }
theorem Sim.forget (h:Sim w0 V0 N env σ a w) (hd:a.defers = []) (hm:V0.h.ext.mark = none):Sim w0 V0 N env { σ with ext:=XP.emp } a w :=
  h.turn rfl (fun _ _=>⟨KeptBut.refl _ _,fun _=>False,fun _ x=>x,fun _ hc=>hc.elim⟩) ⟨.inr hm,.inl hd⟩
theorem keptBut_put {w:World} {b:Nat} {ob:Obj} {F:Nat→Prop} (hF:F b):KeptBut F w (w.putObj b ob) :=
  ⟨rfl,rfl,rfl,by rw [World.putObj_size]; exact Nat.le_refl _,fun i _ hn=>World.putObj_heap_other fun e=>hn (e ▸ hF)⟩
theorem Sim.leaves (h:Sim w0 V0 N env σ a w) {h':Hp} (hx:h'.ext = σ.ext∨(σ.ext.mark≠none∧h'.ext = XP.emp)) (hm:h'.ext.mark = V0.h.ext.mark) {fn:Func} {R:Ending→World→Prop}
    (hr:∀ (w':World) (a':Act),a'.tmps = a.tmps→Sim w0 V0 N env { σ with ext:=h'.ext } a' w'→∃ v,(results fn a.tmps).run P w' = .ok v w'∧R (.returned v) w') :
    LeavesInM Fence.wide 0 P fn a.tmps R a.defers .returning w:=by
  have plain:a.defers = []→LeavesInM Fence.wide 0 P fn a.tmps R a.defers .returning w:=fun hd=>by
    rw [hd]
    show ∃ v,_
    refine hr w a rfl ?_
    rcases hx with e | ⟨_,e⟩
    · rw [e]; exact h
    · rw [e]; exact h.forget hd (by rw [← hm,e]; rfl)
  rcases h.defers.2 with hd | ⟨r,h1,h2,h3⟩
  · exact plain hd
  · rw [h2]
    obtain ⟨F,f1,f2⟩:=h.ext
    obtain ⟨g1,g2⟩:=σ.ext.law h1 f1
    refine ⟨(fun e=>by cases e),.inl ⟨r,w.putObj r (.deferred none),rfl,run_takeDeferred g2,?_⟩⟩
    show ∃ v,_
    refine hr _ { a with defers:=[] } rfl ?_
    have he:h'.ext = XP.emp:=by
      rcases hx with e | ⟨_,e⟩
      · rw [e,h1,h3] at hm; cases hm
      · exact e
    rw [he]
    refine h.turn rfl (fun F' hF'=>?_) ⟨.inr h3,.inl rfl⟩
    obtain ⟨q1,_⟩:=σ.ext.law h1 hF'
    exact ⟨keptBut_put q1,fun _=>False,fun _ x=>x,fun c hc=>hc.elim⟩
def recX (l r:Nat) (o:Loop) (_ho:o.defers = r):XP where
  holds:=fun _ F w=>(∀ b,F b↔b = l∨b = r)∧l≠r∧w.heap[l]? = some (.loop o)∧w.heap[r]? = some (.deferred (some []))
  mono:=fun _ _ hF h=>⟨h.1,h.2.1,(hF l ((h.1 l).2 (.inl rfl))).trans h.2.2.1,(hF r ((h.1 r).2 (.inr rfl))).trans h.2.2.2⟩
  mark:=some r
  law:=fun e h=>by injection e with e; subst e; exact ⟨(h.1 _).2 (.inr rfl),h.2.2.2⟩
def pendOf:Exit→Option Code
  | .ret=>some .ret
  | .exit id=>some (.exit id)
  | _=>none
def _root_.Go.Loop.behind (o:Loop) (e:Exit):Loop:={ o with state:=if (pendOf e).isNone then .ready else .done,pending:=pendOf e }
end
end Go.Fx

namespace Go.Fx
open Go.RowKit
section
variable {P:Program} {G:World→Prop} {w0:World} {V0:Base} {N:Nat} {env:Env} {σ σ' τ:S} {a a':Act} {w w':World} {fl:Notes} {rd:Option Nat} {rn:Nat}
theorem fold_sim:∀ {ps:List Nat} {args:List X} {vs:List Value} {σ:S} {tm:Array Value},Sim w0 V0 N env σ { tmps:=tm,defers:=[] } w→(∀ p∈ps,p < N)→All2 (RepX env σ.toks w) args vs →
    Sim w0 V0 N env ((ps.zip args).foldl (fun σ p=>σ.put (some p.1) (.k true (.x p.2))) σ) { tmps:=(ps.zip vs).foldl (fun tmps p=>tmps.setIfInBounds p.1 p.2) tm,defers:=[] } w
  | [],_,_,_,_,h,_,_=>by simpa using h
  | p :: ps,[],vs,_,_,h,_,ha=>by rw [ha.nil_left]; simpa using h
  | p :: ps,x :: args,vs,σ,tm,h,hp,ha=>by
    obtain ⟨v,vs',rfl,h1,h2⟩:=ha.head
    simp only [List.zip_cons_cons,List.foldl_cons]
    have h3:Sim w0 V0 N env (σ.put (some p) (.k true (.x x))) { tmps:=tm.setIfInBounds p v,defers:=[] } w :=
      h.put (d:=some p) (fun n e=>by injection e with e; subst e; exact hp _ (List.mem_cons_self ..)) (RepT.mk h1)
    exact fold_sim h3 (fun q hq=>hp q (List.mem_cons_of_mem _ hq)) h2
theorem repAs_at {toks:Nat→Option Tok} {ta:Array Value} {t:Nat} {z:A}:∀ {ks:List Nat} {zs:List A},RepAs env toks w zs (ks.map fun k=>ta.getD k undef)→(ks.zip zs).find? (·.1 == t) = some (t,z)→RepA env toks w z (ta.getD t undef)
  | [],_,_,h=>by simp at h
  | _ :: _,[],_,h=>by simp at h
  | k :: ks,y :: zs,hr,h=>by
    simp only [List.map_cons] at hr
    simp only [List.zip_cons_cons,List.find?_cons] at h
    by_cases e:k = t
    · subst e
      simp only [beq_self_eq_true,Option.some.injEq,Prod.mk.injEq,true_and] at h
      subst h; exact hr.1
    · have:(k == t) = false:=by simpa using e
      rw [this] at h
      exact repAs_at hr.2 h
theorem find_fst {t:Nat} {p:Nat × A} {l:List (Nat × A)} (h:l.find? (·.1 == t) = some p):p = (t,p.2):=by
  have:=List.find?_some h
  simp at this
  rw [← this]
theorem round_sim {h:Hp} {F:Nat→Prop} {ks:List Nat} {zs:List A} {ps:Array Tmp} {args:List X} {vs:List Value} {ta:Array Value} (hm:HMem env h F w0) (ho:h.Outer) (hN:N≤10000) (hta:ta.size = N)
    (hz:RepAs env h.toks w0 zs (ks.map fun k=>ta.getD k undef)) (hzo:onlyL (fun k=>¬ ownKey k) (fun k=>h.toks k≠none) zs) (ha:All2 (RepX env h.toks w0) args vs) (hao:∀ x∈args,x.only (fun k=>¬ ownKey k) (fun k=>h.toks k≠none)) (hp:∀ p∈ps.toList,p < N) :
    Sim w0 ⟨env,h,F⟩ N env.outer (S.round ks zs ps.toList args h h.ext) { tmps:=(ps.zip vs.toArray).foldl (fun tmps (t,a)=>tmps.setIfInBounds t a) ta,defers:=[] } w0:=by
  have hre:ReOn (fun k=>¬ ownKey k) (fun k=>h.toks k≠none) env env.outer h.toks h.toks w0 w0 :=
    ⟨fun _ _ x=>x,fun _ _ _=>rfl,fun k b hk hb=>outer_ρ.2 ⟨hk,hb⟩,fun k t hq ht=>⟨t,ht,rfl,Nat.le_refl _,fun _=>by
      have:¬ ownKey k:=fun e=>hq (ho.own k e).2
      exact if_neg this⟩⟩
  have s0:=init_sim (args:=[]) (vs:=[]) (n:=N) (Nat.zero_le _) hN ho hm (fun _ h=>by cases h) All2.nil
  have s1:Sim w0 ⟨env,h,F⟩ N env.outer { tmps:=fun t=>match (ks.zip zs).find? (·.1 == t) with | some p=>.k true (.x (.one p.2)) | none=>.lost,objs:=h.objs,toks:=h.toks,ext:=h.ext } { tmps:=ta,defers:=[] } w0 :=
    { s0 with
      defers:=⟨.inl rfl,.inl rfl⟩
      size:=hta
      tmps:=fun t=>by
        simp only
        split
        · rename_i p hp
          refine RepT.mk ?_
          have e:=find_fst hp
          rw [e] at hp
          have hin:p.2∈zs:=(List.of_mem_zip (e ▸ List.mem_of_find?_eq_some hp)).2
          exact RepA.re hre (onlyL_iff.1 hzo p.2 hin) (repAs_at hz hp)
        · trivial }
  have hzip:(ps.zip vs.toArray).foldl (fun tmps (t,a)=>tmps.setIfInBounds t a) ta = (ps.toList.zip vs).foldl (fun tmps p=>tmps.setIfInBounds p.1 p.2) ta:=by
    rw [← Array.foldl_toList,Array.toList_zip]
  rw [hzip]
  exact fold_sim s1 hp (ha.imp fun x _ hx hr=>RepX.re hre (hao x hx) hr)
theorem yld_meets {ia ib:IC} {l r:Nat} {o:Loop} (ho:o.defers = r) (hst:o.state = .ready) (hpe:o.pending = none) (hN:N≤10000) (hta:o.tmps.size = N) (hps:∀ p∈o.params.toList,p < N)
    (ha':∀ (n:Nat) (w0:World) (V0:Base),HeldM G V0.M w0→∀ (Q:Exit→S→Prop) (σ:S) (env:Env) (a:Act) (w:World),wpI P G ia Q σ→Sim w0 V0 N env σ a w→o.assign.wpIn (FW (some l)) n P (Out' w0 V0 N Q) a w)
    (hb:∀ (n:Nat) (w0:World) (V0:Base),HeldM G V0.M w0→∀ (Q:Exit→S→Prop) (σ:S) (env:Env) (a:Act) (w:World),wpI P G ib Q σ→Sim w0 V0 N env σ a w→o.body.wpIn (FW (some l)) n P (Out' w0 V0 N Q) a w)
    {ks:List Nat} {zs:List A} {args:List X} {h h':Hp} {e:Exit} (hal:args.length = o.params.toList.length) (he:RoundExit e) (hh:h.ext = recX l r (o.behind .normal) ho) (hh':h'.ext = recX l r (o.behind e) ho) (hr:Rnd zs args h h')
    (hw:wpI P G ia (fun e1 σ1=>e1 = .normal∧σ1.ext = recX l r (o.behind .normal) ho∧wpI P G ib (fun e' σ'=>e' = e∧leftB h' (recX l r { o with state:=.busy } ho) σ') { σ1 with ext:=recX l r { o with state:=.busy } ho }) (S.round ks zs o.params.toList args h (recX l r (o.behind .normal) ho))):MeetsV P G (.yld l o.tmps ks zs) args h (rB (goesOn e)) h':=by
  refine ⟨onlyL_mono (l:=zs) (fun _ _=>trivial) (fun _ h=>h) hr.zs,fun x hx=>X.only_mono (fun _ _=>trivial) (fun _ h=>h) (hr.args x hx),fun k b hk r' hr'=>onlyL_mono (fun _ _=>trivial) (fun _ h=>h) (hr.only k b hk r' hr'),?_⟩
  intro w env F v vs hG hmem hfr hv ha
  obtain ⟨rfl,hzr⟩:=hv
  have hx:=hmem.ext
  rw [hh] at hx
  obtain ⟨x1,x2,x3,x4⟩:=hx
  have hob:o.behind .normal = o:=by cases o; simp only at hst hpe; subst hst hpe; rfl
  rw [hob] at x3
  have hsz:vs.toArray.size = o.params.size:=by have:=ha.1; simp at this hal ⊢; omega
  have hout:h.Outer:=⟨hr.own,hr.only⟩
  refine ⟨rfl,rfl,_,_,_,_,Go.run_yield x3 hsz,fun n=>?_⟩
  have hs0:=round_sim (F:=F) (ks:=ks) hmem hout hN hta hzr hr.zs ha hr.args hps
  refine roundIn_of_wpIn (F:=Fence.wide) trivial ?_
  have hmk:h.ext.mark = some r:=by rw [hh]; rfl
  rw [hh] at hs0
  refine wpIn_mono (ha' n w ⟨env,h,F⟩ hG _ _ _ _ _ hw hs0) ?_
  rintro e1 a1 w1 ⟨σ1,env1,⟨rfl,hx1,hw1⟩,hs0⟩
  have hdef0:a1.defers = []:=by
    rcases hs0.defers.2 with hd | ⟨_,_,_,hd⟩
    · exact hd
    · rw [show (Base.mk env h F).h.ext.mark = h.ext.mark from rfl,hmk] at hd; cases hd
  obtain ⟨F1,q1,_⟩:=hs0.ext
  rw [hx1] at q1
  obtain ⟨x1,x2,x3,x4⟩:=q1
  rw [hob] at x3
  refine ⟨_,run_beginRound x3 hst,?_⟩
  have hs1:Sim w ⟨env,h,F⟩ N env1 { σ1 with ext:=recX l r { o with state:=.busy } ho } a1 (w1.putObj l (.loop { o with state:=.busy })):=by
    refine hs0.turn (e':=recX l r { o with state:=.busy } ho) rfl (fun F' hF'=>?_) ⟨.inl hmk.symm,.inl hdef0⟩
    rw [hx1] at hF'
    obtain ⟨y1,y2,y3,y4⟩:=hF'
    refine ⟨keptBut_put ((y1 l).2 (.inl rfl)),F',⟨y1,y2,?_,?_⟩,fun c hc=>.inl hc⟩
    · exact World.putObj_heap_same (heap_lt y3)
    · rw [World.putObj_heap_other (Ne.symm y2)]; exact y4
  refine wpIn_mono (hb n w ⟨env,h,F⟩ hG _ _ _ _ _ hw1 hs1) ?_
  rintro e' a' w3 ⟨σ',env',⟨rfl,τ,hwk,hO,hT,hX⟩,hs2⟩
  obtain ⟨env2,hs3⟩:=Sim.weak hwk hs2
  have hdef:a'.defers = []:=by
    rcases hs3.defers.2 with hd | ⟨_,_,_,hd⟩
    · exact hd
    · rw [show (Base.mk env h F).h.ext.mark = h.ext.mark from rfl,hmk] at hd; cases hd
  obtain ⟨F3,f1,f2⟩:=hs3.ext
  rw [hX] at f1
  obtain ⟨y1,y2,y3,y4⟩:=f1
  have hend:=run_endRound (P:=P) (pendOf e') y3
  have hw4:({ ({ o with state:=.busy }:Loop) with state:=if (pendOf e').isNone then .ready else .done,pending:=pendOf e' }:Loop) = o.behind e':=rfl
  rw [hw4] at hend
  have hs4:Sim w ⟨env,h,F⟩ N env2 { τ with ext:=recX l r (o.behind e') ho } a' (w3.putObj l (.loop (o.behind e'))):=by
    refine hs3.turn (e':=recX l r (o.behind e') ho) rfl (fun F' hF'=>?_) ⟨.inl hmk.symm,.inl hdef⟩
    rw [hX] at hF'
    obtain ⟨y1,y2,y3,y4⟩:=hF'
    refine ⟨keptBut_put ((y1 l).2 (.inl rfl)),F',⟨y1,y2,?_,?_⟩,fun c hc=>.inl hc⟩
    · exact World.putObj_heap_same (heap_lt y3)
    · rw [World.putObj_heap_other (Ne.symm y2)]; exact y4
  obtain ⟨env3,F2,hlf,hre⟩:=leave_sim hs4 hmem hout hfr hO hT hh' hr.keyT hr.only'
  have hres:∀ b:Bool,RepR env3 h'.toks (w3.putObj l (.loop (o.behind e'))) (rB b) (.bool b):=fun b=>RepC.v _ rfl
  cases e' with
  | normal=>exact ⟨_,_,hend,_,env3,F2,rfl,hres true,hlf⟩
  | ret=>exact ⟨_,_,hend,_,env3,F2,rfl,hres false,hlf⟩
  | exit id=>exact ⟨_,_,hend,_,env3,F2,rfl,hres false,hlf⟩
  | goto _=>exact he.elim
  | panic _=>exact he.elim
  | outgrown=>exact he.elim
end
end Go.Fx

namespace Go.Fx
open Go.RowKit
section
variable {P:Program} {G:World→Prop} {w0:World} {V0:Base} {N:Nat} {env:Env} {σ σ' τ:S} {a:Act} {w:World} {fl:Notes}
theorem code_sound {K:List Nat} (hN:N≤10000):∀ (c:Code) (rd:Option Nat) (rn:Nat) (w0:World) (V0:Base),HeldM G V0.M w0→(rd = none∨noRange c = true)→∀ (ic:IC),cmpCode P fl N K c = some ic→∀ (Q:Exit→S→Prop) (σ:S) (env:Env) (a:Act) (w:World),wpI P G ic Q σ→Sim w0 V0 N env σ a w→c.wpIn (FW rd) rn P (Out' w0 V0 N Q) a w:=by
  intro c
  induction c with
  | skip=>intro rd rn w0 V0 hG hrd ic h Q σ env a w hw hs; injection h with h; subst h; exact wpIn_skip ⟨σ,env,hw,hs⟩
  | region id ops draw =>
    intro rd rn w0 V0 hG hrd ic h Q σ env a w hw hs
    unfold cmpCode at h
    split at h
    · rename_i ios hc
      split at h
      · rename_i hok
        injection h with h; subst h
        obtain ⟨σ',h1,h2⟩:=hw
        obtain ⟨env0,hs0⟩:=Sim.prep (fzOf fl ios) hs
        obtain ⟨env1,hs1⟩:=hs0.strike (newsOf ios) (fun k hk=>by
          unfold newsOf at hk
          obtain ⟨io,hio,he⟩:=List.mem_filterMap.1 hk
          have hd:io.dst = some k:=by
            revert he
            cases io.op <;> simp
          exact .inl (Nat.lt_of_lt_of_le (cmpOpers_own hc io hio k hd) hN))
        exact region_sound hG hc hok h1 hs1 fun env' a' w' hs'=>⟨_,env',h2,hs'.keep K⟩
      · injection h with h; subst h; exact hw.elim
    · injection h with h; subst h; exact hw.elim
  | seq x y ihx ihy =>
    intro rd rn w0 V0 hG hrd ic h Q σ env a w hw hs
    unfold cmpCode at h
    split at h
    · rename_i ix iy hx hy
      injection h with h; subst h
      have hrx:rd = none∨noRange x = true:=hrd.imp id fun h=>by simp only [noRange,Bool.and_eq_true] at h; exact h.1
      have hry:rd = none∨noRange y = true:=hrd.imp id fun h=>by simp only [noRange,Bool.and_eq_true] at h; exact h.2
      refine wpIn_seq (wpIn_mono (ihx rd rn w0 V0 hG hrx ix hx _ σ env a w hw hs) ?_)
      rintro e a' w' ⟨σ',env',h1,h2⟩
      cases e with
      | normal=>exact ihy rd rn w0 V0 hG hry iy hy Q σ' env' a' w' h1 h2
      | _=>exact ⟨σ',env',h1,h2⟩
    · cases h
  | cond c x y ihx ihy =>
    intro rd rn w0 V0 hG hrd ic h Q σ env a w hw hs
    unfold cmpCode at h
    split at h
    · rename_i d ix iy hd hx hy
      injection h with h; subst h
      obtain ⟨t,h1,h2,h3⟩:=hw
      have hv:=hs.opd hd
      rw [h1] at hv
      have hrx:rd = none∨noRange x = true:=hrd.imp id fun h=>by simp only [noRange,Bool.and_eq_true] at h; exact h.1
      have hry:rd = none∨noRange y = true:=hrd.imp id fun h=>by simp only [noRange,Bool.and_eq_true] at h; exact h.2
      refine wpIn_cond_split (t:=t) (rep_bool (RepT.tt hv)) (fun e=>ihx rd rn w0 V0 hG hrx ix hx Q σ env a w (h2 e) hs) (fun e=>ihy rd rn w0 V0 hG hry iy hy Q σ env a w (h3 e) hs)
    · injection h with h; subst h; exact hw.elim
  | block id x ih =>
    intro rd rn w0 V0 hG hrd ic h Q σ env a w hw hs
    unfold cmpCode at h
    cases hx:cmpCode P fl N K x with
    | none=>rw [hx] at h; cases h
    | some ix =>
      rw [hx] at h; simp at h; subst h
      refine wpIn_block (wpIn_mono (ih rd rn w0 V0 hG (hrd.imp (fun h=>h) fun h=>h) ix hx _ σ env a w hw hs) ?_)
      rintro e a' w' ⟨σ',env',h1,h2⟩
      cases e with
      | exit i =>
        simp only [Exit.inBlock]
        simp only at h1
        split
        · rename_i e; rw [if_pos e] at h1; exact ⟨σ',env',h1,h2⟩
        · rename_i e; rw [if_neg e] at h1; exact ⟨σ',env',h1,h2⟩
      | _=>exact ⟨σ',env',h1,h2⟩
  | loop x ih =>
    intro rd rn w0 V0 hG hrd ic h Q σ env a w hw hs
    unfold cmpCode at h
    cases hx:cmpCode P fl N K x with
    | none=>rw [hx] at h; cases h
    | some ix =>
      rw [hx] at h; simp at h; subst h
      obtain ⟨I,μ,⟨σ0,hw0,h0⟩,hr⟩:=hw
      obtain ⟨env0,hs0⟩:=Sim.weak hw0 hs
      refine wpIn_loop_ghost (fun n a w=>∃ σ env,I σ∧μ σ = n∧Sim w0 V0 N env σ a w) (μ σ0) ⟨σ0,env0,h0,rfl,hs0⟩ ?_
      rintro n a1 w1 ⟨σ1,env1,h1,h2,h3⟩
      refine wpIn_mono (ih rd rn w0 V0 hG (hrd.imp (fun h=>h) fun h=>h) ix hx _ σ1 env1 a1 w1 (hr σ1 h1) h3) ?_
      rintro e a' w' ⟨σ',env',h4,h5⟩
      cases e with
      | normal =>
        obtain ⟨σ2,hw2,h6,h7⟩:=h4
        obtain ⟨env2,hs2⟩:=Sim.weak hw2 h5
        exact ⟨μ σ2,by omega,σ2,env2,h6,rfl,hs2⟩
      | _=>exact ⟨σ',env',h4,h5⟩
  | exit id=>intro rd rn w0 V0 hG hrd ic h Q σ env a w hw hs; injection h with h; subst h; exact wpIn_exit ⟨σ,env,hw,hs⟩
  | ret=>intro rd rn w0 V0 hG hrd ic h Q σ env a w hw hs; injection h with h; subst h; exact wpIn_ret ⟨σ,env,hw,hs⟩
  | rangeFunc g ps assign body iha ihb =>
    intro rd rn w0 V0 hG hrd ic h Q σ env a w hw hs
    unfold cmpCode at h
    split at h
    case h_2=>injection h with h; subst h; exact hw.elim
    rename_i dg ia ib hdg hassign hbody
    split at h
    case isFalse=>injection h with h; subst h; exact hw.elim
    rename_i hcond
    obtain ⟨hnra,hnr,hps⟩:=hcond
    injection h with h; subst h
    have hrd:rd = none:=hrd.resolve_right (by simp [noRange])
    subst hrd
    obtain ⟨hext,gv,ks,xs,hgv,hfn,htm,hall⟩:=hw
    have hmk:V0.h.ext.mark = none:=by
      rcases hs.defers.1 with e | e
      · rw [← e,hext]; rfl
      · exact e
    have hdef:a.defers = []:=by
      rcases hs.defers.2 with hd | ⟨r,hd,_⟩
      · exact hd
      · rw [hext] at hd; cases hd
    have hps':∀ p∈ps.toList,p < N:=fun p hp=>by simpa using List.all_eq_true.1 hps p hp
    refine wpIn_rangeFunc (F:=FW none) fun fn _=>?_
    let o:Loop:={ state:=.ready,pending:=none,fn,tmps:=a.tmps,params:=ps,assign,body,defers:=w.heap.size }
    let w1:World:=(w.alloc (.deferred (some []))).alloc (.loop o)
    have e1:w1.heap[w.heap.size]? = some (.deferred (some [])):=by
      show ((w.heap.push _).push _)[w.heap.size]? = _
      rw [Array.getElem?_push,Array.getElem?_push]; simp
    have e2:w1.heap[w.heap.size + 1]? = some (.loop o):=by
      show ((w.heap.push _).push _)[w.heap.size + 1]? = _
      rw [Array.getElem?_push]; simp
    have e3:w1.heap.size = w.heap.size + 2:=by show ((w.heap.push _).push _).size = _; simp
    have e4:∀ i,i < w.heap.size→w1.heap[i]? = w.heap[i]?:=fun i hi=>by
      show ((w.heap.push _).push _)[i]? = _
      rw [Array.getElem?_push,Array.getElem?_push]; simp; rw [if_neg (by omega),if_neg (by omega)]
    let E:Exit→XP:=fun e=>recX (w.heap.size + 1) w.heap.size (o.behind e) rfl
    have hE0:E .normal = recX (w.heap.size + 1) w.heap.size o rfl:=rfl
    have hs1:Sim w0 V0 N env { σ with ext:=E .normal } { a with defers:=[markD w.heap.size]++a.defers } w1:=by
      refine hs.turn (e':=E .normal) rfl (fun F hF=>⟨⟨rfl,rfl,rfl,by rw [e3]; omega,fun i hi _=>e4 i hi⟩,fun c=>c = w.heap.size + 1∨c = w.heap.size,⟨fun _=>Iff.rfl,by omega,e2,e1⟩,fun c hc=>.inr (by rw [e3]; omega)⟩) ⟨.inr hmk,.inr ⟨w.heap.size,rfl,by rw [hdef]; rfl,hmk⟩⟩
    have hG1:=hG
    obtain ⟨h,h',res,e,hm,hl,hX,he,hq⟩:=hall (w.heap.size + 1) a.tmps E (recX (w.heap.size + 1) w.heap.size { o with state:=.busy } rfl) w.heap.size (fun _=>rfl) rfl
      (fun zs args h h' e q1 q2 q3 q4 q5 q6 q7=>yld_meets (o:=o) rfl rfl rfl hN hs.size hps' (fun n w0 V0 hG Q σ env a w hw hs=>iha (some _) n w0 V0 hG (.inr hnra) ia hassign Q σ env a w hw hs) (fun n w0 V0 hG Q σ env a w hw hs=>ihb (some _) n w0 V0 hG (.inr hnr) ib hbody Q σ env a w hw hs) q2 q3 q4 q5 q6 q7)
    obtain ⟨m1,m2,m3,m4⟩:=hm
    obtain ⟨F,hmem,hfr,hF,hxF⟩:=hs1.lend hl m3
    have hre:ReOn (fun _=>True) (fun k=>h.toks k≠none) env env σ.toks h.toks w1 w1 :=
      ⟨fun _ _ x=>x,fun _ _ _=>rfl,fun _ _ _ x=>x,fun k t hq ht=>by
        cases hk:h.toks k with
        | none=>exact absurd hk hq
        | some t' =>
          have:=hl.tok k t' hk
          rw [show ({ σ with ext:=E .normal }:S).toks k = σ.toks k from rfl,ht] at this; injection this with this; subst this
          exact ⟨t,rfl,rfl,Nat.le_refl _,fun _=>rfl⟩⟩
    have hv:=hs1.opd hdg
    rw [show dg.val { σ with ext:=E .normal } = dg.val σ from (by cases dg <;> rfl),hgv] at hv
    simp only [RepT,if_true] at hv
    have hfvr:RepA env h.toks w1 gv (({ a with defers:=[markD w.heap.size]++a.defers }:Act).eval g):=RepA.re hre m1 hv
    have hxs:∀ (ks:List Nat) (xs:List A),ks.map σ.tmps = xs.map (fun x=>T.k true (.x (.one x)))→RepAs env σ.toks w1 xs (ks.map fun k=>a.tmps.getD k undef):=by
      intro ks
      induction ks with
      | nil=>intro xs h; cases xs with
        | nil=>trivial
        | cons _ _=>simp at h
      | cons k ks ih=>intro xs h; cases xs with
        | nil=>simp at h
        | cons x xs =>
          simp only [List.map_cons,List.cons.injEq] at h
          refine ⟨?_,ih xs h.2⟩
          have:=hs1.tmps k
          rw [show ({ σ with ext:=E .normal }:S).tmps k = σ.tmps k from rfl,h.1] at this
          exact RepT.tt this
    have hargs:All2 (RepX env h.toks w1) [.one (.yld (w.heap.size + 1) a.tmps ks xs)] [.func (.yield (w.heap.size + 1)) #[] #[]] :=
      All2.cons (show RepA env h.toks w1 (.yld (w.heap.size + 1) a.tmps ks xs) _ from ⟨rfl,RepAs.re hre (m2 _ (List.mem_singleton.2 rfl)) (hxs ks xs htm)⟩) All2.nil
    have hGw:HeldM G (Owned env h F) w1:=hG.later hs1.below (hs1.owned_new hl hF)
    have hc:=m4 w1 env F _ _ hGw hmem hfr hfvr hargs
    have fin:∀ (en:Ending) (w':World),(∃ v env' F',en = .returned v∧RepR env' h'.toks w' res v∧Left env h F w1 env' h' F' w')→rangePost (FW none) rn P (w.heap.size + 1) (Out' w0 V0 N Q) { a with defers:=[markD w.heap.size]++a.defers } en w':=by
      rintro en w' ⟨v,env',F',rfl,hr,hlf⟩
      have hs2:=hs1.back hl hmem hF hxF hlf
      have hx2:(({ σ with ext:=E .normal }:S).over true h').ext = E e:=hX
      obtain ⟨F2,f1,f2⟩:=hs2.ext
      rw [hx2] at f1
      obtain ⟨y1,y2,y3,y4⟩:=f1
      have hnb:(o.behind e).state≠.busy:=by
        simp only [Loop.behind]; split <;> (intro h; cases h)
      have hend:=run_endLoop (P:=P) y3 hnb
      have hs3:Sim w0 V0 N env' { (({ σ with ext:=E .normal }:S).over true h') with ext:=recX (w.heap.size + 1) w.heap.size { (o.behind e) with state:=.exhausted } rfl } { a with defers:=[markD w.heap.size]++a.defers } (w'.putObj (w.heap.size + 1) (.loop { (o.behind e) with state:=.exhausted })):=by
        refine hs2.turn (e':=recX (w.heap.size + 1) w.heap.size { (o.behind e) with state:=.exhausted } rfl) rfl (fun F' hF'=>?_) ⟨.inr hmk,.inr ⟨w.heap.size,rfl,by rw [hdef]; rfl,hmk⟩⟩
        rw [hx2] at hF'
        obtain ⟨y1,y2,y3,y4⟩:=hF'
        refine ⟨keptBut_put ((y1 _).2 (.inl rfl)),F',⟨y1,y2,?_,?_⟩,fun c hc=>.inl hc⟩
        · exact World.putObj_heap_same (heap_lt y3)
        · rw [World.putObj_heap_other (Ne.symm y2)]; exact y4
      have hQ:=hq (recX (w.heap.size + 1) w.heap.size { (o.behind e) with state:=.exhausted } rfl) rfl
      refine ⟨_,_,hend,?_⟩
      cases e with
      | normal=>exact ⟨_,env',hQ,hs3⟩
      | ret=>exact wpIn_ret ⟨_,env',hQ,hs3⟩
      | exit id=>exact wpIn_exit ⟨_,env',hQ,hs3⟩
      | goto _=>exact he.elim
      | panic _=>exact he.elim
      | outgrown=>exact he.elim
    unfold CallsV at hc
    split at hc
    · rename_i f fs cs hev
      obtain ⟨hcl,hc⟩:=hc
      unfold callable at hcl
      cases hf:P.funcs[f]? with
      | none=>rw [hf] at hcl; cases hcl
      | some fn' =>
        rw [hf] at hcl
        simp only [Bool.and_eq_true,bne_iff_ne] at hcl
        obtain ⟨hb,hname⟩:=hcl
        have hbn2:fn'.body≠none:=fun e=>by rw [e] at hb; cases hb
        have hev':a.eval g = .func (.func f) fs cs:=hev
        refine ⟨w.heap.size + 1,[markD w.heap.size],w1,_,w1,f,_,w1,run_enterLoop_outer fn a.tmps ps assign body,by simp [resolve,hev',Deferred.ofValue]; exact rfl,fun _ _=>trivial,by simp [invoke,callFunc,hf,hbn2,hname]; exact rfl,fun h=>(by cases h),?_⟩
        exact (show CallsIn (FW none) (rn - 1) P f _ w1 _ from (callsIn_wide (n:=rn - 1)).2 hc).mono fun en w' he=>fin en w' he
    · rename_i l fs cs hev
      have hev':a.eval g = .func (.yield l) fs cs:=hev
      have hv:RepA env σ.toks w1 gv (a.eval g):=hv
      rw [hev'] at hv
      cases gv with
      | clo f us vs=>obtain ⟨_,_,e,_⟩:=hv; cases e
      | c y =>
        cases y with
        | v z=>cases hv; exact hfn.elim
        | sl _ _=>exact hfn.elim
      | _=>exact hfn.elim
    · exact hc.elim
  | _=>intro rd rn w0 V0 hG hrd ic h Q σ env a w hw hs; simp only [cmpCode,Option.some.injEq] at h; subst h; exact hw.elim
theorem callable_of {f:FuncId} {fn:Func} {K:List Nat} {ic:IC} (hf:P.funcs[f]? = some fn) (hc:cmpFunc P fl fn K = some ic):callable P f = true:=by
  unfold cmpFunc at hc
  split at hc
  case isFalse=>cases hc
  rename_i hname
  unfold callable
  rw [hf]
  cases hb:fn.body with
  | none=>rw [hb] at hc; cases hc
  | some c=>simp [hb]; exact hname.1
theorem meetsH_of {f:FuncId} {fn:Func} {K:List Nat} {ic:IC} {ress:List IRes} {args:List X} {h:Hp} {res:R} {h':Hp} (hf:P.funcs[f]? = some fn) (hc:cmpFunc P fl fn K = some ic) (hr:cmpRes P fn.results.toList = some ress)
    (hn:args.length≤fn.ntmps) (hmk:h'.ext.mark = h.ext.mark) (ho:h.Outer) (hao:∀ x∈args,x.only (fun k=>¬ ownKey k) (fun k=>h.toks k≠none))
    (_hsO:∀ k,h.objs k≠none→h'.objs k≠none) (hsT:∀ k,h.toks k≠none→h'.toks k≠none)
    (hon:h'.only (fun k=>¬ ownKey k∨h'.objs k≠none) (fun k=>h'.toks k≠none)) (hro:res.only (fun k=>¬ ownKey k∨h'.objs k≠none) (fun k=>h'.toks k≠none))
    (hw:∀ Q:Exit→S→Prop,(∀ σ,retH ress res h' σ→Q .ret σ)→(∀ σ,retH ress res h' σ→Q .normal σ)→wpI P G ic Q (S.init args h)):MeetsH P G f args h res h':=by
  have honly:∀ {x:X},x.only (fun k=>¬ ownKey k) (fun k=>h.toks k≠none)→x.only (fun _=>True) (fun k=>h.toks k≠none):=fun {x} hx=>X.only_mono (fun _ _=>trivial) (fun _ h=>h) hx
  refine ⟨callable_of hf hc,fun x hx=>honly (hao x hx),fun k b hk r hr=>onlyL_mono (fun _ _=>trivial) (fun _ h=>h) (ho.only k b hk r hr),?_⟩
  intro w env F vs hG hm hfr ha
  unfold cmpFunc at hc
  split at hc
  case isFalse=>cases hc
  rename_i hname
  cases hb:fn.body with
  | none=>rw [hb] at hc; cases hc
  | some c =>
    rw [hb] at hc
    simp only [Option.bind_some] at hc
    refine (callsIn_wide (n:=0)).1 (callsIn_of_wp_marks (F:=Fence.wide) (n:=0) hf hb trivial ?_)
    have hwalk:=hw (fun e σ=>(e = .ret∨e = .normal)∧retH ress res h' σ) (fun σ h=>⟨.inl rfl,h⟩) (fun σ h=>⟨.inr rfl,h⟩)
    have hV0:HeldM G (Base.mk env h F).M w:=hG
    have hcode:=code_sound hname.2 c none 0 w ⟨env,h,F⟩ hV0 (.inl rfl) ic hc _ _ _ _ _ hwalk (init_sim hn hname.2 ho hm hao ha)
    refine wpIn_mono hcode ?_
    rintro e a' w' ⟨σ',env',⟨he,τ,hwk,hneed,hfit,hO,hT,hX⟩,hs⟩
    obtain ⟨env1,hs1⟩:=Sim.weak hwk hs
    have fin:=hs1.leaves (P:=P) (fn:=fn) (h':=h') hX hmk (R:=fun e w'=>∃ v env' F',e = .returned v∧RepR env' h'.toks w' res v∧Left env h F w env' h' F' w') fun w2 a2 ht hs2=>by
      obtain ⟨v,h1,h2⟩:=ret_sound (P:=P) hs2 hr hneed hfit
      obtain ⟨env2,F2,hlf,hre⟩:=leave_sim hs2 hm ho hfr hO hT rfl hsT hon
      rw [ht] at h1
      exact ⟨v,h1,v,env2,F2,rfl,RepR.re hre hro h2,hlf⟩
    rcases he with rfl | rfl
    · exact fin
    · exact fin
end
end Go.Fx

import Derived.Test.YtiomojlcnemnhaaGreatDoorRFxO
import Derived.OrdersIn
namespace Go.Fx
open Go.RowKit
section
variable {P:Program} {G:World→Prop} {w0:World} {V0:Base} {N:Nat} {env:Env} {σ σ':S} {a:Act} {w:World} {o:Oper} {toks:Nat→Option Tok}
theorem unaligned {env:Env} {toks:Nat→Option Tok} {w:World}:∀ {rows:List (List A)} {es:List MapEntry},All2 (RowIs env toks w) rows es→All2 (RepA env toks w) rows.flatten (es.flatMap fun e=>e.key :: e.val.cells.toList)
  | [],es,h=>by have:=h.nil_left; subst this; exact All2.nil
  | r :: rows,es,h=>by
    obtain ⟨e,es',rfl,⟨t,rfl,hk,h1⟩,h2⟩:=h.head
    simp only [List.flatten_cons,List.flatMap_cons]
    exact All2.append (All2.cons (.v _ hk) h1) (unaligned h2)
theorem keyEq_self {d:TypeDesc} {x:Value} (hx:MapKept.IsKey d x) (t:List A):keyEq x (.c (.v x) :: t) = true:=(keyEq_iff hx hx).2 rfl
theorem good_mkmap (hd:∀ n,o.dst = some n→n < N) {t:TypeId} {dk:TypeDesc} {size d:Nat} {one:Bool} (hop:o.op = .makeMap t none) (hdst:o.dst = some d) (hn:σ.objs d = none) :
    Good P w0 V0 N o σ ((σ.setObj d ⟨0,size,[],some (dk,one)⟩).put o.dst (.k true (.x (.one (.mapr d))))):=fun rd rn env a w K Q hs hK=>by
  refine wp_value (v:=.map (some w.heap.size)) (w':=w.alloc (.map #[] 0)) ?_ (hK _ _ _ ((hs.allocO hn (own_dst hd hs.nn hdst) 0 size [] (some (dk,one)) (.map #[] 0) [] ⟨⟨#[],0,rfl,rfl,rfl,MapKept.stamped_empty 0,by simp⟩,by simp⟩ All2.nil (by simp)).put hd ?_))
  · simp [execOp,hop,run_makeMap]
  · simp only [RepT,if_true]
    exact ⟨w.heap.size,size,by simp,rfl⟩
theorem good_mapup (hd:∀ n,o.dst = some n→n < N) {t kt et:TypeId} {dk:TypeDesc} {one:Bool} {m k v:Operand} {dm dkk dv:D} {j:Nat} {b:Box} {x:Value} {yv:X} (hop:o.op = .mapUpdate t m k v) (ht:P.underlying t = some (.map kt et)) (hdk:P.underlying kt = some dk)
    (hm:cmpD m = some dm) (hk:cmpD k = some dkk) (hv:cmpD v = some dv) (h1:dm.val σ = .k true (.x (.one (.mapr j)))) (hj:σ.objs j = some b) (hmp:b.mp = some (dk,one)) (h2:dkk.val σ = .k true (.x (.one (.c (.v x))))) (hx:MapKept.IsKey dk x)
    (h3:dv.val σ = .k true (.x yv)) (hf:formX one yv.cells = yv) (hsz:yv.cells.length + 1 = b.size) :
    Good P w0 V0 N o σ ((σ.setObj j { b with rows:=mapPut b.rows x yv.cells }).put o.dst nothing):=fun rd rn env a w K Q hs hK=>by
  have g1:=hs.opd hm
  rw [h1] at g1
  obtain ⟨bl,s,hρ,em⟩:=(g1.tt:RepA env σ.toks w (.mapr j) (a.eval m))
  have g2:=hs.opd hk
  rw [h2] at g2
  have ek:a.eval k = x:=by
    have h:RepC env.V w (.v x) (a.eval k):=g2.tt
    generalize a.eval k = y at h ⊢
    cases h; rfl
  have g3:=hs.opd hv
  rw [h3] at g3
  have g3:RepX env σ.toks w yv (a.eval v):=g3.tt
  have hc:=RepX.cells g3
  obtain ⟨b',us,e1,e2,⟨ob,e3,e3'⟩,e4,e5,e6⟩:=hs.objs j b hj
  rw [e1] at hρ
  injection hρ with hρ; injection hρ with hb _
  subst hb
  unfold Holds at e3'
  rw [hmp] at e3'
  obtain ⟨⟨es,clock,rfl,rfl,hl,hst,hes⟩,hrows⟩:=e3'
  have hal:=aligned (by simpa using hl.symm) e5 (fun e he=>(hes e he).2.1) hrows e4
  have hvs:(a.eval v).cells.size = yv.cells.length:=by rw [hc.1]; simp
  have hform:(one = true→(a.eval v).oneCell' = true)∧(one = false→∃ cs,a.eval v = .agg cs):=by
    cases one with
    | true =>
      refine ⟨fun _=>?_,(fun e=>by cases e)⟩
      rw [← hf] at g3
      exact RepA.oneCell g3
    | false =>
      refine ⟨(fun e=>by cases e),fun _=>?_⟩
      rw [← hf] at g3
      obtain ⟨us,e,_⟩:=g3
      exact ⟨_,e⟩
  have hxone:x.oneCell' = true:=by
    have h:RepC env.V w (.v x) (a.eval k):=g2.tt
    rw [ek] at h
    exact h.oneCell
  have fin:∀ (a0:Option (Nat × Value)) (es':Array MapEntry) (clock':Nat),Instr.findNow dk x es.toList 0 = some a0→(∀ i u,a0 = some (i,u)→∃ e,es[i]? = some e∧e.key = x) →
      mapNext es clock x (a.eval v) a0 = .map es' clock'→MapKept.Stamped es' clock' →
      All2 (RowIs env σ.toks w) (mapPut b.rows x yv.cells) es'.toList→(∀ r∈mapPut b.rows x yv.cells,r.length = b.size∧∃ y t,r = .c (.v y) :: t) →
      (∀ e∈es'.toList,MapKept.IsKey dk e.key∧e.val.cells.size + 1 = b.size∧(one = true→e.val.oneCell' = true)∧(one = false→∃ cs,e.val = .agg cs))→o.wpIn (FW rd) rn P a w K Q:=by
    intro a0 es' clock' hfn hin hob hst' hal' hrl hes'
    have hrun:=run_mapup (v:=a.eval v) ht hdk e3 hx hfn hin
    rw [hob] at hrun
    have hlt:b' < w.heap.size:=(Array.getElem?_eq_some_iff.1 e3).1
    have hexec:(execOp a.eval o).run P w = .ok .skip { w with heap:=w.heap.setIfInBounds b' (.map es' clock') }:=by
      have em':a.eval m = .map (some b'):=em
      simp [execOp,hop,em',ek,hrun]
    have hbel:Below b' w { w with heap:=w.heap.setIfInBounds b' (.map es' clock') }:=⟨rfl,rfl,rfl,by simp,fun i hi=>(MapKept.heap_set (o':=.map es' clock') e3).2 i (by omega)⟩
    have hoth:∀ i,i≠b'→({ w with heap:=w.heap.setIfInBounds b' (.map es' clock') }:World).heap[i]? = w.heap[i]?:=fun i hi=>(MapKept.heap_set (o':=.map es' clock') e3).2 i hi
    have hbox:BoxIn { w with heap:=w.heap.setIfInBounds b' (.map es' clock') } { b with rows:=mapPut b.rows x yv.cells } b' (es'.toList.flatMap fun e=>e.key :: e.val.cells.toList):=by
      refine ⟨.map es' clock',(MapKept.heap_set (o':=.map es' clock') e3).1,?_⟩
      unfold Holds
      simp only [hmp]
      exact ⟨⟨es',clock',rfl,rfl,by have:=hal'.1; simpa using this.symm,hst',hes'⟩,fun r hr=>(hrl r hr).2⟩
    exact wp_skipped hexec (hK _ _ _ ((hs.write hj e1 hbel hoth hbox (unaligned hal') (fun r hr=>(hrl r hr).1)).put hd (by simp [nothing,RepT])))
  rcases find_aligned hx 0 hal (fun e he=>(hes e he).1) with ⟨q1,q2⟩ | ⟨i,r,e,q1,q2,q3,q4,q5,q6,q7⟩
  · have hany:b.rows.any (keyEq x) = false:=by rw [List.any_eq_false]; intro y hy; exact List.find?_eq_none.1 q1 y hy
    refine fin none _ _ q2 (fun i u h=>by cases h) rfl (MapKept.stamped_push hst fun e he hk=>?_) ?_ (fun r hr=>?_) (fun e he=>?_)
    · obtain ⟨j',hj'⟩:=List.mem_iff_getElem?.1 he
      obtain ⟨r,hr,t,hrt,_⟩:=hal.get' hj'
      have hf:=List.find?_eq_none.1 q1 r (List.mem_of_getElem? hr)
      rw [hrt,hk,keyEq_self hx] at hf
      exact hf rfl
    · simp only [mapPut,hany,Bool.false_eq_true,if_false,Array.toList_push]
      exact hal.append (All2.cons ⟨yv.cells,rfl,hxone,hc⟩ All2.nil)
    · simp only [mapPut,hany,Bool.false_eq_true,if_false,List.mem_append,List.mem_singleton] at hr
      rcases hr with hr | rfl
      · exact ⟨e5 r hr,hrows r hr⟩
      · exact ⟨by simpa using hsz,x,_,rfl⟩
    · simp only [Array.toList_push,List.mem_append,List.mem_singleton] at he
      rcases he with he | rfl
      · exact hes e he
      · exact ⟨hx,by simp only; rw [hvs]; exact hsz,hform⟩
  · have hany:b.rows.any (keyEq x) = true:=by rw [List.any_eq_true]; exact ⟨r,List.mem_of_find?_eq_some q1,List.find?_some q1⟩
    have hei:es[i]? = some e:=by simpa using q5
    have hmod:(es.modify i fun e=>{ key:=x,val:=a.eval v,born:=e.born }).toList = es.toList.set i { key:=x,val:=a.eval v,born:=e.born }:=by
      apply List.ext_getElem?
      intro n
      have hil:i < es.size:=(Array.getElem?_eq_some_iff.1 hei).1
      rw [Array.getElem?_toList,Array.getElem?_modify,List.getElem?_set]
      by_cases hn:i = n
      · subst hn
        rw [if_pos rfl,if_pos rfl,if_pos (by simpa using hil),hei]; rfl
      · rw [if_neg hn,if_neg hn,Array.getElem?_toList]
    simp only [Nat.zero_add] at q3
    refine fin (some (i,e.val)) _ _ q3 (fun i' u h=>by injection h with h; injection h with h _; subst h; exact ⟨e,hei,q7⟩) rfl (MapKept.stamped_modify hst i _ (fun _ _=>rfl) (fun e' _ h=>by rw [hei] at h; injection h with h; subst h; exact q7.symm)) ?_ (fun r hr=>?_) (fun e' he=>?_)
    · simp only [mapPut,hany,if_true,q2,hmod]
      exact hal.set i ⟨yv.cells,rfl,hxone,hc⟩
    · simp only [mapPut,hany,if_true] at hr
      rcases List.mem_or_eq_of_mem_set hr with hr | rfl
      · exact ⟨e5 r hr,hrows r hr⟩
      · exact ⟨by simpa using hsz,x,_,rfl⟩
    · rw [hmod] at he
      rcases List.mem_or_eq_of_mem_set he with he | rfl
      · exact hes e' he
      · exact ⟨hx,by simp only; rw [hvs]; exact hsz,hform⟩
theorem step_true (hG:HeldM G V0.M w0) {op:IOp} {fl:Notes} (hc:cmpOp P fl o = some op) (hd:∀ n,o.dst = some n→n < N) {gd:Option (Nat × Bool)} {fp:Option (List Nat)} (hs:StepI P G ⟨o.dst,op,gd,fp⟩ σ σ') (hg:guardO σ gd = some true):Good P w0 V0 N o σ σ':=by
  have hc0:=hc
  have pure:(∀ d,op≠.bytes d)→(∃ g,guardO σ gd = some g∧∃ out,pureO σ op = some out∧(g = true→out.need)∧σ' = σ.put o.dst (.k g out.val))→Good P w0 V0 N o σ σ':=by
    rintro hb ⟨g,h1,out,h2,h3,rfl⟩
    rw [hg] at h1; injection h1 with h1; subst h1
    exact good_pure hd hc0 h2 (h3 rfl) hb
  have mv:∀ {x:Operand} {d:D},(o.op = .move x∨o.op = .assign x)→cmpD x = some d→(∃ g,guardO σ gd = some g∧σ' = σ.put o.dst (moveT g (d.val σ)))→Good P w0 V0 N o σ σ':=by
    rintro x d hop hx ⟨g,h1,rfl⟩
    rw [hg] at h1; injection h1 with h1; subst h1
    exact good_move hd hop hx
  unfold cmpOp at hc
  split at hc
  · rename_i x hop
    cases hx:cmpD x <;> rw [hx] at hc <;> simp at hc
    subst hc
    exact mv (.inl hop) hx hs
  · rename_i x hop
    cases hx:cmpD x <;> rw [hx] at hc <;> simp at hc
    subst hc
    exact mv (.inr hop) hx hs
  · -- pick
    rename_i x y z hop
    split at hc
    · rename_i dx dy dz hx hy hz
      injection hc with hc; subst hc
      obtain ⟨g,h1,gc,t,h2,h3,rfl⟩:=hs
      rw [hg] at h1; injection h1 with h1; subst h1
      have:=h3 rfl
      subst this
      exact good_pick hd hop hx hy hz h2
    · cases hc
  · -- alloc
    rename_i e hop
    cases hx:zeroIn P e <;> rw [hx] at hc <;> simp at hc
    subst hc
    obtain ⟨_,d,h1,h2,rfl⟩:=hs
    exact good_zero hd hop hx h1 h2
  · -- box
    rename_i e x hop
    cases hx:cmpD x <;> rw [hx] at hc <;> simp at hc
    subst hc
    obtain ⟨_,d,y,h1,h2,h3,rfl⟩:=hs
    exact good_box hd hop hx h1 h2 h3
  · -- build
    split at hc
    · split at hc
      · cases hx:cmpParts _ _ <;> rw [hx] at hc <;> simp at hc
        subst hc
        exact pure (fun _ h=>by cases h) hs
      · cases hc
    · cases hc
  · -- buildSlice
    rename_i t len parts hop
    split at hc
    · rename_i e ht
      split at hc
      · rename_i i z hi hz
        split at hc
        · rename_i hcond
          obtain ⟨hb,hl,h0,hzl⟩:=hcond
          cases hx:cmpRow 0 parts.toList <;> rw [hx] at hc <;> simp at hc
          split at hc
          · subst hc
            obtain ⟨_,d,es,h5,h6,⟨h1,h2,h3⟩,rfl⟩:=hs
            exact good_rowb hd hop ht hi hz hb hl h0 hx h1 h2 h3 h5 h6
          subst hc
          obtain ⟨h1,es,h2,h3,h4⟩:=hs
          cases gd with
          | none =>
            obtain ⟨d,h5,h6,rfl⟩:=h4
            exact good_row hd hop ht hi hz hb hl h0 hx h1 h2 h3 h5 h6
          | some gd =>
            obtain ⟨g,h5,rfl⟩:=h4
            rw [hg] at h5; injection h5 with h5; subst h5
            exact good_row_closed hd hop ht hi hz hb hl h0 hx h1 h2 h3
        · cases hc
      · cases hc
    · cases hc
  · -- load
    rename_i t x hop
    split at hc
    · rename_i n d hcell hx
      injection hc with hc
      split at hc
      · rename_i hgl
        subst hc
        obtain ⟨g,h1,a,v,h2,rfl⟩:=hs
        rw [hg] at h1; injection h1 with h1; subst h1
        obtain ⟨h3,h4,h5⟩:=h2 rfl
        rw [hgl.2] at hcell
        exact good_gload hd hop hcell hx h3 h4 hG h5
      subst hc
      exact pure (fun _ h=>by cases h) hs
    · cases hc
  · -- store
    rename_i t x y hop
    split at hc
    · rename_i i dx dy hi hx hy
      injection hc with hc; subst hc
      obtain ⟨_,k,r,off,b,yv,h1,h2,hmp,h3,h4,h5,h6,rfl⟩:=hs
      exact good_store hd hop hi hx hy h1 h2 hmp h3 h4 h5 h6
    · cases hc
  · -- binOp
    split at hc
    · injection hc with hc; subst hc
      exact pure (fun _ h=>by cases h) hs
    · split at hc
      · injection hc with hc; subst hc
        exact pure (fun _ h=>by cases h) hs
      · injection hc with hc; subst hc
        exact pure (fun _ h=>by cases h) hs
      · cases hc
    · injection hc with hc; subst hc
      exact pure (fun _ h=>by cases h) hs
    · split at hc
      · split at hc
        · split at hc
          · injection hc with hc; subst hc
            exact pure (fun _ h=>by cases h) hs
          · injection hc with hc; subst hc
            exact pure (fun _ h=>by cases h) hs
          · cases hc
        · cases hc
      · cases hc
    · cases hc
  · -- unOp
    rename_i op' t x hop
    cases hx:cmpD x <;> rw [hx] at hc <;> simp at hc
    subst hc
    exact pure (fun _ h=>by cases h) hs
  · -- convert
    rename_i src dst x hop
    split at hc
    · injection hc with hc; subst hc
      exact pure (fun _ h=>by cases h) hs
    · rename_i e d h1 h2 hx
      split at hc
      · rename_i h3
        injection hc with hc; subst hc
        obtain ⟨g,h4,out,h5,h6,rfl⟩:=hs
        rw [hg] at h4; injection h4 with h4; subst h4
        simp only [pureO,Option.some.injEq] at h5
        subst h5
        have:=h6 rfl
        exact good_bytes hd hop h1 h2 h3 hx this.1 this.2
      · cases hc
    · cases hc
  · -- makeSlice
    rename_i t l c hop
    split at hc
    · rename_i e dl dc ht hl hcc
      split at hc
      · rename_i i z hi hz
        injection hc with hc; subst hc
        obtain ⟨_,d,n,m,h1,h2,h3,h4,h5,h6,h7,h8,h9,rfl⟩:=hs
        exact good_make hd hop ht hi hz hl hcc h1 h2 h3 h4 h5 h6 h7 h8 h9
      · cases hc
    · cases hc
  · -- slice
    split at hc
    · split at hc
      · injection hc with hc; subst hc; exact pure (fun _ h=>by cases h) hs
      · injection hc with hc; subst hc; exact pure (fun _ h=>by cases h) hs
      · injection hc with hc; subst hc; exact pure (fun _ h=>by cases h) hs
      · injection hc with hc; subst hc; exact pure (fun _ h=>by cases h) hs
      · cases hc
    · split at hc
      · injection hc with hc; subst hc; exact pure (fun _ h=>by cases h) hs
      · injection hc with hc; subst hc; exact pure (fun _ h=>by cases h) hs
      · injection hc with hc; subst hc; exact pure (fun _ h=>by cases h) hs
      · injection hc with hc; subst hc; exact pure (fun _ h=>by cases h) hs
      · cases hc
    · cases hc
  · -- fieldAddr
    split at hc
    · split at hc
      · split at hc
        · split at hc
          · cases hc
          · injection hc with hc; subst hc; exact pure (fun _ h=>by cases h) hs
        · cases hc
      · cases hc
    · cases hc
  · -- field
    split at hc
    · split at hc
      · split at hc
        · injection hc with hc; subst hc; exact pure (fun _ h=>by cases h) hs
        · cases hc
      · cases hc
    · cases hc
  · -- indexAddr
    split at hc
    · split at hc
      · injection hc with hc; subst hc; exact pure (fun _ h=>by cases h) hs
      · cases hc
    · split at hc
      · split at hc
        · injection hc with hc; subst hc; exact pure (fun _ h=>by cases h) hs
        · cases hc
      · cases hc
    · cases hc
  · -- index
    split at hc
    · injection hc with hc; subst hc; exact pure (fun _ h=>by cases h) hs
    · cases hc
  · -- extract
    rename_i x i hop
    cases hx:cmpD x <;> rw [hx] at hc <;> simp at hc
    subst hc
    exact pure (fun _ h=>by cases h) hs
  · -- call
    rename_i c hop
    split at hc
    · split at hc
      · rename_i x t hargs htys
        split at hc
        · cases hx:cmpD x <;> rw [hx] at hc <;> simp at hc
          subst hc
          exact pure (fun _ h=>by cases h) hs
        · cases hx:cmpD x <;> rw [hx] at hc <;> simp at hc
          subst hc
          exact pure (fun _ h=>by cases h) hs
        · cases hc
      · cases hc
    · rename_i hcal
      split at hc
      · rename_i x y t u hargs htys
        split at hc
        · rename_i htu
          subst htu
          split at hc
          · rename_i e dx dy ht hx hy
            split at hc
            · rename_i i z hi hz
              split at hc
              · rename_i hcond
                injection hc with hc
                split at hc
                · subst hc
                  obtain ⟨_,d,news,q1,q2,⟨q3,q4,⟨sp,q5⟩,q6,q7,q8,q9⟩,rfl⟩:=hs
                  exact good_appb hd hop hcal hargs htys ht hi hz hcond.2 hx hy q3 q4 q5 q6 q7 q1 q2 q8 q9
                subst hc
                obtain ⟨_,gx,gy,news,sp,hr,hw,hcase⟩:=hs
                split at hcase
                · rename_i k es hxr
                  obtain ⟨t',q1,q2,q3,q4,q5,q6,rfl⟩:=hcase
                  exact good_app_own hd hop hcal hargs htys ht hi hz hcond.2 hx hy gx gy hr hw hxr q1 q2 q3 q4 q5 q6
                · rename_i hxr
                  obtain ⟨d,q1,q2,q3,q4,rfl⟩:=hcase
                  exact good_app_nil hd hop hcal hargs htys ht hi hz hcond.2 hx hy gx gy hr hw q1 hxr q2 q3 q4
                · exact hcase.elim
              · cases hc
            · cases hc
          · cases hc
        · cases hc
      · cases hc
    · rename_i f hcal
      split at hc
      · rename_i df ds hf hx
        injection hc with hc
        split at hc
        · subst hc
          obtain ⟨g,h1,fv,xs,x,hh,res,hh',h2,rfl⟩:=hs
          rw [hg] at h1; injection h1 with h1; subst h1
          obtain ⟨h3,h4,h5,h6,h7,_⟩:=h2 rfl
          exact good_call hd hop hcal hf hx h3 h4 h5 hG h6 h7
        · subst hc
          obtain ⟨g,h1,cs,res,h2,rfl⟩:=hs
          rw [hg] at h1; injection h1 with h1; subst h1
          obtain ⟨h3,h4,fn,h6,h5⟩:=h2 rfl
          exact good_callp hd hop hcal hf h6 hx h3 h4 hG h5
      · cases hc
    · cases hc
  · -- makeMap
    rename_i t hop
    split at hc
    · split at hc
      · injection hc with hc; subst hc
        obtain ⟨_,d,h1,h2,rfl⟩:=hs
        exact good_mkmap hd hop h1 h2
      · cases hc
    · cases hc
  · -- lookup
    split at hc
    · split at hc
      · injection hc with hc; subst hc
        exact pure (fun _ h=>by cases h) hs
      · cases hc
    · cases hc
  · -- mapUpdate
    rename_i t m k v hop
    split at hc
    · rename_i kt et ht
      split at hc
      · rename_i dk one dm dkk dv hdk hone hm hk hv
        injection hc with hc; subst hc
        obtain ⟨_,j,b,x,yv,h1,h2,h3,h4,h5,h6,h7,h8,rfl⟩:=hs
        exact good_mapup hd hop ht hdk hm hk hv h1 h2 h3 h4 h5 h6 h7 h8
      · cases hc
    · cases hc
  · -- makeFunc
    split at hc
    · injection hc with hc; subst hc; exact pure (fun _ h=>by cases h) hs
    · cases hc
  · -- makeInterface
    split at hc
    · cases hc
    · injection hc with hc; subst hc; exact pure (fun _ h=>by cases h) hs
    · cases hc
  · -- typeAssert
    split at hc
    · cases hc
    · injection hc with hc; subst hc; exact pure (fun _ h=>by cases h) hs
    · cases hc
  · -- nilCheck
    rename_i x hop
    cases hx:cmpD x <;> rw [hx] at hc <;> simp at hc
    subst hc
    exact pure (fun _ h=>by cases h) hs
  · cases hc
theorem step_guard {dst:Option Nat} {op:IOp} {gd:Option (Nat × Bool)} {fp:Option (List Nat)} (hs:StepI P G ⟨dst,op,gd,fp⟩ σ σ'):∃ g,guardO σ gd = some g:=by
  cases op <;> first
    | (obtain ⟨g,h,_⟩:=hs; exact ⟨g,h⟩)
    | (obtain ⟨h,_⟩:=hs; simp only at h; subst h; exact ⟨true,rfl⟩)
    | (obtain ⟨h,_⟩:=hs; exact ⟨true,h⟩)
    | (obtain ⟨_,es,_,_,h⟩:=hs
       cases gd with
       | none=>exact ⟨true,rfl⟩
       | some gd=>obtain ⟨g,h1,_⟩:=h; exact ⟨g,h1⟩)
theorem step_false {dst:Option Nat} {op:IOp} {gd:Option (Nat × Bool)} {fp:Option (List Nat)} (hd:∀ n,dst = some n→n < N) (hs:StepI P G ⟨dst,op,gd,fp⟩ σ σ') (hg:guardO σ gd = some false) (h:Sim w0 V0 N env σ a w) :
    Sim w0 V0 N env σ' (a.put dst undef) w:=by
  have hn:gd≠none:=fun e=>by subst e; cases hg
  have fin:∀ r:R,Sim w0 V0 N env (σ.put dst (.k false r)) (a.put dst undef) w:=fun r=>h.put hd (by simp [RepT])
  cases op <;> first
    | (obtain ⟨h1,_⟩:=hs; exact absurd h1 hn)
    | (obtain ⟨h1,_⟩:=hs; simp only at h1; rw [hg] at h1; cases h1)
    | (obtain ⟨g,h1,out,_,_,rfl⟩:=hs; rw [hg] at h1; injection h1 with h1; subst h1; exact fin _)
    | (obtain ⟨g,h1,cs,res,_,rfl⟩:=hs; rw [hg] at h1; injection h1 with h1; subst h1; exact fin _)
    | (obtain ⟨g,h1,fv,xs,x,hh,res,hh',_,rfl⟩:=hs; rw [hg] at h1; injection h1 with h1; subst h1; exact fin _)
    | (obtain ⟨g,h1,rfl⟩:=hs
       rw [hg] at h1; injection h1 with h1; subst h1
       refine h.put hd ?_
       unfold moveT
       split
       · simp [RepT]
       · trivial)
    | (obtain ⟨g,h1,gc,t,_,_,rfl⟩:=hs
       rw [hg] at h1; injection h1 with h1; subst h1
       refine h.put hd ?_
       unfold pickT
       split
       · simp [RepT]
       · split
         · simp [RepT]
         · trivial)
    | (obtain ⟨_,es,_,_,h1⟩:=hs
       cases gd with
       | none=>exact absurd rfl hn
       | some gd =>
         obtain ⟨g,h2,rfl⟩:=h1
         rw [hg] at h2; injection h2 with h2; subst h2
         exact fin _)
theorem wanted_eq {ops:Array Oper} {gd:Option (Nat × Bool)} {g:Bool} (hc:cmpGuard ops o.guard = some gd) (hg:guardO σ gd = some g) (h:Sim w0 V0 N env σ a w):Region.wanted o (yielded ops a.tmps) = g:=by
  unfold cmpGuard at hc
  split at hc
  · rename_i hn
    injection hc with hc; subst hc
    simp only [guardO,Option.some.injEq] at hg
    subst hg
    simp [Region.wanted,hn]
  · rename_i j b hgd
    split at hc
    · rename_i oj hoj
      split at hc
      · rename_i d hd
        injection hc with hc; subst hc
        unfold guardO at hg
        split at hg
        · rename_i heq; cases heq
        · rename_i s b' heq
          injection heq with heq; injection heq with e1 e2
          subst e1; subst e2
          split at hg
          · rename_i g' t ht
            injection hg with hg
            have hr:=h.tmps d
            rw [ht] at hr
            have hy:yielded ops a.tmps j = if g' then some t else none:=by
              simp only [yielded,hoj,Option.bind_some,hd]
              cases g' with
              | true =>
                have:=rep_bool (RepT.tt hr)
                cases hx:a.tmps[d]? with
                | none=>rw [Array.getD_eq_getD_getElem?,hx] at this; cases this
                | some v=>rw [Array.getD_eq_getD_getElem?,hx] at this; simp at this; subst this; rfl
              | false =>
                have:a.tmps.getD d undef = undef:=by simpa [RepT] using hr
                cases hx:a.tmps[d]? with
                | none=>rfl
                | some v=>rw [Array.getD_eq_getD_getElem?,hx] at this; simp at this; subst this; rfl
            simp only [Region.wanted,hgd,hy]
            rw [← hg]
            cases g' <;> cases t <;> cases b <;> rfl
          · cases hg
      · cases hc
    · cases hc
theorem op_sound {rd:Option Nat} {n:Nat} (hG:HeldM G V0.M w0) {ops:Array Oper} {fl:Notes} {i:Nat} {io:IOper} (ho:ops[i]? = some o) (hc:cmpOper P fl ops N o = some io) (hs:StepI P G io σ σ') (h:Sim w0 V0 N env σ a w) {K:Act→World→Prop} {Q:Exit→Act→World→Prop}
    (hK:∀ env' a' w',Sim w0 V0 N env' σ' a' w'→K a' w'):wpOpIn (FW rd) n P ops Q i K a w:=by
  have inv:∃ op gd,cmpOp P fl o = some op∧cmpGuard ops o.guard = some gd∧io = ⟨o.dst,op,gd,(noteOf fl o).join⟩∧∀ n,o.dst = some n→n < N:=by
    unfold cmpOper at hc
    split at hc
    · rename_i op gd h1 h2
      split at hc
      · rename_i hd
        injection hc with hc
        exact ⟨op,gd,h1,h2,by rw [← hc,hd],fun n e=>by rw [hd] at e; cases e⟩
      · rename_i d hd
        split at hc
        · rename_i hlt
          injection hc with hc
          exact ⟨op,gd,h1,h2,by rw [← hc,hd],fun n e=>by rw [hd] at e; injection e with e; subst e; exact hlt⟩
        · cases hc
    · cases hc
  obtain ⟨op,gd,h1,h2,rfl,hd⟩:=inv
  obtain ⟨g,hg⟩:=step_guard hs
  have hw:=wanted_eq h2 hg h
  unfold wpOpIn
  rw [ho]
  simp only [hw]
  cases g with
  | true=>simp only [if_true]; exact step_true hG h1 hd hs hg rd n env a w K Q h hK
  | false=>simp only [Bool.false_eq_true,if_false]; exact ⟨fun _ _=>trivial,hK _ _ _ (step_false hd hs hg h)⟩
end
end Go.Fx

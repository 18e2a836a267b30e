import Derived.Test.YtiomojlcnemnhaaGreatDoorRFxM
namespace Go.Fx
open Go.RowKit
section
variable {P:Program} {w0:World} {V0:Base} {N:Nat} {env:Env} {σ σ':S} {a:Act} {w:World} {o:Oper} {toks:Nat→Option Tok}
theorem run_app {base:Nat} {t ty e:TypeId} {i:TypeInfo} {z:Value} {size:Nat} (ht:P.underlying t = some (.slice e)) (hi:P.info? e = some i) (hz:i.zero = some z)
    (hsize:i.size = size) (hzs:z.cells.size = size) {v:Value} {n:Nat} {xs:List Value} (hown:w.ownsRow base e size v n xs)
    {x:Value} {m:Nat} {news:List Value} (hx:((x = .slice none 0 0∨∃ ad,x = .slice (some ad) 0 0)∧m = 0)∨∃ b o c,x = .slice (some ⟨b,o,none⟩) m c∧∀ (j:Nat) (u:Value),news[j]? = some u→w.cell? ⟨b,o + j,none⟩ = some u)
    (hl:news.length = m * size) (h1:∀ u∈news,u.oneCell' = true) (h63:n + m≤maxLen) (hbytes:(n + m) * i.bytes≤maxBytes) (hbase:base≤w.heap.size) :
    ∃ v' w',(Builtin.append_ #[t,t] ty #[v,x]).run P w = .ok v' w'∧w'.ownsRow base e size v' (n + m) (xs++news) ∧
      ((v'.ownBlock = v.ownBlock∧w.grownBy w' v.ownBlock)∨(v'.ownBlock = some w.heap.size∧w.grownBy w' none))∧(m = 0→v' = v):=by
  subst hsize
  rcases hx with ⟨hx,rfl⟩ | ⟨b,o,c,rfl,hnews⟩
  · have hn:news = []:=List.eq_nil_of_length_eq_zero (by simpa using hl)
    subst hn
    refine ⟨v,w,?_,by simpa using hown,.inl ⟨rfl,World.grownBy.refl w _⟩,fun _=>rfl⟩
    rcases hx with rfl | ⟨ad,rfl⟩ <;> rcases hown.2 with ⟨rfl,rfl⟩ | ⟨g,cap,cur,rfl,_,_,hnc,_⟩
    · simp [Builtin.append_,run_underlying ht,sizeOf,typeInfo,hi,Builtin.lenOf,Builtin.firstCells]
    · simp [Builtin.append_,run_underlying ht,sizeOf,typeInfo,hi,Builtin.lenOf,Builtin.firstCells,hnc,storeCells]
    · simp [Builtin.append_,run_underlying ht,sizeOf,typeInfo,hi,Builtin.lenOf,Builtin.firstCells,loadCells,loadCellsFrom]
    · simp [Builtin.append_,run_underlying ht,sizeOf,typeInfo,hi,Builtin.lenOf,Builtin.firstCells,hnc,storeCells,loadCells,loadCellsFrom]
  · have hnews':∀ (j:Nat) (u:Value),news[j]? = some u→w.cell? ((⟨b,o,none⟩:Addr).add j) = some u:=fun j u hj=>by rw [add_at]; exact hnews j u hj
    have hsmall:n + m≤9223372036854775807:=by simp only [maxLen] at h63; omega
    have hlen:(xs++news).length = (n + m) * i.size:=by rw [List.length_append,hown.1,hl,Nat.add_mul]
    unfold maxBytes at hbytes
    have grown:∀ (old:Nat),(w.drew.alloc (.cells (xs.toArray++news.toArray++Builtin.zeroCells z.cells (grownCap w (n + m) old e - (n + m))) e)).ownsRow base e i.size
          (.slice (some ⟨w.heap.size,0,none⟩) (n + m) (grownCap w (n + m) old e)) (n + m) (xs++news) ∧
        w.grownBy (w.drew.alloc (.cells (xs.toArray++news.toArray++Builtin.zeroCells z.cells (grownCap w (n + m) old e - (n + m))) e)) none:=by
      intro old
      have hge:=Go.grownCap_ge w (n + m) old e
      have hcm:grownCap w (n + m) old e≤maxLen:=grownCap_le_maxLen w (n + m) old e h63
      refine ⟨⟨hlen,.inr ⟨w.heap.size,_,_,rfl,hbase,heap_alloc_new w.drew _,hge,hcm,?_,?_⟩⟩,⟨rfl,rfl,rfl,by simp,fun k hk _=>Below.heap_alloc w.drew _ k hk⟩⟩
      · simp only [Array.size_append,List.size_toArray,size_zeroCells,hzs,hown.1,hl,← Nat.add_mul]
        congr 1
        omega
      · simp only [Array.toList_append,List.append_assoc]
        rw [← List.append_assoc,← hlen]
        exact List.take_left
    rcases hown.2 with ⟨rfl,rfl⟩ | ⟨g,cap,cur,rfl,hbg,hg,hnc,hcm,hcs,htake⟩
    · have hx:xs = []:=List.eq_nil_of_length_eq_zero (by simpa using hown.1)
      subst hx
      by_cases hm:m = 0
      · subst hm
        have hn:news = []:=List.eq_nil_of_length_eq_zero (by simpa using hl)
        subst hn
        refine ⟨.slice none 0 0,w,?_,World.ownsRow_nil w base e i.size,.inl ⟨rfl,World.grownBy.refl w _⟩,fun _=>rfl⟩
        simp [Builtin.append_,run_underlying ht,sizeOf,typeInfo,hi,Builtin.lenOf,Builtin.firstCells,loadCells,loadCellsFrom]
      · have hr:=run_append_nil (P:=P) w t ty e i z ht hi hz ⟨b,o,none⟩ m c news hl hnews' (by omega) (by omega) (by simp only [Nat.zero_add] at hbytes; omega)
        have hgr:=grown 0
        simp only [Nat.zero_add,List.nil_append,Array.empty_append] at hgr ⊢
        exact ⟨_,_,hr,hgr.1,.inr ⟨rfl,hgr.2⟩,fun h=>absurd h hm⟩
    · by_cases hroom:n + m≤cap
      · have hfit:n * i.size + news.length≤cur.size:=by rw [hl,hcs,← Nat.add_mul]; exact Nat.mul_le_mul_right _ hroom
        have hr:=run_append_room (P:=P) w t ty e i ht hi g n cap cur hg ⟨b,o,none⟩ m c news hl hnews' h1 hroom hfit
        refine ⟨_,_,hr,⟨hlen,.inr ⟨g,cap,_,rfl,hbg,setRow_heap w g cur _ e _ hg,hroom,hcm,?_,?_⟩⟩,.inl ⟨rfl,⟨rfl,rfl,rfl,by simp,fun k _ hk=>setRow_other w g k _ (fun e=>hk (by simp [Value.ownBlock,e]))⟩⟩,fun h=>by subst h; rfl⟩
        · simp only [List.size_toArray,List.length_append,List.length_take,List.length_drop,Array.length_toList]
          omega
        · rw [htake,← hlen]
          exact List.take_left
      · have holds:∀ j u,xs[j]? = some u→w.cell? ((⟨g,0,none⟩:Addr).add j) = some u:=hown.cells (g:=g) rfl
        have hr:=run_append_grow (P:=P) w t ty e i z ht hi hz ⟨g,0,none⟩ n cap xs hown.1 holds ⟨b,o,none⟩ m c news hl hnews' (by omega) (by omega) (growslice_fits (by omega) hbytes)
        have hgr:=grown cap
        exact ⟨_,_,hr,hgr.1,.inr ⟨rfl,hgr.2⟩,fun h=>by omega⟩
theorem sl_cells {V:Nat→Nat→Prop} {es sp:List (List C)} {v:Value} {size:Nat} (h:RepC V w (.sl es sp) v) (hs:∀ e∈es,e.length = size) :
    ∃ us:List Value,us.length = es.length * size∧All2 (RepC V w) es.flatten us ∧
      (((v = .slice none 0 0∨∃ ad,v = .slice (some ad) 0 0)∧es.length = 0)∨∃ b o c,v = .slice (some ⟨b,o,none⟩) es.length c∧∀ (j:Nat) (u:Value),us[j]? = some u→w.cell? ⟨b,o + j,none⟩ = some u∧V b (o + j)):=by
  cases h with
  | nil c=>exact ⟨[],by simp,All2.nil,.inl ⟨.inl rfl,rfl⟩⟩
  | emp ad=>exact ⟨[],by simp,All2.nil,.inl ⟨.inr ⟨ad,rfl⟩,rfl⟩⟩
  | sl _ _ s b o n cap us hn hc hm hw hl hu hr =>
    subst hn
    have hfl:es.flatten.length = es.length * size:=length_flatten es hs
    have hle:es.flatten.length≤us.length:=by rw [hl,List.flatten_append,List.length_append]; omega
    refine ⟨us.take es.flatten.length,by rw [List.length_take,Nat.min_eq_left hle,hfl],⟨by rw [List.length_take,Nat.min_eq_left hle],fun j c u hcj huj=>?_⟩,.inr ⟨b,o,cap,rfl,fun j u hj=>?_⟩⟩
    · rw [List.getElem?_take] at huj
      split at huj
      · refine hr j c u ?_ huj
        rw [List.flatten_append,List.getElem?_append_left ‹_›]
        exact hcj
      · cases huj
    · rw [List.getElem?_take] at hj
      split at hj
      · exact hu j u hj
      · cases hj
theorem rows_rep {r:R} {news sp:List (List C)} {v:Value} (h:RepR env toks w r v) (hr:r.rows? = some (news,sp)):RepC env.V w (.sl news sp) v:=by
  unfold R.rows? at hr
  split at hr
  · rename_i x
    cases x with
    | c y =>
      cases y with
      | sl es sp'=>simp only [A.rows?,Option.some.injEq,Prod.mk.injEq] at hr; obtain ⟨rfl,rfl⟩:=hr; exact h
      | v x=>simp [A.rows?] at hr
    | nil=>simp only [A.rows?,Option.some.injEq,Prod.mk.injEq] at hr; obtain ⟨rfl,rfl⟩:=hr; cases h; exact .nil 0
    | own k es=>simp only [A.rows?,Option.some.injEq,Prod.mk.injEq] at hr; obtain ⟨rfl,rfl⟩:=hr; exact h.1
    | ref=>simp [A.rows?] at hr
    | arr=>simp [A.rows?] at hr
    | mapr=>simp [A.rows?] at hr
    | clo=>simp [A.rows?] at hr
    | yld=>simp [A.rows?] at hr
    | ifc=>simp [A.rows?] at hr
    | elem=>simp [A.rows?] at hr
    | lost=>simp [A.rows?] at hr
  · cases hr
theorem good_app_core (hd:∀ n,o.dst = some n→n < N) {c:Call} {t e:TypeId} {i:TypeInfo} {zl:List A} {x y:Operand} {dx dy:D} (hop:o.op = .call c) (hcal:c.callee = .builtin .append) (hargs:c.args.toList = [x,y]) (htys:c.argTypes.toList = [t,t])
    (ht:P.underlying t = some (.slice e)) (hi:P.info? e = some i) (hz:zeroIn P e = some zl) (hzl:zl.length = i.size) (_hx:cmpD x = some dx) (hy:cmpD y = some dy)
    (_gx:(dx.val σ).g = true) (gy:(dy.val σ).g = true) {news sp:List (List C)} (hr:(dy.val σ).r.rows? = some (news,sp)) (hw:∀ q∈news,q.length = i.size)
    {k n:Nat} {es:List (List C)} (hn:es.length = n) (hes:∀ q∈es,q.length = i.size) (h63:n + news.length≤maxLen) (hbytes:(n + news.length) * i.bytes≤maxBytes) (hk:N≤10000→σ.toks k = none→ownKey k)
    (htok:∀ env a w,Sim w0 V0 N env σ a w→∃ v xs,a.eval x = v∧w.ownsRow 0 e i.size v n xs∧RepC env.V w (.sl es []) v ∧
      ((σ.toks k = none∧v.ownBlock = none)∨∃ q,σ.toks k = some q∧env.τ k = some v∧q.ty = e∧q.size = i.size∧q.n = n)) :
    Good P w0 V0 N o σ ((σ.setTok k ⟨e,i.size,n + news.length⟩).put o.dst (.k true (.x (.one (.own k (es++news)))))):=fun rd rn env a w K Q hs hK=>by
  obtain ⟨v,xs,ev,hown,hrep,hcase⟩:=htok env a w hs
  have hyrep:=rows_rep (hs.opr hy gy) hr
  obtain ⟨us,hul,hur,hsrc⟩:=sl_cells hyrep hw
  obtain ⟨i',z,hi',hzv,hcz⟩:=zeroIn_rep (env:=env) (toks:=σ.toks) (w:=w) hz
  rw [hi] at hi'; injection hi' with hi'; subst hi'
  have hzs:z.cells.size = i.size:=by rw [← hzl,hcz.1]; simp
  have hone:∀ u∈us,u.oneCell' = true:=fun u hu=>by obtain ⟨j,hj⟩:=List.getElem?_of_mem hu; obtain ⟨q,_,hq⟩:=hur.get' hj; exact hq.oneCell
  obtain ⟨v',w',hrun,hown',hgrow,hzero⟩:=run_app (P:=P) (ty:=o.type) ht hi hzv rfl hzs hown (x:=a.eval y) (m:=news.length) (news:=us)
    (hsrc.imp id fun ⟨b,o,c,h1,h2⟩=>⟨b,o,c,h1,fun j u hj=>(h2 j u hj).1⟩) hul hone h63 hbytes (Nat.zero_le _)
  have hexec:(execOp a.eval o).run P w = .ok (.value v') w':=by
    have e1:c.args = #[x,y]:=Array.toList_inj.1 (by rw [hargs])
    have e2:c.argTypes = #[t,t]:=Array.toList_inj.1 (by rw [htys])
    simp [execOp,hop,resolve,hcal,e1,e2,invoke,builtin,ev,hrun]
  have hg:w.grownBy w' v.ownBlock:=hgrow.elim (·.2) fun h=>⟨h.2.os,h.2.tape,h.2.output,h.2.size,fun b hb _=>h.2.block b hb (by simp)⟩
  -- what nobody writes is as it was
  have hcells:∀ b o,env.V b o→w'.cell? ⟨b,o,none⟩ = w.cell? ⟨b,o,none⟩:=fun b o hv=>by
    have hlt:=hs.vlt b o hv
    rcases hgrow with ⟨hsame,hgb⟩ | ⟨_,hgb⟩
    · by_cases hb:v.ownBlock = some b
      · -- a cell of the token's own: one of those that were there
        have hlt2:o < n * i.size:=by
          rcases hcase with ⟨_,hnone⟩ | ⟨q,hq,hτ,hqt,hqs,hqn⟩
          · rw [hnone] at hb; cases hb
          · obtain ⟨v1,xs1,g1,g2,g3⟩:=hs.toks k q hq
            rw [hτ] at g1; injection g1 with g1; subst g1
            rcases Nat.lt_or_ge o (n * i.size) with h | h
            · exact h
            · exact absurd hv ((g3 b hb).2.1 o (by rw [hqn,hqs]; exact h))
        have hxs:o < xs.length:=by rw [hown.1]; exact hlt2
        obtain ⟨u,hu⟩:∃ u,xs[o]? = some u:=⟨_,List.getElem?_eq_getElem hxs⟩
        have c1:=hown.cells hb o u hu
        have c2:=hown'.cells (hsame.trans hb) o u (by rw [List.getElem?_append_left hxs,hu])
        rw [add_at,Nat.zero_add] at c1 c2
        rw [c1,c2]
      · exact World.cell?_of_block (a:=⟨b,o,none⟩) (hgb.block b hlt (fun e=>hb e.symm))
    · exact World.cell?_of_block (a:=⟨b,o,none⟩) (hgb.block b hlt (by simp))
  have hsim:=hs.token (k:=k) (hk:=hk hs.nn) (t':=⟨e,i.size,n + news.length⟩) (v:=v) (v':=v') (xs':=xs++us) (w':=w')
    (hcase.elim (fun h=>.inl ⟨h.1,h.2,rfl⟩) fun ⟨q,hq,hτ,hqt,hqs,hqn⟩=>.inr ⟨q,hq,hτ,hqt.symm,hqs.symm,by simp only [hqn]; omega,fun h=>hzero (by simp only [hqn] at h; omega)⟩)
    hg hown' hcells (hgrow.elim (fun h=>.inl h.1) fun h=>.inr h.1)
  refine wp_value hexec (hK _ _ _ (hsim.put hd (RepT.mk ?_)))
  -- the new slice reads
  have hall:∀ q∈es++news,q.length = i.size:=fun q hq=>(List.mem_append.1 hq).elim (hes q) (hw q)
  refine ⟨?_,⟨e,i.size,n + news.length⟩,by simp [S.setTok],by simp [hn],hall,fun _=>by simp⟩
  have hxr:All2 (RepC env.V w) es.flatten xs:=by
    obtain ⟨us0,hl0,hr0,hsrc0⟩:=sl_cells hrep hes
    have:us0 = xs:=by
      apply List.ext_getElem?
      intro j
      by_cases hj:j < n * i.size
      · rcases hsrc0 with ⟨_,h0⟩ | ⟨b,o,c,h1,h2⟩
        · rw [hn] at h0; subst h0; simp at hj
        · obtain ⟨u1,e1⟩:∃ u,us0[j]? = some u:=⟨_,List.getElem?_eq_getElem (by rw [hl0,hn]; exact hj)⟩
          have c0:=(h2 j u1 e1).1
          have hob:v.ownBlock = some b:=by rw [h1]; rfl
          obtain ⟨u2,e2⟩:∃ u,xs[j]? = some u:=⟨_,List.getElem?_eq_getElem (by rw [hown.1]; exact hj)⟩
          have c1:=hown.cells hob j u2 e2
          rw [add_at] at c1
          -- the row begins at 0
          have ho:o = 0:=by
            rcases hown.2 with ⟨hv0,_⟩ | ⟨g,cap,cur,hv0,_⟩
            · rw [h1] at hv0; cases hv0
            · rw [h1] at hv0; injection hv0 with hv0 _ _; injection hv0 with hv0; injection hv0
          rw [ho] at c0
          rw [c0] at c1
          rw [e1,e2,c1]
      · rw [List.getElem?_eq_none (by rw [hl0,hn]; omega),List.getElem?_eq_none (by rw [hown.1]; omega)]
    rw [← this]; exact hr0
  have hVsub:∀ b o,env.V b o→(env.V b o∨(v'.ownBlock = some b∧o < (n + news.length) * i.size)):=fun _ _ h=>.inl h
  have hrows:All2 (RepC (fun b o=>env.V b o∨(v'.ownBlock = some b∧o < (n + news.length) * i.size)) w') (es++news).flatten (xs++us):=by
    rw [List.flatten_append]
    exact (hxr.append hur).imp fun _ _ _ h=>RepC.mono hVsub hcells h
  rcases hown'.2 with ⟨hv0,h0⟩ | ⟨g,cap,cur,hv0,hbg,hgc,hnc,hcm,hcs,htake⟩
  · have:es++news = []:=List.eq_nil_of_length_eq_zero (by rw [List.length_append,hn]; exact h0)
    rw [hv0,this]
    exact .nil 0
  · have hob:v'.ownBlock = some g:=by rw [hv0]; rfl
    have hcell':=hown'.cells hob
    rw [hv0]
    refine .sl _ _ i.size g 0 (n + news.length) cap (xs++us) (by rw [List.length_append,hn]) (by rw [List.length_append,hn]; simpa using hnc) hcm (by simpa using hall) (by rw [List.append_nil]; exact hrows.1.symm) (fun j u hj=>?_) (fun j c u hc hu=>?_)
    · have:=hcell' j u hj
      rw [add_at] at this
      refine ⟨this,.inr ⟨by rw [← hv0]; exact hob,?_⟩⟩
      have:=(List.getElem?_eq_some_iff.1 hj).1
      rw [hown'.1] at this
      simpa using this
    · rw [List.append_nil] at hc
      have:=hrows.2 j c u hc hu
      rw [hv0] at this
      exact this
theorem good_app_own (hd:∀ n,o.dst = some n→n < N) {c:Call} {t e:TypeId} {i:TypeInfo} {zl:List A} {x y:Operand} {dx dy:D} (hop:o.op = .call c) (hcal:c.callee = .builtin .append) (hargs:c.args.toList = [x,y]) (htys:c.argTypes.toList = [t,t])
    (ht:P.underlying t = some (.slice e)) (hi:P.info? e = some i) (hz:zeroIn P e = some zl) (hzl:zl.length = i.size) (hx:cmpD x = some dx) (hy:cmpD y = some dy)
    (gx:(dx.val σ).g = true) (gy:(dy.val σ).g = true) {news sp:List (List C)} (hr:(dy.val σ).r.rows? = some (news,sp)) (hw:∀ q∈news,q.length = i.size)
    {k:Nat} {es:List (List C)} {q:Tok} (hxr:(dx.val σ).r = .x (.one (.own k es))) (hq:σ.toks k = some q) (hqt:q.ty = e) (hqs:q.size = i.size) (hqn:es.length = q.n)
    (h63:es.length + news.length≤maxLen) (hbytes:(es.length + news.length) * i.bytes≤maxBytes) :
    Good P w0 V0 N o σ ((σ.setTok k ⟨e,i.size,es.length + news.length⟩).put o.dst (.k true (.x (.one (.own k (es++news)))))):=by
  by_cases hes:∀ r∈es,r.length = i.size
  · refine good_app_core hd hop hcal hargs htys ht hi hz hzl hx hy gx gy hr hw rfl hes h63 hbytes (fun _ e=>by rw [hq] at e; cases e) fun env a w hs=>?_
    have h:=hs.opr hx gx
    rw [hxr] at h
    obtain ⟨h1,t',h2,h3,h4,h5⟩:=h
    rw [hq] at h2; injection h2 with h2; subst h2
    obtain ⟨v,xs,g1,g2,g3⟩:=hs.toks k q hq
    have:=h5 hqn
    rw [g1] at this; injection this with this
    refine ⟨a.eval x,xs,rfl,by rw [← this,← hqt,← hqs,hqn]; exact g2,h1,.inr ⟨q,hq,by rw [g1,this],hqt,hqs,hqn.symm⟩⟩
  · intro rd rn env a w K Q hs hK
    exfalso
    have h:=hs.opr hx gx
    rw [hxr] at h
    obtain ⟨h1,t',h2,h3,h4,h5⟩:=h
    rw [hq] at h2; injection h2 with h2; subst h2
    exact hes (fun r hr=>by rw [← hqs]; exact h4 r hr)
theorem good_app_nil (hd:∀ n,o.dst = some n→n < N) {c:Call} {t e:TypeId} {i:TypeInfo} {zl:List A} {x y:Operand} {dx dy:D} (hop:o.op = .call c) (hcal:c.callee = .builtin .append) (hargs:c.args.toList = [x,y]) (htys:c.argTypes.toList = [t,t])
    (ht:P.underlying t = some (.slice e)) (hi:P.info? e = some i) (hz:zeroIn P e = some zl) (hzl:zl.length = i.size) (hx:cmpD x = some dx) (hy:cmpD y = some dy)
    (gx:(dx.val σ).g = true) (gy:(dy.val σ).g = true) {news sp:List (List C)} (hr:(dy.val σ).r.rows? = some (news,sp)) (hw:∀ q∈news,q.length = i.size)
    {d:Nat} (hdst:o.dst = some d) (hxr:(dx.val σ).r = .x (.one .nil)) (hq:σ.toks d = none) (h63:news.length≤maxLen) (hbytes:news.length * i.bytes≤maxBytes) :
    Good P w0 V0 N o σ ((σ.setTok d ⟨e,i.size,news.length⟩).put o.dst (.k true (.x (.one (.own d news))))):=by
  have:=good_app_core (w0:=w0) (V0:=V0) (k:=d) (n:=0) (es:=[]) hd hop hcal hargs htys ht hi hz hzl hx hy gx gy hr hw rfl (by simp) (by simpa using h63) (by simpa using hbytes) (fun h _=>own_dst hd h hdst) fun env a w hs=>(by
    have h:=hs.opr hx gx
    rw [hxr] at h
    have e:a.eval x = .slice none 0 0:=h
    exact ⟨a.eval x,[],rfl,by rw [e]; exact World.ownsRow_nil _ _ _ _,by rw [e]; exact .nil 0,.inl ⟨hq,by rw [e]; rfl⟩⟩)
  simpa using this
theorem good_appb (hd:∀ n,o.dst = some n→n < N) {c:Call} {t e:TypeId} {i:TypeInfo} {zl:List A} {x y:Operand} {dx dy:D} (hop:o.op = .call c) (hcal:c.callee = .builtin .append) (hargs:c.args.toList = [x,y]) (htys:c.argTypes.toList = [t,t])
    (ht:P.underlying t = some (.slice e)) (hi:P.info? e = some i) (hz:zeroIn P e = some zl) (hzl:zl.length = i.size) (hx:cmpD x = some dx) (hy:cmpD y = some dy)
    (hxv:dx.val σ = .k true (.x (.one .nil))) (gy:(dy.val σ).g = true) {news sp:List (List C)} (hr:(dy.val σ).r.rows? = some (news,sp)) (hw:∀ q∈news,q.length = i.size) (hne:news≠[])
    {d:Nat} (hdst:o.dst = some d) (hn:σ.objs d = none) (h63:news.length≤maxLen) (hbytes:news.length * i.bytes≤maxBytes) :
    Good P w0 V0 N o σ ((σ.setObj d ⟨e,i.size,news.map (·.map A.c),none⟩).put o.dst (.k true (.x (.one (.arr d 0 news.length news.length))))):=fun rd rn env a w K Q hs hK=>by
  have hnil:a.eval x = .slice none 0 0:=by
    have h:=hs.opr hx (by rw [hxv]; rfl)
    rw [hxv] at h
    exact h
  have hyrep:=rows_rep (hs.opr hy gy) hr
  obtain ⟨us,hul,hur,hsrc⟩:=sl_cells hyrep hw
  obtain ⟨i',z,hi',hzv,hcz⟩:=zeroIn_rep (env:=env) (toks:=σ.toks) (w:=w) hz
  rw [hi] at hi'; injection hi' with hi'; subst hi'
  have hzs:z.cells.size = i.size:=by rw [← hzl,hcz.1]; simp
  have hone:∀ u∈us,u.oneCell' = true:=fun u hu=>by obtain ⟨j,hj⟩:=List.getElem?_of_mem hu; obtain ⟨q,_,hq⟩:=hur.get' hj; exact hq.oneCell
  obtain ⟨v',w',hrun,hown',hgrow,_⟩:=run_app (P:=P) (ty:=o.type) (base:=w.heap.size) (v:=.slice none 0 0) (n:=0) (xs:=[]) ht hi hzv rfl hzs (World.ownsRow_nil _ _ _ _) (x:=a.eval y) (m:=news.length) (news:=us)
    (hsrc.imp id fun ⟨b,o,c,h1,h2⟩=>⟨b,o,c,h1,fun j u hj=>(h2 j u hj).1⟩) hul hone (by simpa using h63) (by simpa using hbytes) (Nat.le_refl _)
  have hexec:(execOp a.eval o).run P w = .ok (.value v') w':=by
    have e1:c.args = #[x,y]:=Array.toList_inj.1 (by rw [hargs])
    have e2:c.argTypes = #[t,t]:=Array.toList_inj.1 (by rw [htys])
    simp [execOp,hop,resolve,hcal,e1,e2,invoke,builtin,hnil,hrun]
  have hg:w.grownBy w' none:=hgrow.elim (·.2) (·.2)
  have hbel:Below w.heap.size w w':=⟨hg.os,hg.tape,hg.output,hg.size,fun b hb=>hg.block b hb (by simp)⟩
  have hpos:0 < news.length:=List.length_pos_iff.2 hne
  rcases hown'.2 with ⟨_,h0⟩ | ⟨g,cap,cur,rfl,hbase,hcur,hnc,hcm,hsz,htk⟩
  · omega
  simp only [Nat.zero_add,List.nil_append] at htk hnc
  have hB:BoxIn w' ⟨e,i.size,news.map (·.map A.c),none⟩ g us:=by
    refine BoxIn.mk (cur.toList.drop (news.length * i.size)) rfl ?_
    rw [hcur,← htk,List.take_append_drop]
  have hrep':All2 (RepA env σ.toks w) (news.map (·.map A.c)).flatten us:=by
    rw [show (news.map (·.map A.c)).flatten = news.flatten.map A.c by rw [List.map_flatten]]
    exact All2.map_left (p:=RepA env σ.toks w) (f:=A.c) hur
  refine wp_value hexec (hK _ _ _ ((hs.grewO hn (own_dst hd hs.nn hdst) e i.size (news.map (·.map A.c)) us hbel hbase hB hrep' (fun r hr=>by obtain ⟨q,hq,rfl⟩:=List.mem_map.1 hr; simpa using hw q hq)).put hd (RepT.mk ?_)))
  exact ⟨g,i.size,cap,by simp,by simp,hnc,hcm⟩
end
end Go.Fx

namespace Go.Fx
open Go.RowKit
section
variable {P:Program} {w0:World} {V0:Base} {N:Nat} {env:Env} {σ σ':S} {a:Act} {w:World} {o:Oper} {toks:Nat→Option Tok}
theorem over_take {us vs:List Value} {o:Nat} (h:o≤us.length):(over us o vs).take o = us.take o:=by
  unfold over
  rw [List.append_assoc,List.take_append_of_le_length (by rw [List.length_take]; omega),List.take_take,Nat.min_self]
theorem over_mid {us vs:List Value} {o:Nat} (h:o≤us.length):((over us o vs).drop o).take vs.length = vs:=by
  unfold over
  have:(us.take o).length = o:=by rw [List.length_take]; omega
  rw [List.append_assoc,List.drop_left' this,List.take_left' rfl]
theorem row_fill {size:Nat} (hs:Sim w0 V0 N env σ a w):∀ (parts:List (Nat × Operand)) (k:Nat) (ds:List D) (es:List (List C)) (us:Array Value),cmpRow k parts = some ds→(ds.all fun d=>(d.val σ).g) = true →
    rowsO (ds.map fun d=>(d.val σ).r) = some es→(∀ e∈es,e.length = size)→(k + parts.length) * size≤us.size →
    ∃ us',Instr.fill (fun i=>some (i * size,size)) us (parts.map fun p=>(p.1,a.eval p.2)) = some us'∧us'.size = us.size∧us'.toList.take (k * size) = us.toList.take (k * size)∧es.length = parts.length ∧
      All2 (RepC env.V w) es.flatten ((us'.toList.drop (k * size)).take (es.length * size))
  | [],k,ds,es,us,h,_,hr,_,_=>by
    simp [cmpRow] at h; subst h
    simp [rowsO] at hr; subst hr
    exact ⟨us,rfl,rfl,rfl,rfl,by simpa using All2.nil⟩
  | (j,x) :: parts,k,ds,es,us,h,hg,hr,hw,hsz=>by
    unfold cmpRow at h
    split at h
    · rename_i hj
      subst hj
      split at h
      · rename_i d ds' hx hds
        injection h with h; subst h
        simp only [List.all_cons,Bool.and_eq_true] at hg
        simp only [List.map_cons,rowsO] at hr
        split at hr
        · rename_i e es' he hes
          injection hr with hr; subst hr
          cases hcl:(d.val σ).r.cells with
          | none=>rw [hcl] at he; cases he
          | some l =>
            rw [hcl] at he
            have hc:=closeL_rep ((hs.opr hx hg.1).cells hcl) he
            have hel:e.length = size:=hw e (by simp)
            have hvs:(a.eval x).cells.size = size:=by rw [← hel,hc.1]; simp
            have hlen:parts.length + 1 = (List.length ((j,x) :: parts)):=rfl
            have hjs:j * size + size≤us.size:=by
              have:(j + 1) * size≤(j + List.length ((j,x) :: parts)) * size:=Nat.mul_le_mul_right _ (by simp)
              rw [Nat.succ_mul] at this
              omega
            have hov:((a.eval x).cells.zipIdx.foldl (fun cs (x:Value × Nat)=>cs.setIfInBounds (j * size + x.2) x.1) us).toList = over us.toList (j * size) (a.eval x).cells.toList:=by
              have:=foldl_over (a.eval x).cells.toList 0 (j * size) us (by simp [hvs]; omega)
              rw [← Array.foldl_toList,Array.toList_zipIdx]
              simpa using this
            have husl:us.toList.length = us.size:=by simp
            have hcsl:(a.eval x).cells.toList.length = size:=by simpa using hvs
            have hsz':((a.eval x).cells.zipIdx.foldl (fun cs (x:Value × Nat)=>cs.setIfInBounds (j * size + x.2) x.1) us).size = us.size:=by
              rw [← Array.length_toList,hov,length_over (by omega),Array.length_toList]
            obtain ⟨us',hf,h1,h2,h3,h4⟩:=row_fill hs parts (j + 1) ds' es' _ hds hg.2 hes (fun q hq=>hw q (List.mem_cons_of_mem _ hq)) (by
              rw [hsz']
              have e1:j + 1 + parts.length = j + List.length ((j,x) :: parts):=by simp; omega
              rw [e1]; exact hsz)
            refine ⟨us',?_,by rw [h1,hsz'],?_,by simp [h3],?_⟩
            · simp only [List.map_cons,Instr.fill]
              rw [if_neg (by rw [hvs]; simp; omega)]
              exact hf
            · have:(us'.toList.take ((j + 1) * size)).take (j * size) = us'.toList.take (j * size):=by
                rw [List.take_take,Nat.min_eq_left (Nat.mul_le_mul_right _ (by omega))]
              rw [← this,h2,hov,List.take_take,Nat.min_eq_left (Nat.mul_le_mul_right _ (by omega)),over_take (by omega)]
            · -- the first row,then the others
              have hfirst:(us'.toList.drop (j * size)).take size = (a.eval x).cells.toList:=by
                have e1:(us'.toList.drop (j * size)).take size = (us'.toList.take ((j + 1) * size)).drop (j * size):=by
                  rw [List.drop_take]; congr 1; rw [Nat.succ_mul]; omega
                have e2:((over us.toList (j * size) (a.eval x).cells.toList).take ((j + 1) * size)).drop (j * size) = ((over us.toList (j * size) (a.eval x).cells.toList).drop (j * size)).take size:=by
                  rw [List.drop_take]; congr 1; rw [Nat.succ_mul]; omega
                rw [e1,h2,hov,e2]
                have:=over_mid (us:=us.toList) (vs:=(a.eval x).cells.toList) (o:=j * size) (by omega)
                rw [hcsl] at this
                exact this
              have hsplit:(us'.toList.drop (j * size)).take ((es'.length + 1) * size) = (us'.toList.drop (j * size)).take size++(us'.toList.drop ((j + 1) * size)).take (es'.length * size):=by
                rw [Nat.succ_mul,Nat.add_comm,List.take_add,List.drop_drop]
                congr 3
                rw [Nat.succ_mul]
              rw [List.length_cons,hsplit,hfirst,List.flatten_cons]
              exact hc.append h4
        · cases hr
      · cases h
    · cases h
theorem run_row {t e:TypeId} {i:TypeInfo} {z:List A} {len:Nat} {parts:Array (Nat × Operand)} {ds:List D} {es:List (List C)} (hs:Sim w0 V0 N env σ a w) (ht:P.underlying t = some (.slice e)) (hi:P.info? e = some i)
    (hz:zeroIn P e = some z) (hb:len * i.size≤16777216) (hlen:parts.size = len) (_h0:0 < i.size) (hc:cmpRow 0 parts.toList = some ds) (hg:(ds.all fun d=>(d.val σ).g) = true)
    (hr:rowsO (ds.map fun d=>(d.val σ).r) = some es) (hw:∀ q∈es,q.length = i.size) :
    ∃ us:List Value,(Instr.buildSlice t len (parts.map fun p=>(p.1,a.eval p.2))).run P w = .ok (.slice (some ⟨w.heap.size,0,none⟩) len len) (w.alloc (.cells us.toArray e))∧us.length = len * i.size ∧
      es.length = len∧All2 (RepC env.V w) es.flatten us:=by
  obtain ⟨i',v,hi',hv,_⟩:=zeroIn_rep (env:=env) (toks:=σ.toks) (w:=w) hz
  rw [hi] at hi'; injection hi' with hi'; subst hi'
  have main:∀ zc:Array Value,∃ us':Array Value,Instr.fill (fun j=>some (j * i.size,i.size)) ((Array.range (len * i.size)).map (zc[· % zc.size]!)) (parts.toList.map fun p=>(p.1,a.eval p.2)) = some us'∧us'.toList.length = len * i.size ∧
      es.length = len∧All2 (RepC env.V w) es.flatten us'.toList:=fun zc=>by
    obtain ⟨us',h1,h2,_,h4,h5⟩:=row_fill (size:=i.size) hs parts.toList 0 ds es ((Array.range (len * i.size)).map (zc[· % zc.size]!)) hc hg hr hw (by simp [hlen])
    have hl:es.length = len:=by rw [h4]; simp [hlen]
    have hsz:us'.toList.length = len * i.size:=by rw [Array.length_toList,h2]; simp
    refine ⟨us',h1,hsz,hl,?_⟩
    rw [Nat.zero_mul,List.drop_zero,hl,List.take_of_length_le (by omega)] at h5
    exact h5
  by_cases hl0:len * i.size = 0
  · obtain ⟨us',h1,h2,h3,h4⟩:=main #[]
    refine ⟨us'.toList,?_,h2,h3,h4⟩
    have hbig:¬ 16777216 < len * i.size:=by omega
    simp [Instr.buildSlice,run_underlying ht,sizeOf,typeInfo,hi,hl0]
    simp [hl0] at h1
    rw [h1]
    simp [newRow]
  · obtain ⟨us',h1,h2,h3,h4⟩:=main v.cells
    refine ⟨us'.toList,?_,h2,h3,h4⟩
    have hbig:¬ 16777216 < len * i.size:=by omega
    simp [Instr.buildSlice,run_underlying ht,sizeOf,typeInfo,hi,hbig,hl0,zeroValue,hv]
    rw [h1]
    simp [newRow]
theorem good_row (hd:∀ n,o.dst = some n→n < N) {t e:TypeId} {i:TypeInfo} {z:List A} {len d:Nat} {parts:Array (Nat × Operand)} {ds:List D} {es:List (List C)} (hop:o.op = .buildSlice t len parts) (ht:P.underlying t = some (.slice e)) (hi:P.info? e = some i)
    (hz:zeroIn P e = some z) (hb:len * i.size≤16777216) (hlen:parts.size = len) (h0:0 < i.size) (hc:cmpRow 0 parts.toList = some ds) (hg:(ds.all fun d=>(d.val σ).g) = true)
    (hr:rowsO (ds.map fun d=>(d.val σ).r) = some es) (hw:∀ q∈es,q.length = i.size) (hdst:o.dst = some d) (hn:σ.toks d = none) :
    Good P w0 V0 N o σ ((σ.setTok d ⟨e,i.size,es.length⟩).put o.dst (.k true (.x (.one (.own d es))))):=fun rd rn env a w K Q hs hK=>by
  obtain ⟨us,hrun,hul,hel,hrep⟩:=run_row hs ht hi hz hb hlen h0 hc hg hr hw
  have hlm:len≤maxLen:=by
    have:len * 1≤len * i.size:=Nat.mul_le_mul_left _ h0
    unfold maxLen; omega
  have hgr:w.grownBy (w.alloc (.cells us.toArray e)) none:=World.grownBy_alloc w _ none
  have hown:(w.alloc (.cells us.toArray e)).ownsRow 0 e i.size (.slice (some ⟨w.heap.size,0,none⟩) len len) es.length us:=by
    refine ⟨by rw [hel,hul],.inr ⟨w.heap.size,len,us.toArray,by rw [hel],Nat.zero_le _,heap_alloc_new w _,by omega,hlm,by simp [hul],?_⟩⟩
    rw [hel,← hul]
    exact List.take_length
  have hcells:∀ b o,env.V b o→(w.alloc (.cells us.toArray e)).cell? ⟨b,o,none⟩ = w.cell? ⟨b,o,none⟩:=fun b o hv=>World.cell?_of_block (a:=⟨b,o,none⟩) (hgr.block b (hs.vlt b o hv) (by simp))
  have hsim:=hs.token (k:=d) (hk:=fun _=>own_dst hd hs.nn hdst) (t':=⟨e,i.size,es.length⟩) (v:=.slice none 0 0) (v':=.slice (some ⟨w.heap.size,0,none⟩) len len) (xs':=us) (.inl ⟨hn,rfl,rfl⟩) hgr hown hcells (.inr rfl)
  refine wp_value (v:=.slice (some ⟨w.heap.size,0,none⟩) len len) (w':=w.alloc (.cells us.toArray e)) ?_ (hK _ _ _ (hsim.put hd (RepT.mk ?_)))
  · simp only [execOp,hop,Sem.run_bind,hrun,Result.andThen_ok,Sem.run_pure]
  · refine ⟨?_,⟨e,i.size,es.length⟩,by simp [S.setTok],Nat.le_refl _,hw,fun _=>by simp⟩
    refine .sl _ _ i.size w.heap.size 0 len len us hel.symm (by simp [hel]) hlm (by simpa using hw) (by rw [List.append_nil]; exact hrep.1.symm) (fun j u hj=>?_) (fun j c u hcj hu=>?_)
    · refine ⟨?_,.inr ⟨rfl,?_⟩⟩
      · rw [Nat.zero_add,cell_of_row _ w.heap.size j _ e _ (heap_alloc_new w _)]
        simpa using hj
      · have:=(List.getElem?_eq_some_iff.1 hj).1
        simp only [Nat.zero_add,hel]
        omega
    · rw [List.append_nil] at hcj
      exact RepC.mono (fun _ _ h=>.inl h) hcells (hrep.2 j c u hcj hu)
theorem closed_flat (es:List (List C)):(es.map (·.map A.c)).flatten = es.flatten.map A.c:=by
  rw [List.map_flatten]
theorem good_rowb (hd:∀ n,o.dst = some n→n < N) {t e:TypeId} {i:TypeInfo} {z:List A} {len d:Nat} {parts:Array (Nat × Operand)} {ds:List D} {es:List (List C)} (hop:o.op = .buildSlice t len parts) (ht:P.underlying t = some (.slice e)) (hi:P.info? e = some i)
    (hz:zeroIn P e = some z) (hb:len * i.size≤16777216) (hlen:parts.size = len) (h0:0 < i.size) (hc:cmpRow 0 parts.toList = some ds) (hg:(ds.all fun d=>(d.val σ).g) = true)
    (hr:rowsO (ds.map fun d=>(d.val σ).r) = some es) (hw:∀ q∈es,q.length = i.size) (hdst:o.dst = some d) (hn:σ.objs d = none) :
    Good P w0 V0 N o σ ((σ.setObj d ⟨e,i.size,es.map (·.map A.c),none⟩).put o.dst (.k true (.x (.one (.arr d 0 es.length es.length))))):=fun rd rn env a w K Q hs hK=>by
  obtain ⟨us,hrun,hul,hel,hrep⟩:=run_row hs ht hi hz hb hlen h0 hc hg hr hw
  have hlm:len≤maxLen:=by
    have:len * 1≤len * i.size:=Nat.mul_le_mul_left _ h0
    unfold maxLen; omega
  have hrep':All2 (RepA env σ.toks w) (es.map (·.map A.c)).flatten us:=by
    rw [closed_flat]
    exact All2.map_left (p:=RepA env σ.toks w) (f:=A.c) hrep
  refine wp_value (v:=.slice (some ⟨w.heap.size,0,none⟩) len len) (w':=w.alloc (.cells us.toArray e)) ?_
    (hK _ _ _ ((hs.alloc hn (own_dst hd hs.nn hdst) e i.size (es.map (·.map A.c)) us hrep' (fun r hr=>by obtain ⟨q,hq,rfl⟩:=List.mem_map.1 hr; simpa using hw q hq)).put hd ?_))
  · simp only [execOp,hop,Sem.run_bind,hrun,Result.andThen_ok,Sem.run_pure]
  · refine RepT.mk ?_
    exact ⟨w.heap.size,i.size,len,by simp,by simp [hel],by omega,hlm⟩
theorem good_row_closed (hd:∀ n,o.dst = some n→n < N) {t e:TypeId} {i:TypeInfo} {z:List A} {len:Nat} {parts:Array (Nat × Operand)} {ds:List D} {es:List (List C)} (hop:o.op = .buildSlice t len parts) (ht:P.underlying t = some (.slice e)) (hi:P.info? e = some i)
    (hz:zeroIn P e = some z) (hb:len * i.size≤16777216) (hlen:parts.size = len) (h0:0 < i.size) (hc:cmpRow 0 parts.toList = some ds) (hg:(ds.all fun d=>(d.val σ).g) = true)
    (hr:rowsO (ds.map fun d=>(d.val σ).r) = some es) (hw:∀ q∈es,q.length = i.size):Good P w0 V0 N o σ (σ.put o.dst (.k true (.x (.one (.c (.sl es [])))))):=by
  refine Good.grown hd fun env a w hs=>?_
  obtain ⟨us,hrun,hul,hel,hrep⟩:=run_row hs ht hi hz hb hlen h0 hc hg hr hw
  have hlm:len≤maxLen:=by
    have:len * 1≤len * i.size:=Nat.mul_le_mul_left _ h0
    unfold maxLen; omega
  have hbel:Below w.heap.size w (w.alloc (.cells us.toArray e)):=(Below.refl _ _).alloc (Nat.le_refl _) _
  refine ⟨_,_,by simp only [execOp,hop,Sem.run_bind,hrun,Result.andThen_ok,Sem.run_pure]; rfl,hbel,?_⟩
  refine .sl _ _ i.size w.heap.size 0 len len us hel.symm (by simp [hel]) hlm (by simpa using hw) (by rw [List.append_nil]; exact hrep.1.symm) (fun j u hj=>?_) (fun j c u hcj hu=>?_)
  · refine ⟨?_,.inr ⟨Nat.le_refl _,heap_lt (heap_alloc_new w _)⟩⟩
    rw [Nat.zero_add,cell_of_row _ w.heap.size j _ e _ (heap_alloc_new w _)]
    simpa using hj
  · rw [List.append_nil] at hcj
    exact RepC.mono (fun _ _ h=>.inl h) (fun b o hv=>World.cell?_of_block (a:=⟨b,o,none⟩) (hbel.block b (hs.vlt b o hv))) (hrep.2 j c u hcj hu)
end
end Go.Fx

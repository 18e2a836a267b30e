import Derived.Test.YtiomojlcnemnhaaGreatDoorRFxI
import Derived.Laws.Tables
namespace Go.Fx
open Go.RowKit
section
variable {P:Program} {w0:World} {V0:Base} {N:Nat} {env:Env} {σ σ':S} {a:Act} {w:World} {o:Oper} {toks:Nat→Option Tok}
theorem cells_one {v:Value} (h:v.oneCell' = true):v.cells = #[v]:=by cases v <;> first | rfl | cases h
theorem RepX.cells {x:X} {v:Value} (h:RepX env toks w x v):All2 (RepA env toks w) x.cells v.cells.toList:=by
  cases x with
  | one y=>rw [cells_one (RepA.oneCell h)]; exact All2.cons h All2.nil
  | agg cs=>obtain ⟨us,e,hu⟩:=h; subst e; simpa [Value.cells,X.cells] using hu
theorem RepR.cells {r:R} {l:List A} {v:Value} (h:RepR env toks w r v) (hl:r.cells = some l):All2 (RepA env toks w) l v.cells.toList:=by
  cases r with
  | x y=>simp only [R.cells,Option.some.injEq] at hl; subst hl; exact RepX.cells h
  | tup xs=>simp [R.cells] at hl
theorem foldl_over:∀ (vs:List Value) (k off:Nat) (cs:Array Value),off + k + vs.length≤cs.size →
    ((vs.zipIdx k).foldl (fun cs (x:Value × Nat)=>cs.setIfInBounds (off + x.2) x.1) cs).toList = over cs.toList (off + k) vs
  | [],k,off,cs,_=>by simp [over]
  | v :: vs,k,off,cs,h=>by
    simp only [List.zipIdx_cons,List.foldl_cons]
    rw [foldl_over vs (k + 1) off _ (by simp at h ⊢; omega)]
    simp only [Array.toList_setIfInBounds]
    rw [show off + (k + 1) = (off + k) + 1 by omega,over_cons (by simp at h ⊢; omega)]
theorem All2.splice {p:A→Value→Prop} {cs:List A} {us:List Value} {off:Nat} {l:List A} {vs:List Value} (h:All2 p cs us) (hl:All2 p l vs):All2 p (splice cs off l) (over us off vs):=by
  unfold Fx.splice over
  rw [hl.1]
  exact ((h.take off).append hl).append (h.drop _)
theorem cmpParts_fill {places:List (Nat × Nat)} (hs:Sim w0 V0 N env σ a w):∀ (parts:List (Nat × Operand)) (ps:List (Nat × Nat × D)) (z cs:List A) (us:Array Value),
    cmpParts places parts = some ps→(ps.all fun p=>(p.2.2.val σ).g) = true→fillO z (ps.map fun p=>(p.1,p.2.1,(p.2.2.val σ).r)) = some cs→All2 (RepA env σ.toks w) z us.toList →
    ∃ us',Instr.fill (places.toArray[·]?) us (parts.map fun p=>(p.1,a.eval p.2)) = some us'∧All2 (RepA env σ.toks w) cs us'.toList
  | [],ps,z,cs,us,hp,_,hf,hz=>by
    simp [cmpParts] at hp; subst hp
    simp [fillO] at hf; subst hf
    exact ⟨us,rfl,hz⟩
  | (j,x) :: parts,ps,z,cs,us,hp,hg,hf,hz=>by
    unfold cmpParts at hp
    split at hp
    · rename_i p d ps' h1 h2 h3
      injection hp with hp; subst hp
      simp only [List.all_cons,Bool.and_eq_true] at hg
      simp only [List.map_cons,fillO] at hf
      split at hf
      · rename_i l hl
        split at hf
        · rename_i hc
          have hx:=(hs.opr h2 hg.1).cells hl
          have hsz:(a.eval x).cells.size = p.2:=by rw [← hc.1,hx.1]; simp
          have hoff:p.1 + p.2≤us.size:=by have:=hz.1; simp at this; omega
          have hov:((a.eval x).cells.zipIdx.foldl (fun cs (x:Value × Nat)=>cs.setIfInBounds (p.1 + x.2) x.1) us).toList = over us.toList p.1 (a.eval x).cells.toList:=by
            have:=foldl_over (a.eval x).cells.toList 0 p.1 us (by simp [hsz]; omega)
            rw [← Array.foldl_toList,Array.toList_zipIdx]
            simpa using this
          obtain ⟨us',hf',hr'⟩:=cmpParts_fill hs parts ps' _ cs _ h3 hg.2 hf (by rw [hov]; exact hz.splice hx)
          refine ⟨us',?_,hr'⟩
          simp only [List.map_cons,Instr.fill]
          have hpl:places.toArray[j]? = some (p.1,p.2):=by simpa using h1
          simp only [hpl]
          rw [if_neg (by rw [hsz]; simp; omega)]
          exact hf'
        · cases hf
      · cases hf
    · cases hp
theorem zeroIn_rep {t:TypeId} {z:List A} (h:zeroIn P t = some z):∃ i v,P.info? t = some i∧i.zero = some v∧All2 (RepA env toks w) z v.cells.toList:=by
  unfold zeroIn at h
  split at h
  · rename_i i hi
    split at h
    · rename_i v hv
      exact ⟨i,v,hi,hv,ofCells_rep h⟩
    · cases h
  · cases h
theorem build_sound (t:TypeId) {fs:Array Field} {places:List (Nat × Nat)} {z cs:List A} {parts:Array (Nat × Operand)} {ps:List (Nat × Nat × D)} (hs:Sim w0 V0 N env σ a w) (ht:P.underlying t = some (.struct fs)) (hz:zeroIn P t = some z)
    (hpl:placesIn P fs.toList = some places) (hp:cmpParts places parts.toList = some ps) (hg:(ps.all fun p=>(p.2.2.val σ).g) = true) (hf:fillO z (ps.map fun p=>(p.1,p.2.1,(p.2.2.val σ).r)) = some cs) :
    ∃ v,(Instr.build t (parts.map fun p=>(p.1,a.eval p.2))).run P w = .ok v w∧RepR env σ.toks w (.x (.agg cs)) v:=by
  obtain ⟨i,zv,hi,hzv,hzr⟩:=zeroIn_rep (env:=env) (toks:=σ.toks) (w:=w) hz
  obtain ⟨us',hfill,hr⟩:=cmpParts_fill hs parts.toList ps z cs zv.cells hp hg hf hzr
  refine ⟨.agg us',run_build w t _ us' ?_,us'.toList,by simp,hr⟩
  simp only [Program.built,hi,ht,hzv]
  unfold placesIn at hpl
  simp only [hpl]
  simpa using hfill
def eqU:Kd→Value→Value→Option Bool
  | .i k,.int k1 a,.int k2 b=>if k1 = k∧k2 = k then some (a == b) else none
  | .s,.string a,.string b=>some (a == b)
  | .b,.bool a,.bool b=>some (a == b)
  | _,_,_=>none
def eqUs:List Kd→List Value→List Value→Option Bool
  | [],[],[]=>some true
  | k :: ks,x :: xs,y :: ys =>
    match eqU k x y,eqUs ks xs ys with
    | some a,some b=>some (a && b)
    | _,_=>none
  | _,_,_=>none
theorem eqV_rep {k:Kd} {x y:A} {u v:Value} {b:Bool} (h:eqV k x y = some b) (hx:RepA env toks w x u) (hy:RepA env toks w y v):eqU k u v = some b:=by
  unfold eqV at h
  split at h
  · cases hx; cases hy; exact h
  · cases hx; cases hy; exact h
  · cases hx; cases hy; exact h
  · cases h
theorem eqRows_rep:∀ {ks:List Kd} {xs ys:List A} {us vs:List Value} {b:Bool},eqRows ks xs ys = some b→All2 (RepA env toks w) xs us→All2 (RepA env toks w) ys vs→eqUs ks us vs = some b
  | [],[],[],us,vs,b,h,hx,hy=>by
    rw [hx.nil_left,hy.nil_left]; exact h
  | k :: ks,x :: xs,y :: ys,us,vs,b,h,hx,hy=>by
    obtain ⟨u,us',e,h1,h2⟩:=hx.head
    obtain ⟨v,vs',e',h3,h4⟩:=hy.head
    subst e; subst e'
    unfold eqRows at h
    split at h
    · rename_i a b' ha hb
      simp [eqUs,eqV_rep ha h1 h3,eqRows_rep hb h2 h4,← h]
    · cases h
  | [],[],_ :: _,_,_,_,h,_,_=>by simp [eqRows] at h
  | [],_ :: _,_,_,_,_,h,_,_=>by simp [eqRows] at h
  | _ :: _,[],_,_,_,_,h,_,_=>by simp [eqRows] at h
  | _ :: _,_ :: _,[],_,_,_,h,_,_=>by simp [eqRows] at h
theorem eqUs_len:∀ {ks:List Kd} {us vs:List Value} {b:Bool},eqUs ks us vs = some b→us.length = ks.length∧vs.length = ks.length
  | [],[],[],_,_=>⟨rfl,rfl⟩
  | k :: ks,x :: xs,y :: ys,b,h=>by
    simp only [eqUs] at h
    split at h
    · rename_i p q hp hq
      obtain ⟨h1,h2⟩:=eqUs_len hq
      simp [h1,h2]
    · cases h
  | [],[],_ :: _,_,h=>by simp [eqUs] at h
  | [],_ :: _,_,_,h=>by simp [eqUs] at h
  | _ :: _,[],_,_,h=>by simp [eqUs] at h
  | _ :: _,_ :: _,[],_,h=>by simp [eqUs] at h
theorem eqUs_append:∀ (ks ks':List Kd) (us vs:List Value) (b:Bool),eqUs (ks++ks') us vs = some b →
    ∃ p q,eqUs ks (us.take ks.length) (vs.take ks.length) = some p∧eqUs ks' (us.drop ks.length) (vs.drop ks.length) = some q∧b = (p && q)
  | [],ks',us,vs,b,h=>⟨true,b,by simp [eqUs],h,by simp⟩
  | k :: ks,ks',x :: us,y :: vs,b,h=>by
    simp only [List.cons_append,eqUs] at h
    split at h
    · rename_i p q hp hq
      obtain ⟨p',q',h1,h2,h3⟩:=eqUs_append ks ks' us vs q hq
      injection h with h
      exact ⟨p && p',q',by simp [eqUs,hp,h1],by simpa using h2,by rw [← h,h3,Bool.and_assoc]⟩
    · cases h
  | _ :: _,_,[],_,_,h=>by simp [eqUs] at h
  | _ :: _,_,_ :: _,[],_,h=>by simp [eqUs] at h
theorem one_of_len {us:List Value} (h:us.length = 1):∃ u,us = [u]:=by
  match us,h with
  | [u],_=>exact ⟨u,rfl⟩
def valOf (P:Program) (t:TypeId) (us:List Value):Value :=
  match P.underlying t with
  | some (.struct _)=>.agg us.toArray
  | _=>us.getD 0 undef
theorem part_flat {t:TypeId} {us:List Value} {off n:Nat} {i:TypeInfo} (hi:P.info? t = some i) (hs:i.size = n) (hn:off + n≤us.length∨n = 0)
    (h1:(∃ fs,P.underlying t = some (.struct fs))∨(n = 1∧∃ d,P.underlying t = some d∧(∀ fs,d≠.struct fs)∧∀ m e,d≠.array m e)) :
    (part t us.toArray off).run P w = .ok (valOf P t ((us.drop off).take n)) w:=by
  rcases h1 with ⟨fs,hu⟩ | ⟨h1,d,hu,hd,hd2⟩
  · simp [part,isAgg,run_underlying hu,sizeOf,typeInfo,hi,hs,valOf,hu]
  · subst h1
    have hv:valOf P t ((us.drop off).take 1) = us[off]'(by omega):=by
      have:valOf P t ((us.drop off).take 1) = ((us.drop off).take 1).getD 0 undef:=by
        unfold valOf
        rw [hu]
        cases d <;> first | rfl | exact absurd rfl (hd _)
      rw [this,List.getD_eq_getElem?_getD,List.getElem?_take,if_pos (by omega),List.getElem?_drop,List.getElem?_eq_getElem (by omega)]
      simp
    rw [hv]
    have hlt:off < us.length:=by omega
    cases d <;> first
      | exact absurd rfl (hd _)
      | exact absurd rfl (hd2 _ _)
      | simp [part,isAgg,run_underlying hu,hlt]
theorem flat_kind {d:Nat} {t:TypeId} {ks:List Kd} (h:flatTy P d t = some ks):(∃ fs,P.underlying t = some (.struct fs))∨(ks.length = 1∧∃ x,P.underlying t = some x∧(∀ fs,x≠.struct fs)∧∀ m e,x≠.array m e):=by
  cases d with
  | zero=>simp [flatTy] at h
  | succ d =>
    unfold flatTy at h
    split at h
    · rename_i k hk; injection h with h; subst h; exact .inr ⟨rfl,_,hk,(fun _ e=>by cases e),(fun _ _ e=>by cases e)⟩
    · rename_i hk; injection h with h; subst h; exact .inr ⟨rfl,_,hk,(fun _ e=>by cases e),(fun _ _ e=>by cases e)⟩
    · rename_i hk; injection h with h; subst h; exact .inr ⟨rfl,_,hk,(fun _ e=>by cases e),(fun _ _ e=>by cases e)⟩
    · rename_i fs hk; exact .inl ⟨fs,hk⟩
    · cases h
theorem flatFs_eq {D d:Nat} (ih:∀ (t:TypeId) (ks:List Kd) (us vs:List Value) (b:Bool),flatTy P d t = some ks→eqUs ks us vs = some b→(Op.equalIn D t (valOf P t us) (valOf P t vs)).run P w = .ok b w)
    (US VS:List Value):∀ (fs:List Field) (off:Nat) (ks:List Kd) (b:Bool),flatFs P (flatTy P d) fs off = some ks→eqUs ks (US.drop off) (VS.drop off) = some b →
      (Op.eqFields D US.toArray VS.toArray fs).run P w = .ok b w
  | [],off,ks,b,h,he=>by
    simp [flatFs] at h; subst h
    have hb:b = true:=by
      cases hu:US.drop off with
      | nil =>
        cases hv:VS.drop off with
        | nil=>rw [hu,hv] at he; simp [eqUs] at he; exact he
        | cons=>rw [hu,hv] at he; simp [eqUs] at he
      | cons=>rw [hu] at he; simp [eqUs] at he
    subst hb
    rfl
  | f :: fs,off,ks,b,h,he=>by
    unfold flatFs at h
    split at h
    · rename_i i ks1 rest hi hk hr
      rw [hi] at hr
      split at h
      · rename_i hc
        injection h with h; subst h
        obtain ⟨hname,hoff,hlen⟩:=hc
        obtain ⟨p,q,h1,h2,h3⟩:=eqUs_append ks1 rest _ _ b he
        have hUl:=(eqUs_len h1).1
        have hVl:=(eqUs_len h1).2
        rw [List.length_take,List.length_drop,hlen] at hUl hVl
        have hk2:=flat_kind hk
        rw [hlen] at hk2 h1 h2
        have e1:=ih f.type ks1 _ _ p hk h1
        have pu:=part_flat (w:=w) (us:=US) (off:=off) hi rfl (by omega) hk2
        have pv:=part_flat (w:=w) (us:=VS) (off:=off) hi rfl (by omega) hk2
        rw [List.drop_drop,List.drop_drop] at h2
        have e2:=flatFs_eq ih US VS fs (off + i.size) rest q hr h2
        subst h3
        simp only [Op.eqFields]
        rw [if_pos hname,hoff]
        simp only [Sem.run_bind,pu,pv,e1,Result.andThen_ok]
        cases p
        · rfl
        · simpa using e2
      · cases h
    · cases h
theorem flat_eq:∀ (d:Nat) (t:TypeId) (D:Nat) (ks:List Kd) (us vs:List Value) (b:Bool),flatTy P d t = some ks→d≤D→eqUs ks us vs = some b →
    (Op.equalIn D t (valOf P t us) (valOf P t vs)).run P w = .ok b w
  | 0,_,_,_,_,_,_,h,_,_=>by simp [flatTy] at h
  | d + 1,t,D,ks,us,vs,b,h,hD,he=>by
    obtain ⟨D,rfl⟩:∃ D',D = D' + 1:=⟨D - 1,by omega⟩
    unfold flatTy at h
    have scalar:∀ k,ks = [k]→∃ u v,us = [u]∧vs = [v]∧eqU k u v = some b:=fun k h1=>by
      subst h1
      obtain ⟨u,rfl⟩:=one_of_len (eqUs_len he).1
      obtain ⟨v,rfl⟩:=one_of_len (eqUs_len he).2
      refine ⟨u,v,rfl,rfl,?_⟩
      simp only [eqUs] at he
      split at he
      · rename_i p q hp hq
        injection hq with hq; injection he with he
        rw [← hq,Bool.and_true] at he
        rw [hp,he]
      · cases he
    split at h
    · rename_i k hk
      injection h with h
      obtain ⟨u,v,rfl,rfl,e⟩:=scalar _ h.symm
      have hval:∀ u:Value,valOf P t [u] = u:=fun u=>by simp [valOf,hk]
      rw [hval,hval]
      unfold eqU at e
      split at e
      · rename_i k3 k1 a k2 b' hkk
        injection hkk with hkk
        split at e
        · rename_i hc
          obtain ⟨rfl,rfl⟩:=hc
          injection e with e; subst e
          exact run_equalIn_int w D t _ k _ _ hk
        · cases e
      · rename_i hkk; cases hkk
      · rename_i hkk; cases hkk
      · cases e
    · rename_i hk
      injection h with h
      obtain ⟨u,v,rfl,rfl,e⟩:=scalar _ h.symm
      have hval:∀ u:Value,valOf P t [u] = u:=fun u=>by simp [valOf,hk]
      rw [hval,hval]
      unfold eqU at e
      split at e
      · rename_i hkk; cases hkk
      · rename_i hkk; cases hkk
      · injection e with e; subst e
        exact run_equalIn_bool' w D t _ _ hk
      · cases e
    · rename_i hk
      injection h with h
      obtain ⟨u,v,rfl,rfl,e⟩:=scalar _ h.symm
      have hval:∀ u:Value,valOf P t [u] = u:=fun u=>by simp [valOf,hk]
      rw [hval,hval]
      unfold eqU at e
      split at e
      · rename_i hkk; cases hkk
      · injection e with e; subst e
        rw [run_equalIn_string w D t _ _ hk,beq_bytes]
      · rename_i hkk; cases hkk
      · cases e
    · rename_i fs hk
      split at h
      · rename_i hst
        have hval:∀ us:List Value,valOf P t us = .agg us.toArray:=fun us=>by simp [valOf,hk]
        have hfo:P.fieldsOf t = fs:=by simp [Program.fieldsOf,hk]
        rw [hval,hval,run_equalIn_struct w D t _ _ (by rw [hfo]; exact hk) hst,hfo]
        exact flatFs_eq (fun t ks us vs b h1 h2=>flat_eq d t D ks us vs b h1 (by omega) h2) us vs fs.toList 0 ks b h (by simpa using he)
      · cases h
    · cases h
theorem eqsO_sound (neg:Bool) (t:TypeId) {ks:List Kd} {fs:Array Field} (x y:Operand) {rx ry:R} {vx vy:Value} (hx:RepR env toks w rx vx) (hy:RepR env toks w ry vy) (hn:(eqsO neg ks rx ry).need)
    (ht:P.underlying t = some (.struct fs)) (hk:flatTy P 20 t = some ks) (hg:P.eqGuardType P.depth t = false) :
    ∃ v,(do eqGuard (if neg then .neq else .eql) t x y vx vy; binOp (if neg then .neq else .eql) t vx vy:Sem Value).run P w = .ok v w∧RepR env toks w (eqsO neg ks rx ry).val v:=by
  unfold eqsO at hn ⊢
  split at hn
  · obtain ⟨us,e,hu⟩:=hx
    obtain ⟨vs,e',hv⟩:=hy
    subst e; subst e'
    split at hn
    · rename_i b hb
      have he:=flat_eq (w:=w) 20 t 10000 ks us vs b hk (by omega) (eqRows_rep hb hu hv)
      have hval:∀ us:List Value,valOf P t us = .agg us.toArray:=fun us=>by simp [valOf,ht]
      rw [hval,hval] at he
      simp only
      cases neg
      · refine ⟨.bool b,?_,rep_B⟩
        simp [run_eqGuard_agg _ _ _ _ _ _ _ hg,run_eql_struct,he]
      · refine ⟨.bool !b,?_,rep_B⟩
        simp [run_eqGuard_agg _ _ _ _ _ _ _ hg,run_neq_struct,he]
    · exact hn.elim
  · exact hn.elim
end
end Go.Fx

namespace Go.Fx
open Go.RowKit
theorem keyEq_iff {d:TypeDesc} {x y:Value} {t:List A} (hx:MapKept.IsKey d x) (hy:MapKept.IsKey d y):keyEq x (.c (.v y) :: t) = true↔y = x:=by
  cases d <;> cases x <;> cases y <;> simp_all [MapKept.IsKey,keyEq,MapKept.bytes_beq]
section
variable {P:Program} {env:Env} {w:World} {toks:Nat→Option Tok}
def RowIs (env:Env) (toks:Nat→Option Tok) (w:World) (r:List A) (e:MapEntry):Prop:=∃ t,r = .c (.v e.key) :: t∧e.key.oneCell' = true∧All2 (RepA env toks w) t e.val.cells.toList
theorem aligned {size:Nat}:∀ {rows:List (List A)} {es:List MapEntry},rows.length = es.length→(∀ r∈rows,r.length = size)→(∀ e∈es,e.val.cells.size + 1 = size)→(∀ r∈rows,∃ y t,r = .c (.v y) :: t) →
    All2 (RepA env toks w) rows.flatten (es.flatMap fun e=>e.key :: e.val.cells.toList)→All2 (RowIs env toks w) rows es
  | [],[],_,_,_,_,_=>All2.nil
  | r :: rows,e :: es,hl,hr,he,hk,h=>by
    obtain ⟨y,t,rfl⟩:=hk r (List.mem_cons_self ..)
    have h1:=hr _ (List.mem_cons_self ..)
    have h2:=he e (List.mem_cons_self ..)
    simp only [List.flatten_cons,List.flatMap_cons,List.cons_append] at h
    obtain ⟨u,us,e1,h3,h4⟩:=h.head
    injection e1 with e1 e2
    subst e1
    have hone:e.key.oneCell' = true:=RepA.oneCell h3
    have hty:e.key = y:=by cases h3; rfl
    have ht:t.length = e.val.cells.toList.length:=by simp at h1 ⊢; omega
    have h5:=h4.take t.length
    have h6:=h4.drop t.length
    rw [← e2,List.take_left' rfl,ht,List.take_left' rfl] at h5
    rw [← e2,List.drop_left' rfl,ht,List.drop_left' rfl] at h6
    refine All2.cons ⟨t,by rw [hty],hone,h5⟩ (aligned (by simpa using hl) (fun r hr'=>hr r (List.mem_cons_of_mem _ hr')) (fun e he'=>he e (List.mem_cons_of_mem _ he')) (fun r hr'=>hk r (List.mem_cons_of_mem _ hr')) h6)
  | [],_ :: _,hl,_,_,_,_=>by simp at hl
  | _ :: _,[],hl,_,_,_,_=>by simp at hl
theorem find_aligned {d:TypeDesc} {x:Value} (hx:MapKept.IsKey d x):∀ {rows:List (List A)} {es:List MapEntry} (i:Nat),All2 (RowIs env toks w) rows es→(∀ e∈es,MapKept.IsKey d e.key) →
    (rows.find? (keyEq x) = none∧Instr.findNow d x es i = some none) ∨
    ∃ j r e,rows.find? (keyEq x) = some r∧rows.findIdx (keyEq x) = j∧Instr.findNow d x es i = some (some (i + j,e.val))∧rows[j]? = some r∧es[j]? = some e∧RowIs env toks w r e∧e.key = x
  | [],es,i,h,_=>by
    have:=h.nil_left; subst this
    exact .inl ⟨rfl,rfl⟩
  | r :: rows,es,i,h,hk=>by
    obtain ⟨e,es',rfl,h1,h2⟩:=h.head
    have h1':=h1
    obtain ⟨t,rfl,ht⟩:=h1
    have hke:=hk e (List.mem_cons_self ..)
    obtain ⟨q,hq,hiff⟩:=MapKept.sameNow_of_keys hx hke
    cases q with
    | true =>
      have hey:e.key = x:=(hiff.1 rfl).symm
      have hkt:keyEq x (.c (.v e.key) :: t) = true:=(keyEq_iff hx hke).2 hey
      exact .inr ⟨0,_,e,by simp [hkt],by simp [List.findIdx_cons,hkt],by simp [Instr.findNow,hq],rfl,rfl,h1',hey⟩
    | false =>
      have hney:e.key≠x:=fun hh=>by have:=hiff.2 hh.symm; cases this
      have hkt:keyEq x (.c (.v e.key) :: t) = false:=by
        cases hc:keyEq x (.c (.v e.key) :: t) with
        | false=>rfl
        | true=>exact absurd ((keyEq_iff hx hke).1 hc) hney
      rcases find_aligned hx (i + 1) h2 (fun e he=>hk e (List.mem_cons_of_mem _ he)) with ⟨g1,g2⟩ | ⟨j,r,e',g1,g2,g3,g4,g5,g6,g7⟩
      · exact .inl ⟨by simp [hkt,g1],by simp [Instr.findNow,hq,g2]⟩
      · refine .inr ⟨j + 1,r,e',by simp [hkt,g1],by simp [List.findIdx_cons,hkt,g2],by simp [Instr.findNow,hq,g3]; omega,by simpa using g4,by simpa using g5,g6,g7⟩
theorem run_mlook {t kt et:TypeId} {d:TypeDesc} {r clock:Nat} {es:Array MapEntry} {x zv:Value} {a:Option (Nat × Value)} (comma:Bool) (hm:P.underlying t = some (.map kt et)) (hd:P.underlying kt = some d) (hb:w.heap[r]? = some (.map es clock))
    (hx:MapKept.IsKey d x) (hz:(zeroValue et).run P w = .ok zv w) (hf:Instr.findNow d x es.toList 0 = some a) :
    (Instr.lookup t (.map (some r)) x comma).run P w = .ok (bif comma then .tuple #[(a.map (·.2)).getD zv,.bool a.isSome] else (a.map (·.2)).getD zv) w:=by
  cases a with
  | none =>
    cases comma <;> simp [Instr.lookup,run_underlying hm,MapKept.run_getObj_map hb,MapKept.run_checkKey hd hx,MapKept.run_findKey hd hf,hz,Result.andThen]
  | some p =>
    obtain ⟨i,v⟩:=p
    cases comma <;> simp [Instr.lookup,run_underlying hm,MapKept.run_getObj_map hb,MapKept.run_checkKey hd hx,MapKept.run_findKey hd hf,Result.andThen]
def mapNext (es:Array MapEntry) (clock:Nat) (x v:Value):Option (Nat × Value)→Obj
  | some (i,_)=>.map (es.modify i fun e=>{ key:=x,val:=v,born:=e.born }) clock
  | none=>.map (es.push { key:=x,val:=v,born:=clock }) (clock + 1)
theorem run_mapup {t kt et:TypeId} {d:TypeDesc} {r clock:Nat} {es:Array MapEntry} {x v:Value} {a:Option (Nat × Value)} (hm:P.underlying t = some (.map kt et)) (hd:P.underlying kt = some d) (hb:w.heap[r]? = some (.map es clock))
    (hx:MapKept.IsKey d x) (hf:Instr.findNow d x es.toList 0 = some a) (hk:∀ i u,a = some (i,u)→∃ e,es[i]? = some e∧e.key = x) :
    (Instr.mapUpdate t (.map (some r)) x v).run P w = .ok () { w with heap:=w.heap.setIfInBounds r (mapNext es clock x v a) }:=by
  cases a with
  | none =>
    simp [Instr.mapUpdate,run_underlying hm,MapKept.run_getObj_map hb,MapKept.run_checkKey hd hx,MapKept.run_findKey hd hf,MapKept.run_setObj_map _ hb,Result.andThen,mapNext]
  | some p =>
    obtain ⟨i,u⟩:=p
    obtain ⟨e,he,hek⟩:=hk i u rfl
    simp [Instr.mapUpdate,run_underlying hm,MapKept.run_getObj_map hb,MapKept.run_checkKey hd hx,MapKept.run_findKey hd hf,he,hek,MapKept.run_keyThatStays hx,MapKept.run_setObj_map _ hb,Result.andThen,mapNext]
theorem form_rep {one:Bool} {c:List A} {v:Value} (h:All2 (RepA env toks w) c v.cells.toList) (h1:one = true→v.oneCell' = true) (h2:one = false→∃ cs,v = .agg cs):RepX env toks w (formX one c) v:=by
  cases one with
  | true =>
    have hv:=h1 rfl
    rw [cells_one hv] at h
    match c,h with
    | [x],h=>exact h.2 0 x v rfl rfl
    | [],h=>have:=h.1; simp at this
    | _ :: _ :: _,h=>have:=h.1; simp at this
  | false =>
    obtain ⟨cs,rfl⟩:=h2 rfl
    exact ⟨cs.toList,by simp,h⟩
theorem mlookO_sound {w0:World} {V0:Base} {N:Nat} {σ:S} {a:Act} {t kt et:TypeId} {d:TypeDesc} {one:Bool} (comma:Bool) {z:List A} {i:TypeInfo} {zv:Value} {rm rk:R} {vm vk:Value} (hs:Sim w0 V0 N env σ a w)
    (hxm:RepR env σ.toks w rm vm) (hxk:RepR env σ.toks w rk vk) (hn:(mlookO σ d one comma z rm rk).need) (ht:P.underlying t = some (.map kt et)) (hd:P.underlying kt = some d) (hi:P.info? et = some i) (hzv:i.zero = some zv)
    (hz:All2 (RepA env σ.toks w) z zv.cells.toList) (h1z:one = true→zv.oneCell' = true) (h2z:one = false→∃ cs,zv = .agg cs) :
    ∃ v,(Instr.lookup t vm vk comma).run P w = .ok v w∧RepR env σ.toks w (mlookO σ d one comma z rm rk).val v:=by
  unfold mlookO at hn ⊢
  split at hn
  · rename_i k x
    obtain ⟨b,s,hρ,rfl⟩:=(hxm:RepA env σ.toks w (.mapr k) vm)
    have hvk:vk = x:=by
      have h:RepC env.V w (.v x) vk:=hxk
      cases h; rfl
    subst hvk
    split at hn
    · rename_i bx hbx
      obtain ⟨hmp,hx,hzl⟩:=hn
      obtain ⟨b',us,g1,g2,⟨ob,g3,g3'⟩,g4,g5,g6⟩:=hs.objs k bx hbx
      rw [g1] at hρ
      injection hρ with hρ; injection hρ with hb _
      subst hb
      unfold Holds at g3'
      rw [hmp] at g3'
      obtain ⟨⟨es,clock,rfl,rfl,hl,_,hes⟩,hrows⟩:=g3'
      have hal:=aligned (by simpa using hl.symm) g5 (fun e he=>(hes e he).2.1) hrows g4
      have hzr:(zeroValue et).run P w = .ok zv w:=by simp [zeroValue,typeInfo,hi,hzv]
      rcases find_aligned hx 0 hal (fun e he=>(hes e he).1) with ⟨q1,q2⟩ | ⟨j,r,e,q1,_,q3,_,q5,⟨tl,q6,q7⟩,_⟩
      · have hrun:=run_mlook comma ht hd g3 hx hzr q2
        have hany:bx.rows.any (keyEq vk) = false:=by
          rw [List.any_eq_false]; intro y hy; exact List.find?_eq_none.1 q1 y hy
        refine ⟨_,hrun,?_⟩
        have hf:=form_rep (one:=one) hz h1z h2z
        cases comma with
        | true =>
          simp only [mapGet,q1,hany,if_true]
          exact ⟨[zv,.bool false],rfl,All2.cons hf (All2.cons (.v _ rfl) All2.nil)⟩
        | false=>simp only [mapGet,q1,Bool.false_eq_true,if_false]; exact hf
      · have hrun:=run_mlook comma ht hd g3 hx hzr q3
        have hany:bx.rows.any (keyEq vk) = true:=by
          rw [List.any_eq_true]; exact ⟨r,List.mem_of_find?_eq_some q1,List.find?_some q1⟩
        have he:e∈es.toList:=List.mem_of_getElem? q5
        refine ⟨_,hrun,?_⟩
        have hf:=form_rep (one:=one) q7.2 (hes e he).2.2.1 (hes e he).2.2.2
        cases comma with
        | true =>
          simp only [mapGet,q1,hany,if_true,q6,List.tail_cons]
          exact ⟨[e.val,.bool true],rfl,All2.cons hf (All2.cons (.v _ rfl) All2.nil)⟩
        | false=>simp only [mapGet,q1,q6,List.tail_cons,Bool.false_eq_true,if_false]; exact hf
    · exact hn.elim
  · exact hn.elim
end
end Go.Fx

namespace Go.Fx
open Go.RowKit
section
variable {P:Program} {w0:World} {V0:Base} {N:Nat} {env:Env} {σ σ':S} {a:Act} {w:World} {o:Oper} {toks:Nat→Option Tok}
theorem Good.val {r:R} (hd:∀ n,o.dst = some n→n < N) (h:∀ env a w,Sim w0 V0 N env σ a w→∃ v,(execOp a.eval o).run P w = .ok (.value v) w∧RepR env σ.toks w r v) :
    Good P w0 V0 N o σ (σ.put o.dst (.k true r)):=Good.pure hd fun env a w hs=>by
  obtain ⟨v,h1,h2⟩:=h env a w hs
  exact ⟨v,h1,by simpa [RepT] using h2⟩
theorem ones_rep (hs:Sim w0 V0 N env σ a w):∀ {xs:List Operand} {ds:List D} {as:List A},cmpDs xs = some ds→(ds.all fun d=>(d.val σ).g) = true→onesO (ds.map fun d=>(d.val σ).r) = some as→RepAs env σ.toks w as (xs.map a.eval)
  | [],ds,as,h,_,ho=>by
    simp [cmpDs] at h; subst h
    simp [onesO] at ho; subst ho
    trivial
  | x :: xs,ds,as,h,hg,ho=>by
    unfold cmpDs at h
    split at h
    · rename_i d ds' h1 h2
      injection h with h; subst h
      simp only [List.all_cons,Bool.and_eq_true] at hg
      simp only [List.map_cons] at ho
      have hr:=hs.opr h1 hg.1
      unfold onesO at ho
      split at ho
      · rename_i e; cases e
      · rename_i r b l e
        injection e with e1 e2
        cases hb:onesO l with
        | none=>rw [hb] at ho; cases ho
        | some bs =>
          rw [hb] at ho
          injection ho with ho; subst ho
          rw [e1] at hr
          subst e2
          exact ⟨hr,ones_rep hs h2 hg.2 hb⟩
      · cases ho
    · cases h
theorem cloO_sound (hs:Sim w0 V0 N env σ a w) {f:FuncId} {fs cs:Array Operand} {df dc:List D} (h1:cmpDs fs.toList = some df) (h2:cmpDs cs.toList = some dc) (g1:(df.all fun d=>(d.val σ).g) = true) (g2:(dc.all fun d=>(d.val σ).g) = true)
    (hn:(cloO f (df.map fun d=>(d.val σ).r) (dc.map fun d=>(d.val σ).r)).need) :
    ∃ v,(Instr.makeFunc (.func f) (fs.map a.eval) (cs.map a.eval)).run P w = .ok v w∧RepR env σ.toks w (cloO f (df.map fun d=>(d.val σ).r) (dc.map fun d=>(d.val σ).r)).val v:=by
  unfold cloO at hn ⊢
  split at hn
  · rename_i as bs ha hb
    refine ⟨.func (.func f) (fs.map a.eval) (cs.map a.eval),by simp [Instr.makeFunc],?_⟩
    exact ⟨fs.toList.map a.eval,cs.toList.map a.eval,by simp [← Array.toList_map],ones_rep hs h1 g1 ha,ones_rep hs h2 g2 hb⟩
  · exact hn.elim
theorem mkiO_sound {t:TypeId} {u:TypeDesc} {r:R} {v:Value} (hu:P.underlying t = some u) (hni:∀ x,u≠.interface x) (hr:RepR env toks w r v) (hn:(mkiO t r).need) :
    ∃ x,(Instr.makeInterface t v).run P w = .ok x w∧RepR env toks w (mkiO t r).val x:=by
  unfold mkiO at hn ⊢
  split at hn
  · rename_i b
    refine ⟨.iface t v,?_,v,rfl,hr⟩
    cases u <;> first | exact (hni _ rfl).elim | simp [Instr.makeInterface,run_underlying hu]
  · exact hn.elim
theorem asrtO_sound {x:Value} {xt t:TypeId} {u:TypeDesc} {comma one:Bool} {z:List A} {r:R} (hu:P.underlying t = some u) (hni:∀ x,u≠.interface x) (hz:zeroIn P t = some z) (hone:zeroAgg P t = some one)
    (hr:RepR env toks w r x) (hn:(asrtO t comma one z r).need):∃ v,(Instr.typeAssert x xt t comma).run P w = .ok v w∧RepR env toks w (asrtO t comma one z r).val v:=by
  obtain ⟨i,zv,hi,hzv,hzr⟩:=zeroIn_rep (env:=env) (toks:=toks) (w:=w) hz
  have hform:(one = true→zv.oneCell' = true)∧(one = false→∃ cs,zv = .agg cs):=by
    unfold zeroAgg at hone
    rw [hi] at hone
    simp only [hzv] at hone
    split at hone
    · rename_i cs e
      injection hone with hone; subst hone
      injection e with e
      exact ⟨(fun e=>by cases e),fun _=>⟨cs,e⟩⟩
    · cases hone
    · rename_i v e1 e2 e
      injection hone with hone; subst hone
      injection e with e; subst e
      refine ⟨fun _=>?_,(fun e=>by cases e)⟩
      cases zv <;> first | rfl | exact (e1 _ rfl).elim | exact (e2 _ rfl).elim
    · cases hone
  have hzr2:(zeroValue t).run P w = .ok zv w:=by simp [zeroValue,typeInfo,hi,hzv]
  unfold asrtO at hn ⊢
  split at hn
  · rename_i y b
    obtain ⟨v,rfl,hb⟩:=hr
    by_cases e:y = t
    · subst e
      simp only [if_true]
      cases comma with
      | true =>
        refine ⟨.tuple #[v,.bool true],?_,[v,.bool true],rfl,All2.cons hb (All2.cons (.v _ rfl) All2.nil)⟩
        cases u <;> first | exact (hni _ rfl).elim | simp [Instr.typeAssert,run_underlying hu]
      | false =>
        refine ⟨v,?_,hb⟩
        cases u <;> first | exact (hni _ rfl).elim | simp [Instr.typeAssert,run_underlying hu]
    · simp only [if_neg e] at hn ⊢
      subst hn
      refine ⟨.tuple #[zv,.bool false],?_,[zv,.bool false],rfl,All2.cons (form_rep hzr hform.1 hform.2) (All2.cons (.v _ rfl) All2.nil)⟩
      cases u <;> first | exact (hni _ rfl).elim | simp [Instr.typeAssert,run_underlying hu,e,hzr2,Result.andThen]
  · exact hn.elim
theorem gidxO_sound (t:TypeId) {len size g:Nat} {e:TypeId} {inf:TypeInfo} {ri:R} {vi:Value} (hri:RepR env toks w ri vi) (hn:(gidxO len size g ri).need) (ht:P.underlying t = some (.array len e)) (hi:P.info? e = some inf) (hl:1 < len) (hsz:inf.size = size:=by rfl) :
    ∃ v,(Instr.indexAt t (.pointer (some ⟨g,0,none⟩)) vi).run P w = .ok v w∧RepR env toks w (gidxO len size g ri).val v:=by
  subst hsz
  unfold gidxO at hn ⊢
  split at hn
  · rename_i k n
    have e2:=rep_int hri
    subst e2
    obtain ⟨h0,h1⟩:=hn
    refine ⟨.pointer (some ⟨g,n.toNat * inf.size,none⟩),?_,RepC.v _ rfl⟩
    have hlen:¬ len≤1:=by omega
    simp [Instr.indexAt,asIntOf,underlying,ht,Instr.sureAddr,sizeOf,typeInfo,hi,h0,h1,hlen,Addr.add]
    exact fun h=>h.symm
  · exact hn.elim
theorem nilchkO_sound {x:Operand} {r:R} (hop:o.op = .nilCheck x) (hr:RepR env toks w r (a.eval x)) (hn:(nilchkO r).need):∃ v,(execOp a.eval o).run P w = .ok (.value v) w∧RepR env toks w (nilchkO r).val v:=by
  unfold nilchkO at hn ⊢
  refine ⟨a.eval x,?_,?_⟩
  · split at hn
    · obtain ⟨b,s,_,e⟩:=hr
      simp [execOp,hop,e]
    · obtain ⟨b,o,n,cap,s,e,_⟩:=hr
      simp [execOp,hop,e]
    · rename_i f fs cs
      have e:a.eval x = .func (.func f) fs cs:=by
        generalize a.eval x = y at hr; cases hr; rfl
      simp [execOp,hop,e]
    · rename_i f fs cs
      have e:a.eval x = .func (.yield f) fs cs:=by
        generalize a.eval x = y at hr; cases hr; rfl
      simp [execOp,hop,e]
    · obtain ⟨us,vs,e,_⟩:=hr
      simp [execOp,hop,e]
    · exact hn.elim
  · split at hn <;> first | exact hr | exact hn.elim
theorem good_pure (hd:∀ n,o.dst = some n→n < N) {op:IOp} {fl:Notes} (hc:cmpOp P fl o = some op) {out:Out} (hp:pureO σ op = some out) (hn:out.need):(∀ d,op≠.bytes d)→Good P w0 V0 N o σ (σ.put o.dst (.k true out.val)):=by
  intro hby
  refine Good.val hd fun env a w hs=>?_
  have run1:∀ {s:Sem Value} {r:R},execOp a.eval o = (do pure (.value (← s)))→(∃ v,s.run P w = .ok v w∧RepR env σ.toks w r v)→∃ v,(execOp a.eval o).run P w = .ok (.value v) w∧RepR env σ.toks w r v:=fun e ⟨v,h1,h2⟩=>⟨v,by rw [e]; simp [h1],h2⟩
  unfold cmpOp at hc
  split at hc
  · -- move
    cases hx:cmpD _ <;> rw [hx] at hc <;> simp at hc
    subst hc; simp [pureO] at hp
  · cases hx:cmpD _ <;> rw [hx] at hc <;> simp at hc
    subst hc; simp [pureO] at hp
  · split at hc
    · injection hc with hc; subst hc; simp [pureO] at hp
    · cases hc
  · cases hx:zeroIn P _ <;> rw [hx] at hc <;> simp at hc
    subst hc; simp [pureO] at hp
  · cases hx:cmpD _ <;> rw [hx] at hc <;> simp at hc
    subst hc; simp [pureO] at hp
  · -- build
    rename_i t parts hop
    split at hc
    · rename_i fs z ht hz
      split at hc
      · rename_i places hpl
        cases hx:cmpParts places parts.toList <;> rw [hx] at hc <;> simp at hc
        rename_i ps
        subst hc
        simp only [pureO,Option.some.injEq] at hp
        subst hp
        split at hn
        · rename_i cs hf
          refine run1 (s:=Instr.build t (parts.map fun p=>(p.1,a.eval p.2))) (by simp only [execOp,hop]) ?_
          simp only
          exact build_sound t hs ht hz hpl hx hn hf
        · exact hn.elim
      · cases hc
    · cases hc
  · -- buildSlice
    split at hc
    · split at hc
      · split at hc
        · cases hx:cmpRow 0 _ <;> rw [hx] at hc <;> simp at hc
          split at hc <;> (subst hc; simp [pureO] at hp)
        · cases hc
      · cases hc
    · cases hc
  · -- load
    rename_i t x hop
    split at hc
    · rename_i n d hcell hx
      injection hc with hc
      split at hc
      · subst hc; simp [pureO] at hp
      subst hc
      simp only [pureO,Option.some.injEq] at hp
      subst hp
      exact run1 (s:=Instr.loadAt t (a.eval x)) (by simp only [execOp,hop]) (loadO_sound t hs (hs.opr hx hn.1) hn.2 hcell)
    · cases hc
  · -- store
    split at hc
    · injection hc with hc; subst hc; simp [pureO] at hp
    · cases hc
  · -- binOp
    rename_i op t x y yt hop
    have hex:execOp a.eval o = (do pure (.value (← (do eqGuard op t x y (a.eval x) (a.eval y); binOp op t (a.eval x) (a.eval y):Sem Value)))):=by simp only [execOp,hop]
    split at hc
    · rename_i k dx dy ht hx hy
      injection hc with hc; subst hc
      simp only [pureO,Option.some.injEq] at hp
      subst hp
      exact run1 hex (binO_sound op t x y (hs.opr hx hn.1) (hs.opr hy hn.2.1) hn.2.2)
    · rename_i dx dy ht hx hy
      split at hc
      · injection hc with hc; subst hc
        simp only [pureO,Option.some.injEq] at hp
        subst hp
        exact run1 hex (eqbO_sound false t x y (hs.opr hx hn.1) (hs.opr hy hn.2.1) hn.2.2 ht)
      · injection hc with hc; subst hc
        simp only [pureO,Option.some.injEq] at hp
        subst hp
        exact run1 hex (eqbO_sound true t x y (hs.opr hx hn.1) (hs.opr hy hn.2.1) hn.2.2 ht)
      · cases hc
    · rename_i dx dy ht hx hy
      injection hc with hc; subst hc
      simp only [pureO,Option.some.injEq] at hp
      subst hp
      exact run1 hex (binO_sound op t x y (hs.opr hx hn.1) (hs.opr hy hn.2.1) hn.2.2)
    · rename_i fs dx dy ht hx hy
      split at hc
      · rename_i ks hk
        split at hc
        · rename_i hg
          split at hc
          · injection hc with hc; subst hc
            simp only [pureO,Option.some.injEq] at hp
            subst hp
            exact run1 hex (eqsO_sound false t x y (hs.opr hx hn.1) (hs.opr hy hn.2.1) hn.2.2 ht hk hg)
          · injection hc with hc; subst hc
            simp only [pureO,Option.some.injEq] at hp
            subst hp
            exact run1 hex (eqsO_sound true t x y (hs.opr hx hn.1) (hs.opr hy hn.2.1) hn.2.2 ht hk hg)
          · cases hc
        · cases hc
      · cases hc
    · cases hc
  · -- unOp
    rename_i op t x hop
    cases hx:cmpD x <;> rw [hx] at hc <;> simp at hc
    subst hc
    simp only [pureO,Option.some.injEq] at hp
    subst hp
    exact run1 (s:=Op.unary op (a.eval x)) (by simp only [execOp,hop]) (unO_sound op (hs.opr hx hn.1) hn.2)
  · -- convert
    rename_i src dst x hop
    split at hc
    · rename_i ks k d h1 h2 hx
      injection hc with hc; subst hc
      simp only [pureO,Option.some.injEq] at hp
      subst hp
      exact run1 (s:=convert src dst (a.eval x)) (by simp only [execOp,hop]) (convO_sound src dst h1 h2 (hs.opr hx hn.1) hn.2)
    · split at hc
      · injection hc with hc; subst hc
        exact absurd rfl (hby _)
      · cases hc
    · cases hc
  · -- makeSlice
    split at hc
    · split at hc
      · injection hc with hc; subst hc; simp [pureO] at hp
      · cases hc
    · cases hc
  · -- slice
    rename_i t x lo hi hop
    have hex:execOp a.eval o = (do pure (.value (← Instr.sliceAt t (a.eval x) (lo.map a.eval) (hi.map a.eval) none))):=by simp only [execOp,hop]; rfl
    split at hc
    · rename_i d ht hx
      have key:∀ dl dh:Option D,lo.map cmpD = dl.map some→hi.map cmpD = dh.map some→op = .ssl d dl dh→∃ v,(execOp a.eval o).run P w = .ok (.value v) w∧RepR env σ.toks w out.val v:=by
        intro dl dh h1 h2 e
        subst e
        simp only [pureO,Option.some.injEq] at hp
        subst hp
        exact run1 hex (sslO_sound t hs (hs.opr hx hn.1) h1 h2 hn.2.1 hn.2.2.1 hn.2.2.2 ht)
      split at hc
      · rename_i h1 h2; injection hc with hc; exact key none none (by simpa using h1) (by simpa using h2) hc.symm
      · rename_i l h1 h2; injection hc with hc; exact key (some l) none (by simpa using h1) (by simpa using h2) hc.symm
      · rename_i l h1 h2; injection hc with hc; exact key none (some l) (by simpa using h1) (by simpa using h2) hc.symm
      · rename_i l h h1 h2; injection hc with hc; exact key (some l) (some h) (by simpa using h1) (by simpa using h2) hc.symm
      · cases hc
    · rename_i e d ht hx
      have key:∀ (inf:TypeInfo) (dl dh:Option D),P.info? e = some inf→lo.map cmpD = dl.map some→hi.map cmpD = dh.map some→op = .vsl inf.size d dl dh→∃ v,(execOp a.eval o).run P w = .ok (.value v) w∧RepR env σ.toks w out.val v:=by
        intro inf dl dh hinf h1 h2 e
        subst e
        simp only [pureO,Option.some.injEq] at hp
        subst hp
        exact run1 hex (vslO_sound t hs (hs.opr hx hn.1) h1 h2 hn.2.1 hn.2.2.1 hn.2.2.2 ht hinf)
      split at hc
      · rename_i inf h0 h1 h2; injection hc with hc; exact key inf none none h0 (by simpa using h1) (by simpa using h2) hc.symm
      · rename_i inf l h0 h1 h2; injection hc with hc; exact key inf (some l) none h0 (by simpa using h1) (by simpa using h2) hc.symm
      · rename_i inf l h0 h1 h2; injection hc with hc; exact key inf none (some l) h0 (by simpa using h1) (by simpa using h2) hc.symm
      · rename_i inf l h h0 h1 h2; injection hc with hc; exact key inf (some l) (some h) h0 (by simpa using h1) (by simpa using h2) hc.symm
      · cases hc
    · cases hc
  · -- fieldAddr
    rename_i t x f hop
    split at hc
    · rename_i fs d ht hx
      split at hc
      · rename_i fl hf
        split at hc
        · rename_i i hi
          split at hc
          · cases hc
          · rename_i h0
            injection hc with hc; subst hc
            simp only [pureO,Option.some.injEq] at hp
            subst hp
            exact run1 (s:=Instr.fieldAt t (a.eval x) f) (by simp only [execOp,hop]) (faddrO_sound fl.offset t (hs.opr hx hn.1) hn.2 ht hf hi h0 rfl)
        · cases hc
      · cases hc
    · cases hc
  · -- field
    rename_i t x f hop
    split at hc
    · rename_i fs d ht hx
      split at hc
      · rename_i fl hf
        split at hc
        · rename_i n hcell
          injection hc with hc; subst hc
          simp only [pureO,Option.some.injEq] at hp
          subst hp
          exact run1 (s:=Instr.field t (a.eval x) f) (by simp only [execOp,hop]) (fieldO_sound t (hs.opr hx hn.1) hn.2 ht hf hcell)
        · cases hc
      · cases hc
    · cases hc
  · -- indexAddr
    rename_i t x i hop
    split at hc
    · rename_i e d j ht hx hi
      split at hc
      · rename_i inf hinf
        injection hc with hc
        subst hc
        simp only [pureO,Option.some.injEq] at hp
        subst hp
        exact run1 (s:=Instr.indexAt t (a.eval x) (a.eval i)) (by simp only [execOp,hop]) (iaddrO_sound inf.size t (hs.opr hx hn.1) (hs.opr hi hn.2.1) hs hn.2.2 ht hinf rfl)
      · cases hc
    · rename_i len e j ht hx hi
      split at hc
      · rename_i g inf hinf
        split at hc
        · rename_i hlen
          injection hc with hc
          subst hc
          simp only [pureO,Option.some.injEq] at hp
          subst hp
          exact run1 (s:=Instr.indexAt t (.pointer (some ⟨g,0,none⟩)) (a.eval i)) (by simp only [execOp,hop]; rfl) (gidxO_sound t (hs.opr hi hn.1) hn.2 ht hinf hlen)
        · cases hc
      · cases hc
    · cases hc
  · -- index
    rename_i t x i hop
    split at hc
    · rename_i d j ht hx hi
      injection hc with hc; subst hc
      simp only [pureO,Option.some.injEq] at hp
      subst hp
      exact run1 (s:=Instr.index t (a.eval x) (a.eval i)) (by simp only [execOp,hop]) (sindexO_sound t (hs.opr hx hn.1) (hs.opr hi hn.2.1) hn.2.2 ht)
    · cases hc
  · -- extract
    rename_i x i hop
    cases hx:cmpD x <;> rw [hx] at hc <;> simp at hc
    subst hc
    simp only [pureO,Option.some.injEq] at hp
    subst hp
    exact run1 (s:=Instr.extract (a.eval x) i) (by simp only [execOp,hop]) (extO_sound i (hs.opr hx hn.1) hn.2)
  · -- call
    rename_i c hop
    split at hc
    · rename_i hcal
      split at hc
      · rename_i x t hargs htys
        have hex:∀ r,(∃ v,(Builtin.len_ #[t] o.type #[a.eval x]).run P w = .ok v w∧RepR env σ.toks w r v)→∃ v,(execOp a.eval o).run P w = .ok (.value v) w∧RepR env σ.toks w r v:=by
          rintro r ⟨v,h1,h2⟩
          have e1:c.args = #[x]:=Array.toList_inj.1 (by rw [hargs])
          have e2:c.argTypes = #[t]:=Array.toList_inj.1 (by rw [htys])
          exact ⟨v,by simp [execOp,hop,resolve,hcal,e1,e2,invoke,builtin,h1],h2⟩
        split at hc
        · rename_i ht
          cases hx:cmpD x <;> rw [hx] at hc <;> simp at hc
          subst hc
          simp only [pureO,Option.some.injEq] at hp
          subst hp
          exact hex _ (slenO_sound t o.type (hs.opr hx hn.1) hn.2 ht)
        · rename_i e ht
          cases hx:cmpD x <;> rw [hx] at hc <;> simp at hc
          subst hc
          simp only [pureO,Option.some.injEq] at hp
          subst hp
          exact hex _ (lenO_sound t o.type (hs.opr hx hn.1) hn.2 ht)
        · cases hc
      · cases hc
    · split at hc
      · split at hc
        · split at hc
          · split at hc
            · split at hc
              · injection hc with hc; split at hc <;> (subst hc; simp [pureO] at hp)
              · cases hc
            · cases hc
          · cases hc
        · cases hc
      · cases hc
    · split at hc
      · injection hc with hc; split at hc <;> (subst hc; simp [pureO] at hp)
      · cases hc
    · cases hc
  · -- makeMap
    split at hc
    · split at hc
      · injection hc with hc; subst hc; simp [pureO] at hp
      · cases hc
    · cases hc
  · -- lookup
    rename_i t m k comma hop
    split at hc
    · rename_i kt et ht
      split at hc
      · rename_i d z one dm dk hd hz hone hm hk
        injection hc with hc; subst hc
        simp only [pureO,Option.some.injEq] at hp
        subst hp
        obtain ⟨i,zv,hi,hzv,hzr⟩:=zeroIn_rep (env:=env) (toks:=σ.toks) (w:=w) hz
        have hform:(one = true→zv.oneCell' = true)∧(one = false→∃ cs,zv = .agg cs):=by
          unfold zeroAgg at hone
          rw [hi] at hone
          simp only [hzv] at hone
          split at hone
          · rename_i cs e
            injection hone with hone; subst hone
            injection e with e
            exact ⟨(fun e=>by cases e),fun _=>⟨cs,e⟩⟩
          · cases hone
          · rename_i v e1 e2 e
            injection hone with hone; subst hone
            injection e with e; subst e
            refine ⟨fun _=>?_,(fun e=>by cases e)⟩
            cases zv <;> first | rfl | exact (e1 _ rfl).elim | exact (e2 _ rfl).elim
          · cases hone
        exact run1 (s:=Instr.lookup t (a.eval m) (a.eval k) comma) (by simp only [execOp,hop]) (mlookO_sound comma hs (hs.opr hm hn.1) (hs.opr hk hn.2.1) hn.2.2 ht hd hi hzv hzr hform.1 hform.2)
      · cases hc
    · cases hc
  · -- mapUpdate
    split at hc
    · split at hc
      · injection hc with hc; subst hc; simp [pureO] at hp
      · cases hc
    · cases hc
  · -- makeFunc
    rename_i f fs cs hop
    split at hc
    · rename_i da dc ha hcc
      injection hc with hc; subst hc
      simp only [pureO,Option.some.injEq] at hp
      subst hp
      exact run1 (s:=Instr.makeFunc (.func f) (fs.map a.eval) (cs.map a.eval)) (by simp only [execOp,hop]) (cloO_sound hs ha hcc hn.1 hn.2.1 hn.2.2)
    · cases hc
  · -- makeInterface
    rename_i t x hop
    split at hc
    · cases hc
    · rename_i u d hni hu hx
      injection hc with hc; subst hc
      simp only [pureO,Option.some.injEq] at hp
      subst hp
      exact run1 (s:=Instr.makeInterface t (a.eval x)) (by simp only [execOp,hop]) (mkiO_sound hu hni (hs.opr hx hn.1) hn.2)
    · cases hc
  · -- typeAssert
    rename_i x xt t comma hop
    split at hc
    · cases hc
    · rename_i u z one d hni hu hz hone hx
      injection hc with hc; subst hc
      simp only [pureO,Option.some.injEq] at hp
      subst hp
      exact run1 (s:=Instr.typeAssert (a.eval x) xt t comma) (by simp only [execOp,hop]) (asrtO_sound hu hni hz hone (hs.opr hx hn.1) hn.2)
    · cases hc
  · -- nilCheck
    rename_i x hop
    cases hx:cmpD x <;> rw [hx] at hc <;> simp at hc
    subst hc
    simp only [pureO,Option.some.injEq] at hp
    subst hp
    exact nilchkO_sound hop (hs.opr hx hn.1) hn.2
  · cases hc
end
end Go.Fx

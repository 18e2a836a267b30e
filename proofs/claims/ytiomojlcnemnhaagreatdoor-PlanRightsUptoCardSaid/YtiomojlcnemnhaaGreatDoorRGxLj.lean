import Derived.Test.YtiomojlcnemnhaaGreatDoorRGxLb
import Derived.Test.YtiomojlcnemnhaaGreatDoorRGxLg
import Derived.Test.YtiomojlcnemnhaaGreatDoorRGxIc6
import Derived.Test.YtiomojlcnemnhaaGreatDoorRGxY3
namespace Go.Fx
open Go.RowKit
section
variable {P:Program} {G:World→Prop}
theorem ownsRow_base {w:World} {b:Nat} {e:TypeId} {size:Nat} {v:Value} {n:Nat} {xs:List Value} (h:w.ownsRow b e size v n xs):w.ownsRow 0 e size v n xs :=
  ⟨h.1,h.2.imp id fun ⟨g,cap,cur,h1,_,h3⟩=>⟨g,cap,cur,h1,Nat.zero_le _,h3⟩⟩
theorem MeetsH.of_tok {f:FuncId} {args:List X} {k:Nat} {ty:TypeId} {size:Nat} {rows:List (List C)} (hcl:callable P f = true) (hx:∀ x∈args,x.only (fun _=>True) (fun _=>False)) (hs:∀ r∈rows,r.length = size)
    (hm:∀ (w:World) (env:Env) (vs:List Value),(∀ b o,env.V b o→b < w.heap.size)→All2 (RepX env (fun _=>none) w) args vs →
      Calls P f vs.toArray w fun e w'=>∃ v us,e = .returned v∧w'.ownsRow w.heap.size ty size v rows.length us∧All2 (RepC env.V w) rows.flatten us∧Below w.heap.size w w') :
    MeetsH P G f args (hp [] [] F0) (.x (.one (.own k rows))) (hp [] [(k,⟨ty,size,rows.length⟩)] F0):=by
  have ht0:(hp [] [] F0).toks = fun _=>none:=funext fun j=>by rw [hp_toks0]; rfl
  have ho0:∀ j,(hp [] [] F0).objs j = none:=fun j=>by rw [hp_objs0]; rfl
  have ht1:∀ j,(hp [] [(k,⟨ty,size,rows.length⟩)] F0).toks j = if j = k then some ⟨ty,size,rows.length⟩ else none:=fun j=>by rw [hp_toks0,lookT_cons,lookT_nil]
  have ho1:∀ j,(hp [] [(k,⟨ty,size,rows.length⟩)] F0).objs j = none:=fun j=>by rw [hp_objs0]; rfl
  refine ⟨hcl,fun x h=>?_,fun j b h=>(by rw [ho0] at h; cases h),fun w env F vs _ hmem hfr ha=>?_⟩
  · rw [ht0]
    have:=hx x h
    cases x with
    | one a=>exact A.only_mono (fun _ h=>h) (fun _ h=>h.elim) this
    | agg l=>exact onlyL_mono (fun _ h=>h) (fun _ h=>h.elim) this
  rw [ht0] at ha
  have hτ:env.τ k = none:=hfr.2 k (by rw [ht1]; simp) (by rw [ht0])
  have hF:∀ b,¬ F b:=hmem.ext
  refine (hm w env vs hmem.vlt ha).mono ?_
  rintro e w' ⟨v,us,rfl,hown,hus,hb⟩
  have hcell:∀ b o,env.V b o→w'.cell? ⟨b,o,none⟩ = w.cell? ⟨b,o,none⟩:=fun b o hv=>hb.cell (p:=⟨b,o,none⟩) (hmem.vlt b o hv)
  have hnew:∀ b,v.ownBlock = some b→w.heap.size≤b∧b < w'.heap.size:=fun b hvb=>by
    obtain ⟨_,⟨rfl,_⟩ | ⟨g,cap,cur,rfl,hbase,hg,_⟩⟩:=hown
    · cases hvb
    · injection hvb with hvb; subst hvb
      exact ⟨hbase,(Array.getElem?_eq_some_iff.1 hg).1⟩
  let env':Env:=⟨fun b o=>env.V b o∨(v.ownBlock = some b∧o < rows.length * size),env.ρ,fun j=>if j = k then some v else env.τ j⟩
  have hτ':∀ j,env'.τ j = if j = k then some v else env.τ j:=fun _=>rfl
  have hrep:RepC env'.V w' (.sl rows []) v:=by
    obtain ⟨hlen,⟨rfl,h0⟩ | ⟨g,cap,cur,rfl,hbase,hg,hn,hmx,hsz,htk⟩⟩:=hown
    · have:rows = []:=List.length_eq_zero_iff.1 h0
      subst this
      exact .nil 0
    · refine .sl rows [] size g 0 rows.length cap us rfl (by simpa using hn) hmx (by simpa using hs) (by rw [List.append_nil]; exact hus.1.symm) (fun j u hj=>?_) (fun j c u hc hu=>?_)
      · have hlt:j < us.length:=(List.getElem?_eq_some_iff.1 hj).1
        refine ⟨?_,.inr ⟨rfl,by omega⟩⟩
        simp only [World.cell?,hg,Nat.zero_add]
        rw [← htk,List.getElem?_take] at hj
        split at hj
        · simpa using hj
        · cases hj
      · rw [List.append_nil] at hc
        exact RepC.mono (fun _ _ h=>.inl h) hcell (hus.2 j c u hc hu)
  refine ⟨v,env',F,rfl,⟨hrep,_,by rw [ht1,if_pos rfl],Nat.le_refl _,hs,fun _=>by rw [hτ',if_pos rfl]⟩,{
    mem:={
      vlt:=fun b o hv=>hv.elim (fun h=>Nat.lt_of_lt_of_le (hmem.vlt b o h) hb.size) fun h=>(hnew b h.1).2
      ρlt:=fun j b s hk=>Nat.lt_of_lt_of_le (hmem.ρlt j b s hk) hb.size
      τlt:=fun j u b hk hv=>by
        rw [hτ'] at hk
        split at hk
        · injection hk with hk; subst hk; exact (hnew b hv).2
        · exact Nat.lt_of_lt_of_le (hmem.τlt j u b hk hv) hb.size
      objs:=fun j x hk=>by rw [ho1] at hk; cases hk
      inj:=hmem.inj
      toks:=fun j t hk=>by
        rw [ht1] at hk
        split at hk
        · rename_i hj
          injection hk with hk
          subst hk
          refine ⟨v,us,by rw [hτ',if_pos hj],ownsRow_base hown,fun b hvb=>⟨fun o ho hv=>?_,fun k' s he=>?_⟩⟩
          · rcases hv with hv | hv
            · exact absurd (hmem.vlt b o hv) (Nat.not_lt.mpr (hnew b hvb).1)
            · exact absurd hv.2 (Nat.not_lt.mpr ho)
          · exact absurd (hmem.ρlt k' b s he) (Nat.not_lt.mpr (hnew b hvb).1)
        · cases hk
      tinj:=fun j j' u u' b h1 h2 h3 h4=>by
        rw [hτ'] at h1 h2
        split at h1 <;> split at h2
        · rename_i e1 e2; rw [e1,e2]
        · injection h1 with h1; subst h1; exact absurd (hmem.τlt _ _ _ h2 h4) (Nat.not_lt.mpr (hnew b h3).1)
        · injection h2 with h2; subst h2; exact absurd (hmem.τlt _ _ _ h1 h3) (Nat.not_lt.mpr (hnew b h4).1)
        · exact hmem.tinj j j' u u' b h1 h2 h3 h4
      sep:=fun j j' u b s hk hv he=>by
        rw [hτ'] at hk
        split at hk
        · injection hk with hk; subst hk; exact absurd (hmem.ρlt _ _ _ he) (Nat.not_lt.mpr (hnew b hv).1)
        · exact hmem.sep j j' u b s hk hv he
      ext:=hmem.ext
      flt:=fun b hFb=>absurd hFb (hF b) }
    kept:=KeptBut.of_below hb
    owned:=fun b hb2=>by
      rcases hb2 with ⟨j,s,h1,_⟩ | ⟨j,u,h1,h2,h3⟩ | h
      · exact absurd (ho1 j) h1
      · rw [ht1] at h1
        split at h1
        · rename_i hj
          rw [hτ',if_pos hj] at h2
          injection h2 with h2
          subst h2
          exact .inl (hnew b h3).1
        · exact absurd rfl h1
      · exact absurd h (hF b)
    vold:=fun b o hv=>.inl hv
    vcell:=hcell
    vnew:=fun b o hv=>hv.elim .inl fun h=>.inr (.inl (hnew b h.1).1)
    ρold:=fun _ _ x=>x
    ρnew:=fun _ _ x=>.inl x
    τold:=fun j _ hn=>by
      rw [hτ']
      split
      · rename_i hj; rw [hj,hτ] at hn; exact absurd rfl hn
      · rfl
    τnew:=fun j u hj=>by
      rw [hτ'] at hj
      split at hj
      · rename_i e
        exact .inr ⟨by rw [ht1,if_pos e]; simp,by rw [ht0]⟩
      · exact .inl (by rw [hj]; simp)
    tok:=fun j t t' h1 h2=>by rw [ht0] at h1; cases h1 }⟩
end
end Go.Fx

namespace Go.Proofs.YtiomojlcnemnhaaGreatDoor
open Go.Fx Go.RowKit Go.Ped
variable {G:World→Prop}
theorem w193 (l:List Lit) (sp:Sp) (hl:l.length≤1048576):MeetsH Tryz.prog G 227 [.one (.c (.sl (l.map Lit.row) sp))] (hp [] [] F0) (.x (.one (.own 36 (l.map Lit.row)))) (hp [] [(36,⟨107,16,l.length⟩)] F0):=by
  have hrows:(l.map Lit.row).length = l.length:=List.length_map ..
  have hw:∀ r∈l.map Lit.row,r.length = 16:=fun r hr=>by obtain ⟨t,_,rfl⟩:=List.mem_map.1 hr; exact Lit.row_length t
  have key:=MeetsH.of_tok (P:=Tryz.prog) (G:=G) (f:=227) (args:=[.one (.c (.sl (l.map Lit.row) sp))]) (k:=36) (ty:=107) (size:=16) (rows:=l.map Lit.row) (by kernel_rfl) (by simp) hw ?_
  · rw [hrows] at key
    exact key
  intro w env vs hV ha
  obtain ⟨v,vs',rfl,hv,ha'⟩:=ha.head
  obtain rfl:=ha'.nil_left
  obtain ⟨i0,z,hi,hz0,hz1,hz2,hzs⟩:=info_of 107 16 216 (by kernel_rfl) (by kernel_rfl) (by kernel_rfl)
  have hv':RepC env.V w (.sl (l.map Lit.row) sp) v:=hv
  refine (clone_any Tryz.slc193b i0 z 16 216 hi hz0 hz1 hz2 hzs (by decide) (fun w=>Tryz.sizeOf107 w) (l.map Lit.row) sp hw (by rw [hrows]; omega) hv').mono ?_
  rintro e w' ⟨v',xs,rfl,hown,hxs,hb⟩
  exact ⟨v',xs,rfl,hown,hxs,hb⟩
def exK:Ex:=.mk 0 zeroT [] []
def knLit (v:Name):Lit:=⟨1,[107],[⟨v,zeroV⟩],[],0,exK,exK⟩
def knOkOn:List Name→List Name→Bool
  | _,[]=>true
  | acc,v :: l=>wordOk 65 90 v && !acc.contains v && knOkOn (acc++[v]) l
def mayIn (vs:List Name) (body:List Lit) (ks:List Name):Int :=
  if knOkOn [] ks = true then if (vs.all fun v=>(limitsOf (body++ks.map knLit)).contains v) = true then 0 else 73 else 1
def mayOf (r:Rule) (ks:List Name):Int:=if ruleOk r = true then mayIn (tmVars r.terms) r.body ks else 40
theorem knLit_row (v:Name):(knLit v).row = [cI .i8 1,cS (bs [107]),.sl [[cS (bs v),cI .i8 0,cI .i64 0,cS (bs [])]] [],cI .i8 0,cI .i8 0,cS (bs []),cI .i8 0,cI .i64 0,cS (bs []),.sl [] [],cI .i8 0,cS (bs []),cI .i8 0,cI .i64 0,cS (bs []),.sl [] []]:=by
  unfold Lit.row
  rw [show (knLit v).left = exK from rfl,show (knLit v).right = exK from rfl,exK,Ex.row_eq]
  rfl
theorem rule_body24 {r:Rule} (h:ruleOk r = true):r.body.length≤16∧∀ x∈r.body,litOk x = true:=by
  unfold ruleOk at h
  simp only [Bool.and_eq_true,decide_eq_true_eq] at h
  exact ⟨h.1.1.1.2,fun x hx=>List.all_eq_true.1 h.1.2 x hx⟩
theorem lit_terms_le {r:Rule} {x:Lit} (hx:x∈r.body):x.terms.length≤r.terms.length:=by
  unfold Rule.terms
  rw [List.length_append]
  have:∀ (l:List Lit),x∈l→x.terms.length≤(l.flatMap Lit.terms).length:=fun l hm=>by
    induction l with
    | nil=>cases hm
    | cons y l ih =>
      rw [List.flatMap_cons,List.length_append]
      rcases List.mem_cons.1 hm with rfl | hm
      · omega
      · have:=ih hm; omega
  have:=this r.body hx
  omega
theorem rule_left {r:Rule} {x:Lit} {n:Nat} (hx:x∈r.body) (h:r.terms.length≤n):x.left.terms.length≤n:=by
  have h1:=lit_terms_le hx
  have:x.left.terms.length≤x.terms.length:=by unfold Lit.terms; simp only [List.length_append]; omega
  omega
theorem rule_right {r:Rule} {x:Lit} {n:Nat} (hx:x∈r.body) (h:r.terms.length≤n):x.right.terms.length≤n:=by
  have h1:=lit_terms_le hx
  have:x.right.terms.length≤x.terms.length:=by unfold Lit.terms; simp only [List.length_append]; omega
  omega
theorem Meets.len {P:Program} {f:FuncId} {es:List (List C)} {sp:Sp} {cs:List CX} {res:CR} (hcl:callable P f = true) (h:es.length≤maxLen→Meets P G f (.one (.sl es sp) :: cs) res):Meets P G f (.one (.sl es sp) :: cs) res:=by
  refine ⟨hcl,fun w V vs hG hV ha=>?_⟩
  obtain ⟨v,vs',rfl,hv,_⟩:=ha.head
  have hv':RepC V w (.sl es sp) v:=hv
  have hl:es.length≤maxLen:=by
    cases hv' with
    | nil c=>exact Nat.zero_le _
    | emp a=>exact Nat.zero_le _
    | sl _ _ s b o n cap us hn hc hm hw hul hu hr=>omega
  exact (h hl).2 w V _ hG hV ha
theorem knLit_fit (v:Name):(knLit v).fit:=by
  have he:exK.small 1048576:=Ex.small_mk.2 ⟨by simp,by simp⟩
  have ht:exK.terms.length≤1048576:=by rw [exK,Ex.terms_mk]; simp
  exact ⟨⟨by simp [knLit],he,he⟩,ht,ht⟩
theorem lit_args {x:Lit} (h:litOk x = true):x.l.length≤24:=by
  unfold litOk at h
  split at h
  · simp only [Bool.and_eq_true,atomOk,decide_eq_true_eq] at h
    exact h.1.1.1.1.2
  · split at h
    · simp only [Bool.and_eq_true,List.isEmpty_iff] at h
      rw [h.1.1.1.1.2]
      exact Nat.zero_le _
    · cases h
theorem sum_args:∀ l:List Lit,(∀ x∈l,x.l.length≤24)→(l.map fun x=>x.l.length).sum≤24 * l.length
  | [],_=>by simp
  | x :: l,h=>by
    have h1:=h x (List.mem_cons_self ..)
    have h2:=sum_args l fun y hy=>h y (List.mem_cons_of_mem _ hy)
    rw [List.map_cons,List.sum_cons,List.length_cons]
    omega
theorem sum_ones:∀ ks:List Name,(ks.map ((fun x:Lit=>x.l.length) ∘ knLit)).sum = ks.length
  | []=>rfl
  | k :: ks=>by
    have:=sum_ones ks
    rw [List.map_cons,List.sum_cons,this,List.length_cons]
    simp [knLit]
    omega
set_option maxHeartbeats 4000000 in
theorem m146 (r:Rule) (ks:List Name) (sp:Sp) (hr:r.small 1048576) (hle:r.terms.length≤1048576) (hk:ks.length + r.body.length≤1048576) (hsp:∀ e∈sp,e.length = 1):Meets Tryz.prog G 145 [.agg r.row,.one (.sl (ks.map nmRow) sp)] (.x (.one (cI .i64 (mayOf r ks)))):=by
  have h66:=m66 (G:=G) r hr (by omega)
  have hrow:r.row = [cS (bs r.p),.sl (r.head.map Arg.row) r.hsp,.sl (r.body.map Lit.row) r.bsp]:=rfl
  unfold mayOf
  refine meets Tryz.func145 ie146 ig146 (Nat.le_of_ble_eq_true rfl) ?_
  by_cases hok:ruleOk r = true
  · rw [if_pos hok]
    rw [hok] at h66
    have h68:Meets Tryz.prog G 96 [.agg r.row] (.x (.one (.sl ((tmVars r.terms).map nmRow) []))):=m68 (G:=G) r hr (by omega)
    have hvl:=tmVars_len r.terms
    have h193:=MeetsV.of_fun (w193 (G:=G) r.body r.bsp (by omega))
    have hb1:=rule_body24 hok
    have hfit:∀ x∈r.body,x.fit:=fun x hx=>⟨hr.2.2 x hx,rule_left hx hle,rule_right hx hle⟩
    rw [hrow] at h66 h68 ⊢
    generalize hR:mayIn (tmVars r.terms) r.body ks = R
    generalize tmVars r.terms = vs at *
    unfold mayIn at hR
    simp [ic146,ir146]
    refine call_of h66 ?_
    simp
    refine w_loopA [] [] [1,2,4,16,17,18] (by simp [ownKey])
      (fun i:Nat=>st [(1,.k true (.x (.one (.c (.sl (ks.map nmRow) sp))))),(2,.k true (.x (.one (.ref 2 0 0)))),(4,tI .i64 0),(16,.k true (.x (.one (.c (.sl (ks.map nmRow) sp))))),(17,tI .i64 ks.length),(18,tI .i64 i)]
        [(2,⟨29,3,[[.c (cS (bs r.p)),.c (.sl (r.head.map Arg.row) r.hsp),.c (.sl (r.body.map Lit.row) r.bsp)]],none⟩)] [] F0) (fun i=>ks.length - i)
      (fun i=>i≤ks.length∧knOkOn [] ks = knOkOn (ks.take i) (ks.drop i)) 0 (by simp) (by simp) ?_
    rintro i K hK ⟨hi,hd⟩
    obtain hlt | hge:=Nat.lt_or_ge i ks.length
    · have h191:=m191 (G:=G) ks[i]
      have h192:=m192 (G:=G) (ks.take i) ks[i] (List.drop i (ks.map nmRow++sp)) (by rw [List.length_take]; unfold maxLen; omega)
      rw [List.drop_eq_getElem_cons hlt,knOkOn] at hd
      simp [ic146l0,hlt]
      refine call_of h191 ?_
      cases hw:wordOk 65 90 ks[i] with
      | false =>
        rw [hw] at hd
        simp only [Bool.false_and] at hd
        rw [if_neg (by rw [hd]; exact Bool.noConfusion)] at hR
        subst hR
        simp
        refine call_no (.x (.one (cB true))) ?_
        simp
      | true =>
        rw [hw] at hd
        simp only [Bool.true_and] at hd
        have ht1:List.take i (ks.map nmRow++sp) = (ks.take i).map nmRow:=by rw [List.take_append_of_le_length (by rw [List.length_map]; omega),List.map_take]
        simp
        refine ⟨⟨by omega,fun e he=>?_⟩,?_⟩
        · rcases he with ⟨a,_,rfl⟩ | he
          · rfl
          · exact hsp e he
        rw [ht1]
        refine call_of h192 ?_
        cases hc:(ks.take i).contains ks[i] with
        | true =>
          rw [hc] at hd
          simp only [Bool.not_true,Bool.false_and] at hd
          rw [if_neg (by rw [hd]; exact Bool.noConfusion)] at hR
          subst hR
          simp
        | false =>
          rw [hc] at hd
          simp only [Bool.not_false,Bool.true_and] at hd
          simp
          simp (disch:=omega) only [wrap64]
          refine hK (i + 1) _ (by simp) ⟨by omega,?_⟩ (by omega)
          rw [hd,List.take_succ_eq_append_getElem hlt]
    · have hi2:i = ks.length:=by omega
      subst hi2
      rw [List.drop_length,knOkOn] at hd
      rw [if_pos hd] at hR
      simp [ic146l0]
      refine r_callW _ _ [] [] _ [] [(36,⟨107,16,r.body.length⟩)] h193 rfl rfl rfl (by simp) (by simp) ?_
      simp
      refine w_loopA [] [46,49] [1,2,4,7,37,38,39] (by simp [ownKey])
        (fun i:Nat × List (List C)=>st [(1,.k true (.x (.one (.c (.sl (ks.map nmRow) sp))))),(2,.k true (.x (.one (.ref 2 0 0)))),(4,tI .i64 0),(7,.k true (.x (.one (.own 36 i.2)))),(37,.k true (.x (.one (.c (.sl (ks.map nmRow) sp))))),(38,tI .i64 ks.length),(39,tI .i64 i.1)]
          [(2,⟨29,3,[[.c (cS (bs r.p)),.c (.sl (r.head.map Arg.row) r.hsp),.c (.sl (r.body.map Lit.row) r.bsp)]],none⟩)] [(36,⟨107,16,i.2.length⟩)] F0) (fun i=>ks.length - i.1)
        (fun i=>i.1≤ks.length∧i.2 = (r.body++(ks.take i.1).map knLit).map Lit.row) (0,r.body.map Lit.row) (by simp) (by simp) ?_
      rintro ⟨i,E⟩ K hK ⟨hi,hE⟩
      simp only at hi hE
      have hEl:E.length = r.body.length + i:=by rw [hE,List.length_map,List.length_append,List.length_map,List.length_take]; omega
      obtain hlt | hge:=Nat.lt_or_ge i ks.length
      · have hnext:(r.body++(ks.take (i + 1)).map knLit).map Lit.row = E++[(knLit ks[i]).row]:=by
          have h1:r.body++(ks.take (i + 1)).map knLit = (r.body++(ks.take i).map knLit)++[knLit ks[i]]:=by
            rw [List.take_succ_eq_append_getElem hlt,List.map_append,List.append_assoc]
            rfl
          rw [h1,List.map_append,← hE]
          rfl
        rw [knLit_row] at hnext
        simp (config:={ maxSteps:=4000000 }) [ic146l1,hlt]
        refine ⟨by unfold maxLen; omega,by unfold maxBytes; omega,?_⟩
        simp (disch:=omega) only [wrap64]
        exact hK (i + 1,_) _ (by simp; try rfl) ⟨by simp only; omega,hnext.symm⟩ (by simp only; omega)
      · have hi2:i = ks.length:=by omega
        subst hi2
        rw [List.take_length] at hE
        have h50:=m50 (G:=G) (r.body++ks.map knLit) [] (fun x hx=>by
          rcases List.mem_append.1 hx with hx | hx
          · exact hfit x hx
          · obtain ⟨v,_,rfl⟩:=List.mem_map.1 hx
            exact knLit_fit v) (by rw [List.length_append,List.length_map]; omega) (by
          rw [List.map_append,List.sum_append,List.map_map]
          have h1:=sum_args r.body fun x hx=>lit_args (hb1.2 x hx)
          have h2:(ks.map ((fun x:Lit=>x.l.length) ∘ knLit)).sum = ks.length:=sum_ones ks
          rw [h2]
          omega)
        rw [← hE] at h50
        generalize limitsOf (r.body++ks.map knLit) = lim at *
        have hlim:∀ v,Meets Tryz.prog G 226 [.one (.sl (lim.map nmRow) []),.one (cS (bs v))] (.x (.one (cB (lim.contains v)))):=fun v=>Meets.len (by kernel_rfl) fun hl=>m192 (G:=G) lim v [] (by rwa [List.length_map] at hl)
        simp [ic146l1]
        refine call_of h50 ?_
        simp
        refine call_of h68 ?_
        simp
        refine w_loopA [] [] [2,4,7,10,55,56,57] (by simp [ownKey])
          (fun i:Nat=>st [(2,.k true (.x (.one (.ref 2 0 0)))),(4,tI .i64 0),(7,.k true (.x (.one (.own 36 E)))),(10,.k true (.x (.one (.c (.sl (lim.map nmRow) []))))),(55,.k true (.x (.one (.c (.sl (vs.map nmRow) []))))),(56,tI .i64 vs.length),(57,tI .i64 i)]
            [(2,⟨29,3,[[.c (cS (bs r.p)),.c (.sl (r.head.map Arg.row) r.hsp),.c (.sl (r.body.map Lit.row) r.bsp)]],none⟩)] [(36,⟨107,16,E.length⟩)] F0) (fun i=>vs.length - i)
          (fun i=>i≤vs.length∧∀ v∈vs.take i,lim.contains v = true) 0 (by simp) (by simp) ?_
        rintro i K hK ⟨hi,hd⟩
        obtain hlt | hge:=Nat.lt_or_ge i vs.length
        · simp [ic146l2,hlt]
          refine call_of (hlim vs[i]) ?_
          cases hc:lim.contains vs[i] with
          | true =>
            simp
            simp (disch:=omega) only [wrap64]
            refine hK (i + 1) _ (by simp) ⟨by omega,fun v hv=>?_⟩ (by omega)
            rw [List.take_succ_eq_append_getElem hlt] at hv
            rcases List.mem_append.1 hv with hv | hv
            · exact hd v hv
            · rw [List.mem_singleton.1 hv]; exact hc
          | false =>
            rw [if_neg (fun h=>by rw [List.all_eq_true.1 h vs[i] (List.getElem_mem hlt)] at hc; cases hc)] at hR
            subst hR
            simp
        · have hi3:i = vs.length:=by omega
          subst hi3
          rw [List.take_length] at hd
          rw [if_pos (List.all_eq_true.2 hd)] at hR
          subst hR
          simp [ic146l2]
  · rw [if_neg hok]
    simp only [Bool.not_eq_true] at hok
    rw [hok] at h66
    rw [hrow] at h66 ⊢
    simp [ic146,ir146]
    refine call_of h66 ?_
    simp
end Go.Proofs.YtiomojlcnemnhaaGreatDoor

namespace Go.Proofs.YtiomojlcnemnhaaGreatDoor
open Go.Fx Go.RowKit Go.Ped
variable {G:World→Prop}
theorem pow24 {i:Nat} (hi:i < 24):IntKind.u32.wrap (2 ^ min i IntKind.u32.bits) = ((2 ^ i:Nat):Int)∧(2:Nat) ^ i≤8388608 :=
  ⟨(by decide +kernel:∀ m:Fin 24,IntKind.u32.wrap (2 ^ min m.val IntKind.u32.bits) = ((2 ^ m.val:Nat):Int)) ⟨i,hi⟩,(by decide +kernel:∀ m:Fin 24,(2:Nat) ^ m.val≤8388608) ⟨i,hi⟩⟩
theorem and_pow (m i:Nat):m &&& 2 ^ i = if m.testBit i then 2 ^ i else 0:=by
  apply Nat.eq_of_testBit_eq
  intro j
  rw [Nat.testBit_and,Nat.testBit_two_pow]
  by_cases h:i = j
  · subst h
    cases hm:m.testBit i <;> simp
  · cases hm:m.testBit i <;> simp [h]
theorem and_bit (i m:Nat) (hi:i < 24) (hm:m < 2 ^ 24):bits .and .u32 (m:Int) (IntKind.u32.wrap (2 ^ min i IntKind.u32.bits)) = if m.testBit i then ((2 ^ i:Nat):Int) else 0:=by
  obtain ⟨e1,e2⟩:=pow24 hi
  rw [e1]
  unfold bits
  simp only [BitVec.ofInt_natCast,BitVec.toNat_and,BitVec.toNat_ofNat]
  have hb:(2:Nat) ^ IntKind.u32.bits = 4294967296:=by decide
  have hm2:m < 16777216:=hm
  rw [hb,Nat.mod_eq_of_lt (by omega),Nat.mod_eq_of_lt (by omega),and_pow]
  split
  · rw [wrap_u32 _ (by omega)]
  · rfl
def clr (m i:Nat):Nat:=m &&& (2 ^ 32 - (2 ^ i + 1))
theorem clr_lt {m i:Nat} (hm:m < 2 ^ 24):clr m i < 2 ^ 24:=Nat.lt_of_le_of_lt Nat.and_le_left hm
theorem clr_bit {m i j:Nat} (hi:i < 24) (hj:j < 32):(clr m i).testBit j = (m.testBit j && decide (i≠j)):=by
  have e2:=(pow24 hi).2
  unfold clr
  rw [Nat.testBit_and,Nat.testBit_two_pow_sub_succ (by omega),Nat.testBit_two_pow]
  simp [hj]
theorem andNot_bit (i m:Nat) (hi:i < 24) (hm:m < 2 ^ 24):bits .andNot .u32 (m:Int) (IntKind.u32.wrap (2 ^ min i IntKind.u32.bits)) = (clr m i:Int):=by
  obtain ⟨e1,e2⟩:=pow24 hi
  have hm2:m < 16777216:=hm
  have hc:clr m i < 16777216:=clr_lt hm
  rw [e1]
  unfold bits
  simp only [BitVec.ofInt_natCast,BitVec.toNat_and,BitVec.toNat_not,BitVec.toNat_ofNat]
  have hb:(2:Nat) ^ IntKind.u32.bits = 4294967296:=by decide
  have h32:(2:Nat) ^ 32 = 4294967296:=by decide
  rw [hb,Nat.mod_eq_of_lt (by omega),Nat.mod_eq_of_lt (by omega)]
  have:m &&& (4294967296 - 1 - 2 ^ i) = clr m i:=by
    unfold clr
    rw [h32]
    congr 1
    omega
  rw [this,wrap_u32 _ (by omega)]
set_option maxRecDepth 100000 in
theorem v147p (body:List (List C)) (sb:Sp) (l:List Name) (sp:Sp) (hl:l.length≤maxLen):MeetsV Tryz.prog G (fnA 146) [.one (.c (.sl body sb)),.one (.c (.sl (l.map nmRow) sp))] (hp [] [] F0) (.x (.one (.ref 5009 0 0))) (hp (OS 5009 5007 (.sl body sb) (learnOn [] l)) [] F0):=by
  have h:=(MeetsV.of_fun (m147 (G:=G) body sb l sp hl)).ren (π:=swR 9 5009)
  simp [swF,kn_ren] at h
  have h2:=h.ren (π:=swR 7 5007)
  simp [swF,kn_ren] at h2
  simpa using h2
set_option maxRecDepth 100000 in
theorem v149p (body:List Lit) (sb:Sp) (ns:List Name) (i:Nat) (hi:i < body.length) (hx:body[i].small 1048576) (hl:body[i].terms.length≤1048576) (ha:body[i].kind = 1∨body[i].kind = 2→body[i].l.length≤24) :
    MeetsV Tryz.prog G (fnA 148) [.one (.ref 5009 0 0),.one (.c (cI .i64 i))] (hp (OS 5009 5007 (.sl (body.map Lit.row) sb) ns) [] F0) (stepX (stepOf ns body[i] i)) (hp (OS 5009 5007 (.sl (body.map Lit.row) sb) ns) [] F0):=by
  have h:=(MeetsV.of_fun (m149 (G:=G) body sb ns i hi hx hl ha)).ren (π:=swR 10009 5009)
  simp [swF,kn_ren,stepX,Stp.row] at h
  have h2:=h.ren (π:=swR 10007 5007)
  simp [swF,kn_ren] at h2
  simpa [stepX,Stp.row] using h2
set_option maxRecDepth 100000 in
theorem v151p (body:C) (ns l:List Name) (sp:Sp) (hl:l.length≤maxLen):MeetsV Tryz.prog G (fnA 150) [.one (.ref 5009 0 0),.one (.c (.sl (l.map nmRow) sp))] (hp (OS 5009 5007 body ns) [] F0) (.tup []) (hp (OS 5009 5007 body (learnOn ns l)) [] F0):=by
  have h:=(MeetsV.of_fun (m151 (G:=G) body ns l sp hl)).ren (π:=swR 10009 5009)
  simp [swF,kn_ren] at h
  have h2:=h.ren (π:=swR 10007 5007)
  simp [swF,kn_ren] at h2
  simpa using h2
end Go.Proofs.YtiomojlcnemnhaaGreatDoor

namespace Go.Proofs.YtiomojlcnemnhaaGreatDoor
open Go.Fx Go.RowKit Go.Ped
variable {G:World→Prop}
def rightOn (body:List Lit):Nat→List Name→List Stp→Bool
  | m,_,[]=>decide (m = 0)
  | m,ns,s :: l =>
    if s.lit < 0∨(body.length:Int)≤s.lit then false
    else if m.testBit s.lit.toNat = false then false
    else match body[s.lit.toNat]? with
      | none=>false
      | some x=>if (stepOf ns x s.lit.toNat).2 = true∧s.kind = (stepOf ns x s.lit.toNat).1.kind∧s.known = (stepOf ns x s.lit.toNat).1.known∧s.gives = (stepOf ns x s.lit.toNat).1.gives then rightOn body (clr m s.lit.toNat) (learnOn ns (stepOf ns x s.lit.toNat).1.gives) l else false
def rightB (r:Rule) (steps:List Stp) (known:List Name):Bool:=if mayOf r known = 0 then rightOn r.body (2 ^ r.body.length - 1) (learnOn [] known) steps else false
abbrev srow (s:Stp × Sp):List C:=s.1.row s.2
abbrev planRow (r:Rule) (steps:List (Stp × Sp)) (ssp:Sp):List C:=[cS (bs r.p),.sl (r.head.map Arg.row) r.hsp,.sl (r.body.map Lit.row) r.bsp,.sl (steps.map srow) ssp]
theorem mayOf_ok {r:Rule} {ks:List Name} (h:mayOf r ks = 0):ruleOk r = true:=by
  unfold mayOf at h
  split at h
  · assumption
  · cases h
theorem step_gives (ns:List Name) (x:Lit) (i:Nat):(stepOf ns x i).1.gives.length≤x.terms.length + 1:=by
  have h1:=unk_len ns (tmVars x.terms)
  have h2:=tmVars_len x.terms
  unfold stepOf
  split
  · show (unk ns (tmVars x.terms)).length≤_; omega
  · split
    · simp
    · split
      · simp
      · split <;> simp
set_option maxHeartbeats 8000000 in
theorem m78 (r:Rule) (steps:List (Stp × Sp)) (ssp:Sp) (ks:List Name) (sp:Sp) (hr:r.small 1048576) (hle:r.terms.length≤1048576) (hk:ks.length + r.body.length≤1048576) (hsp:∀ e∈sp,e.length = 1) (hst:steps.length≤maxLen) :
    Meets Tryz.prog G 52 [.agg (planRow r steps ssp),.one (.sl (ks.map nmRow) sp)] (.x (.one (cB (rightB r (steps.map (·.1)) ks)))):=by
  have h146:=m146 (G:=G) r ks sp hr hle hk hsp
  have hrow:r.row = [cS (bs r.p),.sl (r.head.map Arg.row) r.hsp,.sl (r.body.map Lit.row) r.bsp]:=rfl
  rw [hrow] at h146
  unfold maxLen at hst
  refine meets Tryz.func52 ie78 ig78 (Nat.le_of_ble_eq_true rfl) ?_
  by_cases hm:mayOf r ks = 0
  · have hok:=mayOf_ok hm
    obtain ⟨hb16,hlit⟩:=rule_body24 hok
    have hR0:rightB r (steps.map (·.1)) ks = rightOn r.body (2 ^ r.body.length - 1) (learnOn [] ks) (steps.map (·.1)):=by unfold rightB; rw [if_pos hm]
    rw [hR0]
    rw [hm] at h146
    have h147:=v147p (G:=G) (r.body.map Lit.row) r.bsp ks sp (by unfold maxLen; omega)
    have h148:=m148 (G:=G) r.body.length (by omega)
    generalize hR:rightOn r.body (2 ^ r.body.length - 1) (learnOn [] ks) (steps.map (·.1)) = R
    simp [ic78,ir78]
    refine call_of h146 ?_
    simp
    refine r_callW _ _ [] [] _ (OS 5009 5007 (.sl (r.body.map Lit.row) r.bsp) (learnOn [] ks)) [] h147 rfl rfl rfl (by simp [X.fits,A.fits,fitsL]) (by simp) ?_
    simp
    refine call_of h148 ?_
    simp
    have hbt:bitsTo r.body.length = ((2 ^ r.body.length - 1:Nat):Int):=by
      have:=Nat.one_le_two_pow (n:=r.body.length)
      unfold bitsTo
      rw [Int.natCast_sub this]
      simp
    rw [hbt]
    have hm0:2 ^ r.body.length - 1 < 2 ^ 24:=by
      have:=Nat.pow_le_pow_right (show 0 < 2 by omega) (show r.body.length≤16 from hb16)
      have h2:(2:Nat) ^ 16 < 2 ^ 24:=by decide
      omega
    refine w_loopA [] [8,9] [2,4,5,6,27,28,29] (by simp [ownKey])
      (fun a:Nat × Nat × List Name=>st [(2,.k true (.x (.one (.ref 2 0 0)))),(4,tB false),(5,.k true (.x (.one (.ref 5009 0 0)))),(6,.k true (rI .u32 a.2.1)),(27,.k true (.x (.one (.c (.sl (steps.map srow) ssp))))),(28,tI .i64 steps.length),(29,tI .i64 a.1)]
        [(2,⟨80,4,[(planRow r steps ssp).map A.c],none⟩),(5007,⟨0,1,a.2.2.map knRow,some (.string,false)⟩),(5009,⟨263,2,[[.c (.sl (r.body.map Lit.row) r.bsp),.mapr 5007]],none⟩)] [] F0) (fun a=>steps.length - a.1)
      (fun a=>a.1≤steps.length∧a.2.1 < 2 ^ 24∧R = rightOn r.body a.2.1 a.2.2 ((steps.map (·.1)).drop a.1)) (0,2 ^ r.body.length - 1,learnOn [] ks) (by simp [kn_strike']) ⟨Nat.zero_le _,hm0,hR.symm⟩ ?_
    rintro ⟨i,m,ns⟩ K hK ⟨hi,hm24,hd⟩
    simp only at hi hm24 hd
    obtain hlt | hge:=Nat.lt_or_ge i steps.length
    · have hlt':i < (steps.map (·.1)).length:=by rwa [List.length_map]
      rw [List.drop_eq_getElem_cons hlt',List.getElem_map,rightOn] at hd
      have hsr:srow steps[i] = [cI .i8 steps[i].1.kind,cI .i64 steps[i].1.lit,cI .u32 steps[i].1.known,.sl (steps[i].1.gives.map nmRow) steps[i].2]:=rfl
      by_cases hneg:steps[i].1.lit < 0
      · rw [if_pos (.inl hneg)] at hd
        subst hd
        simp [ic78l0,hlt,hsr,hneg]
      by_cases hbig:(r.body.length:Int)≤steps[i].1.lit
      · rw [if_pos (.inr hbig)] at hd
        subst hd
        simp [ic78l0,hlt,hsr,hneg,hbig]
      rw [if_neg (by rintro (h | h); exact hneg h; exact hbig h)] at hd
      obtain ⟨j,hj⟩:∃ j:Nat,steps[i].1.lit = j:=⟨steps[i].1.lit.toNat,by omega⟩
      have hjl:j < r.body.length:=by omega
      rw [hj,Int.toNat_natCast] at hd
      rw [hj] at hsr
      have hand:=and_bit j m (by omega) hm24
      by_cases hbit:m.testBit j = false
      · rw [if_pos hbit] at hd
        subst hd
        rw [hbit] at hand
        simp [ic78l0,hlt,hsr,Nat.not_le.2 hjl,hand]
      · rw [if_neg hbit,List.getElem?_eq_getElem hjl] at hd
        have hbit':m.testBit j = true:=by simpa using hbit
        rw [hbit',if_pos rfl] at hand
        have hpw:((2:Int) ^ j == 0) = false:=beq_eq_false_iff_ne.2 fun e=>by
          have h1:=Nat.one_le_two_pow (n:=j)
          have h2:((2 ^ j:Nat):Int) = 0:=by rw [Int.natCast_pow]; exact e
          omega
        have hjn:¬ ((j:Int) < 0):=by omega
        have hxm:r.body[j]∈r.body:=List.getElem_mem hjl
        have h149:=v149p (G:=G) r.body r.bsp ns j hjl (hr.2.2 _ hxm) (Nat.le_trans (lit_terms_le hxm) hle) (fun _=>lit_args (hlit _ hxm))
        simp only at hd
        have hgl:=step_gives ns r.body[j] j
        have hgt:=lit_terms_le hxm
        generalize stepOf ns r.body[j] j = S at *
        obtain ⟨y,ok⟩:=S
        have hEq:Meets Tryz.prog G 149 [.one (.sl (steps[i].1.gives.map nmRow) steps[i].2),.one (.sl (y.gives.map nmRow) [])] (.x (.one (cB (decide (steps[i].1.gives = y.gives))))):=Meets.len (by kernel_rfl) fun hl=>m150 (G:=G) _ _ _ _ (by rwa [List.length_map] at hl)
        have hclr:=andNot_bit j m (by omega) hm24
        have hclt:clr m j < 2 ^ 24:=clr_lt hm24
        simp only at hd
        unfold stepX Stp.row at h149
        simp only at h149
        simp (config:={ maxSteps:=4000000 }) [ic78l0,hlt,hsr,Nat.not_le.2 hjl,hand,hpw,hjn,kn_strike']
        refine r_callW _ _ (OS 5009 5007 (.sl (r.body.map Lit.row) r.bsp) ns) [] _ (OS 5009 5007 (.sl (r.body.map Lit.row) r.bsp) ns) [] h149 rfl rfl rfl (by simp [X.fits,A.fits,fitsL]) (by simp) ?_
        simp (config:={ maxSteps:=4000000 }) [kn_strike']
        cases ok with
        | false =>
          rw [if_neg (by rintro ⟨h,_⟩; cases h)] at hd
          subst hd
          simp (config:={ maxSteps:=4000000 })
          refine call_no (.x (.one (cB true))) ?_
          simp (config:={ maxSteps:=4000000 })
        | true =>
          have h151:=v151p (G:=G) (.sl (r.body.map Lit.row) r.bsp) ns y.gives [] (by simp only at hgl; unfold maxLen; omega)
          simp (config:={ maxSteps:=4000000 })
          cases hq:(!steps[i].1.kind == y.kind || !steps[i].1.known == y.known) with
          | true =>
            rw [if_neg (by
              rintro ⟨_,h1,h2,_⟩
              rw [h1,h2] at hq
              simp at hq)] at hd
            subst hd
            refine call_no (.x (.one (cB true))) ?_
            simp (config:={ maxSteps:=4000000 })
          | false =>
            simp only [Bool.or_eq_false_iff,Bool.not_eq_false',beq_iff_eq] at hq
            refine call_of hEq ?_
            by_cases hg:steps[i].1.gives = y.gives
            · rw [if_pos ⟨rfl,hq.1,hq.2,hg⟩] at hd
              rw [decide_eq_true hg]
              simp (config:={ maxSteps:=4000000 })
              refine r_callW _ _ (OS 5009 5007 (.sl (r.body.map Lit.row) r.bsp) ns) [] _ (OS 5009 5007 (.sl (r.body.map Lit.row) r.bsp) (learnOn ns y.gives)) [] h151 rfl rfl rfl (by simp [X.fits,A.fits,fitsL]) (by simp) ?_
              simp (config:={ maxSteps:=4000000 }) [hclr]
              simp (disch:=omega) only [wrap64]
              refine hK (i + 1,clr m j,learnOn ns y.gives) _ (by simp [kn_strike']) ⟨by simp only; omega,hclt,hd⟩ (by simp only; omega)
            · rw [if_neg (fun h=>hg h.2.2.2)] at hd
              subst hd
              rw [decide_eq_false hg]
              simp (config:={ maxSteps:=4000000 })
    · have hi2:i = steps.length:=by omega
      subst hi2
      rw [List.drop_eq_nil_of_le (by rw [List.length_map]; exact Nat.le_refl _),rightOn] at hd
      subst hd
      simp [ic78l0]
      by_cases h:m = 0
      · subst h; rfl
      · rw [decide_eq_false h]; exact beq_eq_false_iff_ne.2 (by omega)
  · have hR0:rightB r (steps.map (·.1)) ks = false:=by unfold rightB; rw [if_neg hm]
    rw [hR0]
    have hb:(mayOf r ks == 0) = false:=beq_eq_false_iff_ne.2 hm
    generalize mayOf r ks = e at *
    simp [ic78,ir78]
    refine call_of h146 ?_
    simp [hb]
end Go.Proofs.YtiomojlcnemnhaaGreatDoor

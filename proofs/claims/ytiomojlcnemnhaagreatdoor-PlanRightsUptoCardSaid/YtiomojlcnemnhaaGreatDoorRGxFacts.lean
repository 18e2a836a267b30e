import Derived.Test.YtiomojlcnemnhaaGreatDoorRGxM8
import Derived.Test.YtiomojlcnemnhaaGreatDoorRGxIcD
import Derived.Test.YtiomojlcnemnhaaGreatDoorCards
import Derived.Test.YtiomojlcnemnhaaGreatDoorTie
import Derived.WalkKit
import Derived.ProofKit
import Derived.OpenShut
import Derived.Deep.DeepHandedRow
import Derived.Lib.LaidTab
import Derived.Lib.AppendIntMem
import Derived.Stop.LaidErr
import Derived.LaidMore
namespace Go.Proofs.YtiomojlcnemnhaaGreatDoor
open Go.Fx Go.RowKit Go.Ped
abbrev Sp:=List (List C)
inductive Ex where
  | mk (op:Int) (t:Tm) (kids:List Ex) (sp:Sp)
  deriving Inhabited
def Ex.op:Ex→Int | .mk op _ _ _=>op
def Ex.t:Ex→Tm | .mk _ t _ _=>t
def Ex.kids:Ex→List Ex | .mk _ _ kids _=>kids
def Ex.sp:Ex→Sp | .mk _ _ _ sp=>sp
@[simp] theorem Ex.op_mk (op:Int) (t:Tm) (kids:List Ex) (sp:Sp):(Ex.mk op t kids sp).op = op:=rfl
@[simp] theorem Ex.t_mk (op:Int) (t:Tm) (kids:List Ex) (sp:Sp):(Ex.mk op t kids sp).t = t:=rfl
@[simp] theorem Ex.kids_mk (op:Int) (t:Tm) (kids:List Ex) (sp:Sp):(Ex.mk op t kids sp).kids = kids:=rfl
@[simp] theorem Ex.sp_mk (op:Int) (t:Tm) (kids:List Ex) (sp:Sp):(Ex.mk op t kids sp).sp = sp:=rfl
mutual
theorem Ex.ind {Q:Ex→Prop} (h:∀ op t kids sp,(∀ k∈kids,Q k)→Q (.mk op t kids sp)):∀ e,Q e
  | .mk op t kids sp=>h op t kids sp (Ex.indL h kids)
theorem Ex.indL {Q:Ex→Prop} (h:∀ op t kids sp,(∀ k∈kids,Q k)→Q (.mk op t kids sp)):∀ l:List Ex,∀ k∈l,Q k
  | [],_,hk=>by cases hk
  | e :: l,k,hk=>match List.mem_cons.1 hk with
    | .inl e1=>e1 ▸ Ex.ind h e
    | .inr hk=>Ex.indL h l k hk
end
mutual
def Ex.row:Ex→List C
  | .mk op t kids sp=>[cI .i8 op,cS (bs t.v),cI .i8 t.x.k,cI .i64 t.x.n,cS (bs t.x.s),.sl (exRows kids) sp]
def exRows:List Ex→List (List C)
  | []=>[]
  | e :: l=>e.row :: exRows l
end
theorem exRows_map:∀ l:List Ex,exRows l = l.map Ex.row
  | []=>rfl
  | e :: l=>by rw [exRows,exRows_map l]; rfl
theorem Ex.row_mk (op:Int) (t:Tm) (kids:List Ex) (sp:Sp):(Ex.mk op t kids sp).row = [cI .i8 op,cS (bs t.v),cI .i8 t.x.k,cI .i64 t.x.n,cS (bs t.x.s),.sl (kids.map Ex.row) sp]:=by
  rw [Ex.row,exRows_map]
theorem Ex.row_eq (e:Ex):e.row = [cI .i8 e.op,cS (bs e.t.v),cI .i8 e.t.x.k,cI .i64 e.t.x.n,cS (bs e.t.x.s),.sl (e.kids.map Ex.row) e.sp]:=by
  cases e; exact Ex.row_mk ..
@[simp] theorem Ex.row_length (e:Ex):e.row.length = 6:=by rw [Ex.row_eq]; rfl
mutual
def Ex.terms:Ex→List Tm
  | .mk _ t kids _=>t :: exTerms kids
def exTerms:List Ex→List Tm
  | []=>[]
  | e :: l=>e.terms++exTerms l
end
theorem exTerms_flat:∀ l:List Ex,exTerms l = l.flatMap Ex.terms
  | []=>rfl
  | e :: l=>by rw [exTerms,exTerms_flat l]; rfl
theorem Ex.terms_mk (op:Int) (t:Tm) (kids:List Ex) (sp:Sp):(Ex.mk op t kids sp).terms = t :: kids.flatMap Ex.terms:=by rw [Ex.terms,exTerms_flat]
mutual
def Ex.twin (mk:List C):Ex→Ex
  | .mk op t kids _=>.mk op t (exTwin mk kids) [mk]
def exTwin (mk:List C):List Ex→List Ex
  | []=>[]
  | e :: l=>e.twin mk :: exTwin mk l
end
theorem exTwin_map (mk:List C):∀ l:List Ex,exTwin mk l = l.map (Ex.twin mk)
  | []=>rfl
  | e :: l=>by rw [exTwin,exTwin_map mk l]; rfl
theorem Ex.twin_mk (mk:List C) (op:Int) (t:Tm) (kids:List Ex) (sp:Sp):(Ex.mk op t kids sp).twin mk = .mk op t (kids.map (Ex.twin mk)) [mk]:=by rw [Ex.twin,exTwin_map]
mutual
def Ex.same:Ex→Ex→Bool
  | .mk op t kids _,.mk op' t' kids' _=>op == op' && t == t' && exSame kids kids'
def exSame:List Ex→List Ex→Bool
  | [],[]=>true
  | e :: l,e' :: l'=>e.same e' && exSame l l'
  | _,_=>false
end
mutual
theorem Ex.terms_twin (mk:List C):∀ e:Ex,(e.twin mk).terms = e.terms
  | .mk op t kids sp=>by simp only [Ex.twin,Ex.terms,exTerms_twin mk kids]
theorem exTerms_twin (mk:List C):∀ l:List Ex,exTerms (exTwin mk l) = exTerms l
  | []=>rfl
  | e :: l=>by simp only [exTwin,exTerms,Ex.terms_twin mk e,exTerms_twin mk l]
end
mutual
def Ex.small (N:Nat):Ex→Prop
  | .mk _ _ kids _=>kids.length≤N∧exSmall N kids
def exSmall (N:Nat):List Ex→Prop
  | []=>True
  | e :: l=>e.small N∧exSmall N l
end
theorem exSmall_iff {N:Nat}:∀ {l:List Ex},exSmall N l↔∀ e∈l,e.small N
  | []=>by simp [exSmall]
  | e :: l=>by rw [exSmall,exSmall_iff]; simp
theorem Ex.small_mk {N:Nat} {op:Int} {t:Tm} {kids:List Ex} {sp:Sp}:(Ex.mk op t kids sp).small N↔kids.length≤N∧∀ k∈kids,k.small N:=by rw [Ex.small,exSmall_iff]
def arity (op:Int):Int:=if op = 1∨op = 8∨op = 9∨op = 10 then 1 else if 2≤op∧op≤7 then 2 else -1
def zeroT:Tm:=⟨[],zeroV⟩
def solidOk (t:Tm):Bool:=t.v != us && t.ok
def exOk:Nat→Ex→Bool
  | 0,_=>false
  | d + 1,.mk op t kids _=>if op = 0 then kids.isEmpty && solidOk t else t == zeroT && (kids.length:Int) == arity op && kids.all (exOk d)
theorem exOk_twin (mk:List C):∀ (d:Nat) (e:Ex),exOk d (e.twin mk) = exOk d e
  | 0,_=>rfl
  | d + 1,.mk op t kids sp=>by
    have h:(fun k:Ex=>exOk d (k.twin mk)) = exOk d:=funext (exOk_twin mk d)
    rw [Ex.twin_mk]
    simp only [exOk,List.all_map,Function.comp_def,h,List.length_map,List.isEmpty_map]
structure Lit where
  kind:Int
  p:Name
  l:List Tm
  sp:Sp
  rel:Int
  left:Ex
  right:Ex
  deriving Inhabited
def Lit.row (x:Lit):List C:=[cI .i8 x.kind,cS (bs x.p),.sl (x.l.map Tm.row) x.sp,cI .i8 x.rel]++x.left.row++x.right.row
@[simp] theorem Lit.row_length (x:Lit):x.row.length = 16:=by simp [Lit.row]
def Lit.terms (x:Lit):List Tm:=x.l++x.left.terms++x.right.terms
def Lit.twin (mt me:List C) (x:Lit):Lit:={ x with sp:=[mt],left:=x.left.twin me,right:=x.right.twin me }
def Lit.small (N:Nat) (x:Lit):Prop:=x.l.length≤N∧x.left.small N∧x.right.small N
structure Arg where
  agg:Int
  t:Tm
  deriving DecidableEq,Inhabited
def Arg.row (x:Arg):List C:=cI .i8 x.agg :: x.t.row
@[simp] theorem Arg.row_length (x:Arg):x.row.length = 5:=rfl
structure Rule where
  p:Name
  head:List Arg
  hsp:Sp
  body:List Lit
  bsp:Sp
  deriving Inhabited
def Rule.row (r:Rule):List C:=[cS (bs r.p),.sl (r.head.map Arg.row) r.hsp,.sl (r.body.map Lit.row) r.bsp]
@[simp] theorem Rule.row_length (x:Rule):x.row.length = 3:=rfl
def Rule.terms (r:Rule):List Tm:=r.head.map Arg.t++r.body.flatMap Lit.terms
def Rule.small (N:Nat) (r:Rule):Prop:=r.head.length≤N∧r.body.length≤N∧∀ x∈r.body,x.small N
def exNone (e:Ex):Bool:=e.op == 0 && e.t == zeroT && e.kids.isEmpty
def litOk (x:Lit):Bool :=
  if x.kind = 1∨x.kind = 2 then atomOk x.p x.l && x.rel == 0 && exNone x.left && exNone x.right
  else if x.kind = 3 then x.p == [] && x.l.isEmpty && decide (1≤x.rel) && decide (x.rel≤6) && exOk 8 x.left && exOk 8 x.right
  else false
def argOk (a:Arg):Bool :=
  if a.agg = 0 then solidOk a.t else if a.agg = 1 then a.t == zeroT else if a.agg = 2∨a.agg = 3∨a.agg = 4 then a.t.v != [] && solidOk a.t else false
abbrev varsOf (l:List Tm):List Name:=varsOn [] (l.map Tm.v)
def ruleOk (r:Rule):Bool :=
  nameOk r.p && decide (r.head.length≤24) && decide (r.body.length≤16) && r.head.all argOk && r.body.all litOk && decide ((varsOf r.terms).length≤24)
end Go.Proofs.YtiomojlcnemnhaaGreatDoor

namespace Go.Proofs.YtiomojlcnemnhaaGreatDoor
open Go.Fx Go.RowKit Go.Ped
variable {G:World→Prop}
theorem tm_zero (t:Tm):(t == zeroT) = (t.v == [] && (t.x.k == 0 && (t.x.n == 0 && t.x.s == []))):=by
  obtain ⟨v,k,n,s⟩:=t
  rw [Bool.eq_iff_iff]
  simp [zeroT,zeroV]
theorem len_zero (l:List Ex):((l.length:Int) == 0) = l.isEmpty:=by cases l <;> simp; omega
theorem m180 (t:Tm):Meets Tryz.prog G 261 [.agg t.row] (.x (.one (cB (t == zeroT)))):=by
  refine meets Tryz.func261 ie180 ig180 (Nat.le_of_ble_eq_true rfl) ?_
  rw [tm_zero]
  simp [ic180,ir180,Tm.row]
theorem m183 (t:Tm):Meets Tryz.prog G 260 [.agg t.row] (.x (.one (cB (solidOk t)))):=by
  refine meets Tryz.func260 ie183 ig183 (Nat.le_of_ble_eq_true rfl) ?_
  by_cases h:t.v = [95]
  · simp [ic183,ir183,Tm.row,h]
    refine r_callF (.x (.one (cI .i64 0))) rfl ?_
    simp [solidOk,us,h]
  · simp [ic183,ir183,Tm.row,h]
    refine r_call 208 true _ _ (m117 t.v t.x.k t.x.n t.x.s) rfl rfl rfl rfl ?_
    simp
    have:solidOk t = t.ok:=by simp [solidOk,us,h]
    rw [this,Tm.ok]
    cases termOk t.v t.x.k t.x.n t.x.s <;> simp
theorem m204 (op:Int):Meets Tryz.prog G 316 [.one (cI .i8 op)] (.x (.one (cI .i64 (arity op)))):=by
  refine meets Tryz.func316 ie204 ig204 (Nat.le_of_ble_eq_true rfl) ?_
  by_cases a1:op = 1
  · subst a1; simp [ic204,ir204,arity]
  by_cases a8:op = 8
  · subst a8; simp [ic204,ir204,arity]
  by_cases a9:op = 9
  · subst a9; simp [ic204,ir204,arity]
  by_cases a10:op = 10
  · subst a10; simp [ic204,ir204,arity]
  by_cases a2:op = 2
  · subst a2; simp [ic204,ir204,arity]
  by_cases a3:op = 3
  · subst a3; simp [ic204,ir204,arity]
  by_cases a4:op = 4
  · subst a4; simp [ic204,ir204,arity]
  by_cases a5:op = 5
  · subst a5; simp [ic204,ir204,arity]
  by_cases a6:op = 6
  · subst a6; simp [ic204,ir204,arity]
  by_cases a7:op = 7
  · subst a7; simp [ic204,ir204,arity]
  have hn:¬(2≤op∧op≤7):=by omega
  simp [ic204,ir204,arity,a1,a8,a9,a10,a2,a3,a4,a5,a6,a7,hn]
theorem m160 (op:Int):Meets Tryz.prog G 298 [.one (cI .i8 op)] (.x (.one (cI .i64 (arity op)))):=by
  refine meets Tryz.func298 ie160 ig160 (Nat.le_of_ble_eq_true rfl) ?_
  simp [ic160,ir160]
  unfold arity
  grind
theorem m181 (e:Ex):Meets Tryz.prog G 252 [.agg e.row] (.x (.one (cB (exNone e)))):=by
  refine meets Tryz.func252 ie181 ig181 (Nat.le_of_ble_eq_true rfl) ?_
  rw [Ex.row_eq,exNone,tm_zero]
  simp [ic181,ir181]
  refine ⟨fun h0=>⟨fun a b c d=>by simp [h0,a,b,c,d,len_zero],fun h _ a b c d=>absurd d (h a b c)⟩,fun h h0=>absurd h0 h⟩
theorem m130 (e:Ex):Meets Tryz.prog G 262 [.agg e.row] (.x (.one (cB (exNone e)))):=by
  refine meets Tryz.func262 ie130 ig130 (Nat.le_of_ble_eq_true rfl) ?_
  rw [Ex.row_eq,exNone]
  by_cases h:e.op = 0
  · simp [ic130,ir130,h]
    refine r_call 261 true _ _ (m180 e.t) rfl rfl rfl rfl ?_
    simp
    exact ⟨fun a=>by simp [a,len_zero],fun a b=>absurd b a⟩
  · simp [ic130,ir130,h]
    refine r_callF (.x (.one (cB false))) rfl ?_
    simp
    exact fun h0=>absurd h0 h
theorem m223 {H:FHp} {fv:A} (hfv:fv.only farKey (fun k=>H.toks k≠none)) (p:Ex→Bool) (l:List Ex) (sp:List (List C)) (hl:l.length≤maxLen)
    (hf:∀ r∈l,MeetsV Tryz.prog G fv [.agg (r.row.map A.c)] (hp [] [] H) (rB (p r)) (hp [] [] H)) :
    MeetsH Tryz.prog G 345 [.one (.c (.sl (l.map Ex.row) sp)),.one fv] (hp [] [] H) (rI .i64 (idxOr p 0 l)) (hp [] [] H):=by
  refine meetsH [] Tryz.func345 ie223 ig223 (Nat.le_of_ble_eq_true rfl) (by simp) (by simp) ?_ (by simp) (by simp) (sameKeys_refl H) (by simp) (by simp) ?_
  · simp
    exact A.only_mono (fun _=>far_not_own) (fun _ h=>h) hfv
  simp [ic223,ir223]
  refine w_loopK (fun n σ=>∃ (i:Nat) (t9 t5 t16:T),i + n = l.length∧idxOr p 0 l = idxOr p i (l.drop i)∧σ = ks223 (.k true (.x (.one (.c (.sl (l.map Ex.row) sp))))) (tI .i64 i) (tI .i64 l.length) t9 (.k true (.x (.one fv))) t5 t16 (tI .i64 0) [] [] H)
    l.length ⟨0,_,_,_,by simp,by simp,rfl⟩ ?_
  rintro n σ1 K hK ⟨i,t9,t5,t16,hi,hd,rfl⟩
  obtain hn | hn:=Nat.lt_or_ge i l.length
  · obtain ⟨c,hc,hdr⟩:=at_list hn
    rw [hdr] at hd
    have hI:∀ t9 t5 t16,idxOr p 0 l = idxOr p (i + 1) (l.drop (i + 1))→K (ks223 (.k true (.x (.one (.c (.sl (l.map Ex.row) sp))))) (tI .i64 (i + 1)) (tI .i64 l.length) t9 (.k true (.x (.one fv))) t5 t16 (tI .i64 0) [] [] H) :=
      fun t9 t5 t16 h=>hK _ (n - 1) (by omega) ⟨i + 1,t9,t5,t16,by omega,h,rfl⟩
    clear hK
    obtain ⟨_,rfl⟩:=List.getElem?_eq_some_iff.1 hc
    have htk:(l[i].row.map A.c).take 6 = l[i].row.map A.c:=List.take_of_length_le (by simp)
    simp [ic223l0,hn]
    refine r_call0 (hf l[i] (List.getElem_mem hn)) rfl rfl rfl (by simp [htk]) (by simp) (by simp) ?_
    simp [wrap_next hn (by unfold maxLen at hl; omega)]
    rw [show ∀ t r,idxOr p i (t :: r) = if p t then (i:Int) else idxOr p (i + 1) r from fun _ _=>rfl] at hd
    refine ⟨fun h=>?_,fun h=>?_⟩
    · rw [if_pos h] at hd
      rw [hd]
      exact ret_st (by simp) (by simp) (by simp) (by simp) (by simp) (by simp)
    · rw [if_neg (by simp [h])] at hd; exact hI _ _ _ hd
  · simp [ic223l0,Nat.not_lt.mpr hn]
    rw [hd,List.drop_eq_nil_of_le hn]
    exact ret_st (by simp) (by simp [idxOr]) (by simp) (by simp) (by simp) (by simp)
theorem m205 {H:FHp} {fv:A} (hfv:fv.only farKey (fun k=>H.toks k≠none)) (p:Ex→Bool) (l:List Ex) (sp:List (List C)) (hl:l.length≤maxLen)
    (hf:∀ r∈l,MeetsV Tryz.prog G fv [.agg (r.row.map A.c)] (hp [] [] H) (rB (p r)) (hp [] [] H)) :
    MeetsH Tryz.prog G 317 [.one (.c (.sl (l.map Ex.row) sp)),.one fv] (hp [] [] H) (rB (l.any p)) (hp [] [] H):=by
  refine meetsH [] Tryz.func317 ie205 ig205 (Nat.le_of_ble_eq_true rfl) (by simp) (by simp) ?_ (by simp) (by simp) (sameKeys_refl H) (by simp) (by simp) ?_
  · simp
    exact A.only_mono (fun _=>far_not_own) (fun _ h=>h) hfv
  simp [ic205,ir205]
  refine r_call0 (MeetsV.of_fun (m223 hfv p l sp hl hf)) rfl rfl rfl (by simp) (by simp) (by simp) ?_
  simp
  refine ret_st (by simp) ?_ (by simp) (by simp) (by simp) (by simp)
  have:=idxOr_nonneg p l 0
  simp
  rw [show (l.any p) = decide (0≤idxOr p 0 l) from by rw [Bool.eq_iff_iff,decide_eq_true_iff,this]]
  exact X.fits_refl _
abbrev Od (k:Nat) (n:Int):List (Nat × Box):=[(k,⟨3,1,[[.c (cI .i64 n)]],none⟩)]
def Hd (n:Int):FHp:=FHp.of (Od 15003 n) [] (by
  intro p hp
  simp only [List.mem_cons,List.not_mem_nil,or_false] at hp
  subst hp
  exact ⟨by unfold farKey; omega,by simp⟩) (fun _ h=>by cases h)
theorem c206 (k:Ex) (n:Int) (hn:0 < n) (hn2:n≤1000) (b:Bool) (hm:Meets Tryz.prog G 278 [.agg k.row,.one (cI .i64 (n - 1))] (.x (.one (cB b)))) :
    MeetsV Tryz.prog G (.clo 318 [] [.ref 15003 0 0]) [.agg (k.row.map A.c)] (hp [] [] (Hd n)) (rB (!b)) (hp [] [] (Hd n)):=by
  have h:MeetsH Tryz.prog G 318 [.agg (k.row.map A.c),.one (.ref 10003 0 0)] (hp (Od 10003 n) [] F0) (rB (!b)) (hp (Od 10003 n) [] F0):=by
    refine meetsH [] Tryz.func318 ie206 ig206 (Nat.le_of_ble_eq_true rfl) ?_ (by simp) ?_ (by simp) (by simp) (sameKeys_refl F0) (by simp) (by simp) ?_
    · intro p hp
      simp only [List.mem_cons,List.not_mem_nil,or_false] at hp
      subst hp
      exact ⟨by unfold midKey; omega,by simp⟩
    · simp [ownKey]
    have hw:IntKind.i64.wrap (n - 1) = n - 1:=Go.IntWalk.i64_in _ (by omega)
    simp [ic206,ir206,hw]
    have htk:(k.row.map A.c).take 6 = k.row.map A.c:=List.take_of_length_le (by simp)
    refine r_call 278 true _ _ hm rfl rfl rfl (by simp [htk,closeArgs,X.close,A.close,closeL_c]) ?_
    simp
    exact ret_st (by simp) (by simp) (by simp) (by simp) (by simp) (by simp)
  have h1:=(clo_of (f:=318) (fs:=[]) (args:=[.agg (k.row.map A.c)]) (cs:=[.ref 10003 0 0]) rfl h).ren (π:=midFar)
  simp [mfF] at h1
  unfold Hd
  rw [hp_of]
  exact h1
set_option maxRecDepth 20000 in
theorem c205 (n:Int) (hn:0 < n) (hn2:n≤1000) (p:Ex→Bool) (kids:List Ex) (sp:List (List C)) (hl:kids.length≤maxLen) (hf:∀ k∈kids,Meets Tryz.prog G 278 [.agg k.row,.one (cI .i64 (n - 1))] (.x (.one (cB (p k))))) :
    MeetsV Tryz.prog G (fnA 317) [.one (.c (.sl (kids.map Ex.row) sp)),.one (.clo 318 [] [.ref 3 0 0])] (hp (Od 3 n) [] F0) (rB (kids.any fun k=>!p k)) (hp (Od 3 n) [] F0):=by
  have h1:=(MeetsV.of_fun (m205 (G:=G) (H:=Hd n) (fv:=.clo 318 [] [.ref 15003 0 0]) ⟨trivial,by simp [farKey]⟩ (fun k=>!p k) kids sp hl (fun k hk=>c206 k n hn hn2 (p k) (hf k hk)))).ren (π:=nearFar)
  unfold Hd at h1
  rw [hp_of] at h1
  simp [nfF] at h1
  exact h1
theorem m158:∀ (d:Nat) (e:Ex) (_:e.small 1048576) (_:d≤1000),Meets Tryz.prog G 278 [.agg e.row,.one (cI .i64 d)] (.x (.one (cB (exOk d e))))
  | 0,e,_,_=>by
    refine meets Tryz.func278 ie158 ig158 (Nat.le_of_ble_eq_true rfl) ?_
    rw [Ex.row_eq]
    simp [ic158,ir158,exOk]
  | d + 1,.mk op t kids sp,hs,hd=>by
    refine meets Tryz.func278 ie158 ig158 (Nat.le_of_ble_eq_true rfl) ?_
    obtain ⟨hl,hk⟩:=Ex.small_mk.1 hs
    have hd0:¬((d:Int) + 1 = 0):=by omega
    rw [Ex.row_mk,exOk]
    by_cases h0:op = 0
    · simp [ic158,ir158,hd0,h0]
      by_cases hk0:kids = []
      · simp [hk0]
        refine r_call 260 true _ _ (m183 t) rfl rfl rfl rfl ?_
        simp
      · have:¬((kids.length:Int) = 0):=by
          intro e; exact hk0 (List.length_eq_zero_iff.1 (by omega))
        simp [this,hk0]
        refine r_callF (.x (.one (cB false))) rfl ?_
        simp
        exact fun e=>absurd e hk0
    · simp [ic158,ir158,hd0,h0]
      refine r_call 261 true _ _ (m180 t) rfl rfl rfl rfl ?_
      simp
      by_cases ht:t = zeroT
      · simp [ht]
        refine r_call 316 true _ _ (m204 op) rfl rfl rfl rfl ?_
        simp
        refine ⟨fun a b=>absurd b a,fun ha=>?_⟩
        have h1:=c205 (G:=G) ((d + 1:Nat):Int) (by omega) (by omega) (exOk d) kids sp (by unfold maxLen; omega) (fun k hk'=>by
          have h:=m158 d k (hk k hk') (by omega)
          rwa [show (((d + 1:Nat):Int) - 1) = (d:Int) by omega])
        rw [show (((d + 1:Nat):Int)) = (d:Int) + 1 by omega] at h1
        refine r_callV _ _ _ [] _ _ [] F0 h1 rfl rfl rfl (by simp) (by simp) (by simp) (by simp) (by simp) (by simp) (by simp) (by simp) (by simp) (sameKeys_refl F0) rfl ?_
        simp [ha]
        rw [List.any_eq_not_all_not]; simp
      · simp [ht]
        refine r_callF (.x (.one (cI .i64 0))) rfl ?_
        simp
        exact fun e=>absurd e ht
end Go.Proofs.YtiomojlcnemnhaaGreatDoor

namespace Go.Proofs.YtiomojlcnemnhaaGreatDoor
open Go.Fx Go.RowKit Go.Ped
variable {G:World→Prop}
abbrev zTerm:List A:=[.c (cS (bs [])),.c (cI .i8 0),.c (cI .i64 0),.c (cS (bs []))]
theorem m94 (e:Ex) (hs:e.small 1048576):Meets Tryz.prog G 220 [.agg e.row] (.x (.one (cI .i64 (if exOk 8 e then 0 else 40)))):=by
  refine meets Tryz.func220 ie94 ig94 (Nat.le_of_ble_eq_true rfl) ?_
  have h:=m158 (G:=G) 8 e hs (by omega)
  rw [Ex.row_eq] at h ⊢
  simp [ic94,ir94]
  refine r_call 278 true _ _ h rfl rfl rfl rfl ?_
  simp
  refine r_call 187 true _ _ (m113 _) rfl rfl rfl rfl ?_
  simp
set_option maxHeartbeats 1000000 in
theorem m97:∀ (d:Nat) (e:Ex) (_:e.small 1048576) (_:d≤1000),Meets Tryz.prog G 253 [.agg e.row,.one (cI .i64 d)] (.x (.one (cB (exOk d e))))
  | 0,e,_,_=>by
    refine meets Tryz.func253 ie97 ig97 (Nat.le_of_ble_eq_true rfl) ?_
    rw [Ex.row_eq]
    simp [ic97,ir97,exOk]
  | d + 1,.mk op t kids sp,hs,hd=>by
    refine meets Tryz.func253 ie97 ig97 (Nat.le_of_ble_eq_true rfl) ?_
    obtain ⟨hl,hk⟩:=Ex.small_mk.1 hs
    have hd0:¬((d:Int) + 1 = 0):=by omega
    have hm:∀ k∈kids,Meets Tryz.prog G 253 [.agg k.row,.one (cI .i64 d)] (.x (.one (cB (exOk d k)))):=fun k hk'=>m97 d k (hk k hk') (by omega)
    rw [Ex.row_mk,exOk]
    by_cases h0:op = 0
    · simp [ic97,ir97,hd0,h0]
      by_cases hk0:kids = []
      · by_cases hb:t.v = [95]
        · simp [hk0,hb]
          refine r_callF (.x (.one (cB false))) rfl ?_
          simp [solidOk,us,hb]
        · simp [hk0,hb]
          refine r_call 250 true _ _ (m157 t.v t.x.k t.x.n t.x.s) rfl rfl rfl rfl ?_
          simp [solidOk,us,hb,Tm.ok]
      · have:¬((kids.length:Int) = 0):=by
          intro e; exact hk0 (List.length_eq_zero_iff.1 (by omega))
        simp [hk0]
        refine r_callF (.x (.one (cB false))) rfl ?_
        simp
        exact fun e=>absurd e hk0
    · by_cases ht:t = zeroT
      · simp [ic97,ir97,hd0,h0,ht,zeroT,zeroV]
        refine r_call 298 true _ _ (m160 op) rfl rfl rfl rfl ?_
        simp
        refine ⟨fun a b=>absurd b a,fun ha=>?_⟩
        have ha':((kids.length:Int) == arity op) = true:=by simp [ha]
        rw [ha',Bool.true_and]
        generalize hb:kids.all (exOk d) = b
        refine w_loopK (fun n σ=>∃ (i:Nat) (t8 t11 t40 t45 t56:T),i + n = kids.length∧(b = (kids.drop i).all (exOk d))∧σ = ks97 (.k true (.x (.agg [.c (cI .i8 op),.c (cS (bs [])),.c (cI .i8 0),.c (cI .i64 0),.c (cS (bs [])),.c (.sl (kids.map Ex.row) sp)]))) (tI .i64 ((d:Int) + 1)) t8 (.k true (.x (.one (.ref 2 0 0)))) t11 (.k true (.x (.one (.ref 5 0 0)))) t40 (tI .i64 i) t45 t56 (tB false)
          [(5,⟨73,4,[zTerm],none⟩),(2,⟨105,6,[[.c (cI .i8 op),.c (cS (bs [])),.c (cI .i8 0),.c (cI .i64 0),.c (cS (bs [])),.c (.sl (kids.map Ex.row) sp)]],none⟩)] [] F0)
          kids.length ⟨0,_,_,_,_,_,by simp,hb.symm,rfl⟩ ?_
        rintro n σ1 K hK ⟨i,t8,t11,t40,t45,t56,hi,hdr,rfl⟩
        obtain hlt | hge:=Nat.lt_or_ge i kids.length
        · rw [List.drop_eq_getElem_cons hlt,List.all_cons] at hdr
          have hmi:=hm kids[i] (List.getElem_mem hlt)
          have hw:IntKind.i64.wrap (d:Int) = (d:Int):=Go.IntWalk.i64_in _ (by omega)
          have htk:(kids[i].row.map A.c).take 6 = kids[i].row.map A.c:=List.take_of_length_le (by simp)
          have hI:∀ t8 t11 t40 t45 t56,b = (kids.drop (i + 1)).all (exOk d)→K (ks97 (.k true (.x (.agg [.c (cI .i8 op),.c (cS (bs [])),.c (cI .i8 0),.c (cI .i64 0),.c (cS (bs [])),.c (.sl (kids.map Ex.row) sp)]))) (tI .i64 ((d:Int) + 1)) t8 (.k true (.x (.one (.ref 2 0 0)))) t11 (.k true (.x (.one (.ref 5 0 0)))) t40 (tI .i64 (i + 1)) t45 t56 (tB false)
            [(5,⟨73,4,[zTerm],none⟩),(2,⟨105,6,[[.c (cI .i8 op),.c (cS (bs [])),.c (cI .i8 0),.c (cI .i64 0),.c (cS (bs [])),.c (.sl (kids.map Ex.row) sp)]],none⟩)] [] F0) :=
            fun t8 t11 t40 t45 t56 h=>hK _ (n - 1) (by omega) ⟨i + 1,t8,t11,t40,t45,t56,by omega,h,rfl⟩
          clear hK
          simp [ic97l0,hlt,hw]
          refine r_call 253 true _ _ hmi rfl rfl rfl (by simp [htk,closeArgs,X.close,A.close,closeL_c]) ?_
          simp [wrap_next hlt (by omega)]
          refine ⟨fun h=>?_,fun h=>?_⟩
          · rw [hdr,h,Bool.false_and]
          · rw [h,Bool.true_and] at hdr
            exact hI _ _ _ _ _ hdr
        · simp [ic97l0,Nat.not_lt.mpr hge]
          rw [hdr,List.drop_eq_nil_of_le hge]; rfl
      · have ht':¬(t.v = []∧t.x.k = 0∧t.x.n = 0∧t.x.s = []):=fun ⟨a,b,c,d⟩=>ht (by obtain ⟨v,k,n,s⟩:=t; simp at a b c d; simp [zeroT,zeroV,a,b,c,d])
        have hne:((t.v == [] && (t.x.k == 0 && (t.x.n == 0 && t.x.s == [])))) = false:=by rw [← tm_zero]; simpa using ht
        simp [ic97,ir97,hd0,h0,ht]
        refine ⟨fun _=>?_,fun a b c e=>absurd ⟨a,b,c,e⟩ ht'⟩
        refine r_callF (.x (.one (cI .i64 0))) rfl ?_
        simp
        exact fun e=>absurd e ht
end Go.Proofs.YtiomojlcnemnhaaGreatDoor

namespace Go.Proofs.YtiomojlcnemnhaaGreatDoor
open Go.Fx Go.RowKit Go.Ped
theorem list_of {α:Type} {row:α→List C}:∀ {es:List (List C)},(∀ x∈es,∃ t,x = row t)→∃ l:List α,es = l.map row
  | [],_=>⟨[],rfl⟩
  | x :: es,h=>by
    obtain ⟨t,rfl⟩:=h x (List.mem_cons_self ..)
    obtain ⟨l,rfl⟩:=list_of (es:=es) fun y hy=>h y (List.mem_cons_of_mem _ hy)
    exact ⟨t :: l,rfl⟩
theorem ty_str {cs:List C} (h:Typed Tryz.prog 9 cs):∃ s,cs = [cS (bs s)]:=by
  obtain ⟨s,rfl,_⟩:=h.asStr Tryz.underlying9
  exact ⟨s,rfl⟩
theorem ty_val {cs:List C} (h:Typed Tryz.prog 71 cs):∃ x:Val,cs = x.row:=by
  obtain ⟨a,r,rfl,ha,b,r',rfl,hb,c,r'',rfl,hc,hr⟩:=h.asStruct Tryz.underlying71
  cases hr
  obtain ⟨k,rfl,_⟩:=ha.asInt Tryz.underlying69
  obtain ⟨n,rfl,_⟩:=hb.asInt Tryz.underlying2
  obtain ⟨s,rfl⟩:=ty_str hc
  exact ⟨⟨k,n,s⟩,rfl⟩
theorem ty_tm {cs:List C} (h:Typed Tryz.prog 73 cs):∃ t:Tm,cs = t.row:=by
  obtain ⟨a,r,rfl,ha,b,r',rfl,hb,hr⟩:=h.asStruct Tryz.underlying73
  cases hr
  obtain ⟨v,rfl⟩:=ty_str ha
  obtain ⟨x,rfl⟩:=ty_val hb
  exact ⟨⟨v,x⟩,rfl⟩
theorem ty_tms {cs:List C} (h:Typed Tryz.prog 23 cs):∃ (l:List Tm) (sp:Sp),cs = [.sl (l.map Tm.row) sp]:=by
  obtain ⟨es,sp,rfl,hes,hn⟩:=h.asSlice Tryz.underlying23
  obtain ⟨l,rfl⟩:=list_of (row:=Tm.row) (es:=es) fun x hx=>ty_tm (hes x (List.mem_append_left _ hx))
  exact ⟨l,sp,rfl⟩
theorem ty_atom {cs:List C} (h:Typed Tryz.prog 25 cs):∃ (p:Name) (l:List Tm) (sp:Sp),cs = [cS (bs p),.sl (l.map Tm.row) sp]:=by
  obtain ⟨a,r,rfl,ha,b,r',rfl,hb,hr⟩:=h.asStruct Tryz.underlying25
  cases hr
  obtain ⟨p,rfl⟩:=ty_str ha
  obtain ⟨l,sp,rfl⟩:=ty_tms hb
  exact ⟨p,l,sp,rfl⟩
theorem ty_arg {cs:List C} (h:Typed Tryz.prog 137 cs):∃ a:Arg,cs = a.row:=by
  obtain ⟨a,r,rfl,ha,b,r',rfl,hb,hr⟩:=h.asStruct Tryz.underlying137
  cases hr
  obtain ⟨k,rfl,_⟩:=ha.asInt Tryz.underlying135
  obtain ⟨t,rfl⟩:=ty_tm hb
  exact ⟨⟨k,t⟩,by simp [Arg.row]⟩
theorem ty_ex {cs:List C} (h:Typed Tryz.prog 105 cs):∃ e:Ex,cs = e.row:=by
  induction hn:rowBulk cs using Nat.strongRecOn generalizing cs with
  | ind n ih =>
    obtain ⟨a,r,rfl,ha,b,r',rfl,hb,c,r'',rfl,hc,hr⟩:=h.asStruct Tryz.underlying105
    cases hr
    obtain ⟨op,rfl,_⟩:=ha.asInt Tryz.underlying102
    obtain ⟨t,rfl⟩:=ty_tm hb
    obtain ⟨es,sp,rfl,hes,_⟩:=hc.asSlice Tryz.underlying103
    obtain ⟨l,rfl⟩:=list_of (row:=Ex.row) (es:=es) fun x hx=>by
      have hle:∀ (es:List (List C)) (x:List C),x∈es→rowBulk x≤rowsBulk es:=by
        intro es x hx
        induction es with
        | nil=>cases hx
        | cons y es ih =>
          simp only [rowsBulk]
          rcases List.mem_cons.1 hx with rfl | hx
          · omega
          · have:=ih hx; omega
      have h1:=hle es x hx
      refine ih (rowBulk x) ?_ (hes x (List.mem_append_left _ hx)) rfl
      rw [← hn]
      simp only [rowBulk_append,rowBulk,C.bulk]
      omega
    exact ⟨.mk op t l sp,by rw [Ex.row_mk]; rfl⟩
theorem ty_lit {cs:List C} (h:Typed Tryz.prog 107 cs):∃ x:Lit,cs = x.row:=by
  obtain ⟨a,r,rfl,ha,b,r',rfl,hb,c,r'',rfl,hc,d,r3,rfl,hd,e,r4,rfl,he,hr⟩:=h.asStruct Tryz.underlying107
  cases hr
  obtain ⟨k,rfl,_⟩:=ha.asInt Tryz.underlying100
  obtain ⟨p,l,sp,rfl⟩:=ty_atom hb
  obtain ⟨rel,rfl,_⟩:=hc.asInt Tryz.underlying101
  obtain ⟨x,rfl⟩:=ty_ex hd
  obtain ⟨y,rfl⟩:=ty_ex he
  exact ⟨⟨k,p,l,sp,rel,x,y⟩,by simp [Lit.row]⟩
theorem ty_rule {cs:List C} (h:Typed Tryz.prog 29 cs):∃ x:Rule,cs = x.row:=by
  obtain ⟨a,r,rfl,ha,b,r',rfl,hb,c,r'',rfl,hc,hr⟩:=h.asStruct Tryz.underlying29
  cases hr
  obtain ⟨p,rfl⟩:=ty_str ha
  obtain ⟨es,sp,rfl,hes,_⟩:=hb.asSlice Tryz.underlying26
  obtain ⟨hd,rfl⟩:=list_of (row:=Arg.row) (es:=es) fun x hx=>ty_arg (hes x (List.mem_append_left _ hx))
  obtain ⟨bs',bsp,rfl,hbs,_⟩:=hc.asSlice Tryz.underlying27
  obtain ⟨bd,rfl⟩:=list_of (row:=Lit.row) (es:=bs') fun x hx=>ty_lit (hbs x (List.mem_append_left _ hx))
  exact ⟨⟨p,hd,sp,bd,bsp⟩,rfl⟩
theorem rows_len {α:Type} {row:α→List C} (h:∀ t,1≤rowBulk (row t)):∀ l:List α,l.length≤rowsBulk (l.map row)
  | []=>Nat.zero_le _
  | t :: l=>by have:=rows_len h l; have:=h t; simp only [List.map_cons,rowsBulk,List.length_cons]; omega
theorem rows_mem {α:Type} {row:α→List C} {t:α}:∀ {l:List α},t∈l→rowBulk (row t)≤rowsBulk (l.map row)
  | x :: l,h=>by
    simp only [List.map_cons,rowsBulk]
    rcases List.mem_cons.1 h with rfl | h
    · omega
    · have:=rows_mem (row:=row) h; omega
theorem tm_bulk (t:Tm):1≤rowBulk t.row:=by simp only [Tm.row,rowBulk,C.bulk]; omega
theorem arg_bulk (t:Arg):1≤rowBulk t.row:=by simp only [Arg.row,rowBulk,C.bulk]; omega
theorem ex_bulk (e:Ex):1≤rowBulk e.row:=by rw [Ex.row_eq]; simp only [rowBulk,C.bulk]; omega
theorem lit_bulk (x:Lit):1≤rowBulk x.row:=by simp only [Lit.row,List.cons_append,rowBulk,C.bulk]; omega
theorem ex_small {N:Nat}:∀ e:Ex,rowBulk e.row≤N→e.small N:=by
  refine Ex.ind fun op t kids sp ih h=>?_
  rw [Ex.row_mk] at h
  simp only [rowBulk,C.bulk] at h
  refine Ex.small_mk.2 ⟨?_,fun k hk=>ih k hk ?_⟩
  · have:=rows_len ex_bulk kids; omega
  · have:=rows_mem (row:=Ex.row) hk; omega
theorem lit_small {N:Nat} (x:Lit) (h:rowBulk x.row≤N):x.small N:=by
  simp only [Lit.row,List.cons_append,List.nil_append,rowBulk,rowBulk_append,C.bulk] at h
  have h1:=rows_len tm_bulk x.l
  exact ⟨by omega,ex_small _ (by omega),ex_small _ (by omega)⟩
theorem rule_small {N:Nat} (x:Rule) (h:rowBulk x.row≤N):x.small N:=by
  simp only [Rule.row,rowBulk,C.bulk] at h
  have h1:=rows_len arg_bulk x.head
  have h2:=rows_len lit_bulk x.body
  exact ⟨by omega,by omega,fun y hy=>lit_small y (by have:=rows_mem (row:=Lit.row) hy; omega)⟩
theorem flat_bulk {α β:Type} {row:α→List C} {f:α→List β}:∀ {l:List α},(∀ k∈l,(f k).length≤rowBulk (row k))→(l.flatMap f).length≤rowsBulk (l.map row)
  | [],_=>Nat.zero_le _
  | k :: l,h=>by
    have h1:=h k (List.mem_cons_self ..)
    have h2:=flat_bulk (row:=row) (f:=f) fun x hx=>h x (List.mem_cons_of_mem k hx)
    simp only [List.flatMap_cons,List.length_append,List.map_cons,rowsBulk]
    omega
theorem ex_terms_bulk:∀ e:Ex,e.terms.length≤rowBulk e.row:=by
  refine Ex.ind fun op t kids sp ih=>?_
  have:=flat_bulk (row:=Ex.row) (f:=Ex.terms) ih
  rw [Ex.row_mk,Ex.terms_mk]
  simp only [List.length_cons,rowBulk,C.bulk]
  omega
theorem lit_terms_bulk (x:Lit):x.terms.length≤rowBulk x.row:=by
  have h1:=rows_len tm_bulk x.l
  have h2:=ex_terms_bulk x.left
  have h3:=ex_terms_bulk x.right
  simp only [Lit.terms,Lit.row,List.length_append,List.cons_append,List.nil_append,rowBulk,rowBulk_append,C.bulk]
  omega
theorem rule_terms_bulk (r:Rule):r.terms.length≤rowBulk r.row:=by
  have h1:=rows_len arg_bulk r.head
  have h2:=flat_bulk (row:=Lit.row) (f:=Lit.terms) (l:=r.body) fun x _=>lit_terms_bulk x
  simp only [Rule.terms,Rule.row,List.length_append,List.length_map,rowBulk,C.bulk]
  omega
end Go.Proofs.YtiomojlcnemnhaaGreatDoor

namespace Go.Proofs.YtiomojlcnemnhaaGreatDoor
open Go.Fx Go.RowKit Go.Ped
theorem own:ownKnob Tryz.prog.godebug = none:=by kernel_rfl
theorem laidOut:laidOutB Tryz.prog = true:=by kernel_rfl
mutual
theorem bulk_le {H:Type}:∀ d:DataW H,bulkD d≤Rows.uptoBulk d
  | .lit l=>by cases l <;> simp [bulkD,Rows.uptoBulk]
  | .nil=>by simp [bulkD,Rows.uptoBulk]
  | .ptr d=>by simp [bulkD]
  | .slice a b=>by have:=bulks_le a; have:=bulks_le b; simp only [bulkD,Rows.uptoBulk]; omega
  | .agg a=>by have:=bulks_le a; simp only [bulkD,Rows.uptoBulk]; omega
  | .iface t d=>by simp [bulkD]
  | .map e=>by simp [bulkD]
  | .held h=>by simp [bulkD]
theorem bulks_le {H:Type}:∀ l:List (DataW H),bulkDs l≤Rows.uptoBulkAll l
  | []=>by simp [bulkDs]
  | d :: l=>by have:=bulk_le d; have:=bulks_le l; simp only [bulkDs,Rows.uptoBulkAll]; omega
end
theorem upto_bound {H:Type} {ds gs:List (DataW H)} (hk:Rows.uptoSmall H (ds++gs) = true):bulkDs ds≤1048576:=by
  have h:Rows.uptoBulkAll (ds++gs)≤1048576:=of_decide_eq_true hk
  have h2:=bulks_le (ds++gs)
  have h3:∀ a b:List (DataW H),bulkDs a≤bulkDs (a++b):=by
    intro a b
    induction a with
    | nil=>simp [bulkDs]
    | cons x a ih=>simp only [List.cons_append,bulkDs]; omega
  have:=h3 ds gs
  omega
abbrev laidList:List (String × DataW Unit):=[("math/bits.deBruijn32tab",Rows.laid_math_bits_deBruijn32tab),("math/bits.deBruijn64tab",Rows.laid_math_bits_deBruijn64tab),("internal/strconv.uint64pow10",Rows.laid_internal_strconv_uint64pow10)]
theorem gPow:Tryz.prog.globalNamed "internal/strconv.uint64pow10" = some 1:=by kernel_rfl
theorem gPowType:(Tryz.prog.globals[1]?).map (·.type) = some 344:=by kernel_rfl
theorem cells344:Tryz.prog.cellsOf 344 = 20:=by kernel_rfl
theorem cells285:Tryz.prog.cellsOf 285 = 1:=by kernel_rfl
theorem powData:(Rows.laid_internal_strconv_uint64pow10:DataW Unit) = Lib.tabData .u64 Lib.pow10Tab:=by rfl
theorem tab_of {r:List (String × DataW Unit)} {W:World} (h:laidMet Tryz.prog (("internal/strconv.uint64pow10",Rows.laid_internal_strconv_uint64pow10) :: r) W):Held (tab10 Tryz.prog) W:=by
  rw [powData] at h
  exact Lib.tabBelow_of_tabIs (Lib.tabIs_of_head gPow gPowType Tryz.underlying344 Tryz.underlying285 cells285 cells344 h)
theorem plain_laid {l:List (String × DataW Unit)} {W:World} (hp:(l.all fun x=>x.2.handleName?.isNone) = true) (h:laidMetH Tryz.prog l W):laidMet Tryz.prog l W:=by
  rw [MakeChecks.laidMetH_plain _ _ _ hp] at h
  exact h
noncomputable abbrev wit (os:Os):World:=World.doorLaid Tryz.prog 60 os
end Go.Proofs.YtiomojlcnemnhaaGreatDoor

namespace Go.Proofs.YtiomojlcnemnhaaGreatDoor
open Go.Fx Go.RowKit Go.Ped
theorem mapsRowedT:mapsRowed Tryz.prog = true:=by kernel_rfl
theorem stopsT:(Tryz.prog.stops == []) = true:=by kernel_rfl
theorem stopKnobsT:(Tryz.prog.stopKnobs == []) = true:=by kernel_rfl
theorem stopsHeardT:Tryz.prog.stopsHeard = true:=by kernel_rfl
theorem mayEnterT:Tryz.prog.mayEnter = true:=by kernel_rfl
theorem liftsFinalT:(Rows.checkRulesUptoRow.lifted == Tryz.prog.liftsFinal) = true:=by kernel_rfl
theorem makeT:(Tryz.prog.make == some Rows.checkRulesUptoRow.make) = true:=by kernel_rfl
end Go.Proofs.YtiomojlcnemnhaaGreatDoor

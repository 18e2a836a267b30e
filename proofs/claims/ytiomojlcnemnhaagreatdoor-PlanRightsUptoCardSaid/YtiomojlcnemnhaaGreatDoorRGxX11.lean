import Derived.Test.YtiomojlcnemnhaaGreatDoorRGxM8
import Derived.Test.YtiomojlcnemnhaaGreatDoorRGxFacts
import Derived.Test.YtiomojlcnemnhaaGreatDoorRGxIcD
import Derived.Test.YtiomojlcnemnhaaGreatDoorRFxZ
import Derived.Test.YtiomojlcnemnhaaGreatDoorProg
import Derived.KernelRfl
namespace Go.Fx
open Go.RowKit
abbrev ksTwF (t0 t4 t12 t3 t2:T) (O:List (Nat × Box)) (U:List (Nat × Tok)) (H:FHp):S:=st [(0,t0),(4,t4),(12,t12),(3,t3),(2,t2)] O U H
def icTwFl0 (s:Nat) (elem:FuncId):IC :=
 (.seq
  (.seq
   (.region [] [] [0,4,12,3,2] [
     ⟨(some 9),(.move (.t 4)),none,none⟩,
     ⟨(some 10),(.move (.t 0)),none,none⟩,
     ⟨(some 11),(.len (.t 10)),none,none⟩,
     ⟨(some 12),(.bin .lss (.t 9) (.t 11)),none,none⟩])
   (.cond (.t 12)
    .skip
    (.exit 0)))
  (.seq
   (.block 1
    (.region [] [] [0,4,12,3,2] [
      ⟨(some 15),(.move (.t 3)),none,none⟩,
      ⟨(some 16),(.move (.t 4)),none,none⟩,
      ⟨(some 17),(.move (.t 0)),none,none⟩,
      ⟨(some 18),(.move (.t 4)),none,none⟩,
      ⟨(some 19),(.iaddr s (.t 17) (.t 18)),none,none⟩,
      ⟨(some 20),(.load (some s) (.t 19)),none,none⟩,
      ⟨(some 21),(.callp (.k (rF elem)) [(.t 20)]),none,none⟩,
      ⟨(some 22),(.iaddr s (.t 15) (.t 16)),none,none⟩,
      ⟨none,(.store (some s) (.t 22) (.t 21)),none,none⟩]))
   (.region [] [] [0,4,12,3,2] [
     ⟨(some 13),(.move (.t 4)),none,none⟩,
     ⟨(some 14),(.bin .add (.t 13) (.k (rI .i64 1))),none,none⟩,
     ⟨(some 4),(.move (.t 14)),none,none⟩])))
def icTwF (ty:TypeId) (s bytes:Nat) (z:List A) (elem mark:FuncId):IC :=
 (.seq
  (.region [] [] [0,4,12,3,2] [
    ⟨(some 2),(.move (.k (.x (.one .nil)))),none,none⟩])
  (.seq
   (.region [8] [] [0,4,12,3,2] [
     ⟨(some 5),(.move (.t 0)),none,none⟩,
     ⟨(some 6),(.len (.t 5)),none,none⟩,
     ⟨(some 7),(.bin .add (.t 6) (.k (rI .i64 1))),none,none⟩,
     ⟨(some 8),(.make ty s bytes z (.t 7) (.t 7)),none,none⟩,
     ⟨(some 3),(.move (.t 8)),none,none⟩])
   (.seq
    (.seq
     (.region [] [] [0,4,12,3,2] [
       ⟨(some 4),(.move (.k (rI .i64 0))),none,none⟩])
     (.block 0
      (.loop (icTwFl0 s elem))))
    (.seq
     (.region [] [] [0,4,12,3,2] [
       ⟨(some 23),(.move (.t 3)),none,none⟩,
       ⟨(some 24),(.move (.t 0)),none,none⟩,
       ⟨(some 25),(.len (.t 24)),none,none⟩,
       ⟨(some 26),(.callp (.k (rF mark)) [(.k (rI .i64 777777))]),none,none⟩,
       ⟨(some 27),(.iaddr s (.t 23) (.t 25)),none,none⟩,
       ⟨none,(.store (some s) (.t 27) (.t 26)),none,none⟩])
     (.seq
      (.region [] [] [0,4,12,3,2] [
        ⟨(some 28),(.move (.t 3)),none,none⟩,
        ⟨(some 29),(.move (.t 0)),none,none⟩,
        ⟨(some 30),(.len (.t 29)),none,none⟩,
        ⟨(some 31),(.vsl s (.t 28) none (some (.t 30))),none,none⟩,
        ⟨(some 2),(.move (.t 31)),none,none⟩])
      .ret)))))
section
variable {P:Program} {G:World→Prop} {α:Type} {s:Nat}
def midR (row:α→List C) (l:List α) (z:List A) (i:Nat):List (List A):=(l.take i).map (fun x=>(row x).map A.c)++List.replicate (l.length + 1 - i) z
theorem midR_length (row:α→List C) (l:List α) (z:List A) {i:Nat} (h:i≤l.length):(midR row l z i).length = l.length + 1:=by
  simp [midR,List.length_take,Nat.min_eq_left h]; omega
theorem midR_getD (row:α→List C) (l:List α) (z:List A) {i:Nat} (h:i≤l.length):(midR row l z i).getD i [] = z:=by
  have h1:((l.take i).map (fun x=>(row x).map A.c)).length = i:=by simp [List.length_take,Nat.min_eq_left h]
  have h2:l.length + 1 - i = (l.length - i) + 1:=by omega
  unfold midR
  rw [h2,List.replicate_succ]
  conv=>lhs; arg 2; rw [← h1]
  exact getD_mid _ _ _ _
theorem midR_set (row:α→List C) (l:List α) (z:List A) {i:Nat} (h:i < l.length):(midR row l z i).set i ((row l[i]).map A.c) = midR row l z (i + 1):=by
  have h1:((l.take i).map (fun x=>(row x).map A.c)).length = i:=by simp [List.length_take,Nat.min_eq_left (Nat.le_of_lt h)]
  have h2:l.length + 1 - i = (l.length + 1 - (i + 1)) + 1:=by omega
  unfold midR
  rw [h2,List.replicate_succ]
  conv=>lhs; arg 2; rw [← h1]
  rw [set_mid,List.take_succ_eq_append_getElem h,List.map_append,List.append_assoc]
  rfl
theorem midR_last (row:α→List C) (l:List α) (z:List A) (x:List C):(midR row l z l.length).set l.length (x.map A.c) = (l.map row++[x]).map fun r=>r.map A.c:=by
  have h1:((l.take l.length).map (fun x=>(row x).map A.c)).length = l.length:=by simp
  have h2:l.length + 1 - l.length = 0 + 1:=by omega
  unfold midR
  rw [h2,List.replicate_succ]
  conv=>lhs; arg 2; rw [← h1]
  rw [set_mid]
  simp [Function.comp_def]
theorem twF_gen (row row':α→List C) (h6:∀ x,(row x).length = s) (h6':∀ x,(row' x).length = s) {f elem mark:FuncId} {fn:Func} {ty bytes:Nat} {z:List A} {x:List C} (hx:x.length = s) (hf:P.funcs[f]? = some fn) (hc:cmpFunc P ⟨[],[]⟩ fn [0,4,12,3,2] = some (icTwF ty s bytes z elem mark)) (hr:cmpRes P fn.results.toList = some [.tmp 2]) (hn:1≤fn.ntmps)
    (hz:z.length = s) (hb:bytes≤1024) (hm:Meets P G mark [.one (cI .i64 777777)] (.x (.agg x))) (l:List α) (sp:List (List C)) (hl:l.length≤1048576) (he:∀ y∈l,Meets P G elem [.agg (row y)] (.x (.agg (row' y)))) :
    Meets P G f [.one (.sl (l.map row) sp)] (.x (.one (.sl (l.map row') [x]))):=by
  refine meetsF [8] hf hc hr hn ?_
  have hw:IntKind.i64.wrap ((l.length:Int) + 1) = (l.length:Int) + 1:=by rw [Go.IntWalk.i64_in _ (by omega)]
  simp [icTwF,hw]
  refine k_make rfl rfl rfl (by omega) (by omega) (by unfold maxLen; omega) (by
    have:(bytes:Int) * ((l.length:Int) + 1)≤1024 * 1048577:=by
      have h1:(bytes:Int)≤1024:=by omega
      have h2:(l.length:Int) + 1≤1048577:=by omega
      exact Int.mul_le_mul h1 h2 (by omega) (by omega)
    unfold maxBytes; omega) hz ?_
  have hn1:((l.length:Int) + 1).toNat = l.length + 1:=by omega
  simp [hn1]
  refine w_loopK (fun n σ=>∃ (i:Nat) (t12:T),i + n = l.length∧σ = ksTwF (.k true (.x (.one (.c (.sl (l.map row) sp))))) (tI .i64 i) t12 (.k true (.x (.one (.arr 8 0 (l.length + 1) (l.length + 1))))) (.k true (.x (.one .nil))) [(8,⟨ty,s,midR row' l z i,none⟩)] [] F0)
    l.length ⟨0,_,by simp,by simp [midR]; rfl⟩ ?_
  rintro n σ1 K hK ⟨i,t12,hi,rfl⟩
  obtain hlt | hge:=Nat.lt_or_ge i l.length
  · have hI:∀ t12,K (ksTwF (.k true (.x (.one (.c (.sl (l.map row) sp))))) (tI .i64 (i + 1)) t12 (.k true (.x (.one (.arr 8 0 (l.length + 1) (l.length + 1))))) (.k true (.x (.one .nil))) [(8,⟨ty,s,midR row' l z (i + 1),none⟩)] [] F0) :=
      fun t12=>hK _ (n - 1) (by omega) ⟨i + 1,t12,by omega,rfl⟩
    clear hK
    have h1:=h6 l[i]
    have h1':=h6' l[i]
    have k1:((row l[i]).map A.c).take s = (row l[i]).map A.c:=List.take_of_length_le (by simp [h1])
    have g1:=midR_length row' l z (Nat.le_of_lt hlt)
    have g2:(midR row' l z i)[i]?.getD [] = z:=by simpa using midR_getD row' l z (Nat.le_of_lt hlt)
    have hzd:z.drop s = []:=List.drop_eq_nil_of_le (by omega)
    have g3:=midR_set row' l z hlt
    simp [icTwFl0,hlt,h1,k1]
    refine r_call elem true _ _ (he l[i] (List.getElem_mem hlt)) rfl rfl rfl (by simp [k1]) ?_
    simp [wrap_next hlt (by omega),g1,g2,g3,hz,hzd,h1']
    exact ⟨by omega,by omega,hI _⟩
  · obtain rfl:i = l.length:=by omega
    have g1:=midR_length row' l z (Nat.le_refl l.length)
    have g2:(midR row' l z l.length)[l.length]?.getD [] = z:=by simpa using midR_getD row' l z (Nat.le_refl l.length)
    have g2':∀ h,(midR row' l z l.length)[l.length]'h = z:=fun h=>by have g:=g2; rw [List.getElem?_eq_getElem h] at g; exact g
    have g3:=midR_last row' l z x
    have hzd:z.drop s = []:=List.drop_eq_nil_of_le (by omega)
    simp [icTwFl0]
    refine r_call mark true _ _ hm rfl rfl rfl rfl ?_
    simp [g1,g2',hz,hzd,hx,g3]
    refine ⟨by omega,?_⟩
    have hrows:List.map ((fun r=>List.map A.c r) ∘ row') l++[List.map A.c x] = (l.map row'++[x]).map fun r=>r.map A.c:=by simp
    rw [hrows,freeze_st]
    have hB:fzL [(8,⟨ty,s,(l.map row'++[x]).map fun r=>r.map A.c,none⟩)] [8] = [(8,l.map row'++[x])]:=by
      have hlen:((l.map row'++[x]).map fun r=>r.map A.c).length≤maxLen:=by simp; unfold maxLen; omega
      simp only [fzL,lookO_cons,if_true]
      rw [if_pos (by omega),if_pos ⟨trivial,hlen⟩,closeLL_c]
    rw [hB]
    simp [freezeO,ret_one]
    omega
end
end Go.Fx

namespace Go.Proofs.YtiomojlcnemnhaaGreatDoor
open Go.Fx Go.RowKit Go.Ped
def markE:List C:=[cI .i8 99,cS (bs (markW 777777)),cI .i8 0,cI .i64 0,cS (bs []),.sl [] []]
theorem m189:Meets Tryz.prog GT 330 [.one (cI .i64 777777)] (.x (.agg markE)):=by
  refine meets Tryz.func330 ie189 ig189 (Nat.le_of_ble_eq_true rfl) ?_
  simp [ic189,ir189]
  refine r_call 171 true _ _ (m172 777777 (by omega) (by omega) itoa777) rfl rfl rfl rfl ?_
  simp [markE]
theorem m142 (kids:List Ex) (sp:List (List C)) (hl:kids.length≤1048576) (he:∀ k∈kids,Meets Tryz.prog GT 244 [.agg k.row] (.x (.agg (k.twin markE).row))) :
    Meets Tryz.prog GT 291 [.one (.sl (kids.map Ex.row) sp)] (.x (.one (.sl (kids.map fun k=>(k.twin markE).row) [markE]))) :=
  twF_gen Ex.row (fun k=>(k.twin markE).row) (fun x=>Ex.row_length x) (fun x=>Ex.row_length _) rfl Tryz.func291 ie142 ig142 (Nat.le_of_ble_eq_true rfl) rfl (by omega) m189 kids sp hl he
theorem m74:∀ e:Ex,e.small 1048576→Meets Tryz.prog GT 244 [.agg e.row] (.x (.agg (e.twin markE).row)):=by
  refine Ex.ind fun op t kids sp ih hs=>?_
  obtain ⟨hl,hk⟩:=Ex.small_mk.1 hs
  have h:=m142 kids sp hl (fun k hk'=>ih k hk' (hk k hk'))
  refine meets Tryz.func244 ie74 ig74 (Nat.le_of_ble_eq_true rfl) ?_
  rw [Ex.twin_mk,Ex.row_mk,Ex.row_mk]
  simp [ic74,ir74]
  refine r_call 291 true _ _ h rfl rfl rfl rfl ?_
  simp
end Go.Proofs.YtiomojlcnemnhaaGreatDoor

namespace Go.Proofs.YtiomojlcnemnhaaGreatDoor
open Go.Fx Go.RowKit Go.Ped
theorem m190:Meets Tryz.prog GT 334 [.agg markE,.one (cI .i64 777777)] (.x (.one (cB true))):=by
  refine meets Tryz.func334 ie190 ig190 (Nat.le_of_ble_eq_true rfl) ?_
  simp [ic190,ir190,markE]
  refine r_call 171 true _ _ (m172 777777 (by omega) (by omega) itoa777) rfl rfl rfl rfl ?_
  simp
theorem m144 (kids:List Ex) (sp:List (List C)) (hl:kids.length≤1048576) (he:∀ k∈kids,Meets Tryz.prog GT 258 [.agg (k.twin markE).row,.agg k.row] (.x (.one (cB true)))) :
    Meets Tryz.prog GT 300 [.one (.sl (kids.map fun k=>(k.twin markE).row) [markE]),.one (.sl (kids.map Ex.row) sp)] (.x (.one (cB true))):=by
  refine meets Tryz.func300 ie144 ig144 (Nat.le_of_ble_eq_true rfl) ?_
  simp [ic144,ir144]
  refine w_loopK (fun n σ=>∃ (i:Nat) (t10 t14 t26:T),i + n = kids.length∧σ = ks144 (.k true (.x (.one (.c (.sl (kids.map fun k=>(k.twin markE).row) [markE]))))) (.k true (.x (.one (.c (.sl (kids.map Ex.row) sp))))) t10 (tI .i64 i) t14 t26 (tB false) [] [] F0)
    kids.length ⟨0,_,_,_,by simp,rfl⟩ ?_
  rintro n σ1 K hK ⟨i,t10,t14,t26,hi,rfl⟩
  have hw1:IntKind.i64.wrap ((kids.length:Int) + 1) = (kids.length:Int) + 1:=by rw [Go.IntWalk.i64_in _ (by omega)]
  obtain hlt | hge:=Nat.lt_or_ge i kids.length
  · have hI:∀ t10 t14 t26,K (ks144 (.k true (.x (.one (.c (.sl (kids.map fun k=>(k.twin markE).row) [markE]))))) (.k true (.x (.one (.c (.sl (kids.map Ex.row) sp))))) t10 (tI .i64 (i + 1)) t14 t26 (tB false) [] [] F0) :=
      fun t10 t14 t26=>hK _ (n - 1) (by omega) ⟨i + 1,t10,t14,t26,by omega,rfl⟩
    clear hK
    have hm:=he kids[i] (List.getElem_mem hlt)
    have k1:(kids[i].row.map A.c).take 6 = kids[i].row.map A.c:=List.take_of_length_le (by simp)
    have k2:((kids[i].twin markE).row.map A.c).take 6 = (kids[i].twin markE).row.map A.c:=List.take_of_length_le (by simp)
    simp [ic144l0,hlt,k1,k2]
    refine r_call 258 true _ _ hm rfl rfl rfl (by simp [closeArgs,X.close,closeL_c]) ?_
    simp [wrap_next hlt (by omega)]
    exact hI _ _ _
  · simp [ic144l0,Nat.not_lt.mpr hge,hw1]
    refine ⟨⟨by omega,?_⟩,⟨by omega,rfl⟩,Nat.le_refl 6,?_⟩
    · rintro e (⟨a,_,rfl⟩ | rfl)
      · exact Ex.row_length _
      · rfl
    refine r_call 334 true _ _ m190 rfl rfl rfl rfl ?_
    simp
set_option maxHeartbeats 4000000 in
theorem m76:∀ e:Ex,e.small 1048576→Meets Tryz.prog GT 258 [.agg (e.twin markE).row,.agg e.row] (.x (.one (cB true))):=by
  refine Ex.ind fun op t kids sp ih hs=>?_
  obtain ⟨hl,hk⟩:=Ex.small_mk.1 hs
  have h:=m144 kids sp hl (fun k hk'=>ih k hk' (hk k hk'))
  refine meets Tryz.func258 ie76 ig76 (Nat.le_of_ble_eq_true rfl) ?_
  rw [Ex.twin_mk,Ex.row_mk,Ex.row_mk]
  have e:(kids.map (Ex.twin markE)).map Ex.row = kids.map fun k=>(k.twin markE).row:=by rw [List.map_map]; rfl
  rw [e]
  generalize (kids.map fun k=>(k.twin markE).row) = rs at *
  simp (config:={ maxSteps:=4000000 }) [ic76,ir76]
  refine r_call 300 true _ _ h rfl rfl rfl rfl ?_
  simp
end Go.Proofs.YtiomojlcnemnhaaGreatDoor

namespace Go.Proofs.YtiomojlcnemnhaaGreatDoor
open Go.Fx Go.RowKit Go.Ped
theorem lit_row (x:Lit):x.row = [cI .i8 x.kind,cS (bs x.p),.sl (x.l.map Tm.row) x.sp,cI .i8 x.rel]++x.left.row++x.right.row:=rfl
set_option maxHeartbeats 20000000 in
theorem m56 (x:Lit) (hs:x.small 1048576):Meets Tryz.prog GT 162 [.agg x.row] (.x (.agg (x.twin markT.row markE).row)):=by
  refine meets Tryz.func162 ie56 ig56 (Nat.le_of_ble_eq_true rfl) ?_
  obtain ⟨kind,p,l,sp,rel,left,right⟩:=x
  obtain ⟨h1,h2,h3⟩:=hs
  have e1:=m74 left h2
  have e2:=m74 right h3
  simp only [Lit.twin,lit_row]
  have l1:=Ex.row_length left
  have l2:=Ex.row_length right
  have l3:=Ex.row_length (left.twin markE)
  have l4:=Ex.row_length (right.twin markE)
  generalize left.row = rl at *
  generalize right.row = rr at *
  generalize (left.twin markE).row = rl' at *
  generalize (right.twin markE).row = rr' at *
  match rl,rr,rl',rr',l1,l2,l3,l4 with
  | [a1,a2,a3,a4,a5,a6],[b1,b2,b3,b4,b5,b6],[c1,c2,c3,c4,c5,c6],[d1,d2,d3,d4,d5,d6],_,_,_,_ =>
    simp [ic56,ir56]
    refine r_call 15 true _ _ (m37 p l sp h1) rfl rfl rfl rfl ?_
    simp
    refine r_call 244 true _ _ e1 rfl rfl rfl rfl ?_
    simp
    refine r_call 244 true _ _ e2 rfl rfl rfl rfl ?_
    simp
set_option maxHeartbeats 20000000 in
theorem m61 (x:Lit) (hs:x.small 1048576):Meets Tryz.prog GT 182 [.agg (x.twin markT.row markE).row,.agg x.row] (.x (.one (cB true))):=by
  refine meets Tryz.func182 ie61 ig61 (Nat.le_of_ble_eq_true rfl) ?_
  obtain ⟨kind,p,l,sp,rel,left,right⟩:=x
  obtain ⟨h1,h2,h3⟩:=hs
  have e1:=m76 left h2
  have e2:=m76 right h3
  simp only [Lit.twin,lit_row]
  have l1:=Ex.row_length left
  have l2:=Ex.row_length right
  have l3:=Ex.row_length (left.twin markE)
  have l4:=Ex.row_length (right.twin markE)
  generalize left.row = rl at *
  generalize right.row = rr at *
  generalize (left.twin markE).row = rl' at *
  generalize (right.twin markE).row = rr' at *
  match rl,rr,rl',rr',l1,l2,l3,l4 with
  | [a1,a2,a3,a4,a5,a6],[b1,b2,b3,b4,b5,b6],[c1,c2,c3,c4,c5,c6],[d1,d2,d3,d4,d5,d6],_,_,_,_ =>
    simp (config:={ maxSteps:=5000000 }) [ic61,ir61]
    refine r_call 24 true _ _ (m40 p l sp h1) rfl rfl rfl rfl ?_
    simp
    refine r_call 258 true _ _ e1 rfl rfl rfl rfl ?_
    simp
    refine r_call 258 true _ _ e2 rfl rfl rfl rfl ?_
    simp
end Go.Proofs.YtiomojlcnemnhaaGreatDoor

namespace Go.Proofs.YtiomojlcnemnhaaGreatDoor
open Go.Fx Go.RowKit Go.Ped
variable {G:World→Prop}
def WalksEx (G:World→Prop) (fv:A) (e:Ex):Prop :=
  ∀ (es sq:List (List C)) (i off:Nat) (H H':FHp),PtAt es i off e.row→Ch G fv e.terms H H'→MeetsH Tryz.prog G 80 [.one (.ifc 222 (.elem es sq i off)),.one fv] (hp [] [] H) (.tup []) (hp [] [] H')
section
variable {fv:A} {H H':FHp} {Q:Exit→S→Prop} {t0 t12 t14 t15 t4 t21 t20 t22 t1 t5 t39 t38 t40 t6 t53 t54 t7 t74 t75 t8 t86 t85 t87 t9 t100 t101 t10 t107 t106 t108 t11:T}
theorem walk_l2 (es sq:List (List C)) (i off:Nat) (kids:List Ex) (sp:List (List C)) (hl:kids.length≤maxLen) (hlen:off + 5 < (es[i]?.getD []).length) (hval:(es[i]?.getD [])[off + 5]'hlen = .sl (kids.map Ex.row) sp)
    (hk:∀ k∈kids,WalksEx G fv k) (hc:Ch G fv (kids.flatMap Ex.terms) H H') (hQ:∀ t86 t87 t9,Q (.exit 5) (ks126 t0 t12 t14 t15 t4 t21 t20 t22 (.k true (.x (.one fv))) t5 t39 t38 t40 t6 t53 t54 t7 t74 t75 (.k true (.x (.one (.elem es sq i off)))) t86 (tI .i64 kids.length) t87 t9 t100 t101 t10 t107 t106 t108 t11 [] [] H')) :
    wpI Tryz.prog G (.loop ic126l2) Q (ks126 t0 t12 t14 t15 t4 t21 t20 t22 (.k true (.x (.one fv))) t5 t39 t38 t40 t6 t53 t54 t7 t74 t75 (.k true (.x (.one (.elem es sq i off)))) (tI .i64 0) (tI .i64 kids.length) t87 t9 t100 t101 t10 t107 t106 t108 t11 [] [] H):=by
  refine w_loopK (fun n σ=>∃ (j:Nat) (H1:FHp) (t87 t9:T),j + n = kids.length∧Ch G fv ((kids.drop j).flatMap Ex.terms) H1 H'∧σ = ks126 t0 t12 t14 t15 t4 t21 t20 t22 (.k true (.x (.one fv))) t5 t39 t38 t40 t6 t53 t54 t7 t74 t75 (.k true (.x (.one (.elem es sq i off)))) (tI .i64 j) (tI .i64 kids.length) t87 t9 t100 t101 t10 t107 t106 t108 t11 [] [] H1)
    kids.length ⟨0,H,_,_,by simp,by simpa using hc,rfl⟩ ?_
  rintro n σ1 K hK ⟨j,H1,t87,t9,hj,hd,rfl⟩
  obtain hlt | hge:=Nat.lt_or_ge j kids.length
  · rw [List.drop_eq_getElem_cons hlt,List.flatMap_cons] at hd
    obtain ⟨H2,c1,c2⟩:=hd.split
    have hpt:PtAt (kids.map Ex.row) j 0 kids[j].row:=⟨kids[j].row,by simp [hlt],by rw [List.drop_zero,List.take_of_length_le (Nat.le_refl _)]⟩
    have hm:=hk kids[j] (List.getElem_mem hlt) (kids.map Ex.row) sp j 0 H1 H2 hpt c1
    have hs:=c1.same
    simp [ic126l2,hlt,hlen,hval]
    refine r_callC (MeetsV.of_fun hm) hs rfl rfl rfl (by simp) (by simp) (by simp) ?_
    simp [wrap_next hlt (by unfold maxLen at hl; omega)]
    exact hK _ (n - 1) (by omega) ⟨j + 1,H2,_,_,by omega,c2,rfl⟩
  · rw [List.drop_eq_nil_of_le hge] at hd
    cases hd
    simp [ic126l2,Nat.not_lt.mpr hge]
    exact hQ _ _ _
end
theorem m126_ex {fv:A} (hfv:fv.only farKey (fun _=>False)):∀ e:Ex,e.small 1048576→WalksEx G fv e:=by
  refine Ex.ind fun op t kids sp ih hs=>?_
  obtain ⟨hl,hk⟩:=Ex.small_mk.1 hs
  have hw:∀ k∈kids,WalksEx G fv k:=fun k hk'=>ih k hk' (hk k hk')
  intro es sq i off H H' hp1 hc
  rw [Ex.row_mk] at hp1
  rw [Ex.terms_mk] at hc
  cases hc with
  | @cons _ _ _ H1 _ h1 hs1 hc =>
  have hlen:off + 5 < (es[i]?.getD []).length:=by rcases hp1.len with h | h <;> simp at h; omega
  have hval:(es[i]?.getD [])[off + 5]'hlen = .sl (kids.map Ex.row) sp:=(List.getElem?_eq_some_iff.1 (hp1.at 5 (by simp))).2
  have hpt:PtTo es i (off + 1) t:=by
    obtain ⟨r,r1,r2⟩:=hp1
    refine ⟨r,r1,?_⟩
    have h:=congrArg (fun l=>(l.drop 1).take 4) r2
    simp only [List.length_cons,List.length_nil,List.drop_succ_cons,List.drop_zero,List.take_succ_cons,List.take_zero] at h
    rw [List.drop_take,List.take_take,List.drop_drop] at h
    simpa [Tm.row,Nat.add_comm] using h
  have hm:=h1 es sq i (off + 1) hpt
  refine meetsH [] Tryz.func80 ie126 ig126 (Nat.le_of_ble_eq_true rfl) (by simp) (by simp) ?_ (by simp) (by simp) (sameKeys_trans hs1 hc.same) (by simp) (by simp) ?_
  · simp
    exact A.only_mono (fun _=>far_not_own) (fun _ h=>h.elim) hfv
  simp [ic126,ir126,hlen,hval]
  refine r_callC hm hs1 rfl rfl rfl (by simp) (by simp) (by simp) ?_
  simp [hlen,hval]
  refine walk_l2 es sq i off kids sp (by unfold maxLen; omega) hlen hval hw hc ?_
  intro t86 t87 t9
  simp
  exact ret_st (by simp) (by simp) (by simp) (by simp) (by simp) (by simp)
end Go.Proofs.YtiomojlcnemnhaaGreatDoor

namespace Go.Proofs.YtiomojlcnemnhaaGreatDoor
open Go.Fx
@[simp] abbrev kGxIcE_0:List Nat:=[0,1,2]
def ic59f:IC:=(.seq (rH [1] kGxIcE_0 [oX 1 (.box 107 (.t 0)),oX 2 (.move (.k (.x (.one .nil))))])
 (.seq (.region [] [.fz [1]] [0,1,2] [oX 3 (.mki 221 (.t 1)),oX 4 (.call (.k (rF 194)) [(.t 3)]),oM 2 4]) .ret))
def ir59f:List IRes:=[.tmp 2]
theorem ie59f:cmpFunc Tryz.prog ⟨[(4,none)],[(3,.fz [1])]⟩ Tryz.f229 [0,1,2] = some ic59f:=by kernel_rfl
theorem ig59f:cmpRes Tryz.prog Tryz.f229.results.toList = some ir59f:=by kernel_rfl
end Go.Proofs.YtiomojlcnemnhaaGreatDoor

namespace Go.Proofs.YtiomojlcnemnhaaGreatDoor
open Go.Fx Go.RowKit Go.Ped
variable {G:World→Prop}
theorem PtAt.sub {es:List (List C)} {i off:Nat} {cs:List C} (h:PtAt es i off cs) (j:Nat) {ds:List C} (hd:(cs.drop j).take ds.length = ds) (hj:j + ds.length≤cs.length):PtAt es i (off + j) ds:=by
  obtain ⟨r,h1,h2⟩:=h
  refine ⟨r,h1,?_⟩
  rw [← h2,List.drop_take,List.take_take,List.drop_drop,Nat.min_eq_left (by omega)] at hd
  exact hd
theorem m126_lit {fv:A} (hfv:fv.only farKey (fun _=>False)) (x:Lit) (hs:x.small 1048576) (es sq:List (List C)) (i off:Nat) (H H':FHp) (hp1:PtAt es i off x.row) (hc:Ch G fv x.terms H H') :
    MeetsH Tryz.prog G 80 [.one (.ifc 221 (.elem es sq i off)),.one fv] (hp [] [] H) (.tup []) (hp [] [] H'):=by
  obtain ⟨kind,p,l,sp,rel,left,right⟩:=x
  obtain ⟨h1,h2,h3⟩:=hs
  have h1:l.length≤1048576:=h1
  have hrow:(Lit.mk kind p l sp rel left right).row = [cI .i8 kind,cS (bs p),.sl (l.map Tm.row) sp,cI .i8 rel]++left.row++right.row:=rfl
  have hterms:(Lit.mk kind p l sp rel left right).terms = l++left.terms++right.terms:=rfl
  rw [hrow] at hp1
  rw [hterms] at hc
  have l1:=Ex.row_length left
  have l2:=Ex.row_length right
  obtain ⟨H2,c12,c3⟩:=hc.split
  obtain ⟨H1,c1,c2⟩:=c12.split
  have pA:PtAt es i (off + 1) [cS (bs p),.sl (l.map Tm.row) sp]:=hp1.sub 1 (by simp) (by simp [l1,l2])
  have pL:PtAt es i (off + 4) left.row:=hp1.sub 4 (by simp [l1]) (by simp [l1,l2])
  have pR:PtAt es i (off + 10) right.row:=hp1.sub 10 (by
    rw [show (10:Nat) = ([cI .i8 kind,cS (bs p),.sl (l.map Tm.row) sp,cI .i8 rel]++left.row).length by simp [l1],List.drop_left,List.take_of_length_le (Nat.le_refl _)]) (by simp [l1,l2])
  have mA:=m126_atom (G:=G) hfv es sq i (off + 1) p l sp (by unfold maxLen; omega) pA c1
  have mL:=m126_ex (G:=G) hfv left h2 es sq i (off + 4) H1 H2 pL c2
  have mR:=m126_ex (G:=G) hfv right h3 es sq i (off + 10) H2 H' pR c3
  refine meetsH [] Tryz.func80 ie126 ig126 (Nat.le_of_ble_eq_true rfl) (by simp) (by simp) ?_ (by simp) (by simp) hc.same (by simp) (by simp) ?_
  · simp
    exact A.only_mono (fun _=>far_not_own) (fun _ h=>h.elim) hfv
  simp [ic126,ir126]
  refine r_callC (MeetsV.of_fun mA) c1.same rfl rfl rfl (by simp) (by simp) (by simp) ?_
  simp
  refine r_callC (MeetsV.of_fun mL) c2.same rfl rfl rfl (by simp) (by simp) (by simp) ?_
  simp
  refine r_callC (MeetsV.of_fun mR) c3.same rfl rfl rfl (by simp) (by simp) (by simp) ?_
  simp
  exact ret_st (by simp) (by simp) (by simp) (by simp) (by simp) (by simp)
theorem m59 (x:Lit) (hs:x.small 1048576) (hl:x.terms.length≤2000000):Meets Tryz.prog G 229 [.agg x.row] (.x (.one (.sl ((tmVars x.terms).map nmRow) []))):=by
  refine meets Tryz.func229 ie59f ig59f (Nat.le_of_ble_eq_true rfl) ?_
  have hlen:x.row.length = 16:=by simp [Lit.row]
  have hw:Walks G (.ifc 221 (.elem [x.row] [] 0 0)) x.terms:=fun fv H H' hfv hc=>m126_lit hfv x hs [x.row] [] 0 0 H H' ⟨x.row,rfl,by rw [List.drop_zero,List.take_of_length_le (Nat.le_refl _)]⟩ hc
  generalize x.row = r at *
  simp [ic59f,ir59f,freeze_st,fzL,freezeO,maxLen,closeL,A.close]
  refine r_call0 (MeetsV.of_fun (m118 _ x.terms (by simp) (fun _=>rfl) (fun _=>rfl) (fun _=>rfl) hl hw)) rfl rfl rfl (by simp) (by simp) (by simp) ?_
  simp
end Go.Proofs.YtiomojlcnemnhaaGreatDoor

namespace Go.Proofs.YtiomojlcnemnhaaGreatDoor
open Go.Fx
@[simp] abbrev kGxIcF_0:List Nat:=[0,1,2]
@[simp] abbrev kGxIcF_1:List Nat:=[1,5,3,11,0,4]
@[simp] abbrev kGxIcF_2:List Nat:=[1,0,3,5,15,4]
def ic60f:IC:=(.seq (rH [1] kGxIcF_0 [oX 1 (.box 107 (.t 0)),oX 2 (.move (.k (.x (.one .nil))))]) (.seq (rG kGxIcF_0 [oR 3 16 1,
 oX 4 (.call (.k (rF 167)) [(.k (.x (.one .nil))),(.t 3)]),oC 5 141 [(.t 4)],oM 2 5]) .ret))
def ir60f:List IRes:=[.tmp 2]
theorem ie60f:cmpFunc Tryz.prog ⟨[(4,none)],[]⟩ Tryz.f69 [0,1,2] = some ic60f:=by kernel_rfl
theorem ig60f:cmpRes Tryz.prog Tryz.f69.results.toList = some ir60f:=by kernel_rfl
abbrev ks132f (t1 t5 t3 t11 t0 t4:T) (O:List (Nat × Box)) (U:List (Nat × Fx.Tok)) (H:FHp):S:=st [(1,t1),(5,t5),(3,t3),(11,t11),(0,t0),(4,t4)] O U H
def ic132l0f:IC:=(.seq (.seq (rG kGxIcF_1 [oM 6 5,oF 7 1 3,oF 8 1 7,oL 9 8,oN 10 9,oB 11 .lss (.t 6) (.t 10)])
 (.cond (.t 11) .skip (.exit 0))) (.seq (.block 1 (rH [21] kGxIcF_1 [oM 14 0,oF 15 1 3,oF 16 1 15,oL 17 16,oM 18 5,oA 19 4 17 18,oR 20 4 19,
 oX 21 (.row 73 4 [(.t 20)]),oX 22 (.app 73 4 48 (.t 14) (.t 21)),oM 0 22])) (rG kGxIcF_1 [oM 12 5,oB 13 .add (.t 12) (.k (rI .i64 1)),
 oM 5 13])))
def ic132f:IC:=(.seq (rH [3] kGxIcF_1 [oX 3 (.box 107 (.t 1)),oX 4 (.move (.k (.x (.one .nil))))])
 (.seq (.seq (rG kGxIcF_1 [oX 5 (.move (.k (rI .i64 0)))]) (.block 0 (.loop ic132l0f))) (.seq (rG kGxIcF_1 [oM 23 0,oF 24 4 3,
 oR 25 6 24,oX 26 (.call (.k (rF 245)) [(.t 23),(.t 25)]),oM 0 26]) (.seq (rG kGxIcF_1 [oM 27 0,oF 28 10 3,oR 29 6 28,
 oX 30 (.call (.k (rF 245)) [(.t 27),(.t 29)]),oM 4 30]) .ret))))
def ir132f:List IRes:=[.tmp 4]
theorem ie132f:cmpFunc Tryz.prog ⟨[(26,none),(30,none)],[]⟩ Tryz.f167 [1,5,3,11,0,4] = some ic132f:=by kernel_rfl
theorem ig132f:cmpRes Tryz.prog Tryz.f167.results.toList = some ir132f:=by kernel_rfl
abbrev ks99f (t1 t0 t3 t5 t15 t4:T) (O:List (Nat × Box)) (U:List (Nat × Fx.Tok)) (H:FHp):S:=st [(1,t1),(0,t0),(3,t3),(5,t5),(15,t15),(4,t4)] O U H
def ic99l0f:IC:=(.seq (.seq (rG kGxIcF_2 [oM 11 5,oF 12 5 3,oL 13 12,oN 14 13,oB 15 .lss (.t 11) (.t 14)])
 (.cond (.t 15) .skip (.exit 0))) (.seq (.block 1 (rG kGxIcF_2 [oM 18 0,oF 19 5 3,oL 20 19,oM 21 5,oA 22 6 20 21,oR 23 6 22,
 oX 24 (.call (.k (rF 245)) [(.t 18),(.t 23)]),oM 0 24])) (rG kGxIcF_2 [oM 16 5,oB 17 .add (.t 16) (.k (rI .i64 1)),oM 5 17])))
def ic99f:IC:=(.seq (rH [3] kGxIcF_2 [oX 3 (.box 105 (.t 1)),oX 4 (.move (.k (.x (.one .nil))))])
 (.seq (rH [9] kGxIcF_2 [oM 6 0,oF 7 1 3,oR 8 4 7,oX 9 (.row 73 4 [(.t 8)]),oX 10 (.app 73 4 48 (.t 6) (.t 9)),oM 0 10])
 (.seq (.seq (rG kGxIcF_2 [oX 5 (.move (.k (rI .i64 0)))]) (.block 0 (.loop ic99l0f))) (.seq (rG kGxIcF_2 [oM 25 0,
 oM 4 25]) .ret))))
def ir99f:List IRes:=[.tmp 4]
theorem ie99f:cmpFunc Tryz.prog ⟨[(24,none)],[]⟩ Tryz.f245 [1,0,3,5,15,4] = some ic99f:=by kernel_rfl
theorem ig99f:cmpRes Tryz.prog Tryz.f245.results.toList = some ir99f:=by kernel_rfl
end Go.Proofs.YtiomojlcnemnhaaGreatDoor

namespace Go.Proofs.YtiomojlcnemnhaaGreatDoor
open Go.Fx Go.RowKit Go.Ped
variable {G:World→Prop}
abbrev U99 (k n:Nat):List (Nat × Fx.Tok):=[(k,⟨73,4,n⟩)]
set_option maxHeartbeats 2000000 in
theorem m99:∀ e:Ex,e.small 1048576→∀ es:List (List C),es.length + e.terms.length≤100000000 →
    MeetsH Tryz.prog G 245 [.one (.own 10030 es),.agg (e.row.map A.c)] (hp [] (U99 10030 es.length) F0) (.x (.one (.own 10030 (es++e.terms.map Tm.row)))) (hp [] (U99 10030 (es++e.terms.map Tm.row).length) F0):=by
  refine Ex.ind fun op t kids sp ih hs es hle=>?_
  obtain ⟨hl,hk⟩:=Ex.small_mk.1 hs
  rw [Ex.terms_mk] at hle ⊢
  refine meetsH [] Tryz.func245 ie99f ig99f (Nat.le_of_ble_eq_true rfl) (by simp) (by simp [midKey]) (by simp [Ex.row_mk]) (by simp) (by simp) (sameKeys_refl F0) (by simp) (by simp) ?_
  rw [Ex.row_mk]
  simp [ic99f,ir99f]
  have htot:((kids.map fun a=>a.terms.length).sum + 1) + es.length≤100000000:=by
    simp only [List.length_cons,List.length_flatMap] at hle; omega
  refine k_row rfl rfl (by simp) (by simp) ?_
  refine k_app (k:=10030) (es:=es) (q:=⟨73,4,es.length⟩) (by simp) rfl rfl (by simp) (by simp) rfl rfl rfl (by simp [maxLen]; omega) (by simp [maxBytes]; omega) trivial ?_
  simp
  generalize htt:es++t.row :: List.map Tm.row (List.flatMap Ex.terms kids) = tot at *
  have hlen2:es.length + ((kids.map fun a=>a.terms.length).sum + 1) = tot.length:=by rw [← htt]; simp [List.length_flatMap]
  rw [hlen2]
  let k:Nat→List (List C)→T→T→S:=fun j E t15 t1=>ks99f t1 (.k true (.x (.one (.own 10030 E)))) (.k true (.x (.one (.ref 3 0 0)))) (tI .i64 j) t15 (.k true (.x (.one .nil)))
    [(3,⟨105,6,[(Ex.mk op t kids sp).row.map A.c],none⟩)] (U99 10030 E.length) F0
  refine w_loopS [9] (by simp [ownKey]) (fun n σ=>∃ (j:Nat) (E:List (List C)) (t15 t1:T),j + n = kids.length∧E++((kids.drop j).flatMap Ex.terms).map Tm.row = tot∧σ = k j E t15 t1)
    kids.length ⟨0,es++[t.row],_,_,by simp,by simp [← htt],by simp [k,Ex.row_mk,Tm.row]; rfl⟩ ?_
  rintro n σ1 K hK ⟨j,E,t15,t1,hj,hE,rfl⟩
  obtain hlt | hge:=Nat.lt_or_ge j kids.length
  · rw [List.drop_eq_getElem_cons hlt,List.flatMap_cons,List.map_append,← List.append_assoc] at hE
    have hb:E.length + kids[j].terms.length≤100000000:=by
      have:=congrArg List.length hE
      simp at this
      omega
    have hm:=ih kids[j] (List.getElem_mem hlt) (hk _ (List.getElem_mem hlt)) E hb
    have htk:(kids[j].row.map A.c).take 6 = kids[j].row.map A.c:=List.take_of_length_le (by simp)
    simp [k,ic99l0f,hlt,Ex.row_mk]
    refine r_callV _ _ [] _ _ [] _ F0 (MeetsV.of_fun hm) rfl rfl rfl (by simp [htk]) (by simp) (by simp) (by simp) (by simp) (by simp) (by simp) (by simp) (by simp) (sameKeys_refl F0) rfl ?_
    simp [wrap_next hlt (by omega)]
    exact hK _ (n - 1) (by omega) ⟨j + 1,_,_,_,by omega,hE,by simp [k,Ex.row_mk]; rfl⟩
  · rw [List.drop_eq_nil_of_le hge] at hE
    simp at hE
    subst hE
    simp [k,ic99l0f,Nat.not_lt.mpr hge,Ex.row_mk]
    exact ret_st (by simp) (by simp) (by simp) (by simp) (by simp) (by simp)
end Go.Proofs.YtiomojlcnemnhaaGreatDoor

namespace Go.Proofs.YtiomojlcnemnhaaGreatDoor
open Go.Fx Go.RowKit Go.Ped
variable {G:World→Prop}
def swF (a b k:Nat):Nat:=if k = a then b else if k = b then a else k
theorem swF_swF (a b k:Nat):swF a b (swF a b k) = k:=by
  unfold swF; split <;> (try split) <;> (try split) <;> (try split) <;> simp_all
def swR (a b:Nat):Ren:=⟨swF a b,swF a b,swF_swF a b,swF_swF a b⟩
@[simp] theorem swR_f (a b:Nat):(swR a b).f = swF a b:=rfl
theorem c99 (K:Nat) (hK:K < 10000) (e:Ex) (hs:e.small 1048576) (es:List (List C)) (hle:es.length + e.terms.length≤100000000) :
    MeetsV Tryz.prog G (fnA 245) [.one (.own K es),.agg (e.row.map A.c)] (hp [] (U99 K es.length) F0) (.x (.one (.own K (es++e.terms.map Tm.row)))) (hp [] (U99 K (es++e.terms.map Tm.row).length) F0):=by
  have h:=(MeetsV.of_fun (m99 (G:=G) e hs es hle)).ren (π:=swR 10030 K)
  have e1:swF 10030 K 10030 = K:=by simp [swF]
  simp [e1] at h
  simpa using h
set_option maxHeartbeats 2000000 in
theorem m99n (e:Ex) (hs:e.small 1048576) (hle:e.terms.length≤100000000) :
    MeetsH Tryz.prog G 245 [.one .nil,.agg (e.row.map A.c)] (hp [] [] F0) (.x (.one (.own 10 (e.terms.map Tm.row)))) (hp [] (U99 10 (e.terms.map Tm.row).length) F0):=by
  obtain ⟨op,t,kids,sp⟩:=e
  obtain ⟨hl,hk⟩:=Ex.small_mk.1 hs
  rw [Ex.terms_mk] at hle ⊢
  refine meetsH [] Tryz.func245 ie99f ig99f (Nat.le_of_ble_eq_true rfl) (by simp) (by simp) (by simp [Ex.row_mk]) (by simp) (by simp) (sameKeys_refl F0) (by simp) (by simp) ?_
  rw [Ex.row_mk]
  simp [ic99f,ir99f]
  refine k_row rfl rfl (by simp) (by simp) ?_
  refine k_app0 (by simp) rfl rfl (by simp) (by simp) (by simp [maxLen]) (by simp [maxBytes]) ?_
  simp
  have htot:((kids.map fun a=>a.terms.length).sum + 1)≤100000000:=by
    simp only [List.length_cons,List.length_flatMap] at hle; omega
  generalize htt:t.row :: List.map Tm.row (List.flatMap Ex.terms kids) = tot at *
  have hlen2:(kids.map fun a=>a.terms.length).sum + 1 = tot.length:=by rw [← htt]; simp [List.length_flatMap]
  rw [hlen2]
  let k:Nat→List (List C)→T→T→S:=fun j E t15 t1=>ks99f t1 (.k true (.x (.one (.own 10 E)))) (.k true (.x (.one (.ref 3 0 0)))) (tI .i64 j) t15 (.k true (.x (.one .nil)))
    [(3,⟨105,6,[(Ex.mk op t kids sp).row.map A.c],none⟩)] (U99 10 E.length) F0
  refine w_loopS [9] (by simp [ownKey]) (fun n σ=>∃ (j:Nat) (E:List (List C)) (t15 t1:T),j + n = kids.length∧E++((kids.drop j).flatMap Ex.terms).map Tm.row = tot∧σ = k j E t15 t1)
    kids.length ⟨0,[t.row],_,_,by simp,by simp [← htt],by simp [k,Ex.row_mk,Tm.row]; rfl⟩ ?_
  rintro n σ1 K hK ⟨j,E,t15,t1,hj,hE,rfl⟩
  obtain hlt | hge:=Nat.lt_or_ge j kids.length
  · rw [List.drop_eq_getElem_cons hlt,List.flatMap_cons,List.map_append,← List.append_assoc] at hE
    have hb:E.length + kids[j].terms.length≤100000000:=by
      have:=congrArg List.length hE
      simp at this
      omega
    have hm:=c99 (G:=G) 10 (by omega) kids[j] (hk _ (List.getElem_mem hlt)) E hb
    have htk:(kids[j].row.map A.c).take 6 = kids[j].row.map A.c:=List.take_of_length_le (by simp)
    simp [k,ic99l0f,hlt,Ex.row_mk]
    refine r_callV _ _ [] _ _ [] _ F0 hm rfl rfl rfl (by simp [htk]) (by simp) (by simp) (by simp) (by simp) (by simp) (by simp) (by simp) (by simp) (sameKeys_refl F0) rfl ?_
    simp [wrap_next hlt (by omega)]
    exact hK _ (n - 1) (by omega) ⟨j + 1,_,_,_,by omega,hE,by simp [k,Ex.row_mk]; rfl⟩
  · rw [List.drop_eq_nil_of_le hge] at hE
    simp at hE
    subst hE
    simp [k,ic99l0f,Nat.not_lt.mpr hge,Ex.row_mk]
    exact ret_st (by simp) (by simp) (by simp) (by simp) (by simp) (by simp)
end Go.Proofs.YtiomojlcnemnhaaGreatDoor

namespace Go.Proofs.YtiomojlcnemnhaaGreatDoor
open Go.Fx Go.RowKit Go.Ped
variable {G:World→Prop}
def key132 (x:Lit):Nat:=if x.l = [] then 10 else 22
set_option maxHeartbeats 8000000 in
theorem m132 (x:Lit) (hs:x.small 1048576) (hle:x.terms.length≤100000000) :
    MeetsH Tryz.prog G 167 [.one .nil,.agg (x.row.map A.c)] (hp [] [] F0) (.x (.one (.own (key132 x) (x.terms.map Tm.row)))) (hp [] (U99 (key132 x) (x.terms.map Tm.row).length) F0):=by
  obtain ⟨kind,p,l,sp,rel,left,right⟩:=x
  obtain ⟨h1,h2,h3⟩:=hs
  have h1:l.length≤1048576:=h1
  have hrow:(Lit.mk kind p l sp rel left right).row = [cI .i8 kind,cS (bs p),.sl (l.map Tm.row) sp,cI .i8 rel]++left.row++right.row:=rfl
  have hterms:(Lit.mk kind p l sp rel left right).terms = l++left.terms++right.terms:=rfl
  have hkey:key132 (Lit.mk kind p l sp rel left right) = if l = [] then 10 else 22:=rfl
  rw [hterms] at hle ⊢
  rw [hrow,hkey]
  simp only [List.length_append] at hle
  have n1:=m99n (G:=G) left h2 (by omega)
  have n2:=c99 (G:=G) 10 (by omega) right h3 (left.terms.map Tm.row) (by simp; omega)
  have o1:=c99 (G:=G) 22 (by omega) left h2 (l.map Tm.row) (by simp; omega)
  have o2:=c99 (G:=G) 22 (by omega) right h3 (l.map Tm.row++left.terms.map Tm.row) (by simp; omega)
  have l1:=Ex.row_length left
  have l2:=Ex.row_length right
  have tl:(left.terms.map Tm.row).length + l.length + (right.terms.map Tm.row).length≤100000000:=by simp; omega
  simp only [List.map_append]
  generalize left.row = rl at *
  generalize right.row = rr at *
  generalize left.terms.map Tm.row = tL at *
  generalize right.terms.map Tm.row = tR at *
  match rl,rr,l1,l2 with
  | [a1,a2,a3,a4,a5,a6],[b1,b2,b3,b4,b5,b6],_,_ =>
    refine meetsH [] Tryz.func167 ie132f ig132f (Nat.le_of_ble_eq_true rfl) (by simp) (by simp) (by simp) (by simp) (by simp) (sameKeys_refl F0) (by simp) (by simp) ?_
    simp [ic132f,ir132f]
    let k:Nat→T→T→A→List (Nat × Fx.Tok)→S:=fun i t1 t11 a U=>ks132f t1 (tI .i64 i) (.k true (.x (.one (.ref 3 0 0)))) t11 (.k true (.x (.one a))) (.k true (.x (.one .nil)))
      [(3,⟨107,16,[[.c (cI .i8 kind),.c (cS (bs p)),.c (.sl (l.map Tm.row) sp),.c (cI .i8 rel),.c a1,.c a2,.c a3,.c a4,.c a5,.c a6,.c b1,.c b2,.c b3,.c b4,.c b5,.c b6]],none⟩)] U F0
    refine w_loopS [21] (by simp [ownKey]) (fun n σ=>∃ (i:Nat) (t1 t11:T) (a:A) (U:List (Nat × Fx.Tok)),i + n = l.length∧AccN 22 73 4 ((l.take i).map Tm.row) a U∧(i = 0→a = .nil)∧σ = k i t1 t11 a U)
      l.length ⟨0,_,_,_,_,by simp,by simpa using .nil,fun _=>rfl,by simp [k]; rfl⟩ ?_
    rintro n σ1 K hK ⟨i,t1,t11,a,U,hi,hacc,hi0,rfl⟩
    have hsA:A.strike [21] a = a:=hacc.strike (by decide)
    have hsU:strikeU [21] U = U:=hacc.strikeU (by decide)
    obtain hlt | hge:=Nat.lt_or_ge i l.length
    · have htk:(l.take (i + 1)).map Tm.row = (l.take i).map Tm.row++[l[i].row]:=by rw [List.take_succ_eq_append_getElem hlt,List.map_append]; rfl
      have hln:((l.take i).map Tm.row).length = i:=by simp; omega
      have hI:∀ σ':S,(∃ t1 t11 a U,AccN 22 73 4 ((l.take i).map Tm.row++[l[i].row]) a U∧σ'.strike [21] = k (i + 1) t1 t11 a U)→K σ':=by
        rintro σ' ⟨t1,t11,a,U,g1,g2⟩
        exact hK σ' (n - 1) (by omega) ⟨i + 1,t1,t11,a,U,by omega,by rw [htk]; exact g1,fun h=>absurd h (by omega),g2⟩
      clear hK htk
      generalize (l.take i).map Tm.row = es at *
      have hw:=wrap_next hlt (show l.length≤9223372036854775807 by omega)
      simp [k,ic132l0f,hlt,hsA,hsU,Tm.row]
      rcases hacc with ⟨h0,rfl,rfl⟩ | ⟨rfl,rfl⟩
      · obtain rfl:es = []:=h0
        refine k_row rfl rfl (by simp) (by simp) ?_
        refine k_app0 (by simp) rfl rfl (by simp) (by simp) (by simp [maxLen]) (by simp [maxBytes]) ?_
        simp [hw]
        exact hI _ ⟨_,_,_,_,.own rfl,by simp [k,Tm.row]; rfl⟩
      · refine k_row rfl rfl (by simp) (by simp) ?_
        refine k_app (k:=22) (es:=es) (q:=⟨73,4,es.length⟩) (by simp) rfl rfl (by simp) (by simp) rfl rfl (by simp) (by simp [maxLen]; omega) (by simp [maxBytes]; omega) trivial ?_
        simp [hw]
        exact hI _ ⟨_,_,_,_,.own (n:=es.length + 1) (by simp),by simp [k,Tm.row]; rfl⟩
    · have hta:l.take i = l:=List.take_of_length_le hge
      rw [hta] at hacc
      simp [k,ic132l0f,Nat.not_lt.mpr hge]
      rcases hacc with ⟨h0,rfl,rfl⟩ | ⟨rfl,rfl⟩
      · obtain rfl:l = []:=by simpa using h0
        refine r_callV _ _ [] [] _ [] _ F0 (MeetsV.of_fun n1) rfl rfl rfl (by simp) (by simp) (by simp) (by simp) (by simp) (by simp) (by simp) (by simp) (by simp) (sameKeys_refl F0) rfl ?_
        simp
        refine r_callV _ _ [] _ _ [] _ F0 n2 rfl rfl rfl (by simp) (by simp) (by simp) (by simp) (by simp) (by simp) (by simp) (by simp) (by simp) (sameKeys_refl F0) rfl ?_
        simp
        exact ret_st (by simp) (by simp) (by simp) (by simp) (by simp) (by simp)
      · by_cases hl0:l = []
        · have:i = 0:=by subst hl0; simp at hi; omega
          cases hi0 this
        · simp [hl0]
          have q1:(U99 22 (l.map Tm.row).length) = U99 22 l.length:=by simp
          refine r_callV _ _ [] _ _ [] _ F0 o1 rfl rfl rfl (by simp) (by simp) (by simp) (by simp) (by simp) (by simp) (by simp) (by simp) (by simp) (sameKeys_refl F0) rfl ?_
          simp
          refine r_callV _ _ [] _ _ [] _ F0 o2 rfl rfl rfl (by simp) (by simp) (by simp) (by simp) (by simp) (by simp) (by simp) (by simp) (by simp) (sameKeys_refl F0) rfl ?_
          simp
          exact ret_st (by simp) (by simp) (by simp) (by simp) (by simp) (by simp)
theorem m60 (x:Lit) (hs:x.small 1048576) (hle:x.terms.length≤1048576):Meets Tryz.prog G 69 [.agg x.row] (.x (.one (.sl ((tmVars x.terms).map nmRow) []))):=by
  refine meets Tryz.func69 ie60f ig60f (Nat.le_of_ble_eq_true rfl) ?_
  have h:=m132 (G:=G) x hs (by omega)
  have hlen:x.row.length = 16:=by simp [Lit.row]
  have hk:key132 x < 10000:=by unfold key132; split <;> omega
  generalize key132 x = K at *
  generalize x.row = r at *
  have htk:(r.map A.c).take 16 = r.map A.c:=List.take_of_length_le (by simp [hlen])
  simp [ic60f,ir60f,hlen]
  refine r_callV _ _ [] [] _ [] _ F0 (MeetsV.of_fun h) rfl rfl rfl (by simp [htk]) (by simp) (by simp) (by simp) (by simp) (by simp) (by simp) (by simp) (by simpa using hk) (sameKeys_refl F0) rfl ?_
  simp
  refine r_call 141 true _ _ (m98 x.terms [] hle) rfl rfl rfl rfl ?_
  simp
end Go.Proofs.YtiomojlcnemnhaaGreatDoor

import Derived.Test.YtiomojlcnemnhaaGreatDoorRGxLo
import Derived.Test.YtiomojlcnemnhaaGreatDoorRGxLb
import Derived.Test.YtiomojlcnemnhaaGreatDoorRGxW4
namespace Go.Proofs.YtiomojlcnemnhaaGreatDoor
open Go.Fx Go.RowKit Go.Ped
variable {G:World→Prop}
abbrev ON2 (body:C) (ns:List Name) (r pos:Int):List (Nat × Box):=(2,⟨188,1,[[.ref 10009 0 0]],none⟩) :: (4,⟨3,1,[[.c (cI .i64 r)]],none⟩) :: (5,⟨3,1,[[.c (cI .i64 pos)]],none⟩) :: OS 10009 10007 body ns
attribute [simp] ON2
set_option maxRecDepth 100000 in
theorem v220n (Zn Zr:XP) (l:Nat) (ta:Array Value) (body:List Lit) (sb:Sp) (ns:List Name) (m:Nat) (hm:m < 2 ^ 24) (hin:∀ i∈bitsOf m,i < body.length) (hY:∀ i∈bitsOf m,Rounds GB l ta Zn Zr body sb ns i) (r pos pos':Int) (hrun:runOn body ns (bitsOf m) pos = (none,pos')) :
    MeetsV Tryz.prog GB (.clo 328 [] [.ref 1 0 0]) [.one (.yld l ta [2,4,5] [.ref 2 0 0,.ref 4 0 0,.ref 5 0 0])] (hp ((1,⟨190,1,[[.c (cI .u32 m)]],none⟩) :: ON2 (.sl (body.map Lit.row) sb) ns r pos) [] (FX Zn)) (.tup []) (hp ((1,⟨190,1,[[.c (cI .u32 0)]],none⟩) :: ON2 (.sl (body.map Lit.row) sb) ns r pos') [] (FX Zn)):=by
  have h:=((((clo_of (f:=328) (fs:=[]) (args:=[.one (yldN l ta)]) (cs:=[.ref 10001 0 0]) rfl (m220n Zn Zr l ta body sb ns m hm hin hY r pos pos' hrun)).ren (π:=swR 10001 1)).ren (π:=swR 10002 2)).ren (π:=swR 10004 4)).ren (π:=swR 10005 5)
  simp [swF,hp_renX,kn_ren] at h
  simpa using h
set_option maxRecDepth 100000 in
theorem v220s (Zn Zr:XP) (hmk:Zr.mark = Zn.mark) (l:Nat) (ta:Array Value) (body:List Lit) (sb:Sp) (ns:List Name) (m:Nat) (hm:m < 2 ^ 24) (hin:∀ i∈bitsOf m,i < body.length) (hY:∀ i∈bitsOf m,Rounds GB l ta Zn Zr body sb ns i) (r pos pos':Int) (s:Nat) (hrun:runOn body ns (bitsOf m) pos = (some s,pos')) :
    MeetsV Tryz.prog GB (.clo 328 [] [.ref 1 0 0]) [.one (.yld l ta [2,4,5] [.ref 2 0 0,.ref 4 0 0,.ref 5 0 0])] (hp ((1,⟨190,1,[[.c (cI .u32 m)]],none⟩) :: ON2 (.sl (body.map Lit.row) sb) ns r pos) [] (FX Zn)) (.tup []) (hp ((1,⟨190,1,[[.c (cI .u32 (maskOn body ns (bitsOf m) m pos))]],none⟩) :: ON2 (.sl (body.map Lit.row) sb) ns s pos') [] (FX Zr)):=by
  have h:=((((clo_of (f:=328) (fs:=[]) (args:=[.one (yldN l ta)]) (cs:=[.ref 10001 0 0]) rfl (m220s Zn Zr hmk l ta body sb ns m hm hin hY r pos pos' s hrun)).ren (π:=swR 10001 1)).ren (π:=swR 10002 2)).ren (π:=swR 10004 4)).ren (π:=swR 10005 5)
  generalize maskOn body ns (bitsOf m) m pos = M at *
  simp [swF,hp_renX,kn_ren] at h
  simpa using h
def nextL (body:List Lit) (ns:List Name) (m:Nat):Int:=match runOn body ns (bitsOf m) (-1) with | (some i,_)=>i | (none,pos)=>pos
def BodyFit (body:List Lit):Prop:=∀ x∈body,x.small 1048576∧x.terms.length≤1048576∧x.l.length≤24
theorem lit16 (x:Lit):x.row = [cI .i8 x.kind,cS (bs x.p),.sl (x.l.map Tm.row) x.sp,cI .i8 x.rel,cI .i8 x.left.op,cS (bs x.left.t.v),cI .i8 x.left.t.x.k,cI .i64 x.left.t.x.n,cS (bs x.left.t.x.s),.sl (x.left.kids.map Ex.row) x.left.sp,cI .i8 x.right.op,cS (bs x.right.t.v),cI .i8 x.right.t.x.k,cI .i64 x.right.t.x.n,cS (bs x.right.t.x.s),.sl (x.right.kids.map Ex.row) x.right.sp]:=by
  unfold Lit.row
  rw [Ex.row_eq x.left,Ex.row_eq x.right]
  rfl
end Go.Proofs.YtiomojlcnemnhaaGreatDoor

namespace Go.Proofs.YtiomojlcnemnhaaGreatDoor
open Go.Fx Go.RowKit Go.Ped
variable {G:World→Prop}
theorem m2238 (n:Nat) (hn:n≤24):Meets Tryz.prog G 238 [.one (cI .i64 n)] (.x (.one (cI .u32 ((2 ^ n - 1:Nat):Int)))):=by
  refine meets Tryz.func238 ie2238 ig2238 (Nat.le_of_ble_eq_true rfl) ?_
  simp only [ic2238,ir2238]
  simp
  refine w_loopA [] [] [0,3,4] (by simp)
    (fun a:Nat × Nat=>st [(0,tI .i64 n),(3,.k true (rI .u32 a.2)),(4,tI .i64 a.1)] [] [] F0) (fun a=>n - a.1) (fun a=>a.1≤n∧a.2 = 2 ^ a.1 - 1) (0,0) (by simp) ⟨Nat.zero_le _,rfl⟩ ?_
  rintro ⟨i,m⟩ K hK ⟨hi,hm⟩
  simp only at hi hm
  have hp:∀ k,k≤24→2 ^ k≤16777216:=fun k hk=>Nat.pow_le_pow_right (show 0 < 2 by omega) hk
  obtain hlt | hge:=Nat.lt_or_ge i n
  · have h1:=hp i (by omega)
    have h2:=Nat.one_le_two_pow (n:=i)
    have w1:IntKind.u32.wrap ((m:Int) * 2) = ((m * 2:Nat):Int):=by
      rw [show (m:Int) * 2 = ((m * 2:Nat):Int) by omega]
      exact wrap_u32 _ (by omega)
    have w2:IntKind.u32.wrap (((m * 2:Nat):Int) + 1) = ((m * 2 + 1:Nat):Int):=by
      rw [show ((m * 2:Nat):Int) + 1 = ((m * 2 + 1:Nat):Int) by omega]
      exact wrap_u32 _ (by omega)
    simp [ic2238l0,hlt,w1]
    rw [show (m:Int) * 2 = ((m * 2:Nat):Int) by omega,w2]
    simp (disch:=omega) only [wrap64]
    exact hK (i + 1,m * 2 + 1) _ (by simp) ⟨by omega,by rw [Nat.pow_succ]; omega⟩ (by show _ - _ < _; omega)
  · obtain rfl:i = n:=by omega
    simp [ic2238l0]
    rw [hm]
theorem m2235 (known:List Name) (sk:Sp) (p:Name) (l:List Tm) (sp:Sp) (hl:l.length≤24):Meets Tryz.prog G 235 [.agg [cS (bs p),.sl (l.map Tm.row) sp],.one (.sl (known.map nmRow) sk)] (.x (.one (cI .u32 (markOf known l)))):=by
  refine meets Tryz.func235 ie2235 ig2235 (Nat.le_of_ble_eq_true rfl) ?_
  simp [ic2235,ir2235]
  refine w_loopA [] [] [1,2,5,6,7] (by simp)
    (fun a:Nat × Nat × Nat=>st [(1,.k true (.x (.one (.c (.sl (known.map nmRow) sk))))),(2,.k true (.x (.one (.ref 2 0 0)))),(5,.k true (rI .u32 a.2.1)),(6,.k true (rI .u32 a.2.2)),(7,tI .i64 a.1)] [(2,⟨25,2,[[.c (cS (bs p)),.c (.sl (l.map Tm.row) sp)]],none⟩)] [] F0)
    (fun a=>l.length - a.1) (fun a=>a.1≤l.length∧a.2.1 = markOf known (l.take a.1)∧a.2.2 = 2 ^ a.1) (0,0,1) (by simp) ⟨Nat.zero_le _,rfl,rfl⟩ ?_
  rintro ⟨i,m,b⟩ K hK ⟨hi,hm,hb⟩
  simp only at hi hm hb
  have hp:∀ k,k≤24→2 ^ k≤16777216:=fun k hk=>Nat.pow_le_pow_right (show 0 < 2 by omega) hk
  obtain hlt | hge:=Nat.lt_or_ge i l.length
  · have h1:=hp i (by omega)
    have h2:=mark_lt known (l.take i)
    rw [List.length_take,Nat.min_eq_left (by omega)] at h2
    have hget:l[i]? = some l[i]:=List.getElem?_eq_getElem hlt
    have hr:l[i].row = [cS (bs l[i].v),cI .i8 l[i].x.k,cI .i64 l[i].x.n,cS (bs l[i].x.s)]:=rfl
    have h237:=m2237' (G:=G) known l[i].v sk
    have ht:=mark_take known l i hlt
    have w1:IntKind.u32.wrap ((m:Int) + (b:Int)) = ((m + b:Nat):Int):=by
      rw [show (m:Int) + (b:Int) = ((m + b:Nat):Int) by omega]
      exact wrap_u32 _ (by omega)
    have w2:IntKind.u32.wrap ((b:Int) * 2) = ((b * 2:Nat):Int):=by
      rw [show (b:Int) * 2 = ((b * 2:Nat):Int) by omega]
      exact wrap_u32 _ (by omega)
    have hb2:b * 2 = 2 ^ (i + 1):=by rw [hb,Nat.pow_succ]
    by_cases hv:l[i].v = []
    · rw [if_pos (.inl hv)] at ht
      simp [ic2235l0,hlt,hr,hv]
      refine call_no (.x (.one (cB true))) ?_
      simp [w1,w2]
      simp (disch:=omega) only [wrap64]
      exact hK (i + 1,m + b,b * 2) _ (by simp) ⟨by omega,by rw [ht,← hm,← hb],hb2⟩ (by show _ - _ < _; omega)
    · have he:l[i].v.isEmpty = false:=by simpa using hv
      cases hc:known.contains l[i].v with
      | true =>
        rw [hc] at h237
        rw [if_pos (.inr hc)] at ht
        simp [ic2235l0,hlt,hr,he]
        refine call_of h237 ?_
        simp [w1,w2]
        simp (disch:=omega) only [wrap64]
        exact hK (i + 1,m + b,b * 2) _ (by simp) ⟨by omega,by rw [ht,← hm,← hb],hb2⟩ (by show _ - _ < _; omega)
      | false =>
        rw [hc] at h237
        rw [if_neg (by rintro (h | h); exact hv h; rw [hc] at h; cases h)] at ht
        simp [ic2235l0,hlt,hr,he]
        refine call_of h237 ?_
        simp [w2]
        simp (disch:=omega) only [wrap64]
        exact hK (i + 1,m,b * 2) _ (by simp) ⟨by omega,by rw [ht,← hm]; rfl,hb2⟩ (by show _ - _ < _; omega)
  · obtain rfl:i = l.length:=by omega
    rw [List.take_length] at hm
    simp [ic2235l0]
    rw [hm]
def aloneOf (e:Ex):Name:=if e.op = 0 then e.t.v else []
theorem m2288 (e:Ex):Meets Tryz.prog G 288 [.agg e.row] (.x (.one (cS (bs (aloneOf e))))):=by
  refine meets Tryz.func288 ie2288 ig2288 (Nat.le_of_ble_eq_true rfl) ?_
  rw [Ex.row_eq]
  unfold aloneOf
  by_cases h:e.op = 0
  · simp [ic2288,ir2288,h]
  · simp [ic2288,ir2288,h]
def setsOf (x:Lit) (known:List Name):Name :=
  if x.kind = 3∧x.rel = 1 then
    if aloneOf x.left≠[]∧known.contains (aloneOf x.left) = false∧allIn (tmVars x.right.terms) known = true then aloneOf x.left
    else if aloneOf x.right≠[]∧known.contains (aloneOf x.right) = false∧allIn (tmVars x.left.terms) known = true then aloneOf x.right
    else []
  else []
set_option maxHeartbeats 4000000 in
theorem m2236 (x:Lit) (known:List Name) (sk:Sp) (hf:x.fit):Meets Tryz.prog G 236 [.agg x.row,.one (.sl (known.map nmRow) sk)] (.x (.one (cS (bs (setsOf x known))))):=by
  obtain ⟨⟨_,hs1,hs2⟩,hl1,hl2⟩:=hf
  have a1:=m2288 (G:=G) x.left
  have a2:=m2288 (G:=G) x.right
  have b1:=m2237' (G:=G) known (aloneOf x.left) sk
  have b2:=m2237' (G:=G) known (aloneOf x.right) sk
  have c1:=m28 (G:=G) x.right hs2 hl2
  have c2:=m28 (G:=G) x.left hs1 hl1
  have d1:=m2233' (G:=G) (tmVars x.right.terms) known [] sk
  have d2:=m2233' (G:=G) (tmVars x.left.terms) known [] sk
  refine meets Tryz.func236 ie2236 ig2236 (Nat.le_of_ble_eq_true rfl) ?_
  generalize hR:setsOf x known = R
  unfold setsOf at hR
  rw [lit16 x]
  rw [Ex.row_eq] at a1 a2 c1 c2
  generalize aloneOf x.left = L at *
  generalize aloneOf x.right = M at *
  generalize allIn (tmVars x.right.terms) known = u at *
  generalize allIn (tmVars x.left.terms) known = v at *
  by_cases hk:x.kind = 3
  · by_cases hrel:x.rel = 1
    · rw [if_pos ⟨hk,hrel⟩] at hR
      simp [ic2236,ir2236,hk,hrel]
      refine call_of a1 ?_
      simp
      refine call_of a2 ?_
      simp
      by_cases hL:L = []
      · rw [if_neg (fun h=>h.1 hL)] at hR
        subst hL
        simp
        refine call_no (.x (.one (cB true))) ?_
        simp
        refine call_no (.x (.one (.sl [] []))) ?_
        simp
        refine call_no (.x (.one (cB true))) ?_
        by_cases hM:M = []
        · rw [if_neg (fun h=>h.1 hM)] at hR
          subst hM hR
          simp
          refine call_no (.x (.one (cB true))) ?_
          simp
          refine call_no (.x (.one (.sl [] []))) ?_
          simp
          refine call_no (.x (.one (cB true))) ?_
          simp
        · have hMe:M.isEmpty = false:=by simpa using hM
          simp [hMe]
          refine call_of b2 ?_
          cases cb:known.contains M with
          | true =>
            rw [if_neg (fun h=>by rw [cb] at h; cases h.2.1)] at hR
            subst hR
            simp
            refine call_no (.x (.one (.sl [] []))) ?_
            simp
            refine call_no (.x (.one (cB true))) ?_
            simp
          | false =>
            simp
            refine call_of c2 ?_
            simp
            refine call_of d2 ?_
            cases v with
            | true =>
              rw [if_pos ⟨hM,cb,rfl⟩] at hR
              subst hR
              simp
            | false =>
              rw [if_neg (fun h=>by cases h.2.2)] at hR
              subst hR
              simp
      · have hLe:L.isEmpty = false:=by simpa using hL
        simp [hLe]
        refine call_of b1 ?_
        cases cb0:known.contains L with
        | true =>
          rw [if_neg (fun h=>by rw [cb0] at h; cases h.2.1)] at hR
          simp
          refine call_no (.x (.one (.sl [] []))) ?_
          simp
          refine call_no (.x (.one (cB true))) ?_
          by_cases hM:M = []
          · rw [if_neg (fun h=>h.1 hM)] at hR
            subst hM hR
            simp
            refine call_no (.x (.one (cB true))) ?_
            simp
            refine call_no (.x (.one (.sl [] []))) ?_
            simp
            refine call_no (.x (.one (cB true))) ?_
            simp
          · have hMe:M.isEmpty = false:=by simpa using hM
            simp [hMe]
            refine call_of b2 ?_
            cases cb:known.contains M with
            | true =>
              rw [if_neg (fun h=>by rw [cb] at h; cases h.2.1)] at hR
              subst hR
              simp
              refine call_no (.x (.one (.sl [] []))) ?_
              simp
              refine call_no (.x (.one (cB true))) ?_
              simp
            | false =>
              simp
              refine call_of c2 ?_
              simp
              refine call_of d2 ?_
              cases v with
              | true =>
                rw [if_pos ⟨hM,cb,rfl⟩] at hR
                subst hR
                simp
              | false =>
                rw [if_neg (fun h=>by cases h.2.2)] at hR
                subst hR
                simp
        | false =>
          simp
          refine call_of c1 ?_
          simp
          refine call_of d1 ?_
          cases u with
          | true =>
            rw [if_pos ⟨hL,cb0,rfl⟩] at hR
            subst hR
            simp
          | false =>
            rw [if_neg (fun h=>by cases h.2.2)] at hR
            by_cases hM:M = []
            · rw [if_neg (fun h=>h.1 hM)] at hR
              subst hM hR
              simp
              refine call_no (.x (.one (cB true))) ?_
              simp
              refine call_no (.x (.one (.sl [] []))) ?_
              simp
              refine call_no (.x (.one (cB true))) ?_
              simp
            · have hMe:M.isEmpty = false:=by simpa using hM
              simp [hMe]
              refine call_of b2 ?_
              cases cb:known.contains M with
              | true =>
                rw [if_neg (fun h=>by rw [cb] at h; cases h.2.1)] at hR
                subst hR
                simp
                refine call_no (.x (.one (.sl [] []))) ?_
                simp
                refine call_no (.x (.one (cB true))) ?_
                simp
              | false =>
                simp
                refine call_of c2 ?_
                simp
                refine call_of d2 ?_
                cases v with
                | true =>
                  rw [if_pos ⟨hM,cb,rfl⟩] at hR
                  subst hR
                  simp
                | false =>
                  rw [if_neg (fun h=>by cases h.2.2)] at hR
                  subst hR
                  simp
    · rw [if_neg (fun h=>hrel h.2)] at hR
      subst hR
      simp [ic2236,ir2236,hk,hrel]
  · rw [if_neg (fun h=>hk h.1)] at hR
    subst hR
    simp [ic2236,ir2236,hk]
end Go.Proofs.YtiomojlcnemnhaaGreatDoor

namespace Go.Proofs.YtiomojlcnemnhaaGreatDoor
open Go.Fx Go.RowKit Go.Ped
variable {G:World→Prop}
def roundOn:List Name→List Lit→List Name
  | l,[]=>l
  | l,x :: xs=>roundOn (if setsOf x l = [] then l else l++[setsOf x l]) xs
def sidesOf (body:List Lit):List Name:=body.flatMap fun x=>[aloneOf x.left,aloneOf x.right]
def wantOf (body:List Lit) (l:List Name):Nat:=((sidesOf body).filter fun v=>!l.contains v).length
theorem sets_of {x:Lit} {l:List Name} (h:setsOf x l≠[]):x.kind = 3∧x.rel = 1∧l.contains (setsOf x l) = false∧((setsOf x l = aloneOf x.left∧allIn (tmVars x.right.terms) l = true)∨(setsOf x l = aloneOf x.right∧allIn (tmVars x.left.terms) l = true)):=by
  unfold setsOf at h ⊢
  split at h
  · rename_i hk
    rw [if_pos hk]
    split at h
    · rename_i h1
      rw [if_pos h1]
      exact ⟨hk.1,hk.2,h1.2.1,.inl ⟨rfl,h1.2.2⟩⟩
    · rename_i h1
      rw [if_neg h1]
      split at h
      · rename_i h2
        rw [if_pos h2]
        exact ⟨hk.1,hk.2,h2.2.1,.inr ⟨rfl,h2.2.2⟩⟩
      · exact absurd rfl h
  · exact absurd rfl h
theorem want_less {body:List Lit} {x:Lit} (hx:x∈body) {l:List Name} (h:setsOf x l≠[]):wantOf body (l++[setsOf x l]) < wantOf body l:=by
  obtain ⟨_,_,h1,h2⟩:=sets_of h
  generalize setsOf x l = v at *
  have hv:v∈sidesOf body:=by
    unfold sidesOf
    refine List.mem_flatMap.2 ⟨x,hx,?_⟩
    rcases h2 with ⟨e,_⟩ | ⟨e,_⟩ <;> simp [e]
  unfold wantOf
  have:(fun u=>!(l++[v]).contains u) = fun u=>(!(u == v)) && (!l.contains u):=by
    funext u
    rw [List.contains_eq_any_beq,List.contains_eq_any_beq,List.any_append]
    simp [Bool.not_or,Bool.and_comm]
  rw [this,← List.filter_filter]
  generalize hF:(sidesOf body).filter (fun v=>!l.contains v) = F
  have hvF:v∈F:=by rw [← hF]; exact List.mem_filter.2 ⟨hv,by rw [h1]; rfl⟩
  rcases Nat.lt_or_ge (F.filter fun u=>!(u == v)).length F.length with h | h
  · exact h
  · have:=(List.filter_sublist (p:=fun u=>!(u == v)) (l:=F)).eq_of_length_le h
    have:=(List.filter_eq_self.1 this) v hvF
    simp at this
theorem round_spec {body:List Lit}:∀ {xs:List Lit} {l:List Name},(∀ x∈xs,x∈body)→(roundOn l xs = l)∨(l.length < (roundOn l xs).length∧wantOf body (roundOn l xs) < wantOf body l)
  | [],l,_=>.inl rfl
  | x :: xs,l,h=>by
    have hx:=h x (List.mem_cons_self ..)
    have hxs:∀ y∈xs,y∈body:=fun y hy=>h y (List.mem_cons_of_mem _ hy)
    rw [roundOn]
    by_cases he:setsOf x l = []
    · rw [if_pos he]
      exact round_spec hxs
    · rw [if_neg he]
      have h1:=want_less hx he
      rcases round_spec (l:=l++[setsOf x l]) hxs with h2 | ⟨h2,h3⟩
      · rw [h2]
        exact .inr ⟨by simp,h1⟩
      · exact .inr ⟨by simp at h2; omega,by omega⟩
theorem round_app (l:List Name):∀ (xs ys:List Lit),roundOn l (xs++ys) = roundOn (roundOn l xs) ys:=fun xs ys=>by
  induction xs generalizing l with
  | nil=>rfl
  | cons x xs ih=>rw [List.cons_append,roundOn,roundOn,ih]
theorem round_len:∀ (xs:List Lit) (l:List Name),l.length≤(roundOn l xs).length∧(roundOn l xs).length≤l.length + xs.length
  | [],l=>⟨Nat.le_refl _,Nat.le_refl _⟩
  | x :: xs,l=>by
    rw [roundOn]
    by_cases h:setsOf x l = []
    · have:=round_len xs l
      rw [if_pos h,List.length_cons]; omega
    · have:=round_len xs (l++[setsOf x l])
      rw [if_neg h,List.length_cons]
      simp only [List.length_append,List.length_cons,List.length_nil] at this
      omega
def limRec (body:List Lit) (l:List Name):List Name:=if _h:wantOf body (roundOn l body) < wantOf body l then limRec body (roundOn l body) else l
termination_by wantOf body l
theorem want_le (body:List Lit) (l:List Name):wantOf body l≤2 * body.length:=by
  unfold wantOf
  refine Nat.le_trans (List.length_filter_le _ _) ?_
  unfold sidesOf
  induction body with
  | nil=>simp
  | cons x b ih=>rw [List.flatMap_cons]; simp only [List.length_append,List.length_cons,List.length_nil]; omega
def posOn:List Lit→List Name
  | []=>[]
  | x :: l=>(if x.kind = 1 then tmVars x.terms else [])++posOn l
theorem pos_len:∀ l:List Lit,(posOn l).length≤(l.flatMap Lit.terms).length
  | []=>by simp [posOn]
  | x :: l=>by
    have h1:=pos_len l
    have h2:=tmVars_len x.terms
    have h3:(if x.kind = 1 then tmVars x.terms else []).length≤x.terms.length:=by
      split
      · exact h2
      · exact Nat.zero_le _
    rw [posOn,List.flatMap_cons,List.length_append,List.length_append]
    omega
def limitedOf (body:List Lit) (known:List Name):List Name:=limRec body (known++posOn body)
set_option maxHeartbeats 4000000 in
theorem m2234 (body:List Lit) (sb:Sp) (known:List Name) (sk:Sp) (hs:∀ x∈body,x.fit) (hs2:∀ x∈body,x.terms.length≤1048576) (hb:body.length≤1048576) (hl:known.length + (body.flatMap Lit.terms).length≤4000000) :
    Meets Tryz.prog G 234 [.one (.sl (body.map Lit.row) sb),.one (.sl (known.map nmRow) sk)] (.x (.one (.sl ((limitedOf body known).map nmRow) []))):=by
  refine meets Tryz.func234 ie2234 ig2234 (Nat.le_of_ble_eq_true rfl) ?_
  have hpl:=pos_len body
  generalize hR:limitedOf body known = R
  unfold limitedOf at hR
  simp [ic2234,ir2234]
  refine ⟨by unfold maxLen; omega,by unfold maxBytes; omega,?_⟩
  refine w_loopA [] [] [0,5,6] (by simp [ownKey])
    (fun a:Nat × List Name=>st [(0,.k true (.x (.one (.c (.sl (body.map Lit.row) sb))))),(5,.k true (.x (.one (.own 10 (a.2.map nmRow))))),(6,tI .i64 a.1)] [] [(10,⟨9,1,a.2.length⟩)] F0) (fun a=>body.length - a.1)
    (fun a=>a.1≤body.length∧a.2++posOn (body.drop a.1) = known++posOn body) (0,known) (by simp) (by simp) ?_
  rintro ⟨i,N⟩ K hK ⟨hi,hN⟩
  simp only at hi hN
  have hNl:=congrArg List.length hN
  rw [List.length_append,List.length_append] at hNl
  obtain hlt | hge:=Nat.lt_or_ge i body.length
  · rw [List.drop_eq_getElem_cons hlt,posOn] at hN hNl
    by_cases hk:body[i].kind = 1
    · have h60:=m60 (G:=G) body[i] (hs _ (List.getElem_mem hlt)).1 (hs2 _ (List.getElem_mem hlt))
      rw [if_pos hk] at hN hNl
      rw [List.length_append] at hNl
      simp [ic2234l0,hlt,hk]
      refine call_of h60 ?_
      simp
      refine ⟨by unfold maxLen; omega,by unfold maxBytes; omega,?_⟩
      simp (disch:=omega) only [wrap64]
      exact hK (i + 1,N++tmVars body[i].terms) _ (by simp) ⟨by simp; omega,by simp only; rw [List.append_assoc]; exact hN⟩ (by simp; omega)
    · rw [if_neg hk,List.nil_append] at hN
      simp [ic2234l0,hlt,hk]
      simp (disch:=omega) only [wrap64]
      exact hK (i + 1,N) _ (by simp) ⟨by simp; omega,hN⟩ (by simp; omega)
  · rw [List.drop_eq_nil_of_le hge,posOn,List.append_nil] at hN
    rw [← hN] at hR
    have hNb:N.length≤4000000:=by omega
    simp [ic2234l0,Nat.not_lt.mpr hge]
    refine w_loopA [] [] [0,5,7] (by simp [ownKey])
      (fun a:List Name × Bool=>st [(0,.k true (.x (.one (.c (.sl (body.map Lit.row) sb))))),(5,.k true (.x (.one (.own 10 (a.1.map nmRow))))),(7,tB a.2)] [] [(10,⟨9,1,a.1.length⟩)] F0) (fun a=>if a.2 then wantOf body a.1 + 1 else 0)
      (fun a=>(if a.2 then limRec body a.1 else a.1) = R∧a.1.length + wantOf body a.1≤4000000 + 2 * body.length) (N,true) (by simp) ⟨hR,by have:=want_le body N; simp only; omega⟩ ?_
    rintro ⟨l,q⟩ K2 hK2 ⟨h1,h2⟩
    simp only at h1 h2
    cases q with
    | false =>
      simp only [Bool.false_eq_true,if_false] at h1
      simp [ic2234l2]
      rw [h1]
    | true =>
      simp only [if_true] at h1
      simp [ic2234l2]
      refine w_loopA [] [49] [0,5,7,8] (by simp [ownKey])
        (fun a:Nat × List Name × Bool=>st [(0,.k true (.x (.one (.c (.sl (body.map Lit.row) sb))))),(5,.k true (.x (.one (.own 10 (a.2.1.map nmRow))))),(7,tB a.2.2),(8,tI .i64 a.1)] [] [(10,⟨9,1,a.2.1.length⟩)] F0) (fun a=>body.length - a.1)
        (fun a=>a.1≤body.length∧a.2.1 = roundOn l (body.take a.1)∧a.2.2 = decide (l.length < a.2.1.length)∧a.2.1.length + wantOf body a.2.1≤4000000 + 2 * body.length) (0,l,false) (by simp) ⟨Nat.zero_le _,rfl,by simp,h2⟩ ?_
      rintro ⟨j,m,b⟩ K3 hK3 ⟨hj,hm,hb3,hm2⟩
      simp only at hj hm hb3 hm2
      obtain hlt | hge:=Nat.lt_or_ge j body.length
      · have h236:=m2236 (G:=G) body[j] m [] (hs _ (List.getElem_mem hlt))
        have hrd:roundOn l (body.take (j + 1)) = if setsOf body[j] m = [] then m else m++[setsOf body[j] m]:=by rw [List.take_succ_eq_append_getElem hlt,round_app,← hm]; rfl
        have hwl:setsOf body[j] m≠[]→wantOf body (m++[setsOf body[j] m]) < wantOf body m:=fun h=>want_less (List.getElem_mem hlt) h
        have hln:=(round_len (body.take j) l).1
        rw [← hm] at hln
        generalize setsOf body[j] m = s at *
        by_cases he:s = []
        · rw [if_pos he] at hrd
          subst he
          simp [ic2234l1,hlt]
          refine call_of h236 ?_
          simp
          simp (disch:=omega) only [wrap64]
          exact hK3 (j + 1,m,b) _ (by simp) ⟨by simp; omega,hrd.symm,hb3,hm2⟩ (by simp; omega)
        · rw [if_neg he] at hrd
          have hw:=hwl he
          have hse:s.isEmpty = false:=by simpa using he
          simp [ic2234l1,hlt]
          refine call_of h236 ?_
          simp [hse]
          have hmb:m.length≤8000000:=by omega
          refine ⟨by unfold maxLen; omega,by unfold maxBytes; omega,?_⟩
          simp (disch:=omega) only [wrap64]
          exact hK3 (j + 1,m++[s],true) _ (by simp) ⟨by simp; omega,hrd.symm,by simp; omega,by simp; omega⟩ (by simp; omega)
      · rw [List.take_of_length_le hge] at hm
        simp [ic2234l1,Nat.not_lt.mpr hge]
        rw [limRec] at h1
        rw [← hm] at h1
        rcases round_spec (body:=body) (xs:=body) (l:=l) (fun x hx=>hx) with he | ⟨he1,he2⟩
        · rw [← hm] at he
          have hbf:b = false:=by rw [hb3,he]; simp
          rw [dif_neg (by rw [he]; omega),← he] at h1
          subst hbf
          exact hK2 (m,false) _ (by simp) ⟨h1,hm2⟩ (by simp)
        · rw [← hm] at he1 he2
          have hbt:b = true:=by rw [hb3]; simpa using he1
          rw [dif_pos he2] at h1
          subst hbt
          exact hK2 (m,true) _ (by simp) ⟨h1,hm2⟩ (by simpa using he2)
end Go.Proofs.YtiomojlcnemnhaaGreatDoor

namespace Go.Proofs.YtiomojlcnemnhaaGreatDoor
open Go.Fx Go.RowKit Go.Ped
variable {G:World→Prop}
def leafV (m:List Tm) (t:Tm):Option Val:=if t.v = [] then some t.x else match bindOf m t.v with | some w=>if w.ok then some w else none | none=>none
mutual
def Ex.val (m:List Tm):Ex→Option Val
  | .mk op t kids _=>if op = 0 then leafV m t else match exVals m kids with | none=>none | some vs=>arithV op vs
def exVals (m:List Tm):List Ex→Option (List Val)
  | []=>some []
  | e :: l=>match e.val m with | none=>none | some v=>match exVals m l with | none=>none | some vs=>some (v :: vs)
end
end Go.Proofs.YtiomojlcnemnhaaGreatDoor

namespace Go.Proofs.YtiomojlcnemnhaaGreatDoor
open Go.Fx Go.RowKit Go.Ped
theorem exOk_leaf {d:Nat} {t:Tm} {kids:List Ex} {sp:Sp} (h:exOk d (.mk 0 t kids sp) = true):kids = []∧t.v≠us∧t.ok = true:=by
  cases d with
  | zero=>cases h
  | succ d =>
    rw [exOk,if_pos rfl] at h
    simp only [Bool.and_eq_true,List.isEmpty_iff,solidOk,bne_iff_ne] at h
    exact ⟨h.1,h.2.1,h.2.2⟩
end Go.Proofs.YtiomojlcnemnhaaGreatDoor

namespace Go.Proofs.YtiomojlcnemnhaaGreatDoor
open Go.Fx Go.RowKit Go.Ped
theorem mem_tmVarsL {v:Name} {l:List Tm}:v∈tmVars l↔Ped.isVar v = true∧v∈l.map Tm.v:=by
  show v∈varsOn [] _↔_
  rw [mem_varsOn]
  constructor
  · rintro (h | h)
    · cases h
    · exact h
  · exact .inr
theorem lit_bare {x:Lit} (h:litOk x = true) (hk:¬ x.kind = 1) (hk2:¬ x.kind = 2):x.l = []:=by
  unfold litOk at h
  rw [if_neg (by rintro (e | e); exact hk e; exact hk2 e)] at h
  split at h
  · simp only [Bool.and_eq_true,List.isEmpty_iff] at h
    exact h.1.1.1.1.2
  · cases h
theorem mem_vars_lit {x:Lit} {v:Name}:v∈tmVars x.terms↔v∈tmVars x.l∨v∈tmVars x.left.terms∨v∈tmVars x.right.terms:=by
  simp only [mem_tmVarsL,Lit.terms,List.map_append,List.mem_append]
  constructor
  · rintro ⟨h,(h1 | h1) | h1⟩
    · exact .inl ⟨h,h1⟩
    · exact .inr (.inl ⟨h,h1⟩)
    · exact .inr (.inr ⟨h,h1⟩)
  · rintro (⟨h,h1⟩ | ⟨h,h1⟩ | ⟨h,h1⟩)
    · exact ⟨h,.inl (.inl h1)⟩
    · exact ⟨h,.inl (.inr h1)⟩
    · exact ⟨h,.inr h1⟩
theorem word_var {v:Name} (h:wordOk 65 90 v = true):Ped.isVar v = true:=by
  cases v with
  | nil=>cases h
  | cons b l =>
    have:¬ b :: l = us:=by
      intro e
      rw [wordOk] at h
      simp only [Bool.and_eq_true,decide_eq_true_eq] at h
      injection e with e1 e2
      subst e1
      have:=h.1.1.2
      revert this
      decide
    simp [Ped.isVar,this]
theorem kn_words:∀ {acc ks:List Name},knOkOn acc ks = true→∀ v∈ks,wordOk 65 90 v = true
  | acc,[],_,v,hv=>by cases hv
  | acc,k :: ks,h,v,hv=>by
    rw [knOkOn] at h
    simp only [Bool.and_eq_true] at h
    rcases List.mem_cons.1 hv with rfl | hv
    · exact h.1.1
    · exact kn_words h.2 v hv
theorem alone_lone {d:Nat} {e:Ex} (h:exOk d e = true):aloneOf e = loneOf e:=by
  obtain ⟨op,t,kids,sp⟩:=e
  unfold aloneOf loneOf
  by_cases h0:op = 0
  · subst h0
    obtain ⟨h1,h2,_⟩:=exOk_leaf h
    simp [h1,h2]
  · simp [h0]
theorem none_vars {e:Ex} (h:exNone e = true):tmVars e.terms = []:=by
  obtain ⟨op,t,kids,sp⟩:=e
  unfold exNone at h
  simp only [Bool.and_eq_true,beq_iff_eq,List.isEmpty_iff,Ex.op_mk,Ex.t_mk,Ex.kids_mk] at h
  obtain ⟨⟨rfl,rfl⟩,rfl⟩:=h
  rw [Ex.terms_mk]
  rfl
theorem lit_side {x:Lit} (h:litOk x = true) (hk:x.kind = 3):exOk 8 x.left = true∧exOk 8 x.right = true:=by
  unfold litOk at h
  rw [if_neg (by omega),if_pos hk] at h
  simp only [Bool.and_eq_true] at h
  exact ⟨h.1.2,h.2⟩
theorem lit_atomV {x:Lit} (h:litOk x = true) (hk:x.kind = 1∨x.kind = 2) {v:Name}:v∈tmVars x.terms↔v∈tmVars x.l:=by
  unfold litOk at h
  rw [if_pos hk] at h
  simp only [Bool.and_eq_true] at h
  rw [mem_vars_lit,none_vars h.1.2,none_vars h.2]
  simp
theorem lit_kind {x:Lit} (h:litOk x = true):x.kind = 1∨x.kind = 2∨x.kind = 3:=by
  unfold litOk at h
  split at h
  · rename_i hk
    rcases hk with hk | hk
    · exact .inl hk
    · exact .inr (.inl hk)
  · split at h
    · rename_i hk; exact .inr (.inr hk)
    · cases h
theorem round_in {S:Name→Prop} {body:List Lit} (hlit:∀ x∈body,litOk x = true) (hc:Closed S (eqsOf body)):∀ (xs:List Lit) (l:List Name),(∀ x∈xs,x∈body)→(∀ v∈l,S v)→∀ v∈roundOn l xs,S v
  | [],l,_,hl=>hl
  | x :: xs,l,h,hl=>by
    have hx:=h x (List.mem_cons_self ..)
    rw [roundOn]
    refine round_in hlit hc xs _ (fun y hy=>h y (List.mem_cons_of_mem _ hy)) ?_
    split
    · exact hl
    · rename_i hs
      intro v hv
      rcases List.mem_append.1 hv with hv | hv
      · exact hl v hv
      · obtain rfl:=List.mem_singleton.1 hv
        obtain ⟨hk,hr,_,h2⟩:=sets_of hs
        obtain ⟨o1,o2⟩:=lit_side (hlit x hx) hk
        have hq:=hc _ (mem_eqsOf.2 ⟨x,hx,by simp [isEqn,hk,hr],rfl⟩)
        rcases h2 with ⟨e,ha⟩ | ⟨e,ha⟩
        · rw [e,alone_lone o1]
          exact hq.1 (by rw [e,alone_lone o1] at hs; exact hs) fun u hu=>hl u (allIn_iff.1 ha u hu)
        · rw [e,alone_lone o2]
          exact hq.2 (by rw [e,alone_lone o2] at hs; exact hs) fun u hu=>hl u (allIn_iff.1 ha u hu)
theorem round_grow (l:List Name):∀ (xs:List Lit),(∀ v∈l,v∈roundOn l xs):=fun xs=>by
  induction xs generalizing l with
  | nil=>exact fun v hv=>hv
  | cons x xs ih =>
    intro v hv
    rw [roundOn]
    refine ih _ v ?_
    split
    · exact hv
    · exact List.mem_append_left _ hv
theorem lim_in {S:Name→Prop} {body:List Lit} (hlit:∀ x∈body,litOk x = true) (hc:Closed S (eqsOf body)) (l:List Name) (hl:∀ v∈l,S v):∀ v∈limRec body l,S v:=by
  induction hn:wantOf body l using Nat.strongRecOn generalizing l with
  | ind n ih =>
    rw [limRec]
    split
    · rename_i h
      exact ih _ (by omega) _ (round_in hlit hc body l (fun x hx=>hx) hl) rfl
    · exact hl
theorem lim_grow {body:List Lit} (l:List Name):∀ v∈l,v∈limRec body l:=by
  induction hn:wantOf body l using Nat.strongRecOn generalizing l with
  | ind n ih =>
    rw [limRec]
    split
    · rename_i h
      exact fun v hv=>ih _ (by omega) _ rfl v (round_grow l body v hv)
    · exact fun v hv=>hv
theorem lim_fix (body:List Lit) (l:List Name):roundOn (limRec body l) body = limRec body l:=by
  induction hn:wantOf body l using Nat.strongRecOn generalizing l with
  | ind n ih =>
    by_cases h:wantOf body (roundOn l body) < wantOf body l
    · rw [limRec,dif_pos h]
      exact ih _ (by omega) _ rfl
    · rw [limRec,dif_neg h]
      rcases round_spec (body:=body) (xs:=body) (l:=l) (fun x hx=>hx) with e | ⟨_,e⟩
      · exact e
      · exact absurd e h
theorem fix_sets {l:List Name}:∀ {xs:List Lit},roundOn l xs = l→∀ x∈xs,setsOf x l = []
  | [],_,_,hx=>by cases hx
  | y :: xs,h,x,hx=>by
    rw [roundOn] at h
    by_cases he:setsOf y l = []
    · rw [if_pos he] at h
      rcases List.mem_cons.1 hx with rfl | hx
      · exact he
      · exact fix_sets h x hx
    · exfalso
      rw [if_neg he] at h
      have h1:=(round_len xs (l++[setsOf y l])).1
      rw [h] at h1
      simp only [List.length_append,List.length_cons,List.length_nil] at h1
      omega
theorem sets_none {x:Lit} {l:List Name} (hk:x.kind = 3) (hr:x.rel = 1) (h:setsOf x l = []) :
    (aloneOf x.left≠[]→allIn (tmVars x.right.terms) l = true→aloneOf x.left∈l)∧(aloneOf x.right≠[]→allIn (tmVars x.left.terms) l = true→aloneOf x.right∈l):=by
  unfold setsOf at h
  rw [if_pos ⟨hk,hr⟩] at h
  split at h
  · rename_i h1; exact absurd h h1.1
  · rename_i h1
    split at h
    · rename_i h2; exact absurd h h2.1
    · rename_i h2
      refine ⟨fun a b=>?_,fun a b=>?_⟩
      · apply Classical.byContradiction
        intro c
        exact h1 ⟨a,by simpa using c,b⟩
      · apply Classical.byContradiction
        intro c
        exact h2 ⟨a,by simpa using c,b⟩
theorem mem_pos {v:Name}:∀ {l:List Lit},v∈posOn l↔∃ x∈l,x.kind = 1∧v∈tmVars x.terms
  | []=>by simp [posOn]
  | x :: l=>by
    rw [posOn,List.mem_append,mem_pos]
    by_cases h:x.kind = 1
    · rw [if_pos h]; simp [h]
    · rw [if_neg h]; simp [h]
theorem eqs_body (body:List Lit) (ks:List Name):eqsOf (body++ks.map knLit) = eqsOf body:=by
  unfold eqsOf
  rw [List.filter_append]
  have:(ks.map knLit).filter isEqn = []:=by
    rw [List.filter_eq_nil_iff]
    intro x hx
    obtain ⟨u,_,rfl⟩:=List.mem_map.1 hx
    simp [isEqn,knLit]
  rw [this,List.append_nil]
theorem limited_mem {body:List Lit} {ks:List Name} (hlit:∀ x∈body,litOk x = true) (hks:∀ v∈ks,wordOk 65 90 v = true) (v:Name):v∈limitedOf body ks↔v∈limitsOf (body++ks.map knLit):=by
  obtain ⟨h1,h2,h3,_⟩:=limits_spec (body++ks.map knLit)
  rw [eqs_body] at h2 h3
  constructor
  · refine lim_in hlit h2 _ (fun u hu=>?_) v
    refine h1 u (mem_atomsOn.2 (.inr ?_))
    rcases List.mem_append.1 hu with hu | hu
    · refine ⟨knLit u,List.mem_append_right _ (List.mem_map_of_mem hu),rfl,mem_tmVarsL.2 ⟨word_var (hks u hu),by simp [knLit]⟩⟩
    · obtain ⟨x,hx,hk,hu⟩:=mem_pos.1 hu
      exact ⟨x,List.mem_append_left _ hx,hk,(lit_atomV (hlit x hx) (.inl hk)).1 hu⟩
  · refine h3 (·∈limitedOf body ks) (fun q hq=>?_) (fun u hu=>?_) v
    · obtain ⟨x,hx,he,rfl⟩:=mem_eqsOf.1 hq
      have hk:x.kind = 3∧x.rel = 1:=by simpa [isEqn] using he
      obtain ⟨o1,o2⟩:=lit_side (hlit x hx) hk.1
      have hn:=sets_none hk.1 hk.2 (fix_sets (lim_fix body (ks++posOn body)) x hx)
      rw [alone_lone o1,alone_lone o2] at hn
      exact ⟨fun a b=>hn.1 a (allIn_iff.2 b),fun a b=>hn.2 a (allIn_iff.2 b)⟩
    · refine lim_grow _ u (List.mem_append.2 ?_)
      rcases mem_atomsOn.1 hu with h0 | ⟨x,hx,hk,hvx⟩
      · cases h0
      · rcases List.mem_append.1 hx with hx | hx
        · exact .inr (mem_pos.2 ⟨x,hx,hk,(lit_atomV (hlit x hx) (.inl hk)).2 hvx⟩)
        · obtain ⟨k,hk2,rfl⟩:=List.mem_map.1 hx
          have h2:=(mem_tmVarsL.1 hvx).2
          have:u = k:=by simpa [knLit] using h2
          exact .inl (this ▸ hk2)
theorem may_limited {r:Rule} {ks:List Name} (hok:ruleOk r = true) (hk:knOkOn [] ks = true):mayOf r ks = if allIn (tmVars r.terms) (limitedOf r.body ks) = true then 0 else 73:=by
  obtain ⟨_,hlit⟩:=rule_body24 hok
  have:allIn (tmVars r.terms) (limitedOf r.body ks) = (tmVars r.terms).all fun v=>(limitsOf (r.body++ks.map knLit)).contains v:=by
    rw [Bool.eq_iff_iff,allIn_iff,List.all_eq_true]
    refine forall_congr' fun v=>?_
    rw [limited_mem hlit (kn_words hk)]
    simp
  unfold mayOf mayIn
  rw [if_pos hok,if_pos hk,this]
end Go.Proofs.YtiomojlcnemnhaaGreatDoor

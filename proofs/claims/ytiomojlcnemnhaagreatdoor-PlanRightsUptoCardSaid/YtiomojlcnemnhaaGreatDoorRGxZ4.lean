import Derived.Test.YtiomojlcnemnhaaGreatDoorRGxW9
import Derived.Test.YtiomojlcnemnhaaGreatDoorRGxIc5
import Derived.Test.YtiomojlcnemnhaaGreatDoorRGxG1
namespace Go.Proofs.YtiomojlcnemnhaaGreatDoor
open Go.Fx Go.RowKit Go.Ped
variable {G:World→Prop}
abbrev knRow (v:Name):List A:=[.c (cS (bs v))]
abbrev OS (k j:Nat) (body:C) (ns:List Name):List (Nat × Box):=[(k,⟨263,2,[[.c body,.mapr j]],none⟩),(j,⟨0,1,ns.map knRow,some (.string,false)⟩)]
attribute [simp] OS
theorem kn_strike (ks:List Nat) (v:Name):strikeL ks (knRow v) = knRow v:=by simp
theorem kn_strike' (ks:List Nat):strikeL ks ∘ knRow = knRow:=funext fun v=>kn_strike ks v
theorem kn_ren (f:Nat→Nat):renL f ∘ knRow = knRow:=funext fun v=>by simp
theorem kn_key (u v:Name):keyEq (.string (bs v)) (knRow u) = (u == v):=by simp [keyEq]
theorem kn_any' (v:Name) (ns:List Name):ns.any (keyEq (.string (bs v)) ∘ knRow) = ns.contains v:=by
  rw [List.contains_eq_any_beq]
  congr 1
  funext u
  show keyEq (.string (bs v)) (knRow u) = _
  rw [kn_key,Bool.eq_iff_iff,beq_iff_eq,beq_iff_eq]
  exact eq_comm
theorem kn_any (v:Name) (ns:List Name):(ns.map knRow).any (keyEq (.string (bs v))) = ns.contains v:=by rw [List.any_map,kn_any']
theorem kn_get (v:Name) (ns:List Name):mapGet (ns.map knRow) (.string (bs v)) [] = []:=by
  unfold mapGet
  split
  · rename_i r h
    obtain ⟨u,_,rfl⟩:=List.mem_map.1 (List.mem_of_find?_eq_some h)
    rfl
  · rfl
def addN (ns:List Name) (v:Name):List Name:=if ns.contains v then ns else ns++[v]
theorem kn_put (v:Name) (ns:List Name):mapPut (ns.map knRow) (.string (bs v)) [] = (addN ns v).map knRow:=by
  unfold mapPut addN
  rw [kn_any]
  split
  · rename_i h
    refine List.ext_getElem? fun i=>?_
    rw [List.getElem?_set]
    split
    · rename_i hi
      subst hi
      have hlt:(ns.map knRow).findIdx (keyEq (.string (bs v))) < (ns.map knRow).length:=List.findIdx_lt_length_of_exists (by
        rw [← List.any_eq_true]
        rw [kn_any]; exact h)
      have hk:=List.findIdx_getElem (w:=hlt)
      rw [if_pos hlt,List.getElem?_eq_getElem hlt]
      rw [List.getElem_map] at hk ⊢
      rw [kn_key,beq_iff_eq] at hk
      rw [hk]
    · rfl
  · rw [List.map_append]; rfl
theorem m217 (body:C) (ns:List Name) (v:Name):MeetsH Tryz.prog G 285 [.one (.ref 10009 0 0),.one (.c (cS (bs v)))] (hp (OS 10009 10007 body ns) [] F0) (rB (ns.contains v)) (hp (OS 10009 10007 body ns) [] F0):=by
  refine meetsH [] Tryz.func285 ie217 ig217 (Nat.le_of_ble_eq_true rfl) (by simp [midKey,ownKey]) (by simp) (by simp [ownKey]) (by simp) (by simp) (sameKeys_refl F0) (by simp) (by simp) ?_
  simp [ic217,ir217,kn_strike',kn_any',kn_get]
  exact ret_st (by simp) (by simp) (by simp) (by simp) (by simp) (by simp)
def learnOn:List Name→List Name→List Name
  | ns,[]=>ns
  | ns,v :: l=>learnOn (addN ns v) l
theorem m151 (body:C) (ns l:List Name) (sp:Sp) (hl:l.length≤maxLen):MeetsH Tryz.prog G 150 [.one (.ref 10009 0 0),.one (.c (.sl (l.map nmRow) sp))] (hp (OS 10009 10007 body ns) [] F0) (.tup []) (hp (OS 10009 10007 body (learnOn ns l)) [] F0):=by
  unfold maxLen at hl
  refine meetsH [] Tryz.func150 ie151 ig151 (Nat.le_of_ble_eq_true rfl) (by simp [midKey,ownKey]) (by simp) (by simp [ownKey]) (by simp) (by simp) (sameKeys_refl F0) (by simp) (by simp) ?_
  generalize hR:learnOn ns l = R
  simp [ic151,ir151]
  refine w_loopA [] [] [0,6,7,8] (by simp [ownKey])
    (fun z:Nat × List Name=>st [(0,.k true (.x (.one (.ref 10009 0 0)))),(6,.k true (.x (.one (.c (.sl (l.map nmRow) sp))))),(7,tI .i64 l.length),(8,tI .i64 z.1)] (OS 10009 10007 body z.2) [] F0) (fun z=>l.length - z.1)
    (fun z=>z.1≤l.length∧R = learnOn z.2 (l.drop z.1)) (0,ns) (by simp) (by simp [hR]) ?_
  rintro ⟨i,m⟩ K hK ⟨hi,hd⟩
  simp only at hi hd
  obtain hlt | hge:=Nat.lt_or_ge i l.length
  · rw [List.drop_eq_getElem_cons hlt,learnOn] at hd
    simp [ic151l0,hlt,kn_put]
    simp (disch:=omega) only [wrap64]
    exact hK (i + 1,addN m l[i]) _ (by simp [kn_strike']) ⟨by simp only; omega,hd⟩ (by simp only; omega)
  · rw [List.drop_eq_nil_of_le hge,learnOn] at hd
    subst hd
    simp [ic151l0,Nat.not_lt.mpr hge]
    exact ret_st (by simp) (by simp) (by simp) (by simp) (by simp) (by simp)
set_option maxRecDepth 100000 in
theorem m147 (body:List (List C)) (sb:Sp) (l:List Name) (sp:Sp) (hl:l.length≤maxLen):MeetsH Tryz.prog G 146 [.one (.c (.sl body sb)),.one (.c (.sl (l.map nmRow) sp))] (hp [] [] F0) (.x (.one (.ref 9 0 0))) (hp (OS 9 7 (.sl body sb) (learnOn [] l)) [] F0):=by
  have h:=(MeetsV.of_fun (m151 (G:=G) (.sl body sb) [] l sp hl)).ren (π:=nearMid)
  simp [nmF,kn_ren] at h
  generalize learnOn [] l = R at *
  refine meetsH [] Tryz.func146 ie147 ig147 (Nat.le_of_ble_eq_true rfl) (by simp) (by simp) (by simp) (by simp) (by simp) (sameKeys_refl F0) (by simp) (by simp) ?_
  simp [ic147,ir147]
  refine r_callW _ _ [(9,⟨263,2,[[.c (.sl body sb),.mapr 7]],none⟩),(7,⟨0,1,[],some (.string,false)⟩)] [] _ [(9,⟨263,2,[[.c (.sl body sb),.mapr 7]],none⟩),(7,⟨0,1,R.map knRow,some (.string,false)⟩)] [] h rfl rfl rfl (by simp [X.fits,A.fits]) (by simp) ?_
  simp
  exact ret_st (by simp) (by simp) (by simp) (by simp) (by simp) (by simp)
end Go.Proofs.YtiomojlcnemnhaaGreatDoor

namespace Go.Proofs.YtiomojlcnemnhaaGreatDoor
open Go.Fx Go.RowKit Go.Ped
variable {G:World→Prop}
def loneOf (e:Ex):Name:=if e.op = 0∧e.kids = []∧e.t.v≠us then e.t.v else []
def eqnOf (x:Lit):Eqn:=⟨loneOf x.left,loneOf x.right,tmVars x.left.terms,tmVars x.right.terms⟩
def isEqn (x:Lit):Bool:=x.kind == 3 && x.rel == 1
def eqsOf (l:List Lit):List Eqn:=(l.filter isEqn).map eqnOf
def atomsOn (acc:List Name):List Lit→List Name
  | []=>acc
  | x :: l=>atomsOn (if x.kind = 1 then addAll acc (tmVars x.l) else acc) l
theorem m175 (e:Ex) (hs:e.small 1048576) (hl:e.terms.length≤2000000):Meets Tryz.prog G 190 [.agg e.row] (.x (.one (.sl ((tmVars e.terms).map nmRow) []))):=by
  refine meets Tryz.func190 ie175 ig175 (Nat.le_of_ble_eq_true rfl) ?_
  have hw:Walks G (.ifc 222 (.elem [e.row] [] 0 0)) e.terms:=fun fv H H' hfv hc=>m126_ex hfv e hs [e.row] [] 0 0 H H' ⟨e.row,rfl,by rw [List.drop_zero,List.take_of_length_le (Nat.le_refl _)]⟩ hc
  simp [ic175,ir175,freeze_st,fzL,freezeO,maxLen]
  refine r_call0 (MeetsV.of_fun (m118 _ e.terms (by simp) (fun _=>rfl) (fun _=>rfl) (fun _=>rfl) hl hw)) rfl rfl rfl (by simp) (by simp) (by simp) ?_
  simp
theorem m28 (e:Ex) (hs:e.small 1048576) (hl:e.terms.length≤1048576):Meets Tryz.prog G 166 [.agg e.row] (.x (.one (.sl ((tmVars e.terms).map nmRow) []))):=by
  refine meets Tryz.func166 ie28 ig28 (Nat.le_of_ble_eq_true rfl) ?_
  simp [ic28,ir28]
  refine r_callW _ _ [] [] _ [] _ (MeetsV.of_fun (m99n (G:=G) e hs (by omega))) rfl rfl rfl (by simp) (by simp) ?_
  simp
  refine call_of (m98 e.terms [] hl) ?_
  simp
theorem m174 (e:Ex):Meets Tryz.prog G 189 [.agg e.row] (.x (.one (cS (bs (loneOf e))))):=by
  refine meets Tryz.func189 ie174 ig174 (Nat.le_of_ble_eq_true rfl) ?_
  simp [ic174,ir174]
  refine condI_of (fun h=>?_) (fun h=>?_)
  · have:loneOf e = []:=by
      simp at h
      unfold loneOf
      rw [if_neg]
      rintro ⟨a,b,c⟩
      rcases h with (h | h) | h
      · exact h a
      · simp [b] at h
      · exact c (by simpa [us] using h)
    simp [this]
  · have:loneOf e = e.t.v:=by
      simp at h
      unfold loneOf
      rw [if_pos]
      exact ⟨h.1.1,by simpa using h.1.2,by simpa [us] using h.2⟩
    simp [this]
theorem tmVars_len (l:List Tm):(tmVars l).length≤l.length:=by
  have h2:=varsOn_length (l.map Tm.v) []
  simp only [List.length_nil,List.length_map,Nat.zero_add] at h2
  exact h2
end Go.Proofs.YtiomojlcnemnhaaGreatDoor

namespace Go.Proofs.YtiomojlcnemnhaaGreatDoor
open Go.Fx Go.RowKit Go.Ped
variable {G:World→Prop}
theorem c173 (acc l:List Name) (sp:Sp) (hl:acc.length + l.length≤100000000) :
    MeetsV Tryz.prog G (fnA 188) [.one (.ref 9 0 0),.one (.c (.sl (l.map nmRow) sp))] (hp (OF 9 7 22 acc) (UF 22 acc) F0) (.tup []) (hp (OF 9 7 22 (addAll acc l)) (UF 22 (addAll acc l)) F0):=by
  have h:=(((MeetsV.of_fun (m173 (G:=G) acc l sp hl)).ren (π:=swR 10009 9)).ren (π:=swR 10007 7)).ren (π:=swR 10022 22)
  simp [swF,thr_ren] at h
  simpa using h
theorem c176 (acc:List Name) (wait:List Eqn) (hw:∀ q∈wait,q.lefts.length≤1048576∧q.rights.length≤1048576) (hl:acc.length + wait.length≤50000000) :
    MeetsV Tryz.prog G (fnA 191) [.one (.ref 4 0 0),.one (.clo 192 [.ref 9 0 0] [])] (hp ((4,⟨230,1,[[.c (.sl (wait.map Eqn.row) [])]],none⟩) :: OF 9 7 22 acc) (UF 22 acc) F0) (rB (decide ((goRound acc wait).2.length < wait.length)))
      (hp ((4,⟨230,1,[[.own 30 ((goRound acc wait).2.map Eqn.row)]],none⟩) :: OF 9 7 22 (goRound acc wait).1) ((30,⟨234,4,(goRound acc wait).2.length⟩) :: UF 22 (goRound acc wait).1) F0):=by
  have h:=m176 (G:=G) acc wait hw hl
  unfold Hf at h
  rw [hp_ofA,hp_ofA] at h
  have h2:=((((MeetsV.of_fun h).ren (π:=swR 10004 4)).ren (π:=swR 15009 9)).ren (π:=swR 15007 7)).ren (π:=swR 15022 22)
  simp [swF,thr_ren] at h2
  simpa using h2
def Lit.fit (x:Lit):Prop:=x.small 1048576∧x.left.terms.length≤1048576∧x.right.terms.length≤1048576
theorem goRound_sub:∀ (l:List Eqn) (f:List Name),∀ q∈(goRound f l).2,q∈l
  | [],_=>by simp [goRound]
  | p :: l,f=>fun q hq=>by
    rw [goRound_cons] at hq
    simp only at hq
    split at hq
    · exact List.mem_cons_of_mem _ (goRound_sub l _ q hq)
    · rcases List.mem_cons.1 hq with rfl | hq
      · exact List.mem_cons_self ..
      · exact List.mem_cons_of_mem _ (goRound_sub l _ q hq)
theorem eqn_fit {x:Lit} (h:x.fit):(eqnOf x).lefts.length≤1048576∧(eqnOf x).rights.length≤1048576:=by
  have h1:=tmVars_len x.left.terms
  have h2:=tmVars_len x.right.terms
  obtain ⟨_,h3,h4⟩:=h
  exact ⟨by show (tmVars x.left.terms).length≤_; omega,by show (tmVars x.right.terms).length≤_; omega⟩
theorem eqsOf_yes {x:Lit} {l:List Lit} (h:isEqn x = true):eqsOf (x :: l) = eqnOf x :: eqsOf l:=by simp [eqsOf,h]
theorem eqsOf_no {x:Lit} {l:List Lit} (h:isEqn x = false):eqsOf (x :: l) = eqsOf l:=by simp [eqsOf,h]
theorem eqsOf_mem {q:Eqn} {l:List Lit} (h:q∈eqsOf l):∃ x∈l,isEqn x = true∧eqnOf x = q:=by
  simp only [eqsOf,List.mem_map,List.mem_filter] at h
  obtain ⟨x,⟨h1,h2⟩,h3⟩:=h
  exact ⟨x,h1,h2,h3⟩
def limitsOf (l:List Lit):List Name:=goRounds (atomsOn [] l) (eqsOf l)
theorem m121 (l:List Lit) (sp:Sp) (hs:∀ x∈l,x.fit) (hl:l.length≤1048576) (hb:(l.map fun x=>x.l.length).sum≤10000000) :
    MeetsH Tryz.prog G 94 [.one (.c (.sl (l.map Lit.row) sp))] (hp [] [] F0) (.x (.one (.ref 9 0 0))) (hp (OF 9 7 22 (limitsOf l)) (UF 22 (limitsOf l)) F0):=by
  refine meetsH [] Tryz.func94 ie121 ig121 (Nat.le_of_ble_eq_true rfl) (by simp) (by simp) (by simp [ownKey]) (by simp) (by simp) (sameKeys_refl F0) ?_ (by simp) ?_
  · intro p hp r hr
    simp only [List.mem_cons,List.not_mem_nil,or_false] at hp
    rcases hp with rfl | rfl
    · simp only [List.mem_singleton] at hr
      subst hr
      simp [ownKey]
    · exact thr_only _ _ r hr
  generalize hR:limitsOf l = R
  unfold limitsOf at hR
  simp [ic121,ir121]
  refine w_loopA [.o 22 9 0 9 1,.o 50 4 0 234 4] [6,49] [0,3,4,10,11,12] (by simp [ownKey])
    (fun a:Nat × List Name × List Eqn=>st [(0,.k true (.x (.one (.c (.sl (l.map Lit.row) sp))))),(3,.k true (.x (.one (.ref 9 0 0)))),(4,.k true (.x (.one (.ref 4 0 0)))),(10,.k true (.x (.one (.c (.sl (l.map Lit.row) sp))))),(11,tI .i64 l.length),(12,tI .i64 a.1)]
      ((4,⟨230,1,[[.own 50 (a.2.2.map Eqn.row)]],none⟩) :: OF 9 7 22 a.2.1) ((50,⟨234,4,a.2.2.length⟩) :: UF 22 a.2.1) F0) (fun a=>l.length - a.1)
    (fun a=>a.1≤l.length∧atomsOn [] l = atomsOn a.2.1 (l.drop a.1)∧eqsOf l = a.2.2++eqsOf (l.drop a.1)∧a.2.1.length + ((l.drop a.1).map fun x=>x.l.length).sum≤10000000∧a.2.2.length≤a.1) (0,[],[]) (by simp [thr]) (by simp; exact hb) ?_
  · rintro ⟨i,f,E⟩ K hK ⟨hi,hd,he,hf,hE⟩
    simp only at hi hd he hf hE
    obtain hlt | hge:=Nat.lt_or_ge i l.length
    · rw [List.drop_eq_getElem_cons hlt] at hd he hf
      simp only [atomsOn,List.map_cons,List.sum_cons] at hd hf
      have hx:=hs l[i] (List.getElem_mem hlt)
      by_cases hk:l[i].kind = 1
      · have hn:isEqn l[i] = false:=by simp [isEqn,hk]
        rw [eqsOf_no hn] at he
        rw [if_pos hk] at hd
        have h1:=addAll_len (tmVars l[i].l) f
        have h2:=tmVars_len l[i].l
        simp [ic121l0,hlt,hk]
        refine call_of (m46 l[i].p l[i].l l[i].sp hx.1.1) ?_
        simp
        refine r_callW _ _ (OF 9 7 22 f) (UF 22 f) _ (OF 9 7 22 (addAll f (tmVars l[i].l))) (UF 22 (addAll f (tmVars l[i].l))) (c173 f (tmVars l[i].l) [] (by omega)) rfl rfl rfl (by simp [X.fits,A.fits]) (by simp) ?_
        simp
        simp (disch:=omega) only [wrap64]
        exact hK (i + 1,addAll f (tmVars l[i].l),E) _ (by simp) ⟨by simp; omega,hd,he,by simp only; omega,by simp only; omega⟩ (by simp; omega)
      · rw [if_neg hk] at hd
        simp [ic121l0,hlt,hk]
        refine condI_of (fun h=>?_) (fun h=>?_)
        · have hn:isEqn l[i] = true:=by simpa [isEqn] using h
          rw [eqsOf_yes hn] at he
          simp
          refine call_of (m174 l[i].left) ?_
          simp
          refine call_of (m174 l[i].right) ?_
          simp
          refine call_of (m175 l[i].left hx.1.2.1 (by have:=hx.2.1; omega)) ?_
          simp
          refine call_of (m175 l[i].right hx.1.2.2 (by have:=hx.2.2; omega)) ?_
          simp
          refine ⟨by unfold maxLen; omega,by unfold maxBytes; omega,?_⟩
          simp (disch:=omega) only [wrap64]
          exact hK (i + 1,f,E++[eqnOf l[i]]) _ (by simp [Eqn.row,eqnOf]) ⟨by simp; omega,hd,by simpa using he,by simp only; omega,by simp; omega⟩ (by simp; omega)
        · have hn:isEqn l[i] = false:=by simpa [isEqn] using h
          rw [eqsOf_no hn] at he
          simp
          simp (disch:=omega) only [wrap64]
          exact hK (i + 1,f,E) _ (by simp) ⟨by simp; omega,hd,he,by simp only; omega,by simp only; omega⟩ (by simp; omega)
    · rw [List.drop_eq_nil_of_le hge] at hd he hf
      simp only [atomsOn,List.map_nil,List.sum_nil] at hd hf
      have he':eqsOf l = E:=by simpa [eqsOf] using he
      simp [ic121l0,Nat.not_lt.mpr hge]
      rw [hd,he'] at hR
      have hq:∀ q∈E,q.lefts.length≤1048576∧q.rights.length≤1048576:=fun q hq=>by
        rw [← he'] at hq
        obtain ⟨x,hx,_,rfl⟩:=eqsOf_mem hq
        exact eqn_fit (hs x hx)
      refine w_loopA [] [30,50] [3,4] (by simp [ownKey])
        (fun a:List Name × List Eqn=>st [(3,.k true (.x (.one (.ref 9 0 0)))),(4,.k true (.x (.one (.ref 4 0 0))))] ((4,⟨230,1,[[.c (.sl (a.2.map Eqn.row) [])]],none⟩) :: OF 9 7 22 a.1) (UF 22 a.1) F0) (fun a=>a.2.length)
        (fun a=>goRounds a.1 a.2 = R∧(∀ q∈a.2,q.lefts.length≤1048576∧q.rights.length≤1048576)∧a.1.length + a.2.length≤50000000) (f,E) (by simp) ⟨hR,hq,by simp only; omega⟩ ?_
      rintro ⟨g,w⟩ K2 hK2 ⟨h1,h2,h3⟩
      simp only at h1 h2 h3
      have hc:=goRound_count w g
      have hsub:∀ q∈(goRound g w).2,q∈w:=goRound_sub w g
      rw [goRounds] at h1
      simp [ic121l1]
      refine r_callW _ _ ((4,⟨230,1,[[.c (.sl (w.map Eqn.row) [])]],none⟩) :: OF 9 7 22 g) (UF 22 g) _ _ _ (c176 g w h2 h3) rfl rfl rfl (by simp) (by simp) ?_
      simp
      refine condI_of (fun h=>?_) (fun h=>?_)
      · have hlt:(goRound g w).2.length < w.length:=by simpa using h
        rw [dif_pos hlt] at h1
        simp
        exact hK2 _ _ (by simp) ⟨h1,fun q hq=>h2 q (hsub q hq),by first | omega | (simp only; omega)⟩ hlt
      · have hlt:¬ (goRound g w).2.length < w.length:=by simpa using h
        rw [dif_neg hlt] at h1
        simp
        refine ret_st (by simp) (by simp) ?_ (by simp [h1]) (by simp) (by simp)
        simp [h1]
theorem m50 (l:List Lit) (sp:Sp) (hs:∀ x∈l,x.fit) (hl:l.length≤1048576) (hb:(l.map fun x=>x.l.length).sum≤10000000) :
    Meets Tryz.prog G 63 [.one (.sl (l.map Lit.row) sp)] (.x (.one (.sl ((limitsOf l).map nmRow) []))):=by
  refine meets Tryz.func63 ie50 ig50 (Nat.le_of_ble_eq_true rfl) ?_
  simp [ic50,ir50]
  refine r_callW _ _ [] [] _ (OF 9 7 22 (limitsOf l)) (UF 22 (limitsOf l)) (MeetsV.of_fun (m121 l sp hs hl hb)) rfl rfl rfl (by simp) (by simp) ?_
  simp
theorem lone_wf {e:Ex} (h:loneOf e≠[]):tmVars e.terms = [loneOf e]:=by
  obtain ⟨op,t,kids,sp⟩:=e
  unfold loneOf at h ⊢
  split at h
  · rename_i hc
    rw [if_pos hc]
    obtain ⟨_,h2,h3⟩:=hc
    simp only [Ex.kids] at h2
    subst h2
    have hv:t.v≠[]:=h
    have hu:t.v≠us:=h3
    simp [Ex.terms_mk,tmVars,varsOn,Ped.isVar,hv,hu,Ex.t]
  · exact absurd rfl h
theorem eqn_wf (x:Lit):(eqnOf x).wf:=⟨fun h=>lone_wf h,fun h=>lone_wf h⟩
theorem eqs_wf (l:List Lit):∀ q∈eqsOf l,q.wf:=fun q hq=>by
  obtain ⟨x,_,_,rfl⟩:=eqsOf_mem hq
  exact eqn_wf x
theorem loneOf_mk (op:Int) (t:Tm) (kids:List Ex) (sp:Sp):loneOf (.mk op t kids sp) = if op = 0∧kids = []∧t.v≠us then t.v else []:=rfl
theorem lone_tw (e:Ex) (mk:List C):loneOf (e.twin mk) = loneOf e:=by
  obtain ⟨op,t,kids,sp⟩:=e
  rw [Ex.twin_mk,loneOf_mk,loneOf_mk]
  simp only [List.map_eq_nil_iff]
theorem eqnOf_tw (x:Lit):eqnOf x.tw = eqnOf x:=by
  show Eqn.mk (loneOf (x.left.twin _)) (loneOf (x.right.twin _)) (tmVars (x.left.twin _).terms) (tmVars (x.right.twin _).terms) = _
  rw [lone_tw,lone_tw,Ex.terms_twin,Ex.terms_twin]
  rfl
theorem eqsOf_tw:∀ l:List Lit,eqsOf (l.map Lit.tw) = eqsOf l
  | []=>rfl
  | x :: l=>by
    have h:isEqn x.tw = isEqn x:=rfl
    cases hx:isEqn x with
    | true=>rw [List.map_cons,eqsOf_yes (h.trans hx),eqsOf_yes hx,eqnOf_tw,eqsOf_tw l]
    | false=>rw [List.map_cons,eqsOf_no (h.trans hx),eqsOf_no hx,eqsOf_tw l]
theorem atomsOn_tw:∀ (l:List Lit) (acc:List Name),atomsOn acc (l.map Lit.tw) = atomsOn acc l
  | [],_=>rfl
  | x :: l,acc=>atomsOn_tw l _
theorem limitsOf_tw (l:List Lit):limitsOf (l.map Lit.tw) = limitsOf l:=by unfold limitsOf; rw [eqsOf_tw,atomsOn_tw]
end Go.Proofs.YtiomojlcnemnhaaGreatDoor

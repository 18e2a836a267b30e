import Derived.Test.YtiomojlcnemnhaaGreatDoorRGxRow
import Derived.Test.YtiomojlcnemnhaaGreatDoorRGxM3
import Derived.Test.YtiomojlcnemnhaaGreatDoorRGxY3
import Derived.Test.YtiomojlcnemnhaaGreatDoorRGxIcI
import Derived.Test.YtiomojlcnemnhaaGreatDoorRGxId2
namespace Go.Fx
open Go.RowKit
section
variable {P:Program} {G:World→Prop} {L:List (Nat × T)} {O:List (Nat × Box)} {U:List (Nat × Tok)} {H:FHp} {l:List IOper} {K:S→Prop} {d:Nat}
theorem upds_same {O1:List (Nat × Box)} {U1:List (Nat × Tok)} (h1:∀ p∈O1,lookO O p.1 = some p.2) (h2:∀ p∈U1,lookT U p.1 = some p.2):st L (updsO O1 O) (updsT U1 U) H = st L O U H:=by
  unfold st
  simp only [S.mk.injEq,true_and,and_true]
  refine ⟨funext fun k=>?_,funext fun k=>?_⟩
  · rw [lookO_upds]
    cases h:lookO O1 k with
    | none=>rfl
    | some b=>rw [h1 _ (lookO_mem h)]; rfl
  · rw [lookT_upds]
    cases h:lookT U1 k with
    | none=>rfl
    | some b=>rw [h2 _ (lookT_mem h)]; rfl
theorem r_callQ {f:D} {args:List D} {gd:Option (Nat × Bool)} (g:Bool) (fv:A) (xs:List X) (O1:List (Nat × Box)) (U1:List (Nat × Tok)) (res:R) (hm:g = true→MeetsV P G fv xs (hp O1 U1 H) res (hp O1 U1 H))
    (hg:guardO (st L O U H) gd = some g) (hf:f.val (st L O U H) = .k true (.x (.one fv))) (ha:g = true→(args.all fun d=>(d.val (st L O U H)).g) = true) (hx:fitsR (args.map fun d=>(d.val (st L O U H)).r) xs)
    (h1:∀ p∈O1,lookO O p.1 = some p.2∧p.1 < 15000) (h2:∀ p∈U1,lookT U p.1 = some p.2∧p.1 < 15000) (hO:∀ p∈O,p.1 < 15000) (hU:∀ p∈U,p.1 < 15000)
    (h:atK P G l ((d,.k g res) :: L) O U H K):runK P G (⟨some d,.call f args,gd,none⟩ :: l) (st L O U H) K:=by
  cases g with
  | false=>exact r_callVF res hg h
  | true =>
    refine r_callV fv xs O1 U1 res O1 U1 H (hm rfl) hg hf (ha rfl) hx h1 h2 hO hU (fun p hp=>mem_lookO hp) (fun p hp=>mem_lookT hp) (fun p hp hn=>absurd hn (mem_lookO hp)) (fun p hp hn=>absurd hn (mem_lookT hp)) (sameKeys_refl H) rfl ?_
    rw [upds_same (fun p hp=>(h1 p hp).1) (fun p hp=>(h2 p hp).1)]
    exact h
theorem r_callW {f:D} {args:List D} {gd:Option (Nat × Bool)} (fv:A) (xs:List X) (O1:List (Nat × Box)) (U1:List (Nat × Tok)) (res:R) (O2:List (Nat × Box)) (U2:List (Nat × Tok)) (hm:MeetsV P G fv xs (hp O1 U1 H) res (hp O2 U2 H))
    (hg:guardO (st L O U H) gd = some true) (hf:f.val (st L O U H) = .k true (.x (.one fv))) (ha:(args.all fun d=>(d.val (st L O U H)).g) = true) (hx:fitsR (args.map fun d=>(d.val (st L O U H)).r) xs)
    (hc:((∀ p∈O1,lookO O p.1 = some p.2∧p.1 < 15000)∧(∀ p∈U1,lookT U p.1 = some p.2∧p.1 < 15000)∧(∀ p∈O,p.1 < 15000)∧(∀ p∈U,p.1 < 15000)) ∧
      (∀ p∈O1,lookO O2 p.1≠none)∧(∀ p∈U1,lookT U2 p.1≠none)∧(∀ p∈O2,lookO O1 p.1 = none→lookO O p.1 = none∧p.1 < 10000)∧∀ p∈U2,lookT U1 p.1 = none→lookT U p.1 = none∧p.1 < 10000)
    (h:atK P G l ((d,.k true res) :: L) (updsO O2 O) (updsT U2 U) H K):runK P G (⟨some d,.call f args,gd,none⟩ :: l) (st L O U H) K :=
  r_callV fv xs O1 U1 res O2 U2 H hm hg hf ha hx hc.1.1 hc.1.2.1 hc.1.2.2.1 hc.1.2.2.2 hc.2.1 hc.2.2.1 hc.2.2.2.1 hc.2.2.2.2 (sameKeys_refl H) rfl h
theorem hp_objs0 (O:List (Nat × Box)) (U:List (Nat × Tok)) (k:Nat):(hp O U F0).objs k = lookO O k:=by
  show (lookO O k).or none = _
  simp
theorem hp_toks0 (O:List (Nat × Box)) (U:List (Nat × Tok)) (k:Nat):(hp O U F0).toks k = lookT U k:=by
  show (lookT U k).or none = _
  simp
theorem r_callN {f:D} {args:List D} {gd:Option (Nat × Bool)} (ks:List Nat) (fv:A) (xs:List X) (O1:List (Nat × Box)) (U1:List (Nat × Tok)) (res:R) (O2:List (Nat × Box)) (U2:List (Nat × Tok)) (hm:MeetsV P G fv xs (hp O1 U1 F0) res (hp O2 U2 F0))
    (hg:guardO (st L O U F0) gd = some true) (hf:f.val (st L O U F0) = .k true (.x (.one fv))) (ha:(args.all fun d=>(d.val (st L O U F0)).g) = true) (hx:fitsR (args.map fun d=>(d.val (st L O U F0)).r) xs)
    (hc:((∀ p∈O1,lookO O p.1 = some p.2∧p.1 < 15000)∧(∀ p∈U1,lookT U p.1 = some p.2∧p.1 < 15000)∧(∀ p∈O,p.1 < 15000)∧(∀ p∈U,p.1 < 15000)) ∧
      (∀ p∈O1,lookO O2 p.1≠none)∧(∀ p∈U1,lookT U2 p.1≠none)∧(∀ p∈O2,lookO O1 p.1 = none→lookO O p.1 = none∧p.1 < 10000)∧∀ p∈U2,lookT U1 p.1 = none→lookT U p.1 = none∧p.1 < 10000)
    (hk:(∀ p∈O1,p.1∈ks)∧(∀ p∈U1,p.1∈ks)∧(∀ p∈O2,p.1∈ks)∧∀ p∈U2,p.1∈ks)
    (h:atK P G l ((d,.k true res) :: L) (updsO O2 O) (updsT U2 U) F0 K):runK P G (⟨some d,.call f args,gd,some ks⟩ :: l) (st L O U F0) K:=by
  have hs:=sameKeys_refl F0
  have e:=over_st (L:=L) (O2:=O2) (U2:=U2) hc.1.2.2.1 hc.1.2.2.2 (fun k hk=>fun e=>hk ((hs.1 k).1.2 e)) (fun k hk=>fun e=>hk ((hs.1 k).2.2 e))
  refine ⟨_,⟨trivial,true,hg,fv,xs,true,_,res,_,fun _=>⟨ha,hx,hf,hm,lends_st hc.1.1 hc.1.2.1 hc.1.2.2.1 hc.1.2.2.2 hc.2.1 hc.2.2.1 hc.2.2.2.1 hc.2.2.2.2 (fun k hk=>fun e=>hk ((hs.1 k).1.2 e)) (fun k hk=>fun e=>hk ((hs.1 k).2.2 e)) (fun k hk=>fun e=>hk ((hs.1 k).1.1 e)) (fun k hk=>fun e=>hk ((hs.1 k).2.1 e)) hs.2,fun k hn=>?_⟩,rfl⟩,by simpa only [if_true,e,put_st,atK_eq] using h⟩
  show k∈ks
  rw [hp_objs0,hp_toks0,hp_objs0,hp_toks0] at hn
  have go:∀ (A:List (Nat × Box)),(∀ p∈A,p.1∈ks)→lookO A k≠none→k∈ks:=fun A hA hn=>by
    cases hb:lookO A k with
    | none=>exact absurd hb hn
    | some b=>exact hA _ (lookO_mem hb)
  have gt:∀ (A:List (Nat × Tok)),(∀ p∈A,p.1∈ks)→lookT A k≠none→k∈ks:=fun A hA hn=>by
    cases hb:lookT A k with
    | none=>exact absurd hb hn
    | some b=>exact hA _ (lookT_mem hb)
  rcases hn with hn | hn | hn | hn
  · exact go _ hk.1 hn
  · exact gt _ hk.2.1 hn
  · exact go _ hk.2.2.1 hn
  · exact gt _ hk.2.2.2 hn
end
end Go.Fx

namespace Go.Ped
structure Eqn where
  left:Name
  right:Name
  lefts:List Name
  rights:List Name
  deriving DecidableEq,Inhabited
def allIn (l f:List Name):Bool:=l.all fun v=>f.contains v
theorem allIn_iff {l f:List Name}:allIn l f = true↔∀ v∈l,v∈f:=by simp [allIn]
def take (f:List Name) (q:Eqn):Option Name :=
  if q.left != [] && !f.contains q.left && allIn q.rights f then some q.left
  else if q.right != [] && !f.contains q.right && allIn q.lefts f then some q.right
  else none
def Eqn.wf (q:Eqn):Prop:=(q.left≠[]→q.lefts = [q.left])∧(q.right≠[]→q.rights = [q.right])
def goRound:List Name→List Eqn→List Name × List Eqn
  | f,[]=>(f,[])
  | f,q :: l=>match take f q with
    | some v=>goRound (f++[v]) l
    | none=>((goRound f l).1,q :: (goRound f l).2)
theorem goRound_le:∀ (l:List Eqn) (f:List Name),(goRound f l).2.length≤l.length
  | [],_=>Nat.le_refl _
  | q :: l,f=>by
    simp only [goRound]
    split
    · exact Nat.le_succ_of_le (goRound_le l _)
    · simpa using goRound_le l f
def goRounds (f:List Name) (wait:List Eqn):List Name :=
  if h:(goRound f wait).2.length < wait.length then goRounds (goRound f wait).1 (goRound f wait).2 else (goRound f wait).1
termination_by wait.length
def refRound:List Name→List Eqn→List Name
  | f,[]=>f
  | f,q :: l=>match take f q with
    | some v=>refRound (f++[v]) l
    | none=>refRound f l
def Dead (f:List Name) (q:Eqn):Prop:=∀ f',(∀ v∈f,v∈f')→take f' q = none
theorem Dead.mono {f f':List Name} {q:Eqn} (h:∀ v∈f,v∈f') (hd:Dead f q):Dead f' q:=fun g hg=>hd g fun v hv=>hg v (h v hv)
theorem dead_of_take {f:List Name} {q:Eqn} {v:Name} (hw:q.wf) (h:take f q = some v):Dead (f++[v]) q:=by
  intro f' hf
  have hv:v∈f':=hf v (by simp)
  have hold:∀ w∈f,w∈f':=fun w hw=>hf w (by simp [hw])
  unfold take at h
  split at h
  · rename_i hc
    simp only [Bool.and_eq_true,bne_iff_ne,ne_eq] at hc
    injection h with h; subst h
    have hr:q.right≠[]→q.right∈f':=fun hr=>hold _ (allIn_iff.1 hc.2 _ (by rw [hw.2 hr]; simp))
    unfold take
    rw [if_neg (by simp [hv])]
    by_cases hr0:q.right = []
    · simp [hr0]
    · simp [hr hr0]
  · split at h
    · rename_i hc
      simp only [Bool.and_eq_true,bne_iff_ne,ne_eq] at hc
      injection h with h; subst h
      have hl:q.left≠[]→q.left∈f':=fun hl=>hold _ (allIn_iff.1 hc.2 _ (by rw [hw.1 hl]; simp))
      unfold take
      rw [if_neg (by
        by_cases hl0:q.left = []
        · simp [hl0]
        · simp [hl hl0]),if_neg (by simp [hv])]
    · cases h
inductive Waits (f:List Name):List Eqn→List Eqn→Prop
  | nil:Waits f [] []
  | keep {q:Eqn} {l w:List Eqn} (h:Waits f l w):Waits f (q :: l) (q :: w)
  | gone {q:Eqn} {l w:List Eqn} (hd:Dead f q) (h:Waits f l w):Waits f (q :: l) w
theorem Waits.refl (f:List Name):∀ l,Waits f l l
  | []=>.nil
  | _ :: l=>.keep (Waits.refl f l)
theorem goRound_ext:∀ (l:List Eqn) (f:List Name),∃ e,(goRound f l).1 = f++e
  | [],f=>⟨[],by simp [goRound]⟩
  | q :: l,f=>by
    simp only [goRound]
    cases take f q with
    | some v =>
      obtain ⟨e,h⟩:=goRound_ext l (f++[v])
      exact ⟨v :: e,by simp only [h]; simp⟩
    | none=>exact goRound_ext l f
theorem round_same {f0:List Name} {l w:List Eqn} (h:Waits f0 l w):∀ {f:List Name},(∀ v∈f0,v∈f)→(∀ q∈l,q.wf)→refRound f l = (goRound f w).1∧Waits (goRound f w).1 l (goRound f w).2:=by
  induction h with
  | nil=>intro f _ _; exact ⟨rfl,.nil⟩
  | @keep q l w h ih =>
    intro f hf hw
    have hw':∀ q∈l,q.wf:=fun p hp=>hw p (List.mem_cons_of_mem _ hp)
    simp only [refRound,goRound]
    cases ht:take f q with
    | some v =>
      obtain ⟨h1,h2⟩:=ih (f:=f++[v]) (fun u hu=>by simp [hf u hu]) hw'
      refine ⟨h1,.gone ((dead_of_take (hw q (List.mem_cons_self ..)) ht).mono fun u hu=>?_) h2⟩
      obtain ⟨e,he⟩:=goRound_ext w (f++[v])
      rw [he]; simp only [List.mem_append] at hu ⊢; exact .inl hu
    | none =>
      obtain ⟨h1,h2⟩:=ih hf hw'
      exact ⟨h1,.keep h2⟩
  | @gone q l w hd h ih =>
    intro f hf hw
    obtain ⟨h1,h2⟩:=ih hf fun p hp=>hw p (List.mem_cons_of_mem _ hp)
    simp only [refRound]
    rw [hd f hf]
    obtain ⟨e,he⟩:=goRound_ext w f
    exact ⟨h1,.gone (hd.mono fun u hu=>by rw [he]; simp [hf u hu]) h2⟩
theorem goRound_count:∀ (l:List Eqn) (f:List Name),(goRound f l).1.length + (goRound f l).2.length = f.length + l.length
  | [],f=>by simp [goRound]
  | q :: l,f=>by
    simp only [goRound]
    cases take f q with
    | some v=>have:=goRound_count l (f++[v]); simp at this ⊢; omega
    | none=>have:=goRound_count l f; simp; omega
end Go.Ped

namespace Go.Proofs.YtiomojlcnemnhaaGreatDoor
open Go.Fx Go.RowKit Go.Ped
variable {G:World→Prop}
def addAll (acc:List Name):List Name→List Name
  | []=>acc
  | v :: l=>addAll (if acc.contains v then acc else acc++[v]) l
theorem addAll_len:∀ (l acc:List Name),(addAll acc l).length≤acc.length + l.length
  | [],acc=>by simp [addAll]
  | v :: l,acc=>by
    have:=addAll_len l (if acc.contains v then acc else acc++[v])
    have h2:(if acc.contains v then acc else acc++[v]).length≤acc.length + 1:=by split <;> simp
    simp only [addAll,List.length_cons]
    omega
abbrev OF (a b c:Nat) (acc:List Name):List (Nat × Box):=[(a,⟨203,2,[[.own c (acc.map nmRow),.mapr b]],none⟩),(b,⟨0,2,thr 0 acc,some (.string,true)⟩)]
abbrev UF (c:Nat) (acc:List Name):List (Nat × Fx.Tok):=[(c,⟨9,1,acc.length⟩)]
attribute [simp] thr_strike thr_get OF UF
theorem midF {U:List (Nat × Fx.Tok)} {H:FHp} (acc:List Name) (hU:lookT U 10022≠none):∀ p∈OF 10009 10007 10022 acc,midKey p.1∧∀ r∈p.2.rows,onlyL (fun k=>¬ ownKey k) (fun k=>(lookT U k).or (H.toks k)≠none) r:=by
  intro p hp
  simp only [List.mem_cons,List.not_mem_nil,or_false] at hp
  rcases hp with rfl | rfl
  · refine ⟨by unfold midKey; omega,?_⟩
    simp only [List.mem_singleton,forall_eq,onlyL,A.only,and_true]
    refine ⟨?_,by simp [ownKey]⟩
    cases h:lookT U 10022 with
    | none=>exact absurd h hU
    | some q=>simp
  · exact ⟨by unfold midKey; omega,fun r hr=>thr_only _ _ r hr⟩
theorem midF2 {O2:List (Nat × Box)} {U2:List (Nat × Fx.Tok)} {H2:FHp} (acc:List Name) (hU:lookT U2 10022≠none):∀ p∈OF 10009 10007 10022 acc,∀ r∈p.2.rows,onlyL (fun k=>¬ ownKey k∨lookO O2 k≠none) (fun k=>(lookT U2 k).or (H2.toks k)≠none) r:=fun p hp r hr =>
  onlyL_mono (fun _ h=>.inl h) (fun _ h=>h) ((midF acc hU p hp).2 r hr)
theorem has_eq (acc:List Name) (v:Name):decide (0 < thrAt 0 acc v) = acc.contains v:=by
  rw [Bool.eq_iff_iff]; simp [thrAt_pos]
theorem m200 (acc:List Name) (v:Name):MeetsH Tryz.prog G 193 [.one (.ref 10009 0 0),.one (.c (cS (bs v)))] (hp (OF 10009 10007 10022 acc) (UF 10022 acc) F0) (rB (acc.contains v)) (hp (OF 10009 10007 10022 acc) (UF 10022 acc) F0):=by
  refine meetsH [] Tryz.func193 ie200 ig200 (Nat.le_of_ble_eq_true rfl) (midF acc (by simp)) (by simp [midKey]) (by simp [ownKey]) (by simp) (by simp) (sameKeys_refl F0) (midF2 acc (by simp)) (by simp) ?_
  simp [ic200,ir200]
  refine ret_st (by simp) ?_ (by simp) (by simp) (by simp) (by simp)
  simp [has_eq]
theorem m155 (acc l:List Name) (sp:Sp) (hl:l.length≤maxLen):MeetsH Tryz.prog G 95 [.one (.ref 10009 0 0),.one (.c (.sl (l.map nmRow) sp))] (hp (OF 10009 10007 10022 acc) (UF 10022 acc) F0) (rB (allIn l acc)) (hp (OF 10009 10007 10022 acc) (UF 10022 acc) F0):=by
  refine meetsH [] Tryz.func95 ie155 ig155 (Nat.le_of_ble_eq_true rfl) (midF acc (by simp)) (by simp [midKey]) (by simp [ownKey]) (by simp) (by simp) (sameKeys_refl F0) (midF2 acc (by simp)) (by simp) ?_
  simp [ic155,ir155]
  unfold maxLen at hl
  refine w_loopA [] [] [0,7,8,9] (by simp) (fun i:Nat=>st [(0,.k true (.x (.one (.ref 10009 0 0)))),(7,.k true (.x (.one (.c (.sl (l.map nmRow) sp))))),(8,tI .i64 l.length),(9,tI .i64 i)] (OF 10009 10007 10022 acc) (UF 10022 acc) F0) (fun i=>l.length - i)
    (fun i=>i≤l.length∧allIn (l.take i) acc = true) 0 (by simp) (by simp [allIn]) ?_
  rintro i K hK ⟨hi,hd⟩
  obtain hlt | hge:=Nat.lt_or_ge i l.length
  · simp [ic155l0,hlt]
    refine r_callV _ _ (OF 10009 10007 10022 acc) (UF 10022 acc) _ (OF 10009 10007 10022 acc) (UF 10022 acc) F0 (MeetsV.of_fun (m200 acc l[i])) rfl rfl rfl (by simp) (by simp) (by simp) (by simp) (by simp) (by simp) (by simp) (by simp) (by simp) (sameKeys_refl F0) rfl ?_
    simp
    refine condI_of (fun h=>?_) (fun h=>?_)
    · have hb:allIn l acc = false:=all_not (List.getElem_mem hlt) (by simpa using h)
      simp
      refine ret_st (by simp) ?_ (by simp) (by simp) (by simp) (by simp)
      simp [hb]
    · simp
      simp (disch:=omega) only [wrap64]
      exact hK (i + 1) _ (by simp) ⟨by omega,by rw [List.take_succ_eq_append_getElem hlt,allIn,List.all_append]; simp [allIn] at hd h ⊢; exact ⟨hd,h⟩⟩ (by omega)
  · rw [List.take_of_length_le hge] at hd
    simp [ic155l0,Nat.not_lt.mpr hge]
    refine ret_st (by simp) ?_ (by simp) (by simp) (by simp) (by simp)
    simp [hd]
theorem m173 (acc l:List Name) (sp:Sp) (hl:acc.length + l.length≤100000000):MeetsH Tryz.prog G 188 [.one (.ref 10009 0 0),.one (.c (.sl (l.map nmRow) sp))] (hp (OF 10009 10007 10022 acc) (UF 10022 acc) F0) (.tup []) (hp (OF 10009 10007 10022 (addAll acc l)) (UF 10022 (addAll acc l)) F0):=by
  refine meetsH [] Tryz.func188 ie173 ig173 (Nat.le_of_ble_eq_true rfl) (midF acc (by simp)) (by simp [midKey]) (by simp [ownKey]) (by simp) (by simp) (sameKeys_refl F0) (midF2 _ (by simp)) (by simp) ?_
  simp [ic173,ir173]
  refine w_loopA [] [22] [0,6,7,8] (by simp [ownKey]) (fun a:Nat × List Name=>st [(0,.k true (.x (.one (.ref 10009 0 0)))),(6,.k true (.x (.one (.c (.sl (l.map nmRow) sp))))),(7,tI .i64 l.length),(8,tI .i64 a.1)] (OF 10009 10007 10022 a.2) (UF 10022 a.2) F0) (fun a=>l.length - a.1)
    (fun a=>a.1≤l.length∧addAll acc l = addAll a.2 (l.drop a.1)∧a.2.length≤acc.length + a.1) (0,acc) (by simp) (by simp) ?_
  rintro ⟨i,f⟩ K hK ⟨hi,hd,hf⟩
  simp only at hi hd hf
  obtain hlt | hge:=Nat.lt_or_ge i l.length
  · rw [List.drop_eq_getElem_cons hlt,addAll] at hd
    simp [ic173l0,hlt]
    refine r_callV _ _ (OF 10009 10007 10022 f) (UF 10022 f) _ (OF 10009 10007 10022 f) (UF 10022 f) F0 (MeetsV.of_fun (m200 f l[i])) rfl rfl rfl (by simp) (by simp) (by simp) (by simp) (by simp) (by simp) (by simp) (by simp) (by simp) (sameKeys_refl F0) rfl ?_
    simp
    refine condI_of (fun h=>?_) (fun h=>?_)
    · have hn:l[i] ∉ f:=by simpa using h
      simp
      refine ⟨by unfold maxLen; omega,by unfold maxBytes; omega,?_⟩
      simp [thr_put l[i] f hn]
      simp (disch:=omega) only [wrap64]
      exact hK (i + 1,f++[l[i]]) _ (by simp) ⟨by simp; omega,by simpa [hn] using hd,by simp; omega⟩ (by simp; omega)
    · have hn:l[i]∈f:=by simpa using h
      simp
      simp (disch:=omega) only [wrap64]
      exact hK (i + 1,f) _ (by simp) ⟨by simp; omega,by simpa [hn] using hd,by simp; omega⟩ (by simp; omega)
  · rw [List.drop_eq_nil_of_le hge,addAll] at hd
    simp [ic173l0,Nat.not_lt.mpr hge,hd]
    exact ret_st (by simp) (by simp) (by simp) (by simp) (by simp) (by simp)
end Go.Proofs.YtiomojlcnemnhaaGreatDoor

namespace Go.Proofs.YtiomojlcnemnhaaGreatDoor
open Go.Fx Go.RowKit Go.Ped
variable {G:World→Prop}
theorem hp_ofA {O O':List (Nat × Box)} {U U':List (Nat × Fx.Tok)} {hO:∀ p∈O',farKey p.1∧∀ r∈p.2.rows,onlyL farKey (fun k=>lookT U' k≠none) r} {hU:∀ p∈U',farKey p.1}:hp O U (FHp.of O' U' hO hU) = hp (O++O') (U++U') F0:=by
  have e1:∀ (A:List (Nat × Box)) (k:Nat),lookO (A++O') k = (lookO A k).or (lookO O' k):=by
    intro A k
    induction A with
    | nil=>rfl
    | cons p A ih=>obtain ⟨d,b⟩:=p; simp only [List.cons_append,lookO_cons,ih]; split <;> simp
  have e2:∀ (A:List (Nat × Fx.Tok)) (k:Nat),lookT (A++U') k = (lookT A k).or (lookT U' k):=by
    intro A k
    induction A with
    | nil=>rfl
    | cons p A ih=>obtain ⟨d,b⟩:=p; simp only [List.cons_append,lookT_cons,ih]; split <;> simp
  unfold hp FHp.of
  simp only [Hp.mk.injEq]
  refine ⟨funext fun k=>?_,funext fun k=>?_,rfl⟩
  · rw [e1]; show _ = Option.or _ none; simp
  · rw [e2]; show _ = Option.or _ none; simp
def Eqn.row (q:Eqn):List C:=[cS (bs q.left),cS (bs q.right),.sl (q.lefts.map nmRow) [],.sl (q.rights.map nmRow) []]
@[simp] theorem eqn_len (q:Eqn):(Eqn.row q).length = 4:=rfl
def foundBy (acc:List Name) (q:Eqn):List Name:=match take acc q with | some v=>acc++[v] | none=>acc
theorem addAll_one (acc:List Name) (v:Name) (h:v ∉ acc):addAll acc [v] = acc++[v]:=by simp [addAll,h]
theorem m177 (acc:List Name) (q:Eqn) (h1:q.lefts.length≤1048576) (h2:q.rights.length≤1048576) (hl:acc.length≤50000000) :
    MeetsH Tryz.prog G 192 [.one (.ref 10009 0 0),.agg ((Eqn.row q).map A.c)] (hp (OF 10009 10007 10022 acc) (UF 10022 acc) F0) (rB (take acc q).isSome) (hp (OF 10009 10007 10022 (foundBy acc q)) (UF 10022 (foundBy acc q)) F0):=by
  refine meetsH [] Tryz.func192 ie177 ig177 (Nat.le_of_ble_eq_true rfl) (midF acc (by simp)) (by simp [midKey]) (by simp [ownKey,Eqn.row]) (by simp) (by simp) (sameKeys_refl F0) (midF2 _ (by simp)) (by simp) ?_
  have has:=fun v=>m200 (G:=G) acc v
  have all1:=m155 (G:=G) acc q.lefts [] (by unfold maxLen; omega)
  have all2:=m155 (G:=G) acc q.rights [] (by unfold maxLen; omega)
  have add1:=fun v=>m173 (G:=G) acc [v] [] (by simp; omega)
  obtain ⟨l,r,ls,rs⟩:=q
  simp only [Eqn.row] at *
  simp [ic177,ir177]
  refine r_callQ (gd1 true (!List.isEmpty l)) _ _ (OF 10009 10007 10022 acc) (UF 10022 acc) _ (fun _=>MeetsV.of_fun (has l)) rfl rfl (by simp) (by simp) (by simp) (by simp) (by simp) (by simp) ?_
  simp
  refine r_callQ (gd1 true (!List.isEmpty l && !decide (l∈acc))) _ _ (OF 10009 10007 10022 acc) (UF 10022 acc) _ (fun _=>MeetsV.of_fun all2) rfl rfl (by simp) (by simp) (by simp) (by simp) (by simp) (by simp) ?_
  simp
  refine condI_of (fun h=>?_) (fun h=>?_)
  · simp at h
    obtain ⟨⟨g1,g2⟩,g3⟩:=h
    have e:take acc ⟨l,r,ls,rs⟩ = some l:=by simp [take,g1,g2,g3]
    have e2:=addAll_one acc l g2
    simp
    refine r_callW _ _ (OF 10009 10007 10022 acc) (UF 10022 acc) _ (OF 10009 10007 10022 (addAll acc [l])) (UF 10022 (addAll acc [l])) (MeetsV.of_fun (add1 l)) rfl rfl rfl (by simp [X.fits,A.fits]) (by simp) ?_
    simp [foundBy,e,e2]
    exact ret_st (by simp) (by simp) (by simp) (by simp) (by simp) (by simp)
  · simp
    refine r_callQ (gd1 true (!List.isEmpty r)) _ _ (OF 10009 10007 10022 acc) (UF 10022 acc) _ (fun _=>MeetsV.of_fun (has r)) rfl rfl (by simp) (by simp) (by simp) (by simp) (by simp) (by simp) ?_
    simp
    refine r_callQ (gd1 true (!List.isEmpty r && !decide (r∈acc))) _ _ (OF 10009 10007 10022 acc) (UF 10022 acc) _ (fun _=>MeetsV.of_fun all1) rfl rfl (by simp) (by simp) (by simp) (by simp) (by simp) (by simp) ?_
    simp
    have hn:(l != [] && !acc.contains l && allIn rs acc) = false:=by
      simpa using h
    refine condI_of (fun h2=>?_) (fun h2=>?_)
    · simp at h2
      obtain ⟨⟨g1,g2⟩,g3⟩:=h2
      have e:take acc ⟨l,r,ls,rs⟩ = some r:=by
        unfold take
        rw [if_neg (by rw [hn]; simp)]
        simp [g1,g2,g3]
      have e2:=addAll_one acc r g2
      simp
      refine r_callW _ _ (OF 10009 10007 10022 acc) (UF 10022 acc) _ (OF 10009 10007 10022 (addAll acc [r])) (UF 10022 (addAll acc [r])) (MeetsV.of_fun (add1 r)) rfl rfl rfl (by simp [X.fits,A.fits]) (by simp) ?_
      simp [foundBy,e,e2]
      exact ret_st (by simp) (by simp) (by simp) (by simp) (by simp) (by simp)
    · have hn2:(r != [] && !acc.contains r && allIn ls acc) = false:=by simpa using h2
      have e:take acc ⟨l,r,ls,rs⟩ = none:=by
        unfold take
        rw [if_neg (by rw [hn]; simp),if_neg (by rw [hn2]; simp)]
      simp [foundBy,e]
      exact ret_st (by simp) (by simp) (by simp) (by simp) (by simp) (by simp)
theorem hOF (acc:List Name):∀ p∈OF 15009 15007 15022 acc,farKey p.1∧∀ r∈p.2.rows,onlyL farKey (fun k=>lookT (UF 15022 acc) k≠none) r:=by
  intro p hp
  simp only [List.mem_cons,List.not_mem_nil,or_false] at hp
  rcases hp with rfl | rfl
  · exact ⟨by unfold farKey; omega,by simp [farKey]⟩
  · exact ⟨by unfold farKey; omega,fun r hr=>thr_only _ _ r hr⟩
theorem hUF (acc:List Name):∀ p∈UF 15022 acc,farKey p.1:=by
  intro p hp
  simp only [List.mem_cons,List.not_mem_nil,or_false] at hp
  subst hp; unfold farKey; omega
def Hf (acc:List Name):FHp:=FHp.of (OF 15009 15007 15022 acc) (UF 15022 acc) (hOF acc) (hUF acc)
abbrev fv177:A:=.clo 192 [.ref 15009 0 0] []
theorem Hf_same (a b:List Name):sameKeys (Hf a) (Hf b):=by
  refine ⟨fun k=>⟨?_,?_⟩,rfl⟩
  · show lookO (OF 15009 15007 15022 a) k = none↔lookO (OF 15009 15007 15022 b) k = none
    simp only [lookO_cons]
    split <;> (try split) <;> simp
  · show lookT (UF 15022 a) k = none↔lookT (UF 15022 b) k = none
    simp only [lookT_cons]
    split <;> simp
theorem c177 (acc:List Name) (q:Eqn) (h1:q.lefts.length≤1048576) (h2:q.rights.length≤1048576) (hl:acc.length≤50000000) :
    MeetsV Tryz.prog G fv177 [.agg ((Eqn.row q).map A.c)] (hp [] [] (Hf acc)) (rB (take acc q).isSome) (hp [] [] (Hf (foundBy acc q))):=by
  have h:=(clo_of (f:=192) (fs:=[.ref 10009 0 0]) (args:=[.agg ((Eqn.row q).map A.c)]) (cs:=[]) rfl (m177 (G:=G) acc q h1 h2 hl)).ren (π:=midFar)
  simp [mfF,thr_ren] at h
  unfold Hf
  rw [hp_of,hp_of]
  simpa using h
theorem goRound_cons (f:List Name) (q:Eqn) (l:List Eqn):goRound f (q :: l) = ((goRound (foundBy f q) l).1,if (take f q).isSome then (goRound (foundBy f q) l).2 else q :: (goRound (foundBy f q) l).2):=by
  simp only [goRound,foundBy]
  cases take f q <;> rfl
theorem foundBy_len (f:List Name) (q:Eqn):(foundBy f q).length≤f.length + 1:=by
  unfold foundBy; split <;> simp
abbrev Oring (a:A):List (Nat × Box):=[(10004,⟨230,1,[[a]],none⟩)]
theorem m176 (acc:List Name) (wait:List Eqn) (hw:∀ q∈wait,q.lefts.length≤1048576∧q.rights.length≤1048576) (hl:acc.length + wait.length≤50000000) :
    MeetsH Tryz.prog G 191 [.one (.ref 10004 0 0),.one fv177] (hp (Oring (.c (.sl (wait.map Eqn.row) []))) [] (Hf acc)) (rB (decide ((goRound acc wait).2.length < wait.length)))
      (hp (Oring (.own 30 ((goRound acc wait).2.map Eqn.row))) [(30,⟨234,4,(goRound acc wait).2.length⟩)] (Hf (goRound acc wait).1)):=by
  refine meetsH [] Tryz.func191 ie176 ig176 (Nat.le_of_ble_eq_true rfl) (by simp [midKey]) (by simp) (by simp [ownKey]) (by simp) (by simp) (Hf_same _ _) (by simp) (by simp) ?_
  simp [ic176,ir176]
  generalize hN:wait.length = N
  refine w_loopA [.t 30 6 234 4] [8,29] [0,1,5,6,17,18,19] (by simp [ownKey])
    (fun a:Nat × List Eqn × List Name=>st [(0,.k true (.x (.one (.ref 10004 0 0)))),(1,.k true (.x (.one fv177))),(5,tI .i64 N),(6,.k true (.x (.one (.own 30 (a.2.1.map Eqn.row))))),(17,.k true (.x (.one (.c (.sl (wait.map Eqn.row) []))))),(18,tI .i64 N),(19,tI .i64 a.1)]
      (Oring (.c (.sl (wait.map Eqn.row) []))) [(30,⟨234,4,a.2.1.length⟩)] (Hf a.2.2)) (fun a=>N - a.1)
    (fun a=>a.1≤N∧a.2.2.length≤acc.length + a.1∧a.2.1.length≤a.1∧goRound acc wait = ((goRound a.2.2 (wait.drop a.1)).1,a.2.1++(goRound a.2.2 (wait.drop a.1)).2)) (0,[],acc) (by simp) (by simp) ?_
  rintro ⟨i,w,f⟩ K hK ⟨hi,hf,hwl,hd⟩
  simp only at hi hf hwl hd
  obtain hlt | hge:=Nat.lt_or_ge i wait.length
  · rw [List.drop_eq_getElem_cons hlt,goRound_cons] at hd
    have hq:=hw wait[i] (List.getElem_mem hlt)
    have hlt':i < N:=by omega
    simp [ic176l0,hlt,hlt']
    refine r_callC (c177 (G:=G) f wait[i] hq.1 hq.2 (by omega)) (Hf_same _ _) rfl rfl rfl (by simp [take_all]) (by simp) (by simp) ?_
    simp
    refine condI_of (fun h=>?_) (fun h=>?_)
    · simp at h
      simp [take_all]
      refine ⟨by unfold maxLen; omega,by unfold maxBytes; omega,?_⟩
      simp (disch:=omega) only [wrap64]
      exact hK (i + 1,w++[wait[i]],foundBy f wait[i]) _ (by simp) ⟨by simp; omega,by have:=foundBy_len f wait[i]; simp; omega,by simp; omega,by simpa [h] using hd⟩ (by simp; omega)
    · simp at h
      simp
      simp (disch:=omega) only [wrap64]
      exact hK (i + 1,w,foundBy f wait[i]) _ (by simp) ⟨by simp; omega,by have:=foundBy_len f wait[i]; simp; omega,by simp; omega,by simpa [h] using hd⟩ (by simp; omega)
  · rw [List.drop_eq_nil_of_le hge,goRound] at hd
    simp at hd
    rw [hd]
    have hge':¬ i < N:=by omega
    simp [ic176l0,hge']
    refine ret_st (by simp) ?_ (by simp) (by simp) (by simp) (by simp)
    simp
end Go.Proofs.YtiomojlcnemnhaaGreatDoor

namespace Go.Proofs.YtiomojlcnemnhaaGreatDoor
open Go.Fx Go.RowKit Go.Ped
variable {G:World→Prop}
theorem m2325 (n:Int):Meets Tryz.prog G 325 [.one (cI .u8 n)] (.x (.one (cB (decide (65≤n) && decide (n≤90))))):=by
  refine meets Tryz.func325 ie2325 ig2325 (Nat.le_of_ble_eq_true rfl) ?_
  simp [ic2325,ir2325]
theorem m2352 (n:Int):Meets Tryz.prog G 352 [.one (cI .u8 n)] (.x (.one (cB (decide (97≤n) && decide (n≤122))))):=by
  refine meets Tryz.func352 ie2352 ig2352 (Nat.le_of_ble_eq_true rfl) ?_
  simp [ic2352,ir2352]
theorem m2353 (n:Int):Meets Tryz.prog G 353 [.one (cI .u8 n)] (.x (.one (cB (decide (48≤n) && decide (n≤57))))):=by
  refine meets Tryz.func353 ie2353 ig2353 (Nat.le_of_ble_eq_true rfl) ?_
  simp [ic2353,ir2353]
theorem okN_eq (n:Int):okN n = ((decide (97≤n) && decide (n≤122)) || ((decide (65≤n) && decide (n≤90)) || ((decide (48≤n) && decide (n≤57)) || n == 95))):=by
  unfold okN
  simp only [ge_iff_le,Bool.or_assoc]
theorem m2348 (n:Int):Meets Tryz.prog G 348 [.one (cI .u8 n)] (.x (.one (cB (okN n)))):=by
  have h1:=m2352 (G:=G) n
  have h2:=m2325 (G:=G) n
  have h3:=m2353 (G:=G) n
  rw [okN_eq]
  generalize (decide (97≤n) && decide (n≤122)) = a at *
  generalize (decide (65≤n) && decide (n≤90)) = b at *
  generalize (decide (48≤n) && decide (n≤57)) = c at *
  refine meets Tryz.func348 ie2348 ig2348 (Nat.le_of_ble_eq_true rfl) ?_
  simp [ic2348,ir2348]
  refine call_of h1 ?_
  cases a with
  | true =>
    simp
    refine call_no (.x (.one (cB b))) ?_
    simp
    refine call_no (.x (.one (cB c))) ?_
    simp
  | false =>
    simp
    refine call_of h2 ?_
    cases b with
    | true =>
      simp
      refine call_no (.x (.one (cB c))) ?_
      simp
    | false =>
      simp
      refine call_of h3 ?_
      cases c <;> simp
def runLen:List UInt8→Nat
  | []=>0
  | b :: l=>if okB b then runLen l + 1 else 0
theorem runLen_le:∀ l:List UInt8,runLen l≤l.length
  | []=>Nat.le_refl _
  | b :: l=>by
    rw [runLen]
    split
    · have:=runLen_le l; rw [List.length_cons]; omega
    · exact Nat.zero_le _
theorem runLen_all:∀ l:List UInt8,(l.take (runLen l) = l)↔l.all okB = true
  | []=>by simp [runLen]
  | b :: l=>by
    rw [runLen,List.all_cons]
    cases h:okB b with
    | false=>simp
    | true=>simpa using runLen_all l
theorem runLen_drop:∀ (l:List UInt8) (i:Nat),i≤runLen l→runLen l = i + runLen (l.drop i)
  | l,0,_=>by simp
  | [],i + 1,h=>by simp [runLen] at h
  | b :: l,i + 1,h=>by
    rw [runLen] at h ⊢
    cases hb:okB b with
    | false=>rw [hb] at h; simp at h
    | true =>
      rw [hb] at h
      simp only [if_true] at h ⊢
      rw [List.drop_succ_cons]
      have:=runLen_drop l i (by omega)
      omega
theorem bs_take (s:List UInt8) (i:Nat):(bs s).extract 0 i = bs (s.take i):=by
  apply ByteArray.ext
  rw [ByteArray.data_extract]
  simp [bs]
theorem m2326 (s:List UInt8) (hs:s.length≤maxLen):Meets Tryz.prog G 326 [.one (cS (bs s)),.one (cI .i64 0)] (.x (.one (cS (bs (s.take (runLen s)))))):=by
  unfold maxLen at hs
  refine meets Tryz.func326 ie2326 ig2326 (Nat.le_of_ble_eq_true rfl) ?_
  simp [ic2326,ir2326]
  refine w_loopA [] [] [0,1,5] (by simp)
    (fun i:Nat=>st [(0,.k true (.x (.one (.c (cS (bs s)))))),(1,tI .i64 0),(5,tI .i64 i)] [] [] F0) (fun i=>s.length - i) (fun i=>i≤runLen s) 0 (by simp) (Nat.zero_le _) ?_
  rintro i K hK hi
  have hrl:=runLen_le s
  have hrd:=runLen_drop s i hi
  obtain hlt | hge:=Nat.lt_or_ge i s.length
  · have hc:s[i]? = some s[i]:=List.getElem?_eq_getElem hlt
    have h348:=m2348 (G:=G) s[i].toNat
    rw [show okN s[i].toNat = okB s[i] from rfl] at h348
    rw [List.drop_eq_getElem_cons hlt,runLen] at hrd
    simp [ic2326l0,hlt]
    refine call_of h348 ?_
    cases hb:okB s[i] with
    | true =>
      rw [hb] at hrd
      simp only [if_true] at hrd
      simp
      rw [wrap_next hlt (by omega)]
      exact hK (i + 1) _ (by simp) (by omega) (by omega)
    | false =>
      rw [hb] at hrd
      have e:runLen s = i:=by simpa using hrd
      rw [e]
      simp
      exact ⟨by omega,bs_take s i⟩
  · have e:runLen s = i:=by omega
    rw [e]
    simp [ic2326l0,Nat.not_lt.2 hge]
    refine call_no (.x (.one (cB true))) ?_
    simp
    exact ⟨by omega,bs_take s i⟩
theorem beq_dec (a b:List UInt8):(a == b) = decide (a = b):=by
  by_cases h:a = b
  · subst h; simp
  · simp [h]
theorem m2287 (s:List UInt8):Meets Tryz.prog G 287 [.one (cS (bs s))] (.x (.one (cB (wordOk 65 90 s)))):=by
  refine meets Tryz.func287 ie2287 ig2287 (Nat.le_of_ble_eq_true rfl) ?_
  cases s with
  | nil =>
    simp [ic2287,ir2287,wordOk]
    refine call_no (.x (.one (cB true))) ?_
    simp
    refine call_no (.x (.one (cS (bs [])))) ?_
    simp
  | cons b l =>
    have hl:(b :: l).length = l.length + 1:=rfl
    have hw:wordOk 65 90 (b :: l) = (decide ((b :: l).length≤120) && (decide ((65:Int)≤b.toNat) && decide ((b.toNat:Int)≤90)) && (b :: l).all okB):=by
      rw [wordOk,List.all_cons]
      simp only [Bool.and_assoc]
    have h0:(b :: l)[0]? = some b:=rfl
    have hpos:0 < (b :: l).length:=by omega
    have hne:b :: l≠[]:=List.cons_ne_nil _ _
    generalize b :: l = L at *
    by_cases h120:L.length≤120
    · have h1:=m2325 (G:=G) b.toNat
      have h2:=m2326 (G:=G) L (by unfold maxLen; omega)
      have h3:(decide (List.take (runLen L) L = L)) = L.all okB:=by
        cases h:L.all okB with
        | true=>exact decide_eq_true ((runLen_all L).2 h)
        | false=>exact decide_eq_false fun e=>by rw [(runLen_all L).1 e] at h; cases h
      rw [decide_eq_true h120,Bool.true_and] at hw
      rw [hw]
      generalize (decide ((65:Int)≤b.toNat) && decide ((b.toNat:Int)≤90)) = c at *
      have h120i:(L.length:Int)≤120:=by omega
      have hL0:L[0] = b:=by
        have:=List.getElem?_eq_getElem hpos
        rw [h0] at this
        exact (Option.some.inj this).symm
      simp [ic2287,ir2287,hpos,h120i,hL0]
      refine call_of h1 ?_
      cases c with
      | false =>
        simp
        refine call_no (.x (.one (cS (bs [])))) ?_
        simp
      | true =>
        simp
        refine call_of h2 ?_
        simp
        rw [← h3]
        exact beq_dec _ _
    · rw [decide_eq_false h120,Bool.false_and] at hw
      rw [hw]
      have h120i:¬ (L.length:Int)≤120:=by omega
      simp [ic2287,ir2287,hpos,h120i]
      refine call_no (.x (.one (cB true))) ?_
      simp
      refine call_no (.x (.one (cS (bs [])))) ?_
      simp
end Go.Proofs.YtiomojlcnemnhaaGreatDoor

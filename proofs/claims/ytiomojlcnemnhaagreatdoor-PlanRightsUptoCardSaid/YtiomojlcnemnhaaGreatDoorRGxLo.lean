import Derived.Test.YtiomojlcnemnhaaGreatDoorRGxG1
import Derived.Test.YtiomojlcnemnhaaGreatDoorRGxLj
import Derived.Test.YtiomojlcnemnhaaGreatDoorRGxZ4
import Derived.Test.YtiomojlcnemnhaaGreatDoorRFxZ
import Derived.Test.YtiomojlcnemnhaaGreatDoorProg
import Derived.KernelRfl
import Derived.Test.YtiomojlcnemnhaaGreatDoorRGxW4
namespace Go.Proofs.YtiomojlcnemnhaaGreatDoor
open Go.Fx Go.RowKit Go.Ped
variable {G:World→Prop}
theorem m2237 (l:List Name) (v:Name) (sp:Sp) (hl:l.length≤maxLen):Meets Tryz.prog G 237 [.one (.sl (l.map nmRow) sp),.one (cS (bs v))] (.x (.one (cB (l.contains v)))):=by
  unfold maxLen at hl
  refine meets Tryz.func237 ie2237 ig2237 (Nat.le_of_ble_eq_true rfl) ?_
  generalize hR:l.contains v = R
  simp [ic2237,ir2237]
  refine w_loopA [] [] [0,1,5] (by simp)
    (fun i:Nat=>st [(0,.k true (.x (.one (.c (.sl (l.map nmRow) sp))))),(1,.k true (.x (.one (.c (cS (bs v)))))),(5,tI .i64 i)] [] [] F0) (fun i=>l.length - i)
    (fun i=>i≤l.length∧R = (l.drop i).contains v) 0 (by simp) ⟨Nat.zero_le _,by simpa using hR.symm⟩ ?_
  rintro i K hK ⟨hi,hd⟩
  obtain hlt | hge:=Nat.lt_or_ge i l.length
  · rw [List.drop_eq_getElem_cons hlt,List.contains_cons] at hd
    by_cases hv:l[i] = v
    · rw [hv] at hd
      simp only [BEq.rfl,Bool.true_or] at hd
      subst hd
      simp [ic2237l0,hlt,hv]
    · have hb:(v == l[i]) = false:=beq_eq_false_iff_ne.2 fun e=>hv e.symm
      rw [hb,Bool.false_or] at hd
      simp [ic2237l0,hlt,hv]
      simp (disch:=omega) only [wrap64]
      exact hK (i + 1) _ (by simp) ⟨by omega,hd⟩ (by omega)
  · rw [List.drop_eq_nil_of_le hge] at hd
    subst hd
    simp [ic2237l0,Nat.not_lt.mpr hge]
theorem m2237' (l:List Name) (v:Name) (sp:Sp):Meets Tryz.prog G 237 [.one (.sl (l.map nmRow) sp),.one (cS (bs v))] (.x (.one (cB (l.contains v)))):=Meets.len (by kernel_rfl) fun hl=>m2237 l v sp (by rwa [List.length_map] at hl)
theorem m2233 (a b:List Name) (sa sb:Sp) (hl:a.length≤maxLen):Meets Tryz.prog G 233 [.one (.sl (a.map nmRow) sa),.one (.sl (b.map nmRow) sb)] (.x (.one (cB (allIn a b)))):=by
  unfold maxLen at hl
  refine meets Tryz.func233 ie2233 ig2233 (Nat.le_of_ble_eq_true rfl) ?_
  generalize hR:allIn a b = R
  unfold allIn at hR
  simp [ic2233,ir2233]
  refine w_loopA [] [] [0,1,5] (by simp)
    (fun i:Nat=>st [(0,.k true (.x (.one (.c (.sl (a.map nmRow) sa))))),(1,.k true (.x (.one (.c (.sl (b.map nmRow) sb))))),(5,tI .i64 i)] [] [] F0) (fun i=>a.length - i)
    (fun i=>i≤a.length∧R = (a.drop i).all fun v=>b.contains v) 0 (by simp) ⟨Nat.zero_le _,hR.symm⟩ ?_
  rintro i K hK ⟨hi,hd⟩
  obtain hlt | hge:=Nat.lt_or_ge i a.length
  · have h:=m2237' (G:=G) b a[i] sb
    rw [List.drop_eq_getElem_cons hlt,List.all_cons] at hd
    simp [ic2233l0,hlt]
    refine call_of h ?_
    cases hc:b.contains a[i] with
    | false =>
      rw [hc,Bool.false_and] at hd
      subst hd
      simp
    | true =>
      rw [hc,Bool.true_and] at hd
      simp
      simp (disch:=omega) only [wrap64]
      exact hK (i + 1) _ (by simp) ⟨by omega,hd⟩ (by omega)
  · rw [List.drop_eq_nil_of_le hge] at hd
    subst hd
    simp [ic2233l0,Nat.not_lt.mpr hge]
theorem m2233' (a b:List Name) (sa sb:Sp):Meets Tryz.prog G 233 [.one (.sl (a.map nmRow) sa),.one (.sl (b.map nmRow) sb)] (.x (.one (cB (allIn a b)))):=Meets.len (by kernel_rfl) fun hl=>m2233 a b sa sb (by rwa [List.length_map] at hl)
theorem m2153 (l m:List Name) (sp sq:Sp):Meets Tryz.prog G 153 [.one (.sl (l.map nmRow) sp),.one (.sl (m.map nmRow) sq)] (.x (.one (cB (decide (l = m))))):=by
  refine Meets.len (by kernel_rfl) fun hl=>?_
  rw [List.length_map] at hl
  unfold maxLen at hl
  refine meets Tryz.func153 ie2153 ig2153 (Nat.le_of_ble_eq_true rfl) ?_
  by_cases hlen:l.length = m.length
  · generalize hR:decide (l = m) = R
    simp [ic2153,ir2153,hlen]
    refine w_loopA [] [] [0,1,5] (by simp)
      (fun i:Nat=>st [(0,.k true (.x (.one (.c (.sl (l.map nmRow) sp))))),(1,.k true (.x (.one (.c (.sl (m.map nmRow) sq))))),(5,tI .i64 i)] [] [] F0) (fun i=>l.length - i)
      (fun i=>i≤l.length∧l.take i = m.take i) 0 (by simp) (by simp) ?_
    rintro i K hK ⟨hi,hd⟩
    obtain hlt | hge:=Nat.lt_or_ge i l.length
    · have hlt':i < m.length:=by omega
      by_cases hv:l[i] = m[i]
      · simp [ic2153l0,hlt,hlt',hv]
        simp (disch:=omega) only [wrap64]
        refine hK (i + 1) _ (by simp) ⟨by omega,?_⟩ (by omega)
        rw [List.take_succ_eq_append_getElem hlt,List.take_succ_eq_append_getElem hlt',hd,hv]
      · have hne:l≠m:=fun e=>hv (by subst e; rfl)
        rw [decide_eq_false hne] at hR
        subst hR
        simp [ic2153l0,hlt,hlt',hv]
    · rw [List.take_of_length_le hge,List.take_of_length_le (by omega)] at hd
      rw [decide_eq_true hd] at hR
      subst hR
      simp [ic2153l0,Nat.not_lt.mpr hge]
  · have hne:l≠m:=fun e=>hlen (by rw [e])
    rw [decide_eq_false hne]
    have hb:((l.length:Int) == (m.length:Int)) = false:=by rw [beq_eq_false_iff_ne]; omega
    simp [ic2153,ir2153,hb]
theorem m2232 (ks:List Name) (sp:Sp) (hsp:∀ e∈sp,e.length = 1):Meets Tryz.prog G 232 [.one (.sl (ks.map nmRow) sp)] (.x (.one (cB (knOkOn [] ks)))):=by
  refine Meets.len (by kernel_rfl) fun hl=>?_
  rw [List.length_map] at hl
  unfold maxLen at hl
  refine meets Tryz.func232 ie2232 ig2232 (Nat.le_of_ble_eq_true rfl) ?_
  generalize hR:knOkOn [] ks = R
  simp [ic2232,ir2232]
  refine w_loopA [] [] [0,3] (by simp)
    (fun i:Nat=>st [(0,.k true (.x (.one (.c (.sl (ks.map nmRow) sp))))),(3,tI .i64 i)] [] [] F0) (fun i=>ks.length - i)
    (fun i=>i≤ks.length∧R = knOkOn (ks.take i) (ks.drop i)) 0 (by simp) ⟨Nat.zero_le _,hR.symm⟩ ?_
  rintro i K hK ⟨hi,hd⟩
  obtain hlt | hge:=Nat.lt_or_ge i ks.length
  · have hget:ks[i]? = some ks[i]:=List.getElem?_eq_getElem hlt
    have h1:=m2287 (G:=G) ks[i]
    have h2:=m2237' (G:=G) (ks.take i) ks[i] (List.drop i (ks.map nmRow++sp))
    rw [List.drop_eq_getElem_cons hlt,knOkOn] at hd
    have ht1:List.take i (ks.map nmRow++sp) = (ks.take i).map nmRow:=by rw [List.take_append_of_le_length (by rw [List.length_map]; omega),List.map_take]
    simp [ic2232l0,hlt]
    refine call_of h1 ?_
    cases hw:wordOk 65 90 ks[i] with
    | false =>
      rw [hw] at hd
      simp only [Bool.false_and] at hd
      subst hd
      simp
      refine call_no (.x (.one (cB true))) ?_
      simp
    | true =>
      rw [hw] at hd
      simp only [Bool.true_and] at hd
      simp
      refine ⟨⟨by omega,fun e he=>?_⟩,?_⟩
      · rcases he with ⟨a,_,rfl⟩ | he
        · rfl
        · exact hsp e he
      rw [ht1]
      generalize List.drop i (ks.map nmRow++sp) = sq at h2 ⊢
      generalize (ks.take i).map nmRow = T1 at h2 ⊢
      simp [hlt]
      refine call_of h2 ?_
      cases hc:(ks.take i).contains ks[i] with
      | true =>
        rw [hc] at hd
        simp only [Bool.not_true,Bool.false_and] at hd
        subst hd
        simp
      | false =>
        rw [hc] at hd
        simp only [Bool.not_false,Bool.true_and] at hd
        simp
        simp (disch:=omega) only [wrap64]
        refine hK (i + 1) _ (by simp) ⟨by omega,?_⟩ (by omega)
        rw [hd,List.take_succ_eq_append_getElem hlt]
  · have hi2:i = ks.length:=by omega
    subst hi2
    rw [List.drop_length,knOkOn] at hd
    subst hd
    simp [ic2232l0]
end Go.Proofs.YtiomojlcnemnhaaGreatDoor

namespace Go.Ped
def Just (l:List Eqn) (f e:List Name):Prop:=∀ p v s,e = p++v :: s→∃ q∈l,take (f++p) q = some v
theorem Just.nil {l:List Eqn} {f:List Name}:Just l f []:=fun p v s h=>by simp at h
theorem Just.cons {l:List Eqn} {f e:List Name} {v:Name} {q:Eqn} (hq:q∈l) (ht:take f q = some v) (h:Just l (f++[v]) e):Just l f (v :: e):=by
  intro p w s he
  cases p with
  | nil=>simp at he; obtain ⟨rfl,rfl⟩:=he; exact ⟨q,hq,by simpa using ht⟩
  | cons u p =>
    simp at he
    obtain ⟨rfl,rfl⟩:=he
    obtain ⟨q',h1,h2⟩:=h p w s rfl
    exact ⟨q',h1,by simpa using h2⟩
theorem Just.append {l:List Eqn}:∀ {e f e':List Name},Just l f e→Just l (f++e) e'→Just l f (e++e')
  | [],f,e',_,h=>by simpa using h
  | v :: e,f,e',h,h'=>by
    obtain ⟨q,hq,ht⟩:=h [] v e rfl
    refine Just.cons hq (by simpa using ht) (Just.append (fun p w s he=>?_) (by simpa using h'))
    obtain ⟨q',g1,g2⟩:=h (v :: p) w s (by simp [he])
    exact ⟨q',g1,by simpa using g2⟩
theorem Just.mono {l l':List Eqn} {f e:List Name} (h:Just l f e) (hs:∀ q∈l,q∈l'):Just l' f e:=fun p v s he=>by
  obtain ⟨q,h1,h2⟩:=h p v s he
  exact ⟨q,hs q h1,h2⟩
theorem goRound_just:∀ (w:List Eqn) (f:List Name),∃ e,(goRound f w).1 = f++e∧Just w f e
  | [],f=>⟨[],by simp [goRound],.nil⟩
  | q :: w,f=>by
    simp only [goRound]
    cases ht:take f q with
    | some v =>
      obtain ⟨e,h1,h2⟩:=goRound_just w (f++[v])
      exact ⟨v :: e,by simp only [h1]; simp,.cons (List.mem_cons_self ..) ht (h2.mono fun q hq=>List.mem_cons_of_mem _ hq)⟩
    | none =>
      obtain ⟨e,h1,h2⟩:=goRound_just w f
      exact ⟨e,h1,h2.mono fun q hq=>List.mem_cons_of_mem _ hq⟩
theorem goRound_sub:∀ (w:List Eqn) (f:List Name),∀ q∈(goRound f w).2,q∈w
  | [],f,q,h=>by simp [goRound] at h
  | p :: w,f,q,h=>by
    simp only [goRound] at h
    split at h
    · exact List.mem_cons_of_mem _ (goRound_sub w _ q h)
    · rcases List.mem_cons.1 h with rfl | h
      · exact List.mem_cons_self ..
      · exact List.mem_cons_of_mem _ (goRound_sub w _ q h)
theorem goRounds_just (f:List Name) (w:List Eqn):∃ e,goRounds f w = f++e∧Just w f e:=by
  induction hn:w.length using Nat.strongRecOn generalizing f w with
  | ind n ih =>
    obtain ⟨e,h1,h2⟩:=goRound_just w f
    unfold goRounds
    split
    · rename_i hlt
      obtain ⟨e',g1,g2⟩:=ih _ (hn ▸ hlt) (goRound f w).1 (goRound f w).2 rfl
      refine ⟨e++e',by rw [g1,h1,List.append_assoc],h2.append ?_⟩
      rw [h1] at g2
      exact g2.mono (goRound_sub w f)
    · exact ⟨e,h1,h2⟩
theorem goRound_stable:∀ (w:List Eqn) (f:List Name),(goRound f w).2.length = w.length→(goRound f w).1 = f∧∀ q∈w,take f q = none
  | [],f,_=>⟨rfl,fun q h=>by cases h⟩
  | p :: w,f,h=>by
    simp only [goRound] at h ⊢
    cases ht:take f p with
    | some v =>
      rw [ht] at h
      have:=goRound_le w (f++[v])
      simp at h; omega
    | none =>
      rw [ht] at h
      obtain ⟨h1,h2⟩:=goRound_stable w f (by simpa using h)
      refine ⟨h1,fun q hq=>?_⟩
      rcases List.mem_cons.1 hq with rfl | hq
      · exact ht
      · exact h2 q hq
theorem Waits.none {f:List Name} {eqs w:List Eqn} (h:Waits f eqs w):(∀ q∈w,take f q = none)→∀ q∈eqs,take f q = none:=by
  induction h with
  | nil=>intro _ q hq; cases hq
  | keep h ih =>
    intro g q hq
    rcases List.mem_cons.1 hq with rfl | hq
    · exact g _ (List.mem_cons_self ..)
    · exact ih (fun p hp=>g p (List.mem_cons_of_mem _ hp)) q hq
  | gone hd h ih =>
    intro g q hq
    rcases List.mem_cons.1 hq with rfl | hq
    · exact hd _ fun _ hv=>hv
    · exact ih g q hq
theorem goRounds_closed {eqs:List Eqn} (hw:∀ q∈eqs,q.wf) (f:List Name) (w:List Eqn) (h:Waits f eqs w):∀ q∈eqs,take (goRounds f w) q = none:=by
  induction hn:w.length using Nat.strongRecOn generalizing f w with
  | ind n ih =>
    obtain ⟨h1,h2⟩:=round_same h (fun _ hv=>hv) hw
    unfold goRounds
    split
    · rename_i hlt
      exact ih _ (hn ▸ hlt) _ _ h2 rfl
    · rename_i hge
      have hle:=goRound_le w f
      obtain ⟨g1,g2⟩:=goRound_stable w f (by omega)
      rw [g1]
      exact h.none g2
theorem take_some {f:List Name} {q:Eqn} {v:Name} (h:take f q = some v):v ∉ f∧v≠[]∧((v = q.left∧∀ u∈q.rights,u∈f)∨(v = q.right∧∀ u∈q.lefts,u∈f)):=by
  unfold take at h
  split at h
  · rename_i hc
    simp only [Bool.and_eq_true,bne_iff_ne,ne_eq,Bool.not_eq_true',List.contains_eq_mem,decide_eq_false_iff_not] at hc
    injection h with h; subst h
    exact ⟨hc.1.2,hc.1.1,.inl ⟨rfl,allIn_iff.1 hc.2⟩⟩
  · split at h
    · rename_i hc
      simp only [Bool.and_eq_true,bne_iff_ne,ne_eq,Bool.not_eq_true',List.contains_eq_mem,decide_eq_false_iff_not] at hc
      injection h with h; subst h
      exact ⟨hc.1.2,hc.1.1,.inr ⟨rfl,allIn_iff.1 hc.2⟩⟩
    · cases h
theorem take_none {f:List Name} {q:Eqn} (h:take f q = none):(q.left≠[]→(∀ u∈q.rights,u∈f)→q.left∈f)∧(q.right≠[]→(∀ u∈q.lefts,u∈f)→q.right∈f):=by
  unfold take at h
  split at h
  · cases h
  · rename_i h1
    split at h
    · cases h
    · rename_i h2
      simp only [Bool.and_eq_true,bne_iff_ne,ne_eq,Bool.not_eq_true',List.contains_eq_mem,decide_eq_false_iff_not,not_and] at h1 h2
      refine ⟨fun h3 h4=>Classical.byContradiction fun h5=>?_,fun h3 h4=>Classical.byContradiction fun h5=>?_⟩
      · exact h1 ⟨h3,h5⟩ (allIn_iff.2 h4)
      · exact h2 ⟨h3,h5⟩ (allIn_iff.2 h4)
def Closed (S:Name→Prop) (eqs:List Eqn):Prop:=∀ q∈eqs,(q.left≠[]→(∀ u∈q.rights,S u)→S q.left)∧(q.right≠[]→(∀ u∈q.lefts,S u)→S q.right)
theorem just_min {S:Name→Prop} {eqs:List Eqn} (hS:Closed S eqs):∀ {e f:List Name},Just eqs f e→(∀ v∈f,S v)→∀ v∈f++e,S v
  | [],f,_,h=>by simpa using h
  | v :: e,f,hj,h=>by
    obtain ⟨q,hq,ht⟩:=hj [] v e rfl
    rw [List.append_nil] at ht
    obtain ⟨h1,h2,h3⟩:=take_some ht
    have hv:S v:=by
      rcases h3 with ⟨rfl,h3⟩ | ⟨rfl,h3⟩
      · exact (hS q hq).1 h2 fun u hu=>h u (h3 u hu)
      · exact (hS q hq).2 h2 fun u hu=>h u (h3 u hu)
    have:=just_min hS (e:=e) (f:=f++[v]) (fun p w s he=>by
      obtain ⟨q',g1,g2⟩:=hj (v :: p) w s (by simp [he])
      exact ⟨q',g1,by simpa using g2⟩) (fun u hu=>by
      rcases List.mem_append.1 hu with hu | hu
      · exact h u hu
      · simp at hu; subst hu; exact hv)
    simpa using this
theorem just_nodup {eqs:List Eqn}:∀ {e f:List Name},Just eqs f e→f.Nodup→(f++e).Nodup
  | [],f,_,h=>by simpa using h
  | v :: e,f,hj,h=>by
    obtain ⟨q,hq,ht⟩:=hj [] v e rfl
    rw [List.append_nil] at ht
    obtain ⟨h1,_,_⟩:=take_some ht
    have:=just_nodup (e:=e) (f:=f++[v]) (fun p w s he=>by
      obtain ⟨q',g1,g2⟩:=hj (v :: p) w s (by simp [he])
      exact ⟨q',g1,by simpa using g2⟩) (by
      rw [List.nodup_append]
      refine ⟨h,by simp,fun a ha b hb=>?_⟩
      simp at hb; subst hb; intro e; subst e; exact h1 ha)
    simpa using this
theorem goRounds_spec {eqs:List Eqn} (hw:∀ q∈eqs,q.wf) (f:List Name) :
    (∀ v∈f,v∈goRounds f eqs)∧Closed (·∈goRounds f eqs) eqs∧(∀ S:Name→Prop,Closed S eqs→(∀ v∈f,S v)→∀ v∈goRounds f eqs,S v)∧(f.Nodup→(goRounds f eqs).Nodup):=by
  obtain ⟨e,h1,h2⟩:=goRounds_just f eqs
  refine ⟨fun v hv=>by rw [h1]; simp [hv],fun q hq=>take_none (goRounds_closed hw f eqs (Waits.refl f eqs) q hq),fun S hS hf=>by rw [h1]; exact just_min hS h2 hf,fun hn=>by rw [h1]; exact just_nodup h2 hn⟩
end Go.Ped

namespace Go.Proofs.YtiomojlcnemnhaaGreatDoor
open Go.Fx Go.RowKit Go.Ped
theorem mem_addAll:∀ {l acc:List Name} {v:Name},v∈addAll acc l↔v∈acc∨v∈l
  | [],acc,v=>by simp [addAll]
  | u :: l,acc,v=>by
    rw [addAll,mem_addAll,List.mem_cons]
    by_cases h:acc.contains u = true
    · rw [if_pos h]
      constructor
      · rintro (h1 | h1)
        · exact .inl h1
        · exact .inr (.inr h1)
      · rintro (h1 | rfl | h1)
        · exact .inl h1
        · exact .inl (by simpa using h)
        · exact .inr h1
    · rw [if_neg h]
      simp only [List.mem_append,List.mem_singleton]
      constructor
      · rintro ((h1 | h1) | h1)
        · exact .inl h1
        · exact .inr (.inl h1)
        · exact .inr (.inr h1)
      · rintro (h1 | h1 | h1)
        · exact .inl (.inl h1)
        · exact .inl (.inr h1)
        · exact .inr h1
theorem addAll_nodup:∀ {l acc:List Name},acc.Nodup→(addAll acc l).Nodup
  | [],acc,h=>h
  | u :: l,acc,h=>by
    rw [addAll]
    refine addAll_nodup ?_
    by_cases hc:acc.contains u = true
    · rw [if_pos hc]; exact h
    · rw [if_neg hc,List.nodup_append]
      refine ⟨h,by simp,fun a ha b hb e=>?_⟩
      simp only [List.mem_singleton] at hb
      subst hb; subst e
      exact hc (by simpa using ha)
theorem mem_atomsOn:∀ {l:List Lit} {acc:List Name} {v:Name},v∈atomsOn acc l↔v∈acc∨∃ x∈l,x.kind = 1∧v∈tmVars x.l
  | [],acc,v=>by simp [atomsOn]
  | x :: l,acc,v=>by
    rw [atomsOn,mem_atomsOn]
    by_cases h:x.kind = 1
    · rw [if_pos h,mem_addAll]
      constructor
      · rintro ((h1 | h1) | ⟨y,h1,h2⟩)
        · exact .inl h1
        · exact .inr ⟨x,List.mem_cons_self ..,h,h1⟩
        · exact .inr ⟨y,List.mem_cons_of_mem _ h1,h2⟩
      · rintro (h1 | ⟨y,h1,h2⟩)
        · exact .inl (.inl h1)
        · rcases List.mem_cons.1 h1 with rfl | h1
          · exact .inl (.inr h2.2)
          · exact .inr ⟨y,h1,h2⟩
    · rw [if_neg h]
      constructor
      · rintro (h1 | ⟨y,h1,h2⟩)
        · exact .inl h1
        · exact .inr ⟨y,List.mem_cons_of_mem _ h1,h2⟩
      · rintro (h1 | ⟨y,h1,h2⟩)
        · exact .inl h1
        · rcases List.mem_cons.1 h1 with rfl | h1
          · exact absurd h2.1 h
          · exact .inr ⟨y,h1,h2⟩
theorem atomsOn_nodup:∀ {l:List Lit} {acc:List Name},acc.Nodup→(atomsOn acc l).Nodup
  | [],acc,h=>h
  | x :: l,acc,h=>by
    rw [atomsOn]
    refine atomsOn_nodup ?_
    split
    · exact addAll_nodup h
    · exact h
theorem limits_spec (l:List Lit):(∀ v∈atomsOn [] l,v∈limitsOf l)∧Closed (·∈limitsOf l) (eqsOf l)∧(∀ S:Name→Prop,Closed S (eqsOf l)→(∀ v∈atomsOn [] l,S v)→∀ v∈limitsOf l,S v)∧(limitsOf l).Nodup:=by
  obtain ⟨h1,h2,h3,h4⟩:=goRounds_spec (eqs_wf l) (atomsOn [] l)
  exact ⟨h1,h2,h3,h4 (atomsOn_nodup List.nodup_nil)⟩
theorem mem_eqsOf {q:Eqn} {l:List Lit}:q∈eqsOf l↔∃ x∈l,isEqn x = true∧eqnOf x = q :=
  ⟨eqsOf_mem,fun ⟨x,h1,h2,h3⟩=>by subst h3; exact List.mem_map_of_mem (List.mem_filter.2 ⟨h1,h2⟩)⟩
end Go.Proofs.YtiomojlcnemnhaaGreatDoor

namespace Go.Proofs.YtiomojlcnemnhaaGreatDoor
open Go.Fx
end Go.Proofs.YtiomojlcnemnhaaGreatDoor

namespace Go.Proofs.YtiomojlcnemnhaaGreatDoor
open Go.Fx Go.RowKit Go.Ped
variable {G:World→Prop}
def Rule.fit (r:Rule):Prop:=r.small 1048576∧(∀ x∈r.body,x.fit)∧r.terms.length≤1048576∧(r.body.map fun x=>x.l.length).sum≤10000000
end Go.Proofs.YtiomojlcnemnhaaGreatDoor

namespace Go.Proofs.YtiomojlcnemnhaaGreatDoor
open Go.Fx Go.RowKit Go.Ped
variable {G:World→Prop}
abbrev vX:Tm:=⟨[88],zeroV⟩
abbrev vN:Tm:=⟨[78],zeroV⟩
abbrev vM:Tm:=⟨[77],zeroV⟩
def exT (t:Tm):Ex:=.mk 0 t [] []
def exSum:Ex:=.mk 2 zeroT [exT vM,exT ⟨[],⟨1,1,[]⟩⟩] []
def setN:Lit:=⟨3,[],[],[],1,exT vN,exSum⟩
def atomE:Lit:=⟨1,[101],[vX,vM],[],0,exK,exK⟩
def otherR:Rule:=⟨[112],[⟨0,vX⟩,⟨0,vN⟩],[],[setN,atomE],[]⟩
theorem exT_row (t:Tm):(exT t).row = [cI .i8 0,cS (bs t.v),cI .i8 t.x.k,cI .i64 t.x.n,cS (bs t.x.s),.sl [] []]:=by rw [exT,Ex.row_eq]; rfl
theorem exSum_row:exSum.row = [cI .i8 2,cS (bs []),cI .i8 0,cI .i64 0,cS (bs []),.sl [(exT vM).row,(exT ⟨[],⟨1,1,[]⟩⟩).row] []]:=by rw [exSum,Ex.row_eq]; rfl
theorem otherR_row:otherR.row = [cS (bs [112]),.sl [[cI .i8 0,cS (bs [88]),cI .i8 0,cI .i64 0,cS (bs [])],[cI .i8 0,cS (bs [78]),cI .i8 0,cI .i64 0,cS (bs [])]] [],.sl [setN.row,atomE.row] []]:=rfl
theorem setN_row:setN.row = [cI .i8 3,cS (bs []),.sl [] [],cI .i8 1]++(exT vN).row++exSum.row:=rfl
theorem exK_row:exK.row = [cI .i8 0,cS (bs []),cI .i8 0,cI .i64 0,cS (bs []),.sl [] []]:=by rw [exK,Ex.row_eq]; rfl
theorem atomE_row:atomE.row = [cI .i8 1,cS (bs [101]),.sl [[cS (bs [88]),cI .i8 0,cI .i64 0,cS (bs [])],[cS (bs [77]),cI .i8 0,cI .i64 0,cS (bs [])]] [],cI .i8 0]++exK.row++exK.row:=rfl
set_option maxRecDepth 100000 in
set_option maxHeartbeats 2000000 in
theorem m152:Meets Tryz.prog G 158 [] (.x (.agg otherR.row)):=by
  rw [otherR_row,setN_row,atomE_row,exSum_row,exT_row,exT_row,exT_row,exK_row]
  refine meets Tryz.func158 ie152 ig152 (Nat.le_of_ble_eq_true rfl) ?_
  simp (config:={ maxSteps:=4000000 }) [ic152,ir152]
  simp [zeroV]
end Go.Proofs.YtiomojlcnemnhaaGreatDoor

namespace Go.Proofs.YtiomojlcnemnhaaGreatDoor
open Go.Fx Go.RowKit Go.Ped
variable {G:World→Prop}
theorem low_mod {m k:Nat} (h1:m.testBit k = true) (h0:∀ j,j < k→m.testBit j = false):m % 2 ^ (k + 1) = 2 ^ k:=by
  apply Nat.eq_of_testBit_eq
  intro j
  rw [Nat.testBit_mod_two_pow,Nat.testBit_two_pow]
  rcases Nat.lt_trichotomy j k with h | h | h
  · rw [h0 j h]; simp; omega
  · subst h; simp [h1]
  · have:¬ j < k + 1:=by omega
    simp [this]; omega
theorem low_and {m k:Nat} (hk:k < 24) (hm:m < 2 ^ 24) (h1:m.testBit k = true) (h0:∀ j,j < k→m.testBit j = false):m &&& (4294967296 - m) = 2 ^ k:=by
  have h2:=low_mod h1 h0
  have h3:=Nat.div_add_mod m (2 ^ (k + 1))
  rw [h2] at h3
  have hp:2 ^ (k + 1) * 2 ^ (31 - k) = 4294967296:=by rw [← Nat.pow_add,show k + 1 + (31 - k) = 32 by omega]
  have hq:m / 2 ^ (k + 1) < 2 ^ (31 - k):=by
    apply Nat.div_lt_of_lt_mul
    rw [hp]
    have:(2:Nat) ^ 24 < 4294967296:=by decide
    omega
  generalize m / 2 ^ (k + 1) = q at *
  have hlt:2 ^ k < 2 ^ (k + 1):=Nat.pow_lt_pow_right (by omega) (by omega)
  have h4:4294967296 - m = 2 ^ (k + 1) * (2 ^ (31 - k) - (q + 1)) + 2 ^ k:=by
    have h5:2 ^ (k + 1) * (2 ^ (31 - k) - (q + 1)) = 4294967296 - (2 ^ (k + 1) * q + 2 ^ (k + 1)):=by
      rw [Nat.mul_sub,hp,Nat.mul_add,Nat.mul_one]
    have h6:2 ^ (k + 1) * (q + 1)≤4294967296:=by rw [← hp]; exact Nat.mul_le_mul_left _ hq
    rw [Nat.mul_add,Nat.mul_one] at h6
    have h7:2 ^ (k + 1) = 2 * 2 ^ k:=by rw [Nat.pow_succ]; omega
    rw [h5,← h3]
    omega
  rw [h4,← h3]
  apply Nat.eq_of_testBit_eq
  intro j
  rw [Nat.testBit_and,Nat.testBit_two_pow_mul_add _ hlt,Nat.testBit_two_pow_mul_add _ hlt,Nat.testBit_two_pow]
  by_cases hj:j < k + 1
  · simp [hj]
  · simp only [hj,if_false]
    rw [Nat.testBit_two_pow_sub_succ hq]
    have hn:¬ k = j:=by omega
    simp [hn]
    exact fun h _=>h
abbrev bruijnTab:List Int:=[0,1,28,2,29,14,24,3,30,22,20,15,25,17,4,8,31,27,13,23,21,19,16,7,26,12,18,6,11,5,10,9]
abbrev GB:World→Prop:=fun w=>Lib.TabIs Tryz.prog w "math/bits.deBruijn32tab" .u8 bruijnTab
theorem gBruijn:Tryz.prog.globalNamed "math/bits.deBruijn32tab" = some 2:=by kernel_rfl
theorem bruijn_at (i:Nat) (hi:i < 32):∀ w,GB w→w.cell? ⟨2,i,none⟩ = some (.int .u8 (bruijnTab.getD i 0)):=fun _ h=>h.cell gBruijn i hi
theorem neg_and (m k:Nat) (hk:k < 24) (hm:m < 2 ^ 24) (h1:m.testBit k = true) (h0:∀ j,j < k→m.testBit j = false):bits .and .u32 (m:Int) (IntKind.u32.wrap (-(m:Int))) = ((2 ^ k:Nat):Int):=by
  have e2:=(pow24 hk).2
  have hm2:m < 16777216:=hm
  have hpos:0 < m:=Nat.pos_of_ne_zero fun e=>by rw [e] at h1; simp at h1
  have e1:IntKind.u32.wrap (-(m:Int)) = ((4294967296 - m:Nat):Int):=by
    simp [IntKind.wrap,IntKind.bits,IntKind.signed]
    omega
  rw [e1]
  unfold bits
  simp only [BitVec.ofInt_natCast,BitVec.toNat_and,BitVec.toNat_ofNat]
  have hb:(2:Nat) ^ IntKind.u32.bits = 4294967296:=by decide
  rw [hb,Nat.mod_eq_of_lt (by omega),Nat.mod_eq_of_lt (by omega),low_and hk hm h1 h0,wrap_u32 _ (by omega)]
theorem m221 (m k:Nat) (hk:k < 24) (hm:m < 2 ^ 24) (h1:m.testBit k = true) (h0:∀ j,j < k→m.testBit j = false):Meets Tryz.prog GB 329 [.one (cI .u32 m)] (.x (.one (cI .i64 k))):=by
  have hand:=neg_and m k hk hm h1 h0
  have hpos:((m:Int) == 0) = false:=beq_eq_false_iff_ne.2 fun e=>by
    have:m = 0:=by omega
    rw [this] at h1
    simp at h1
  refine meets Tryz.func329 ie221 ig221 (Nat.le_of_ble_eq_true rfl) ?_
  simp [ic221,ir221,hpos,hand]
  obtain ⟨i,hi,hi32,hit⟩:∃ i:Nat,(IntKind.u32.wrap (2 ^ k * 125613361)).fdiv (2 ^ min 27 IntKind.u32.bits) = (i:Int)∧i < 32∧bruijnTab.getD i 0 = (k:Int):=by
    have h:=(by decide +kernel:∀ q:Fin 24,∃ i:Fin 32,(IntKind.u32.wrap (2 ^ q.val * 125613361)).fdiv (2 ^ min 27 IntKind.u32.bits) = (i.val:Int)∧bruijnTab.getD i.val 0 = (q.val:Int)) ⟨k,hk⟩
    obtain ⟨i,h2,h3⟩:=h
    exact ⟨i.val,h2,i.isLt,h3⟩
  rw [hi]
  refine ⟨⟨by omega,by omega⟩,?_⟩
  refine k_gload (.int .u8 k) rfl rfl rfl (fun w hw=>by
    have:=bruijn_at i hi32 w hw
    rw [hit] at this
    simpa using this) ?_
  simp
  simp (disch:=omega) only [wrap64]
end Go.Proofs.YtiomojlcnemnhaaGreatDoor

namespace Go.Proofs.YtiomojlcnemnhaaGreatDoor
open Go.Fx Go.RowKit Go.Ped
variable {G:World→Prop}
theorem m199 (m:Nat):MeetsH Tryz.prog G 290 [.one (.c (cI .u32 m))] (hp [] [] F0) (.x (.one (.clo 328 [] [.ref 1 0 0]))) (hp [(1,⟨190,1,[[.c (cI .u32 m)]],none⟩)] [] F0):=by
  refine meetsH [] Tryz.func290 ie199 ig199 (Nat.le_of_ble_eq_true rfl) (by simp) (by simp) (by simp) (by simp) (by simp) (sameKeys_refl F0) (by simp) (by simp) ?_
  simp [ic199,ir199]
  exact ret_st (by simp) (by simp) (by simp) (by simp) (by simp) (by simp)
def bitsOf (m:Nat):List Nat:=(List.range 24).filter m.testBit
theorem range_at {k:Nat} (hk:k < 24):List.range 24 = List.range k++k :: List.range' (k + 1) (23 - k) :=
  (by decide +kernel:∀ q:Fin 24,List.range 24 = List.range q.val++q.val :: List.range' (q.val + 1) (23 - q.val)) ⟨k,hk⟩
theorem low_ex {m:Nat} (h0:m≠0) (hm:m < 2 ^ 24):∃ k,k < 24∧m.testBit k = true∧∀ j,j < k→m.testBit j = false:=by
  have hex:∃ k,m.testBit k = true:=by
    apply Classical.byContradiction
    intro hn
    apply h0
    apply Nat.eq_of_testBit_eq
    intro j
    rw [Nat.zero_testBit]
    cases h:m.testBit j with
    | false=>rfl
    | true=>exact absurd ⟨j,h⟩ hn
  obtain ⟨k0,hk0⟩:=hex
  have hmin:∀ n,(∃ k,k < n∧m.testBit k = true)→∃ k,m.testBit k = true∧∀ j,j < k→m.testBit j = false:=fun n=>by
    induction n with
    | zero=>rintro ⟨k,hk,_⟩; exact absurd hk (Nat.not_lt_zero _)
    | succ n ih =>
      rintro ⟨k,hk,hb⟩
      by_cases hs:∃ k,k < n∧m.testBit k = true
      · exact ih hs
      · have hkn:k = n:=by
          apply Classical.byContradiction
          intro hne
          exact hs ⟨k,by omega,hb⟩
        refine ⟨k,hb,fun j hj=>?_⟩
        cases h:m.testBit j with
        | false=>rfl
        | true=>exact absurd ⟨j,by omega,h⟩ hs
  obtain ⟨k,hk,hj⟩:=hmin (k0 + 1) ⟨k0,Nat.lt_succ_self _,hk0⟩
  refine ⟨k,?_,hk,hj⟩
  apply Classical.byContradiction
  intro hge
  have hlt:m < 2 ^ k:=Nat.lt_of_lt_of_le hm (Nat.pow_le_pow_right (by omega) (by omega))
  rw [Nat.testBit_lt_two_pow hlt] at hk
  cases hk
theorem bitsOf_cons {m k:Nat} (hk:k < 24) (h1:m.testBit k = true) (h0:∀ j,j < k→m.testBit j = false):bitsOf m = k :: bitsOf (clr m k):=by
  have e1:(List.range k).filter m.testBit = []:=List.filter_eq_nil_iff.2 fun j hj=>by rw [h0 j (List.mem_range.1 hj)]; exact Bool.noConfusion
  have e2:(List.range k).filter (clr m k).testBit = []:=List.filter_eq_nil_iff.2 fun j hj=>by
    have:=List.mem_range.1 hj
    rw [clr_bit hk (by omega),h0 j this]
    exact Bool.noConfusion
  have e3:(clr m k).testBit k = false:=by rw [clr_bit hk (by omega)]; simp
  have e4:(List.range' (k + 1) (23 - k)).filter (clr m k).testBit = (List.range' (k + 1) (23 - k)).filter m.testBit:=List.filter_congr fun j hj=>by
    have:=List.mem_range'_1.1 hj
    rw [clr_bit hk (by omega)]
    have hne:k≠j:=by omega
    simp [hne]
  unfold bitsOf
  rw [range_at hk,List.filter_append,List.filter_append,List.filter_cons,List.filter_cons,e1,e2,h1,e3,e4]
  simp
theorem bitsOf_zero:bitsOf 0 = []:=List.filter_eq_nil_iff.2 fun j _=>by simp
theorem bitsOf_mem {m j:Nat} (h:j∈bitsOf m):j < 24∧m.testBit j = true:=by
  obtain ⟨h1,h2⟩:=List.mem_filter.1 h
  exact ⟨List.mem_range.1 h1,h2⟩
end Go.Proofs.YtiomojlcnemnhaaGreatDoor

namespace Go.Proofs.YtiomojlcnemnhaaGreatDoor
open Go.Fx Go.RowKit Go.Ped
variable {G:World→Prop}
def runOn (body:List Lit) (ns:List Name):List Nat→Int→Option Nat × Int
  | [],pos=>(none,pos)
  | i :: l,pos =>
    match body[i]? with
    | none=>(none,pos)
    | some x=>if x.kind = 1 then runOn body ns l (if pos < 0 then i else pos) else if (stepOf ns x i).2 = true then (some i,pos) else runOn body ns l pos
abbrev ON (body:C) (ns:List Name) (r pos:Int):List (Nat × Box):=(10002,⟨188,1,[[.ref 10009 0 0]],none⟩) :: (10004,⟨3,1,[[.c (cI .i64 r)]],none⟩) :: (10005,⟨3,1,[[.c (cI .i64 pos)]],none⟩) :: OS 10009 10007 body ns
attribute [simp] ON
abbrev yldN (l:Nat) (ta:Array Value):A:=.yld l ta [2,4,5] [.ref 10002 0 0,.ref 10004 0 0,.ref 10005 0 0]
structure Rounds (G:World→Prop) (l:Nat) (ta:Array Value) (Zn Zr:XP) (body:List Lit) (sb:Sp) (ns:List Name) (i:Nat):Prop where
  atom:∀ (h:i < body.length) (r pos:Int),body[i].kind = 1→MeetsV Tryz.prog G (yldN l ta) [.one (.c (cI .i64 i))] (hp (ON (.sl (body.map Lit.row) sb) ns r pos) [] (FX Zn)) (rB true) (hp (ON (.sl (body.map Lit.row) sb) ns r (if pos < 0 then i else pos)) [] (FX Zn))
  ready:∀ (h:i < body.length) (r pos:Int),body[i].kind≠1→(stepOf ns body[i] i).2 = true→MeetsV Tryz.prog G (yldN l ta) [.one (.c (cI .i64 i))] (hp (ON (.sl (body.map Lit.row) sb) ns r pos) [] (FX Zn)) (rB false) (hp (ON (.sl (body.map Lit.row) sb) ns i pos) [] (FX Zr))
  waits:∀ (h:i < body.length) (r pos:Int),body[i].kind≠1→(stepOf ns body[i] i).2 = false→MeetsV Tryz.prog G (yldN l ta) [.one (.c (cI .i64 i))] (hp (ON (.sl (body.map Lit.row) sb) ns r pos) [] (FX Zn)) (rB true) (hp (ON (.sl (body.map Lit.row) sb) ns r pos) [] (FX Zn))
theorem m220n (Zn Zr:XP) (l:Nat) (ta:Array Value) (body:List Lit) (sb:Sp) (ns:List Name) (m:Nat) (hm:m < 2 ^ 24) (hin:∀ i∈bitsOf m,i < body.length) (hY:∀ i∈bitsOf m,Rounds GB l ta Zn Zr body sb ns i) (r pos pos':Int) (hrun:runOn body ns (bitsOf m) pos = (none,pos')) :
    MeetsH Tryz.prog GB 328 [.one (yldN l ta),.one (.ref 10001 0 0)] (hp ((10001,⟨190,1,[[.c (cI .u32 m)]],none⟩) :: ON (.sl (body.map Lit.row) sb) ns r pos) [] (FX Zn)) (.tup []) (hp ((10001,⟨190,1,[[.c (cI .u32 0)]],none⟩) :: ON (.sl (body.map Lit.row) sb) ns r pos') [] (FX Zn)):=by
  refine meetsH [] Tryz.func328 ie220 ig220 (Nat.le_of_ble_eq_true rfl) (by simp [midKey,ownKey]) (by simp) (by simp [ownKey]) (by simp) (by simp) (sameKeys_refl _) (by simp) (by simp) ?_
  simp [ic220,ir220]
  refine w_loopA [] [] [0,1] (by simp)
    (fun a:Nat × Int=>st [(0,.k true (.x (.one (yldN l ta)))),(1,.k true (.x (.one (.ref 10001 0 0))))] ((10001,⟨190,1,[[.c (cI .u32 a.1)]],none⟩) :: ON (.sl (body.map Lit.row) sb) ns r a.2) [] (FX Zn)) (fun a=>(bitsOf a.1).length)
    (fun a=>a.1 < 2 ^ 24∧(∀ i∈bitsOf a.1,i < body.length∧Rounds GB l ta Zn Zr body sb ns i)∧runOn body ns (bitsOf a.1) a.2 = (none,pos')) (m,pos) (by simp) ⟨hm,fun i hi=>⟨hin i hi,hY i hi⟩,hrun⟩ ?_
  rintro ⟨q,p⟩ K hK ⟨hq,hR,hr⟩
  simp only at hq hR hr
  by_cases h0:q = 0
  · subst h0
    rw [bitsOf_zero,runOn] at hr
    injection hr with _ hr
    subst hr
    simp [ic220l0]
    exact ret_st (by simp) (by simp) (by simp) (by simp) (by simp) (by simp)
  · obtain ⟨k,hk,h1,h2⟩:=low_ex h0 hq
    have hb:=bitsOf_cons hk h1 h2
    have hne:((q:Int) == 0) = false:=beq_eq_false_iff_ne.2 (by omega)
    have h221:=m221 q k hk hq h1 h2
    have hclr:=andNot_bit k q hk hq
    have hcl:=clr_lt (i:=k) hq
    rw [hb] at hr hR
    obtain ⟨hkl,hRk⟩:=hR k (List.mem_cons_self ..)
    rw [runOn,List.getElem?_eq_getElem hkl] at hr
    simp only at hr
    simp [ic220l0,hne]
    refine call_of h221 ?_
    simp
    by_cases hkd:body[k].kind = 1
    · rw [if_pos hkd] at hr
      refine r_callW _ _ (ON (.sl (body.map Lit.row) sb) ns r p) [] _ (ON (.sl (body.map Lit.row) sb) ns r (if p < 0 then k else p)) [] (hRk.atom hkl r p hkd) rfl rfl rfl (by simp [X.fits,A.fits]) (by simp) ?_
      simp [hclr]
      exact hK (clr q k,if p < 0 then k else p) _ (by simp) ⟨hcl,fun i hi=>hR i (List.mem_cons_of_mem _ hi),hr⟩ (by rw [hb,List.length_cons]; simp only; omega)
    · rw [if_neg hkd] at hr
      cases hs:(stepOf ns body[k] k).2 with
      | true=>rw [hs,if_pos rfl] at hr; cases hr
      | false =>
        rw [hs] at hr
        simp only [Bool.false_eq_true,if_false] at hr
        refine r_callW _ _ (ON (.sl (body.map Lit.row) sb) ns r p) [] _ (ON (.sl (body.map Lit.row) sb) ns r p) [] (hRk.waits hkl r p hkd hs) rfl rfl rfl (by simp [X.fits,A.fits]) (by simp) ?_
        simp [hclr]
        exact hK (clr q k,p) _ (by simp) ⟨hcl,fun i hi=>hR i (List.mem_cons_of_mem _ hi),hr⟩ (by rw [hb,List.length_cons]; simp only; omega)
def maskOn (body:List Lit) (ns:List Name):List Nat→Nat→Int→Nat
  | [],m,_=>m
  | i :: l,m,pos =>
    match body[i]? with
    | none=>m
    | some x=>if x.kind = 1 then maskOn body ns l (clr m i) (if pos < 0 then i else pos) else if (stepOf ns x i).2 = true then m else maskOn body ns l (clr m i) pos
theorem m220s (Zn Zr:XP) (hmk:Zr.mark = Zn.mark) (l:Nat) (ta:Array Value) (body:List Lit) (sb:Sp) (ns:List Name) (m:Nat) (hm:m < 2 ^ 24) (hin:∀ i∈bitsOf m,i < body.length) (hY:∀ i∈bitsOf m,Rounds GB l ta Zn Zr body sb ns i) (r pos pos':Int) (s:Nat) (hrun:runOn body ns (bitsOf m) pos = (some s,pos')) :
    MeetsH Tryz.prog GB 328 [.one (yldN l ta),.one (.ref 10001 0 0)] (hp ((10001,⟨190,1,[[.c (cI .u32 m)]],none⟩) :: ON (.sl (body.map Lit.row) sb) ns r pos) [] (FX Zn)) (.tup []) (hp ((10001,⟨190,1,[[.c (cI .u32 (maskOn body ns (bitsOf m) m pos))]],none⟩) :: ON (.sl (body.map Lit.row) sb) ns s pos') [] (FX Zr)):=by
  refine meetsH [] Tryz.func328 ie220 ig220 (Nat.le_of_ble_eq_true rfl) (by simp [midKey,ownKey]) (by simp) (by simp [ownKey]) (by simp) (by simp) ⟨fun _=>⟨Iff.rfl,Iff.rfl⟩,hmk⟩ (by simp) (by simp) ?_
  generalize hM:maskOn body ns (bitsOf m) m pos = M
  simp [ic220,ir220]
  refine w_loopA [] [] [0,1] (by simp)
    (fun a:Nat × Int=>st [(0,.k true (.x (.one (yldN l ta)))),(1,.k true (.x (.one (.ref 10001 0 0))))] ((10001,⟨190,1,[[.c (cI .u32 a.1)]],none⟩) :: ON (.sl (body.map Lit.row) sb) ns r a.2) [] (FX Zn)) (fun a=>(bitsOf a.1).length)
    (fun a=>a.1 < 2 ^ 24∧(∀ i∈bitsOf a.1,i < body.length∧Rounds GB l ta Zn Zr body sb ns i)∧runOn body ns (bitsOf a.1) a.2 = (some s,pos')∧maskOn body ns (bitsOf a.1) a.1 a.2 = M) (m,pos) (by simp) ⟨hm,fun i hi=>⟨hin i hi,hY i hi⟩,hrun,hM⟩ ?_
  rintro ⟨q,p⟩ K hK ⟨hq,hR,hr,hMq⟩
  simp only at hq hR hr hMq
  by_cases h0:q = 0
  · subst h0
    rw [bitsOf_zero,runOn] at hr
    cases hr
  · obtain ⟨k,hk,h1,h2⟩:=low_ex h0 hq
    have hb:=bitsOf_cons hk h1 h2
    have hne:((q:Int) == 0) = false:=beq_eq_false_iff_ne.2 (by omega)
    have h221:=m221 q k hk hq h1 h2
    have hclr:=andNot_bit k q hk hq
    have hcl:=clr_lt (i:=k) hq
    rw [hb] at hr hR hMq
    obtain ⟨hkl,hRk⟩:=hR k (List.mem_cons_self ..)
    rw [runOn,List.getElem?_eq_getElem hkl] at hr
    rw [maskOn,List.getElem?_eq_getElem hkl] at hMq
    simp only at hr hMq
    simp [ic220l0,hne]
    refine call_of h221 ?_
    simp
    by_cases hkd:body[k].kind = 1
    · rw [if_pos hkd] at hr hMq
      refine r_callW _ _ (ON (.sl (body.map Lit.row) sb) ns r p) [] _ (ON (.sl (body.map Lit.row) sb) ns r (if p < 0 then k else p)) [] (hRk.atom hkl r p hkd) rfl rfl rfl (by simp [X.fits,A.fits]) (by simp) ?_
      simp [hclr]
      exact hK (clr q k,if p < 0 then k else p) _ (by simp) ⟨hcl,fun i hi=>hR i (List.mem_cons_of_mem _ hi),hr,hMq⟩ (by rw [hb,List.length_cons]; simp only; omega)
    · rw [if_neg hkd] at hr hMq
      cases hs:(stepOf ns body[k] k).2 with
      | true =>
        rw [hs,if_pos rfl] at hr hMq
        injection hr with e1 e2
        injection e1 with e1
        subst e1 e2 hMq
        refine r_callV _ _ (ON (.sl (body.map Lit.row) sb) ns r p) [] _ (ON (.sl (body.map Lit.row) sb) ns k p) [] (FX Zr) (hRk.ready hkl r p hkd hs) rfl rfl rfl (by simp [X.fits,A.fits]) (by simp) (by simp) (by simp) (by simp) (by simp) (by simp) (by simp) (by simp) ⟨fun _=>⟨Iff.rfl,Iff.rfl⟩,hmk⟩ rfl ?_
        simp
        exact ret_st (by simp) (by simp) (by simp) (by simp) (by simp) (by simp)
      | false =>
        rw [hs] at hr hMq
        simp only [Bool.false_eq_true,if_false] at hr hMq
        refine r_callW _ _ (ON (.sl (body.map Lit.row) sb) ns r p) [] _ (ON (.sl (body.map Lit.row) sb) ns r p) [] (hRk.waits hkl r p hkd hs) rfl rfl rfl (by simp [X.fits,A.fits]) (by simp) ?_
        simp [hclr]
        exact hK (clr q k,p) _ (by simp) ⟨hcl,fun i hi=>hR i (List.mem_cons_of_mem _ hi),hr,hMq⟩ (by rw [hb,List.length_cons]; simp only; omega)
end Go.Proofs.YtiomojlcnemnhaaGreatDoor

namespace Go.Proofs.YtiomojlcnemnhaaGreatDoor
open Go.Fx Go.RowKit Go.Ped
variable {G:World→Prop}
theorem m217z (Z:XP) (body:C) (ns:List Name) (v:Name):MeetsH Tryz.prog G 285 [.one (.ref 10009 0 0),.one (.c (cS (bs v)))] (hp (OS 10009 10007 body ns) [] (FX Z)) (rB (ns.contains v)) (hp (OS 10009 10007 body ns) [] (FX Z)):=by
  refine meetsH [] Tryz.func285 ie217 ig217 (Nat.le_of_ble_eq_true rfl) (by simp [midKey,ownKey]) (by simp) (by simp [ownKey]) (by simp) (by simp) (sameKeys_refl (FX Z)) (by simp) (by simp) ?_
  simp [ic217,ir217,kn_strike',kn_any',kn_get]
  exact ret_st (by simp) (by simp) (by simp) (by simp) (by simp) (by simp)
theorem m194z (Z:XP) (body:C) (ns l:List Name) (sp:Sp) (hl:l.length≤1048576):MeetsH Tryz.prog G 228 [.one (.ref 10009 0 0),.one (.c (.sl (l.map nmRow) sp))] (hp (OS 10009 10007 body ns) [] (FX Z)) (.x (.one (.c (.sl ((unk ns l).map nmRow) [])))) (hp (OS 10009 10007 body ns) [] (FX Z)):=by
  refine MeetsH.of_reader (res:=.x (.one (.sl ((unk ns l).map nmRow) []))) (by kernel_rfl) ?_ ?_ ?_
  · intro x hx
    simp only [List.mem_cons,List.not_mem_nil,or_false] at hx
    rcases hx with rfl | rfl <;> trivial
  · intro k b hb rr hrr
    rw [hp_objs_FX] at hb
    simp only [OS,lookO_cons,lookO_nil] at hb
    split at hb
    · injection hb with hb
      subst hb
      simp only [List.mem_singleton] at hrr
      subst hrr
      exact ⟨trivial,trivial,trivial⟩
    · split at hb
      · injection hb with hb
        subst hb
        obtain ⟨v,_,rfl⟩:=List.mem_map.1 hrr
        exact ⟨trivial,trivial⟩
      · cases hb
  · intro w env F vs hG hmem ha
    obtain ⟨v0,vs',rfl,hv0,ha⟩:=ha.head
    obtain ⟨v1,vs'',rfl,hv1,ha⟩:=ha.head
    obtain rfl:=ha.nil_left
    obtain ⟨b,us',g1,g2,g3,g4,g5⟩:=hmem.objs 10007 ⟨0,1,ns.map knRow,some (.string,false)⟩ (by rw [hp_objs_FX]; simp)
    obtain ⟨sb,su,h1,h2,h3,h4,h5⟩:=hmem.objs 10009 ⟨263,2,[[.c body,.mapr 10007]],none⟩ (by rw [hp_objs_FX]; simp)
    have hkn:=known_of g2 g3
    obtain ⟨b0,s0,q1,rfl⟩:=(show ∃ b s,env.ρ 10009 = some (b,s)∧v0 = .pointer (some ⟨b,0 * s + 0,none⟩) from hv0)
    rw [h1] at q1
    injection q1 with q1
    injection q1 with e1 e2
    subst e1
    obtain ⟨ob,hob,hol⟩:=h2
    obtain ⟨x0,su',rfl,_,h3'⟩:=(show All2 (RepA env (hp (OS 10009 10007 body ns) [] (FX Z)).toks w) [.c body,.mapr 10007] su from h3).head
    obtain ⟨x1,su'',rfl,hx1,h3''⟩:=h3'.head
    obtain rfl:=h3''.nil_left
    obtain ⟨b1,s1,q2,rfl⟩:=(show ∃ b s,env.ρ 10007 = some (b,s)∧x1 = .map (some b) from hx1)
    rw [g1] at q2
    injection q2 with q2
    injection q2 with e3 e4
    subst e3
    have hcell:w.cell? ⟨sb,1,none⟩ = some (.map (some b)):=by
      rw [World.cell?]
      simp only [hob]
      obtain ⟨ex,rfl⟩:=(show ∃ ex:List Value,ob = .cells ([x0,.map (some b)]++ex).toArray 263 (0,0) from hol)
      rfl
    rw [Nat.zero_mul]
    exact (unknown_calls hkn (hmem.ρlt _ _ _ h1) hcell hl hv1).mono fun e w' h=>h
theorem v217z (Z:XP) (body:C) (ns:List Name) (v:Name):MeetsV Tryz.prog G (fnA 285) [.one (.ref 10009 0 0),.one (.c (cS (bs v)))] (hp (OS 10009 10007 body ns) [] (FX Z)) (rB (ns.contains v)) (hp (OS 10009 10007 body ns) [] (FX Z)):=MeetsV.of_fun (m217z Z body ns v)
set_option maxHeartbeats 2000000 in
theorem m195z (Z:XP) (body:C) (ns:List Name) (p:Name) (l:List Tm) (sp:Sp) (hl:l.length≤24):MeetsH Tryz.prog G 230 [.one (.ref 10009 0 0),.agg [.c (cS (bs p)),.c (.sl (l.map Tm.row) sp)]] (hp (OS 10009 10007 body ns) [] (FX Z)) (.x (.one (.c (cI .u32 (markOf ns l))))) (hp (OS 10009 10007 body ns) [] (FX Z)):=by
  refine meetsH [] Tryz.func230 ie195 ig195 (Nat.le_of_ble_eq_true rfl) (by simp [midKey,ownKey]) (by simp) (by simp [ownKey]) (by simp) (by simp) (sameKeys_refl (FX Z)) (by simp) (by simp) ?_
  simp [ic195,ir195,kn_strike']
  generalize hR:markOf ns l = R
  refine w_loopA [] [7,20,21,22] [0,3,4,5,9,10,11] (by simp [ownKey])
    (fun i:Nat=>st [(0,.k true (.x (.one (.ref 10009 0 0)))),(3,.k true (.x (.one (.ref 3 0 0)))),(4,.k true (rI .u32 0)),(5,.k true (rI .u32 (markOf ns (l.take i)))),(9,.k true (.x (.one (.c (.sl (l.map Tm.row) sp))))),(10,tI .i64 l.length),(11,tI .i64 i)]
      ((3,⟨25,2,[[.c (cS (bs p)),.c (.sl (l.map Tm.row) sp)]],none⟩) :: OS 10009 10007 body ns) [] (FX Z)) (fun i=>l.length - i)
    (fun i=>i≤l.length) 0 (by simp [kn_strike',markOf]) (by simp) ?_
  rintro i K hK hi
  obtain hlt | hge:=Nat.lt_or_ge i l.length
  · have hr:l[i].row = [cS (bs l[i].v),cI .i8 l[i].x.k,cI .i64 l[i].x.n,cS (bs l[i].x.s)]:=rfl
    have hc:=v217z (G:=G) Z body ns l[i].v
    have hts:markOf ns (l.take (i + 1)) = markOf ns (l.take i) + if l[i].v = []∨ns.contains l[i].v = true then 2 ^ i else 0:=mark_take ns l i hlt
    have hlt2:=mark_lt ns (l.take i)
    rw [List.length_take,Nat.min_eq_left (Nat.le_of_lt hlt)] at hlt2
    by_cases h0:l[i].v = []
    · rw [if_pos (.inl h0)] at hts
      simp [ic195l0,hlt,hr,h0,kn_strike']
      refine r_callVF (.x (.one (.c (cB true)))) rfl ?_
      simp [or_bit i _ (by omega) hlt2]
      simp (disch:=omega) only [wrap64]
      refine hK (i + 1) _ (by simp [kn_strike',hts]) (by omega) (by omega)
    · have he:l[i].v.isEmpty = false:=by simpa using h0
      simp [ic195l0,hlt,hr,he,kn_strike']
      refine r_callW _ _ (OS 10009 10007 body ns) [] _ (OS 10009 10007 body ns) [] hc rfl rfl rfl (by simp [X.fits,A.fits,fitsL]) (by simp) ?_
      cases hq:ns.contains l[i].v with
      | true =>
        rw [if_pos (.inr hq)] at hts
        simp [or_bit i _ (by omega) hlt2]
        simp (disch:=omega) only [wrap64]
        refine hK (i + 1) _ (by simp [kn_strike',hts]) (by omega) (by omega)
      | false =>
        rw [if_neg (by rw [hq]; rintro (h | h); exact h0 h; cases h)] at hts
        simp
        simp (disch:=omega) only [wrap64]
        refine hK (i + 1) _ (by simp [kn_strike',hts]) (by omega) (by omega)
  · have hi2:i = l.length:=by omega
    subst hi2
    rw [List.take_length,hR]
    simp [ic195l0]
    exact ret_st (by simp) (by simp) (by simp) (by simp) (by simp) (by simp)
set_option maxHeartbeats 4000000 in
theorem m149z (Z:XP) (body:List Lit) (sb:Sp) (ns:List Name) (i:Nat) (hi:i < body.length) (hx:body[i].small 1048576) (hl:body[i].terms.length≤1048576) (ha:body[i].kind = 1∨body[i].kind = 2→body[i].l.length≤24) :
    MeetsH Tryz.prog G 148 [.one (.ref 10009 0 0),.one (.c (cI .i64 i))] (hp (OS 10009 10007 (.sl (body.map Lit.row) sb) ns) [] (FX Z)) (stepX (stepOf ns body[i] i)) (hp (OS 10009 10007 (.sl (body.map Lit.row) sb) ns) [] (FX Z)):=by
  have h59:=m59 (G:=G) body[i] hx (by omega)
  have hvl:=tmVars_len body[i].terms
  have h194:=MeetsV.of_fun (m194z (G:=G) Z (.sl (body.map Lit.row) sb) ns (tmVars body[i].terms) [] (by omega))
  have hr:body[i].row = [cI .i8 body[i].kind,cS (bs body[i].p),.sl (body[i].l.map Tm.row) body[i].sp,cI .i8 body[i].rel,cI .i8 body[i].left.op,cS (bs body[i].left.t.v),cI .i8 body[i].left.t.x.k,cI .i64 body[i].left.t.x.n,cS (bs body[i].left.t.x.s),.sl (body[i].left.kids.map Ex.row) body[i].left.sp,cI .i8 body[i].right.op,cS (bs body[i].right.t.v),cI .i8 body[i].right.t.x.k,cI .i64 body[i].right.t.x.n,cS (bs body[i].right.t.x.s),.sl (body[i].right.kids.map Ex.row) body[i].right.sp]:=by
    unfold Lit.row
    rw [Ex.row_eq body[i].left,Ex.row_eq body[i].right]
    rfl
  refine meetsH [] Tryz.func148 ie149 ig149 (Nat.le_of_ble_eq_true rfl) (by simp [midKey,ownKey]) (by simp) (by simp [ownKey]) (by simp) (by simp [stepX,Stp.row]) (sameKeys_refl (FX Z)) (by simp [stepX,Stp.row]) (by simp [stepX,Stp.row]) ?_
  rw [hr] at h59
  generalize hS:stepOf ns body[i] i = S
  simp (config:={ maxSteps:=4000000 }) [ic149,ir149,hi,hr,kn_strike']
  refine call_of h59 ?_
  simp (config:={ maxSteps:=4000000 })
  refine r_callW _ _ (OS 10009 10007 (.sl (body.map Lit.row) sb) ns) [] _ (OS 10009 10007 (.sl (body.map Lit.row) sb) ns) [] h194 rfl rfl rfl (by simp [X.fits,A.fits,fitsL]) (by simp) ?_
  simp (config:={ maxSteps:=4000000 })
  unfold stepOf at hS
  by_cases h1:body[i].kind = 1
  · have h24:=ha (.inl h1)
    rw [if_pos h1] at hS
    have h195:=MeetsV.of_fun (m195z (G:=G) Z (.sl (body.map Lit.row) sb) ns body[i].p body[i].l body[i].sp h24)
    have h148:=m148 (G:=G) body[i].l.length h24
    simp (config:={ maxSteps:=4000000 }) [h1]
    refine r_callW _ _ (OS 10009 10007 (.sl (body.map Lit.row) sb) ns) [] _ (OS 10009 10007 (.sl (body.map Lit.row) sb) ns) [] h195 rfl rfl rfl (by simp [X.fits,A.fits,fitsL]) (by simp) ?_
    simp (config:={ maxSteps:=4000000 })
    refine call_of h148 ?_
    by_cases hf:(markOf ns body[i].l:Int) = bitsTo body[i].l.length
    · rw [if_pos hf] at hS
      subst hS
      simp (config:={ maxSteps:=4000000 }) [hf]
      exact ret_st (by simp) (by simp [stepX,Stp.row,X.fits,A.fits,fitsL]) (by simp) (by simp) (by simp) (by simp)
    · by_cases h0:(markOf ns body[i].l:Int) = 0
      · rw [if_neg hf,if_pos h0] at hS
        subst hS
        have hfb:((markOf ns body[i].l:Int) == bitsTo body[i].l.length) = false:=beq_eq_false_iff_ne.2 hf
        have h0b:((markOf ns body[i].l:Int) == 0) = true:=beq_iff_eq.2 h0
        simp (config:={ maxSteps:=4000000 }) [hfb,h0b]
        exact ret_st (by simp) (by simp [stepX,Stp.row,X.fits,A.fits,fitsL]) (by simp) (by simp) (by simp) (by simp)
      · rw [if_neg hf,if_neg h0] at hS
        subst hS
        have hfb:((markOf ns body[i].l:Int) == bitsTo body[i].l.length) = false:=beq_eq_false_iff_ne.2 hf
        have h0b:((markOf ns body[i].l:Int) == 0) = false:=beq_eq_false_iff_ne.2 h0
        simp (config:={ maxSteps:=4000000 }) [hfb,h0b]
        exact ret_st (by simp) (by simp [stepX,Stp.row,X.fits,A.fits,fitsL]) (by simp) (by simp) (by simp) (by simp)
  by_cases h2:body[i].kind = 2
  · have h24:=ha (.inr h2)
    rw [if_neg h1,if_pos h2] at hS
    have h195:=MeetsV.of_fun (m195z (G:=G) Z (.sl (body.map Lit.row) sb) ns body[i].p body[i].l body[i].sp h24)
    simp (config:={ maxSteps:=4000000 }) [h2]
    refine r_callW _ _ (OS 10009 10007 (.sl (body.map Lit.row) sb) ns) [] _ (OS 10009 10007 (.sl (body.map Lit.row) sb) ns) [] h195 rfl rfl rfl (by simp [X.fits,A.fits,fitsL]) (by simp) ?_
    subst hS
    simp (config:={ maxSteps:=4000000 })
    exact ret_st (by simp) (by simp [stepX,Stp.row,X.fits,A.fits,fitsL]) (by simp) (by simp) (by simp) (by simp)
  rw [if_neg h1,if_neg h2] at hS
  have h1b:(body[i].kind == 1) = false:=beq_eq_false_iff_ne.2 h1
  have h2b:(body[i].kind == 2) = false:=beq_eq_false_iff_ne.2 h2
  cases hO:unk ns (tmVars body[i].terms) with
  | nil =>
    rw [show openOf ns body[i] = _ from hO] at hS
    subst hS
    simp (config:={ maxSteps:=4000000 }) [h1b,h2b]
    exact ret_st (by simp) (by simp [stepX,Stp.row,X.fits,A.fits,fitsL]) (by simp) (by simp) (by simp) (by simp)
  | cons v l =>
    have htl:body[i].left.terms.length≤body[i].terms.length∧body[i].right.terms.length≤body[i].terms.length:=by
      unfold Lit.terms
      simp only [List.length_append]
      omega
    have hlone:=m196 (G:=G) body[i] v hx.2.1 hx.2.2 (by omega) (by omega)
    rw [hr] at hlone
    rw [show openOf ns body[i] = _ from hO] at hS
    simp only at hS
    generalize (isLone body[i].left body[i].right v || isLone body[i].right body[i].left v) = lo at *
    simp (config:={ maxSteps:=4000000 }) [h1b,h2b]
    cases l with
    | nil =>
      by_cases hrel:body[i].rel = 1
      · have hrb:(body[i].rel == 1) = true:=beq_iff_eq.2 hrel
        simp (config:={ maxSteps:=4000000 }) [hrb]
        refine call_of hlone ?_
        cases lo with
        | true =>
          rw [if_pos ⟨rfl,hrel,rfl⟩] at hS
          subst hS
          simp (config:={ maxSteps:=4000000 })
          exact ret_st (by simp) (by simp [stepX,Stp.row,X.fits,A.fits,fitsL]) (by simp) (by simp) (by simp) (by simp)
        | false =>
          rw [if_neg (by rintro ⟨_,_,h⟩; cases h)] at hS
          subst hS
          simp (config:={ maxSteps:=4000000 })
          exact ret_st (by simp) (by simp [stepX,Stp.row,X.fits,A.fits,fitsL]) (by simp) (by simp) (by simp) (by simp)
      · have hrb:(body[i].rel == 1) = false:=beq_eq_false_iff_ne.2 hrel
        rw [if_neg (fun h=>hrel h.2.1)] at hS
        subst hS
        simp (config:={ maxSteps:=4000000 }) [hrb]
        refine call_no (.x (.one (cB true))) ?_
        simp (config:={ maxSteps:=4000000 })
        exact ret_st (by simp) (by simp [stepX,Stp.row,X.fits,A.fits,fitsL]) (by simp) (by simp) (by simp) (by simp)
    | cons u l =>
      rw [if_neg (by rintro ⟨h,_⟩; cases h)] at hS
      subst hS
      have hz0:((l.length:Int) + 1 + 1 == 0) = false:=beq_eq_false_iff_ne.2 (by omega)
      have hz1:((l.length:Int) + 1 + 1 == 1) = false:=beq_eq_false_iff_ne.2 (by omega)
      simp (config:={ maxSteps:=4000000 }) [hz0,hz1]
      refine ⟨by omega,?_⟩
      refine call_no (.x (.one (cB true))) ?_
      simp (config:={ maxSteps:=4000000 })
      exact ret_st (by simp) (by simp [stepX,Stp.row,X.fits,A.fits,fitsL]) (by simp) (by simp) (by simp) (by simp)
end Go.Proofs.YtiomojlcnemnhaaGreatDoor

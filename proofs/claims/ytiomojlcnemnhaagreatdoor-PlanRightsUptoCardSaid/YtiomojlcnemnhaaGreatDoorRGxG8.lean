import Derived.Test.YtiomojlcnemnhaaGreatDoorRGxG5
import Derived.Test.YtiomojlcnemnhaaGreatDoorRGxLo
import Derived.Test.YtiomojlcnemnhaaGreatDoorRGxB1
namespace Go.Proofs.YtiomojlcnemnhaaGreatDoor
open Go.Fx Go.RowKit Go.Ped
theorem varsOn_nodupL:∀ (l acc:List Name),acc.Nodup→(varsOn acc l).Nodup
  | [],_,h=>h
  | v :: l,acc,h=>by
    simp only [varsOn]
    split
    · rename_i hc
      simp only [Bool.and_eq_true,Bool.not_eq_true',List.contains_eq_mem,decide_eq_false_iff_not] at hc
      refine varsOn_nodupL l _ ?_
      rw [List.nodup_append]
      exact ⟨h,by simp,fun a ha b hb e=>hc.2 (by rw [List.mem_singleton.1 hb] at e; exact e ▸ ha)⟩
    · exact varsOn_nodupL l _ h
theorem tmVars_nodupL (l:List Tm):(tmVars l).Nodup:=varsOn_nodupL _ _ List.nodup_nil
theorem unk_mem {ns l:List Name} {v:Name}:v∈unk ns l↔v∈l∧ns.contains v = false:=by
  rw [List.mem_filter]
  simp
theorem mem_open {ns:List Name} {x:Lit} {v:Name}:v∈openOf ns x↔v∈tmVars x.terms∧v ∉ ns:=by
  rw [unk_mem]; simp
theorem open_one {ns:List Name} {x:Lit} {u:Name} (h1:u∈tmVars x.terms) (h2:u ∉ ns) (h3:∀ v∈tmVars x.terms,v ∉ ns→v = u):openOf ns x = [u]:=by
  have hnd:(openOf ns x).Nodup:=(tmVars_nodupL x.terms).sublist List.filter_sublist
  have hu:u∈openOf ns x:=mem_open.2 ⟨h1,h2⟩
  have hall:∀ v∈openOf ns x,v = u:=fun v hv=>h3 v (mem_open.1 hv).1 (mem_open.1 hv).2
  cases hO:openOf ns x with
  | nil=>rw [hO] at hu; cases hu
  | cons a l =>
    rw [hO] at hnd hall
    obtain rfl:=hall a (List.mem_cons_self ..)
    cases l with
    | nil=>rfl
    | cons b l =>
      have hb:=hall b (List.mem_cons_of_mem _ (List.mem_cons_self ..))
      rw [hb] at hnd
      simp at hnd
theorem lone_is {e o:Ex} {ns:List Name} (h:loneOf e≠[]) (hn:loneOf e ∉ ns) (ho:∀ u∈tmVars o.terms,u∈ns):isLone e o (loneOf e) = true:=by
  unfold isLone
  have hc:e.op = 0∧e.t.v = loneOf e:=by
    unfold loneOf at h ⊢
    split at h
    · rename_i hc; rw [if_pos hc]; exact ⟨hc.1,rfl⟩
    · exact absurd rfl h
  have h3:(tmVars o.terms).contains (loneOf e) = false:=by
    cases hq:(tmVars o.terms).contains (loneOf e) with
    | false=>rfl
    | true=>exact absurd (ho _ (by simpa using hq)) hn
  rw [h3,hc.1,hc.2]
  simp
def refStep (ns:List Name) (x:Lit) (i:Nat):Stp × Bool :=
  if x.kind = 3 then (if allIn (tmVars x.terms) ns = true then (⟨5,i,0,[]⟩,true) else (⟨6,i,0,[setsOf x ns]⟩,decide (setsOf x ns≠[])))
  else if x.kind = 2 then (⟨4,i,markOf ns x.l,[]⟩,allIn (tmVars x.terms) ns)
  else (⟨if (markOf ns x.l:Int) = bitsTo x.l.length then 3 else if (markOf ns x.l:Int) = 0 then 1 else 2,i,markOf ns x.l,openOf ns x⟩,true)
theorem all_open {ns:List Name} {x:Lit}:allIn (tmVars x.terms) ns = (openOf ns x).isEmpty:=by
  rw [Bool.eq_iff_iff,allIn_iff,List.isEmpty_iff,List.eq_nil_iff_forall_not_mem]
  constructor
  · intro h v hv
    exact (mem_open.1 hv).2 (h v (mem_open.1 hv).1)
  · intro h v hv
    apply Classical.byContradiction
    intro hn
    exact h v (mem_open.2 ⟨hv,hn⟩)
theorem ref_same {x:Lit} (hlit:litOk x = true) (ns:List Name) (i:Nat):(refStep ns x i).2 = (stepOf ns x i).2∧((stepOf ns x i).2 = true→(refStep ns x i).1 = (stepOf ns x i).1):=by
  rcases lit_kind hlit with hk | hk | hk
  · have h3:¬ x.kind = 3:=by omega
    have h2:¬ x.kind = 2:=by omega
    unfold refStep stepOf
    rw [if_neg h3,if_neg h2,if_pos hk]
    exact ⟨rfl,fun _=>rfl⟩
  · have h3:¬ x.kind = 3:=by omega
    have h1:¬ x.kind = 1:=by omega
    unfold refStep stepOf
    rw [if_neg h3,if_pos hk,if_neg h1,if_pos hk,all_open]
    exact ⟨rfl,fun _=>rfl⟩
  · have h2:¬ x.kind = 2:=by omega
    have h1:¬ x.kind = 1:=by omega
    obtain ⟨o1,o2⟩:=lit_side hlit hk
    have hl0:tmVars x.l = []:=by rw [lit_bare hlit h1 h2]; rfl
    have hvars:∀ v,v∈tmVars x.terms↔v∈tmVars x.left.terms∨v∈tmVars x.right.terms:=fun v=>by rw [mem_vars_lit,hl0]; simp
    unfold refStep stepOf
    rw [if_pos hk,if_neg h1,if_neg h2,all_open]
    have hmem:∀ v,v∈openOf ns x↔v∈tmVars x.terms∧v ∉ ns:=fun v=>mem_open
    have hA:setsOf x ns≠[]→x.rel = 1∧openOf ns x = [setsOf x ns]∧(isLone x.left x.right (setsOf x ns) || isLone x.right x.left (setsOf x ns)) = true:=fun hs=>by
      obtain ⟨_,hr,hc,h⟩:=sets_of hs
      have hn:setsOf x ns ∉ ns:=by simpa using hc
      rcases h with ⟨e,ha⟩ | ⟨e,ha⟩
      · rw [alone_lone o1] at e
        rw [e] at hs hn ⊢
        have hw:=lone_wf hs
        refine ⟨hr,open_one ((hvars _).2 (.inl (by rw [hw]; exact List.mem_singleton.2 rfl))) hn fun v hv hvn=>?_,by rw [lone_is hs hn fun u hu=>allIn_iff.1 ha u hu]; rfl⟩
        rcases (hvars v).1 hv with h | h
        · rw [hw] at h; exact List.mem_singleton.1 h
        · exact absurd (allIn_iff.1 ha v h) hvn
      · rw [alone_lone o2] at e
        rw [e] at hs hn ⊢
        have hw:=lone_wf hs
        refine ⟨hr,open_one ((hvars _).2 (.inr (by rw [hw]; exact List.mem_singleton.2 rfl))) hn fun v hv hvn=>?_,by rw [lone_is hs hn fun u hu=>allIn_iff.1 ha u hu,Bool.or_true]⟩
        rcases (hvars v).1 hv with h | h
        · exact absurd (allIn_iff.1 ha v h) hvn
        · rw [hw] at h; exact List.mem_singleton.1 h
    cases hO:openOf ns x with
    | nil=>exact ⟨rfl,fun _=>rfl⟩
    | cons v l =>
      simp only [List.isEmpty_cons,Bool.false_eq_true,if_false]
      by_cases hs:setsOf x ns = []
      · have hnot:¬ (l = []∧x.rel = 1∧(isLone x.left x.right v || isLone x.right x.left v) = true):=by
          rintro ⟨rfl,hr,hlo⟩
          have hv:v∈tmVars x.terms∧v ∉ ns:=(hmem v).1 (by rw [hO]; exact List.mem_singleton.2 rfl)
          have hall:∀ u∈tmVars x.terms,u ∉ ns→u = v:=fun u hu hun=>by
            have:=(hmem u).2 ⟨hu,hun⟩
            rw [hO] at this
            exact List.mem_singleton.1 this
          have hv0:v≠[]:=fun e=>by
            have:=(mem_tmVarsL.1 hv.1).1
            rw [e] at this
            cases this
          obtain ⟨n1,n2⟩:=sets_none hk hr hs
          rw [Bool.or_eq_true] at hlo
          rcases hlo with h | h
          · unfold isLone at h
            simp only [Bool.and_eq_true,beq_iff_eq,Bool.not_eq_true'] at h
            obtain ⟨⟨h0,hv1⟩,hno⟩:=h
            have ea:aloneOf x.left = v:=by unfold aloneOf; rw [if_pos h0,hv1]
            rw [ea] at n1
            refine hv.2 (n1 hv0 (allIn_iff.2 fun u hu=>?_))
            apply Classical.byContradiction
            intro hun
            have:=hall u ((hvars u).2 (.inr hu)) hun
            subst this
            have:(tmVars x.right.terms).contains u = true:=by simpa using hu
            rw [this] at hno
            cases hno
          · unfold isLone at h
            simp only [Bool.and_eq_true,beq_iff_eq,Bool.not_eq_true'] at h
            obtain ⟨⟨h0,hv1⟩,hno⟩:=h
            have ea:aloneOf x.right = v:=by unfold aloneOf; rw [if_pos h0,hv1]
            rw [ea] at n2
            refine hv.2 (n2 hv0 (allIn_iff.2 fun u hu=>?_))
            apply Classical.byContradiction
            intro hun
            have:=hall u ((hvars u).2 (.inl hu)) hun
            subst this
            have:(tmVars x.left.terms).contains u = true:=by simpa using hu
            rw [this] at hno
            cases hno
        rw [if_neg hnot,hs]
        exact ⟨by simp,fun h=>by cases h⟩
      · obtain ⟨hr,ho,hlo⟩:=hA hs
        rw [hO] at ho
        injection ho with e1 e2
        rw [← e1] at hlo
        rw [if_pos ⟨e2,hr,hlo⟩,← e1]
        rw [← e1] at hs
        exact ⟨by simp [hs],fun _=>rfl⟩
theorem mark_same {a b:List Name} (h:∀ v,a.contains v = b.contains v):∀ l:List Tm,markOf a l = markOf b l
  | []=>rfl
  | t :: l=>by rw [markOf,markOf,mark_same h l,h]
theorem unk_same {a b:List Name} (h:∀ v,a.contains v = b.contains v) (l:List Name):unk a l = unk b l:=List.filter_congr fun v _=>by rw [h]
theorem step_same {a b:List Name} (h:∀ v,a.contains v = b.contains v) (x:Lit) (i:Nat):stepOf a x i = stepOf b x i:=by
  unfold stepOf
  rw [mark_same h,show openOf a x = openOf b x from unk_same h _]
theorem has_iff {a b:List Name} (h:∀ v,v∈a↔v∈b) (v:Name):a.contains v = b.contains v:=by
  rw [Bool.eq_iff_iff]
  simpa using h v
theorem mem_learnOn {v:Name}:∀ {l ns:List Name},v∈learnOn ns l↔v∈ns∨v∈l
  | [],ns=>by simp [learnOn]
  | u :: l,ns=>by
    rw [learnOn,mem_learnOn]
    unfold addN
    split
    · rename_i hc
      constructor
      · rintro (h | h)
        · exact .inl h
        · exact .inr (List.mem_cons_of_mem _ h)
      · rintro (h | h)
        · exact .inl h
        · rcases List.mem_cons.1 h with rfl | h
          · exact .inl (by simpa using hc)
          · exact .inr h
    · simp only [List.mem_append,List.mem_cons,List.not_mem_nil,or_false]
      constructor
      · rintro ((h | h) | h)
        · exact .inl h
        · exact .inr (.inl h)
        · exact .inr (.inr h)
      · rintro (h | h | h)
        · exact .inl (.inl h)
        · exact .inl (.inr h)
        · exact .inr h
theorem bitsOf_sorted (m:Nat):(bitsOf m).Pairwise (· < ·):=List.Pairwise.filter _ List.pairwise_lt_range
theorem clr_bits {m i j:Nat} (hi:i < 24):j∈bitsOf (clr m i)↔j∈bitsOf m∧j≠i:=by
  unfold bitsOf
  rw [List.mem_filter,List.mem_filter,List.mem_range]
  constructor
  · rintro ⟨h1,h2⟩
    rw [clr_bit hi (by omega)] at h2
    simp only [Bool.and_eq_true,decide_eq_true_eq] at h2
    exact ⟨⟨h1,h2.1⟩,fun e=>h2.2 e.symm⟩
  · rintro ⟨⟨h1,h2⟩,h3⟩
    refine ⟨h1,?_⟩
    rw [clr_bit hi (by omega),h2]
    simpa using fun e=>h3 e.symm
theorem clr_len {m i:Nat} (h:i∈bitsOf m):(bitsOf (clr m i)).length + 1 = (bitsOf m).length:=by
  have hi:=(bitsOf_mem h).1
  have e:bitsOf (clr m i) = (bitsOf m).erase i:=by
    have hnd:(bitsOf m).Nodup:=(bitsOf_sorted m).imp fun h=>Nat.ne_of_lt h
    rw [hnd.erase_eq_filter]
    unfold bitsOf
    rw [List.filter_filter]
    refine List.filter_congr fun j hj=>?_
    rw [clr_bit hi (by have:=List.mem_range.1 hj; omega),Bool.and_comm]
    congr 1
    by_cases e:i = j
    · subst e; simp
    · have:¬ j = i:=fun h=>e h.symm
      simp [e,this]
  rw [e,List.length_erase_of_mem h]
  have:=List.length_pos_of_mem h
  omega
theorem bits_none {m:Nat} (hm:m < 2 ^ 24) (h:m≠0):∃ i,i∈bitsOf m:=by
  obtain ⟨k,hk,h1,_⟩:=low_ex h hm
  exact ⟨k,List.mem_filter.2 ⟨List.mem_range.2 hk,h1⟩⟩
theorem full_len {n:Nat} (hn:n≤24):(bitsOf (2 ^ n - 1)).length = n:=by
  have e:bitsOf (2 ^ n - 1) = List.range n:=by
    unfold bitsOf
    have h1:List.range 24 = List.range n++List.range' n (24 - n):=by
      rw [List.range_eq_range',List.range_eq_range']
      have:=List.range'_append_1 (s:=0) (m:=n) (n:=24 - n)
      rw [Nat.zero_add] at this
      rw [this]
      congr 1
      omega
    rw [h1,List.filter_append,List.filter_eq_self.2 (fun j hj=>by rw [Nat.testBit_two_pow_sub_one]; simpa using hj),List.filter_eq_nil_iff.2 (fun j hj=>by
      rw [Nat.testBit_two_pow_sub_one]
      have:=(List.mem_range'_1.1 hj).1
      simp; omega),List.append_nil]
  rw [e,List.length_range]
def refOn (body:List Lit):List Bool→List Name→List Stp→Bool
  | _,_,[]=>true
  | tk,ns,s :: l =>
    if s.lit < 0∨(tk.length:Int)≤s.lit then false
    else if tk[s.lit.toNat]? = some true then false
    else match body[s.lit.toNat]? with
      | none=>false
      | some x=>if (refStep ns x s.lit.toNat).2 = true∧s.kind = (refStep ns x s.lit.toNat).1.kind∧s.known = (refStep ns x s.lit.toNat).1.known∧s.gives = (refStep ns x s.lit.toNat).1.gives then refOn body (tk.set s.lit.toNat true) (ns++(refStep ns x s.lit.toNat).1.gives) l else false
def refRight (r:Rule) (steps:List Stp) (ks:List Name):Bool :=
  if mayOf r ks = 0 then if steps.length = r.body.length then refOn r.body (List.replicate r.body.length false) ks steps else false else false
theorem right_len {body:List Lit} (hb:body.length≤24):∀ {l:List Stp} {m:Nat} {ns:List Name},m < 2 ^ 24→(∀ i∈bitsOf m,i < body.length)→rightOn body m ns l = true→l.length = (bitsOf m).length
  | [],m,ns,_,_,h=>by
    rw [rightOn] at h
    have:m = 0:=by simpa using h
    rw [this,bitsOf_zero]; rfl
  | s :: l,m,ns,hm,hin,h=>by
    rw [rightOn] at h
    split at h
    · cases h
    · rename_i hr
      split at h
      · cases h
      · rename_i ht
        split at h
        · cases h
        · rename_i x hx
          split at h
          · have hj:s.lit.toNat < body.length:=by omega
            have hjm:s.lit.toNat∈bitsOf m:=List.mem_filter.2 ⟨List.mem_range.2 (by omega),by simpa using ht⟩
            have:=right_len hb (clr_lt hm) (fun i hi=>hin i ((clr_bits (by omega)).1 hi).1) h
            have h2:=clr_len hjm
            rw [List.length_cons]; omega
          · cases h
theorem ref_right_on {body:List Lit} (hlit:∀ x∈body,litOk x = true) (hb:body.length≤24):∀ {l:List Stp} {tk:List Bool} {m:Nat} {ns ms:List Name},
    tk.length = body.length→(∀ j,j < body.length→tk[j]? = some (!m.testBit j))→m < 2 ^ 24→(∀ v,v∈ms↔v∈ns)→l.length = (bitsOf m).length→refOn body tk ms l = rightOn body m ns l
  | [],tk,m,ns,ms,_,_,hm,_,hl=>by
    have:m = 0:=by
      apply Classical.byContradiction
      intro hne
      obtain ⟨i,hi⟩:=bits_none hm hne
      have:=List.length_pos_of_mem hi
      rw [← hl] at this
      exact absurd this (Nat.lt_irrefl _)
    rw [refOn,rightOn,this]
    rfl
  | s :: l,tk,m,ns,ms,htl,htk,hm,hns,hl=>by
    rw [refOn,rightOn,htl]
    by_cases hr:s.lit < 0∨(body.length:Int)≤s.lit
    · rw [if_pos hr,if_pos hr]
    rw [if_neg hr,if_neg hr]
    have hj:s.lit.toNat < body.length:=by omega
    generalize hjj:s.lit.toNat = j at *
    rw [htk j hj]
    cases ht:m.testBit j with
    | false=>simp
    | true =>
      rw [List.getElem?_eq_getElem hj]
      have hx:=hlit _ (List.getElem_mem hj)
      obtain ⟨e1,e2⟩:=ref_same hx ms j
      rw [step_same (has_iff hns)] at e1 e2
      simp only [Bool.not_true,Option.some.injEq,Bool.false_eq_true,if_false,Bool.true_eq_false]
      rw [e1]
      cases hk:(stepOf ns body[j] j).2 with
      | false=>simp
      | true =>
        rw [hk] at e2
        rw [e2 rfl]
        by_cases hc:s.kind = (stepOf ns body[j] j).1.kind∧s.known = (stepOf ns body[j] j).1.known∧s.gives = (stepOf ns body[j] j).1.gives
        · rw [if_pos ⟨rfl,hc⟩,if_pos ⟨rfl,hc⟩]
          have hjm:j∈bitsOf m:=List.mem_filter.2 ⟨List.mem_range.2 (by omega),ht⟩
          have h2:=clr_len hjm
          rw [List.length_cons] at hl
          refine ref_right_on hlit hb (by rw [List.length_set]; exact htl) (fun i hi=>?_) (clr_lt hm) (fun v=>?_) (by omega)
          · rw [clr_bit (by omega) (by omega),List.getElem?_set,htk i hi]
            by_cases hij:j = i
            · subst hij
              simp [htl,hi]
            · simp [hij]
          · rw [mem_learnOn,List.mem_append,hns]
        · rw [if_neg (fun h=>hc h.2),if_neg (fun h=>hc h.2)]
theorem ref_right (r:Rule) (steps:List Stp) (ks:List Name):refRight r steps ks = rightB r steps ks:=by
  unfold refRight rightB
  by_cases hm:mayOf r ks = 0
  · rw [if_pos hm,if_pos hm]
    obtain ⟨hb,hlit⟩:=rule_body24 (mayOf_ok hm)
    have hpow:(2:Nat) ^ r.body.length≤2 ^ 16:=Nat.pow_le_pow_right (by omega) hb
    have hm0:2 ^ r.body.length - 1 < 2 ^ 24:=by omega
    have hfl:=full_len (n:=r.body.length) (by omega)
    have hbit:∀ j,(2 ^ r.body.length - 1).testBit j = decide (j < r.body.length):=fun j=>Nat.testBit_two_pow_sub_one ..
    by_cases hlen:steps.length = r.body.length
    · rw [if_pos hlen]
      refine ref_right_on hlit (by omega) (by simp) (fun j hj=>?_) hm0 (fun v=>?_) (by rw [hlen,hfl])
      · rw [hbit,List.getElem?_replicate,if_pos hj]
        simp [hj]
      · rw [mem_learnOn]; simp
    · rw [if_neg hlen]
      symm
      rw [Bool.eq_false_iff]
      intro h
      exact hlen ((right_len (by omega) hm0 (fun i hi=>by have:=(bitsOf_mem hi).2; rw [hbit] at this; simpa using this) h).trans hfl)
  · rw [if_neg hm,if_neg hm]
end Go.Proofs.YtiomojlcnemnhaaGreatDoor

namespace Go.Proofs.YtiomojlcnemnhaaGreatDoor
open Go.Fx Go.RowKit Go.Ped
variable {G:World→Prop}
set_option maxHeartbeats 4000000 in
theorem m2151 (r:Rule) (ks:List Name) (sp:Sp) (hr:r.small 1048576) (hle:r.terms.length≤1048576) (hk:ks.length≤1048576) (hsp:∀ e∈sp,e.length = 1):Meets Tryz.prog G 151 [.agg r.row,.one (.sl (ks.map nmRow) sp)] (.x (.one (cI .i64 (mayOf r ks)))):=by
  have h67:=m67 (G:=G) r hr (by omega)
  have h2232:=m2232 (G:=G) ks sp hsp
  have hrow:r.row = [cS (bs r.p),.sl (r.head.map Arg.row) r.hsp,.sl (r.body.map Lit.row) r.bsp]:=rfl
  refine meets Tryz.func151 ie2151 ig2151 (Nat.le_of_ble_eq_true rfl) ?_
  generalize hR:mayOf r ks = R
  by_cases hok:ruleOk r = true
  · rw [hok] at h67
    obtain ⟨hb16,hlit⟩:=rule_body24 hok
    have h69:=m69 (G:=G) r hr hle
    have hfl:(r.body.flatMap Lit.terms).length≤1048576:=by
      unfold Rule.terms at hle
      rw [List.length_append] at hle
      omega
    have h2234:=m2234 (G:=G) r.body r.bsp ks sp (fun x hx=>⟨hr.2.2 x hx,rule_left hx hle,rule_right hx hle⟩) (fun x hx=>by have:=lit_terms_le hx; omega) (by omega) (by omega)
    have h2233:=m2233' (G:=G) (tmVars r.terms) (limitedOf r.body ks) [] []
    cases hkn:knOkOn [] ks with
    | false =>
      rw [hkn] at h2232
      unfold mayOf mayIn at hR
      rw [if_pos hok,if_neg (by rw [hkn]; exact Bool.noConfusion)] at hR
      subst hR
      rw [hrow] at h67 ⊢
      simp [ic2151,ir2151]
      refine call_of h67 ?_
      simp
      refine call_of h2232 ?_
      simp
    | true =>
      rw [hkn] at h2232
      rw [may_limited hok hkn] at hR
      generalize limitedOf r.body ks = L at *
      generalize tmVars r.terms = T at *
      rw [hrow] at h67 h69 ⊢
      simp [ic2151,ir2151]
      refine call_of h67 ?_
      simp
      refine call_of h2232 ?_
      simp
      refine call_of h69 ?_
      simp
      refine call_of h2234 ?_
      simp
      refine call_of h2233 ?_
      cases hA:allIn T L with
      | true =>
        rw [if_pos hA] at hR
        subst hR
        simp
      | false =>
        rw [if_neg (by rw [hA]; exact Bool.noConfusion)] at hR
        subst hR
        simp
  · have hok':ruleOk r = false:=by simpa using hok
    rw [hok'] at h67
    unfold mayOf at hR
    rw [if_neg hok] at hR
    subst hR
    rw [hrow] at h67 ⊢
    simp [ic2151,ir2151]
    refine call_of h67 ?_
    simp
theorem bits_full {n:Nat}:bitsTo n = ((2 ^ n - 1:Nat):Int):=by
  unfold bitsTo
  have:=Nat.one_le_two_pow (n:=n)
  rw [Int.natCast_sub this]
  simp
set_option maxHeartbeats 8000000 in
theorem m2152 (r:Rule) (i:Nat) (ns:List Name) (sn:Sp) (hi:i < r.body.length) (hb:r.body.length≤1048576) (hlit:litOk r.body[i] = true) (hx:r.body[i].fit) (hl:r.body[i].terms.length≤1048576) :
    Meets Tryz.prog G 152 [.agg r.row,.one (cI .i64 i),.one (.sl (ns.map nmRow) sn)] (.tup [.agg ((refStep ns r.body[i] i).1.row []),.one (cB (refStep ns r.body[i] i).2)]):=by
  have h60:=m60 (G:=G) r.body[i] hx.1 hl
  have hrow:r.row = [cS (bs r.p),.sl (r.head.map Arg.row) r.hsp,.sl (r.body.map Lit.row) r.bsp]:=rfl
  have hget:r.body[i]? = some r.body[i]:=List.getElem?_eq_getElem hi
  have h2233:=m2233' (G:=G) (tmVars r.body[i].terms) ns [] sn
  have h236:=m2236 (G:=G) r.body[i] ns sn hx
  have hopen:openOf ns r.body[i] = unk ns (tmVars r.body[i].terms):=rfl
  have h24:r.body[i].l.length≤24:=lit_args hlit
  have h235:=m2235 (G:=G) ns sn r.body[i].p r.body[i].l r.body[i].sp h24
  have h238:=m2238 (G:=G) r.body[i].l.length h24
  have hkk:=lit_kind hlit
  have hvl:=tmVars_len r.body[i].terms
  generalize hS:refStep ns r.body[i] i = S
  unfold refStep at hS
  rw [hrow]
  refine meets Tryz.func152 ie2152 ig2152 (Nat.le_of_ble_eq_true rfl) ?_
  have hr:=lit16 r.body[i]
  rw [hr] at h60 h236
  rcases hkk with hk | hk | hk
  · rw [if_neg (by omega),if_neg (by omega),hopen] at hS
    generalize tmVars r.body[i].terms = V at *
    simp (config:={ maxSteps:=4000000 }) [ic2152,ir2152,hi,hr,hk]
    rw [hk] at h60
    refine call_of h60 ?_
    simp (config:={ maxSteps:=4000000 })
    refine call_of h235 ?_
    simp (config:={ maxSteps:=4000000 })
    refine w_loopA [.o 77 9 3 9 1] [76] [2,6,8,9,10,11] (by simp [ownKey])
      (fun a:Nat × List Name=>st [(2,.k true (.x (.one (.c (.sl (ns.map nmRow) sn))))),(6,.k true (.x (.one (.ref 6 0 0)))),(8,.k true (.x (.one (.ref 8 0 0)))),(9,.k true (.x (.one (.ref 9 0 0)))),(10,.k true (.x (.one (.c (.sl (V.map nmRow) []))))),(11,tI .i64 a.1)]
        [(9,⟨90,4,[[.c (.v (.int .i8 0)),.c (cI .i64 i),.c (cI .u32 (markOf ns r.body[i].l)),.own 77 (a.2.map nmRow)]],none⟩),
          (8,⟨107,16,[[.c (cI .i8 1),.c (cS (bs r.body[i].p)),.c (.sl (r.body[i].l.map Tm.row) r.body[i].sp),.c (cI .i8 r.body[i].rel),.c (cI .i8 r.body[i].left.op),.c (cS (bs r.body[i].left.t.v)),.c (cI .i8 r.body[i].left.t.x.k),.c (cI .i64 r.body[i].left.t.x.n),.c (cS (bs r.body[i].left.t.x.s)),.c (.sl (r.body[i].left.kids.map Ex.row) r.body[i].left.sp),.c (cI .i8 r.body[i].right.op),.c (cS (bs r.body[i].right.t.v)),.c (cI .i8 r.body[i].right.t.x.k),.c (cI .i64 r.body[i].right.t.x.n),.c (cS (bs r.body[i].right.t.x.s)),.c (.sl (r.body[i].right.kids.map Ex.row) r.body[i].right.sp)]],none⟩),
          (6,⟨90,4,[[.c (.v (.int .i8 0)),.c (.v (.int .i64 0)),.c (.v (.int .u32 0)),.nil]],none⟩),(3,⟨29,3,[[.c (cS (bs r.p)),.c (.sl (r.head.map Arg.row) r.hsp),.c (.sl (r.body.map Lit.row) r.bsp)]],none⟩)] [(77,⟨9,1,a.2.length⟩)] F0) (fun a=>V.length - a.1)
      (fun a=>a.1≤V.length∧a.2 = unk ns (V.take a.1)) (0,[]) (by simp) (by simp [unk]) ?_
    rintro ⟨j,E⟩ K hK ⟨hj,hE⟩
    simp only at hj hE
    obtain hlt | hge:=Nat.lt_or_ge j V.length
    · have h237:=m2237' (G:=G) ns V[j] sn
      have hEl:=unk_len ns (V.take j)
      rw [← hE,List.length_take] at hEl
      simp [ic2152l0,hlt]
      refine call_of h237 ?_
      cases hc:ns.contains V[j] with
      | true =>
        have hu:=unk_in (l:=V.take j) hc
        rw [← List.take_succ_eq_append_getElem hlt,← hE] at hu
        simp
        simp (disch:=omega) only [wrap64]
        exact hK (j + 1,E) _ (by simp) ⟨by simp; omega,hu.symm⟩ (by simp; omega)
      | false =>
        have hu:=unk_out (l:=V.take j) hc
        rw [← List.take_succ_eq_append_getElem hlt,← hE] at hu
        have hV:V[j]? = some V[j]:=List.getElem?_eq_getElem hlt
        simp [hV]
        refine ⟨hlt,by unfold maxLen; omega,by unfold maxBytes; omega,?_⟩
        simp (disch:=omega) only [wrap64]
        exact hK (j + 1,E++[V[j]]) _ (by simp) ⟨by simp; omega,hu.symm⟩ (by simp; omega)
    · rw [List.take_of_length_le hge] at hE
      rw [← hE] at hS
      rw [bits_full] at hS
      generalize 2 ^ r.body[i].l.length - 1 = W at *
      generalize hm:markOf ns r.body[i].l = m at *
      by_cases hm0:m = 0
      · subst hm0
        by_cases hmW:W = 0
        · subst hmW
          simp [ic2152l0,Nat.not_lt.mpr hge]
          refine call_of h238 ?_
          simp at hS
          subst hS
          simp [Stp.row]
        · have hb:((0:Int) == (W:Int)) = false:=by rw [beq_eq_false_iff_ne]; omega
          have hb2:¬ (0:Int) = (W:Int):=by omega
          simp [ic2152l0,Nat.not_lt.mpr hge]
          refine call_of h238 ?_
          simp [hb2] at hS
          subst hS
          simp [Stp.row,hb]
      · have hb0:((m:Int) == 0) = false:=by rw [beq_eq_false_iff_ne]; omega
        have hb02:¬ (m:Int) = 0:=by omega
        simp [ic2152l0,Nat.not_lt.mpr hge,hb0]
        refine call_of h238 ?_
        by_cases hmW:m = W
        · subst hmW
          simp at hS
          subst hS
          simp [Stp.row]
        · have hb:((m:Int) == (W:Int)) = false:=by rw [beq_eq_false_iff_ne]; omega
          have hb2:¬ (m:Int) = (W:Int):=by omega
          simp [hb2,hm0] at hS
          subst hS
          simp [Stp.row,hb]
  · rw [if_neg (by omega),if_pos hk] at hS
    generalize tmVars r.body[i].terms = V at *
    generalize hm:markOf ns r.body[i].l = m at *
    generalize allIn V ns = q at *
    subst hS
    simp (config:={ maxSteps:=4000000 }) [ic2152,ir2152,hi,hr,hk]
    rw [hk] at h60
    refine call_of h60 ?_
    simp (config:={ maxSteps:=4000000 })
    refine call_of h235 ?_
    simp (config:={ maxSteps:=4000000 })
    refine call_of h2233 ?_
    simp [Stp.row]
  · rw [if_pos hk] at hS
    generalize tmVars r.body[i].terms = V at *
    generalize setsOf r.body[i] ns = s at *
    simp (config:={ maxSteps:=4000000 }) [ic2152,ir2152,hi,hr,hk]
    rw [hk] at h60 h236
    refine call_of h60 ?_
    simp (config:={ maxSteps:=4000000 })
    refine call_of h2233 ?_
    cases hA:allIn V ns with
    | true =>
      rw [if_pos hA] at hS
      subst hS
      simp [Stp.row]
    | false =>
      rw [if_neg (by rw [hA]; exact Bool.noConfusion)] at hS
      simp (config:={ maxSteps:=4000000 })
      refine call_of h236 ?_
      subst hS
      by_cases hs:s = []
      · subst hs
        simp [Stp.row]
      · have hse:s.isEmpty = false:=by simpa using hs
        simp [Stp.row,hse]
        exact hs
end Go.Proofs.YtiomojlcnemnhaaGreatDoor

namespace Go.Proofs.YtiomojlcnemnhaaGreatDoor
open Go.Fx Go.RowKit Go.Ped
variable {G:World→Prop}
theorem pickT_yes (b:T):pickT true true (.k true (rB true)) b = .k true (rB true):=by
  unfold pickT
  split
  · rename_i h
    simp only [rB,T.k.injEq,R.x.injEq,X.one.injEq,A.c.injEq,C.v.injEq,Value.bool.injEq] at h
    simp [h.1,← h.2]
  · simp
theorem ref_gives (ns:List Name) (x:Lit) (i:Nat):(refStep ns x i).1.gives.length≤x.terms.length + 1:=by
  have h1:=unk_len ns (tmVars x.terms)
  have h2:=tmVars_len x.terms
  unfold refStep
  split
  · split <;> simp
  · split
    · simp
    · show (unk ns (tmVars x.terms)).length≤_; omega
set_option maxHeartbeats 8000000 in
theorem m2053 (r:Rule) (steps:List (Stp × Sp)) (ssp:Sp) (ks:List Name) (sp:Sp) (hr:r.small 1048576) (hle:r.terms.length≤1048576) (hk:ks.length≤1048576) (hsp:∀ e∈sp,e.length = 1) :
    Meets Tryz.prog G 53 [.agg (planRow r steps ssp),.one (.sl (ks.map nmRow) sp)] (.x (.one (cB (refRight r (steps.map (·.1)) ks)))):=by
  have h151:=m2151 (G:=G) r ks sp hr hle hk hsp
  have hrow:r.row = [cS (bs r.p),.sl (r.head.map Arg.row) r.hsp,.sl (r.body.map Lit.row) r.bsp]:=rfl
  rw [hrow] at h151
  refine meets Tryz.func53 ie2053 ig2053 (Nat.le_of_ble_eq_true rfl) ?_
  generalize hR:refRight r (steps.map (·.1)) ks = R
  unfold refRight at hR
  by_cases hm:mayOf r ks = 0
  · rw [if_pos hm] at hR
    obtain ⟨hb16,hlit⟩:=rule_body24 (mayOf_ok hm)
    rw [hm] at h151
    by_cases hlen:steps.length = r.body.length
    · rw [List.length_map,if_pos hlen] at hR
      simp (config:={ maxSteps:=4000000 }) [ic2053,ir2053]
      refine call_of h151 ?_
      simp [hlen]
      refine ⟨by unfold maxLen; omega,by unfold maxBytes; omega,?_⟩
      refine makeS_of (by omega) (by omega) (by unfold maxLen; omega) (by unfold maxBytes; omega) rfl ?_
      simp
      have hfit:∀ x∈r.body,x.fit:=fun x hx=>⟨hr.2.2 x hx,rule_left hx hle,rule_right hx hle⟩
      refine w_loopA [] [8,9] [2,5,6,7] (by simp [ownKey])
        (fun a:Nat × List Bool × List Name=>st [(2,.k true (.x (.one (.ref 2 0 0)))),(5,.k true (.x (.one (.own 26 (a.2.2.map nmRow))))),(6,.k true (.x (.one (.arr 33 0 r.body.length r.body.length)))),(7,tI .i64 a.1)]
          [(33,⟨4,1,a.2.1.map fun b=>[.c (.v (.bool b))],none⟩),(2,⟨80,4,[[.c (cS (bs r.p)),.c (.sl (r.head.map Arg.row) r.hsp),.c (.sl (r.body.map Lit.row) r.bsp),.c (.sl (steps.map srow) ssp)]],none⟩)] [(26,⟨9,1,a.2.2.length⟩)] F0) (fun a=>steps.length - a.1)
        (fun a=>a.1≤steps.length∧a.2.1.length = r.body.length∧a.2.2.length≤1048576 + 1048577 * a.1∧R = refOn r.body a.2.1 a.2.2 ((steps.map (·.1)).drop a.1)) (0,List.replicate r.body.length false,ks) (by simp) ⟨Nat.zero_le _,by simp,by simp only; omega,hR.symm⟩ ?_
      rintro ⟨i,tk,H⟩ K hK ⟨hi,htl,hH,hd⟩
      simp only at hi htl hH hd
      obtain hlt | hge:=Nat.lt_or_ge i steps.length
      · have hget:steps[i]? = some steps[i]:=List.getElem?_eq_getElem hlt
        have hdr:(steps.map (·.1)).drop i = steps[i].1 :: (steps.map (·.1)).drop (i + 1):=by
          rw [List.drop_eq_getElem_cons (by simpa using hlt),List.getElem_map]
        have hsr:srow steps[i] = [cI .i8 steps[i].1.kind,cI .i64 steps[i].1.lit,cI .u32 steps[i].1.known,.sl (steps[i].1.gives.map nmRow) steps[i].2]:=rfl
        rw [hdr,refOn,htl] at hd
        generalize steps[i].1 = s at *
        generalize steps[i].2 = q at *
        by_cases hneg:s.lit < 0
        · rw [if_pos (.inl hneg)] at hd
          subst hd
          simp (config:={ maxSteps:=4000000 }) [ic2053l0,hlt,hsr,hneg,pickT_yes]
        by_cases hbig:(r.body.length:Int)≤s.lit
        · rw [if_pos (.inr hbig)] at hd
          subst hd
          have hn2:¬ s.lit < 0:=hneg
          simp (config:={ maxSteps:=4000000 }) [ic2053l0,hlt,hsr,hneg,hbig,pickT_yes]
        rw [if_neg (by omega)] at hd
        obtain ⟨j,hj⟩:∃ j:Nat,s.lit = j:=⟨s.lit.toNat,by omega⟩
        have hjl:j < r.body.length:=by omega
        have hjn:¬ r.body.length≤j:=by omega
        have hjt:j < tk.length:=by omega
        have hgt:tk[j]? = some tk[j]:=List.getElem?_eq_getElem hjt
        rw [hj] at hd hsr
        simp only [Int.toNat_natCast] at hd
        rw [hgt,List.getElem?_eq_getElem hjl] at hd
        have hj0:¬ (j:Int) < 0:=by omega
        cases htj:tk[j] with
        | true =>
          rw [htj] at hd
          simp only [if_true] at hd
          subst hd
          simp (config:={ maxSteps:=4000000 }) [ic2053l0,hlt,hsr,hj0,hjl,hjn,hgt,htj]
          exact hjt
        | false =>
          rw [htj] at hd
          simp only [Option.some.injEq,Bool.false_eq_true,if_false] at hd
          have h152:=m2152 (G:=G) r j H [] hjl (by omega) (hlit _ (List.getElem_mem hjl)) (hfit _ (List.getElem_mem hjl)) (by have:=lit_terms_le (List.getElem_mem hjl); omega)
          have hgl:=ref_gives H r.body[j] j
          have htl2:=lit_terms_le (List.getElem_mem hjl)
          generalize refStep H r.body[j] j = Z at *
          obtain ⟨⟨zk,zl,zn,zg⟩,zo⟩:=Z
          rw [hrow] at h152
          simp only [Stp.row] at h152 hd hgl
          have h153:=m2153 (G:=G) zg s.gives [] q
          simp (config:={ maxSteps:=4000000 }) [ic2053l0,hlt,hsr,hj0,hjl,hjn,hgt,htj]
          refine ⟨hjt,?_⟩
          refine call_of h152 ?_
          simp (config:={ maxSteps:=4000000 })
          have hst:(strikeL [9] ∘ strikeL [8] ∘ fun b:Bool=>[A.c (C.v (.bool b))]) = fun b=>[A.c (C.v (.bool b))]:=by funext b; simp
          rw [hst]
          have hcond:(zo = true∧s.kind = zk∧s.known = zn∧s.gives = zg)↔((!zo || !zk == s.kind || !zn == s.known) = false∧zg = s.gives):=by
            simp only [Bool.or_eq_false_iff,Bool.not_eq_false',beq_iff_eq]
            exact ⟨fun ⟨a,b,c,d⟩=>⟨⟨⟨a,b.symm⟩,c.symm⟩,d.symm⟩,fun ⟨⟨⟨a,b⟩,c⟩,d⟩=>⟨a,b.symm,c.symm,d.symm⟩⟩
          generalize (!zo || !zk == s.kind || !zn == s.known) = c at *
          cases c with
          | true =>
            rw [if_neg (fun h=>by cases (hcond.1 h).1)] at hd
            subst hd
            simp
            refine call_no (.x (.one (cB true))) ?_
            simp
          | false =>
            simp
            refine call_of h153 ?_
            by_cases hg:zg = s.gives
            · rw [if_pos (hcond.2 ⟨rfl,hg⟩)] at hd
              rw [hg] at hgl hd
              simp (config:={ maxSteps:=4000000 }) [hg,hgt]
              refine ⟨hjl,hjt,by unfold maxLen; omega,by unfold maxBytes; omega,?_⟩
              simp (disch:=omega) only [wrap64]
              have hst2:(strikeL [8,9] ∘ fun b:Bool=>[A.c (C.v (.bool b))]) = fun b=>[A.c (C.v (.bool b))]:=by funext b; simp
              exact hK (i + 1,tk.set j true,H++s.gives) _ (by simp [hst2,tI,rI]) ⟨by simp; omega,by simpa using htl,by simp; omega,hd⟩ (by simp; omega)
            · rw [if_neg (fun h=>hg (hcond.1 h).2)] at hd
              subst hd
              simp [hg]
      · rw [List.drop_eq_nil_of_le (by simpa using hge),refOn] at hd
        subst hd
        simp [ic2053l0,Nat.not_lt.mpr hge]
    · rw [List.length_map,if_neg hlen] at hR
      subst hR
      have hb:((steps.length:Int) == (r.body.length:Int)) = false:=by rw [beq_eq_false_iff_ne]; omega
      simp (config:={ maxSteps:=4000000 }) [ic2053,ir2053]
      refine call_of h151 ?_
      simp [hb]
  · rw [if_neg hm] at hR
    subst hR
    generalize mayOf r ks = E at *
    have hb:(E == 0) = false:=by rw [beq_eq_false_iff_ne]; exact hm
    simp (config:={ maxSteps:=4000000 }) [ic2053,ir2053]
    refine call_of h151 ?_
    simp [hb]
end Go.Proofs.YtiomojlcnemnhaaGreatDoor

import Derived.Test.YtiomojlcnemnhaaGreatDoorRFxR
import Derived.OrdersIn
namespace Go.Fx
open Go.RowKit
def cmpOpers (P:Program) (fl:Notes) (ops:Array Oper) (N:Nat):List Oper→Option (List IOper)
  | []=>some []
  | o :: l =>
    match cmpOper P fl ops N o,cmpOpers P fl ops N l with
    | some io,some ios=>some (io :: ios)
    | _,_=>none
def edgeMask (m:List Nat) (o:Oper):Nat:=o.after.toList.foldl (fun s e=>if Region.binds .any e then s ||| (2 ^ e.on ||| m.getD e.on 0) else s) 0
def masksFrom:List Oper→List Nat→List Nat
  | [],acc=>acc
  | o :: l,acc=>masksFrom l (acc++[edgeMask acc o])
def edgesDown:List Oper→Nat→Bool
  | [],_=>true
  | o :: l,i=>(o.after.toList.all fun e=>!Region.binds .any e || decide (e.on < i)) && edgesDown l (i + 1)
def regOk (ops:Array Oper) (ios:List IOper):Bool :=
  edgesDown ops.toList 0 && (List.range ops.size).all fun i=>(List.range i).all fun j=>((masksFrom ops.toList []).getD i 0).testBit j ||
    match ios[j]?,ios[i]? with | some a,some b=>apartI a b | _,_=>false
section
variable {P:Program} {G:World→Prop} {w0:World} {V0:Base} {N:Nat} {env:Env} {σ σ' τ:S} {a:Act} {w:World} {fl:Notes} {rd:Option Nat} {rn:Nat}
theorem foldl_bit (m:List Nat) (j:Nat):∀ (l:List Edge) (s:Nat),(l.foldl (fun s e=>if Region.binds .any e then s ||| (2 ^ e.on ||| m.getD e.on 0) else s) s).testBit j = true →
    s.testBit j = true∨∃ e∈l,Region.binds .any e = true∧(j = e.on∨(m.getD e.on 0).testBit j = true)
  | [],s,h=>.inl h
  | e :: l,s,h=>by
    simp only [List.foldl_cons] at h
    rcases foldl_bit m j l _ h with h | ⟨e',h1,h2⟩
    · split at h
      · rename_i hb
        rw [Nat.testBit_or,Nat.testBit_or,Bool.or_eq_true,Bool.or_eq_true] at h
        rcases h with h | h | h
        · exact .inl h
        · rw [Nat.testBit_two_pow] at h
          exact .inr ⟨e,by simp,hb,.inl (by simpa using h:e.on = j).symm⟩
        · exact .inr ⟨e,by simp,hb,.inr h⟩
      · exact .inl h
    · exact .inr ⟨e',List.mem_cons_of_mem _ h1,h2⟩
theorem masksFrom_pre:∀ (l:List Oper) (acc:List Nat),∃ r,masksFrom l acc = acc++r∧r.length = l.length
  | [],acc=>⟨[],by simp [masksFrom],rfl⟩
  | o :: l,acc=>by
    obtain ⟨r,h1,h2⟩:=masksFrom_pre l (acc++[edgeMask acc o])
    exact ⟨edgeMask acc o :: r,by simp [masksFrom,h1],by simp [h2]⟩
theorem masks_at:∀ (l:List Oper) (acc:List Nat) (i:Nat) (o:Oper),l[i]? = some o→(masksFrom l acc).getD (acc.length + i) 0 = edgeMask ((masksFrom l acc).take (acc.length + i)) o
  | [],_,_,_,h=>by simp at h
  | x :: l,acc,0,o,h=>by
    simp at h; subst h
    obtain ⟨r,h1,h2⟩:=masksFrom_pre l (acc++[edgeMask acc x])
    simp only [masksFrom,Nat.add_zero,h1,List.append_assoc,List.singleton_append]
    rw [List.take_left' rfl,List.getD_eq_getElem?_getD,List.getElem?_append_right (Nat.le_refl _)]
    simp
  | x :: l,acc,i + 1,o,h=>by
    have:=masks_at l (acc++[edgeMask acc x]) i o (by simpa using h)
    simp only [List.length_append,List.length_singleton] at this
    simp only [masksFrom]
    rw [show acc.length + (i + 1) = acc.length + 1 + i by omega]
    exact this
theorem edgesDown_at:∀ (l:List Oper) (k i:Nat) (o:Oper),edgesDown l k = true→l[i]? = some o→∀ e∈o.after.toList,Region.binds .any e = true→e.on < k + i
  | [],_,_,_,_,h=>by simp at h
  | x :: l,k,0,o,hd,h=>by
    simp at h; subst h
    simp only [edgesDown,Bool.and_eq_true,List.all_eq_true] at hd
    intro e he hb
    have:=hd.1 e he
    simpa [hb] using this
  | x :: l,k,i + 1,o,hd,h=>by
    simp only [edgesDown,Bool.and_eq_true] at hd
    intro e he hb
    have:=edgesDown_at l (k + 1) i o hd.2 (by simpa using h) e he hb
    omega
theorem mask_listed {ops:Array Oper} (hd:edgesDown ops.toList 0 = true) {L:Nat→Prop} (hL:∀ (i:Nat) (o:Oper),ops[i]? = some o→L i→∀ e∈o.after.toList,Region.binds .any e = true→L e.on) :
    ∀ (i:Nat) (o:Oper),ops[i]? = some o→(∀ e∈o.after.toList,Region.binds .any e = true→L e.on)→∀ j,((masksFrom ops.toList []).getD i 0).testBit j = true→L j:=by
  intro i
  induction i using Nat.strongRecOn with
  | _ i ih =>
    intro o ho he j hj
    have ho':ops.toList[i]? = some o:=by simpa using ho
    have hm:=masks_at ops.toList [] i o ho'
    simp only [List.length_nil,Nat.zero_add] at hm
    rw [hm] at hj
    unfold edgeMask at hj
    rcases foldl_bit _ j _ _ hj with h | ⟨e,h1,h2,h3⟩
    · simp at h
    · have hlt:=edgesDown_at ops.toList 0 i o hd ho' e h1 h2
      rw [Nat.zero_add] at hlt
      rcases h3 with rfl | h3
      · exact he e h1 h2
      · rw [List.getD_eq_getElem?_getD,List.getElem?_take,if_pos hlt,← List.getD_eq_getElem?_getD] at h3
        cases ho2:ops[e.on]? with
        | none =>
          obtain ⟨r,q1,q2⟩:=masksFrom_pre ops.toList []
          rw [List.getD_eq_getElem?_getD,List.getElem?_eq_none (by rw [q1]; simp [q2]; simpa using ho2)] at h3
          simp at h3
        | some o2=>exact ih e.on hlt o2 ho2 (hL e.on o2 ho2 (he e h1 h2)) j h3
def RunAt (P:Program) (G:World→Prop) (ios:List IOper):List Nat→S→S→Prop
  | [],σ,σ'=>σ' = σ
  | i :: l,σ,σ'=>∃ io σ1,ios[i]? = some io∧(touched io σ∧StepI P G io σ σ1)∧RunAt P G ios l σ1 σ'
theorem runAt_front {ios:List IOper} {i:Nat} {io:IOper} (hi:ios[i]? = some io):∀ (l m:List Nat) (σ σ':S),(∀ j∈l,∃ jo,ios[j]? = some jo∧apartI jo io = true)→RunAt P G ios (l++i :: m) σ σ'→RunAt P G ios (i :: (l++m)) σ σ'
  | [],m,σ,σ',_,h=>h
  | j :: l,m,σ,σ',hap,h=>by
    obtain ⟨jo,σ1,h1,h2,h3⟩:=h
    obtain ⟨io',σ2,h4,h5,h6⟩:=runAt_front hi l m σ1 σ' (fun k hk=>hap k (List.mem_cons_of_mem _ hk)) h3
    rw [hi] at h4; injection h4 with h4; subst h4
    obtain ⟨jo',h7,h8⟩:=hap j (by simp)
    rw [h1] at h7; injection h7 with h7; subst h7
    obtain ⟨τ,q1,q2⟩:=commute h8 h2 h5
    exact ⟨io,τ,hi,q1,jo,σ2,h1,q2,h6⟩
def Rem (n:Nat) (listed:Array Bool):List Nat:=(List.range n).filter fun i=>!listed.getD i true
theorem cmpOpers_at {ops:Array Oper}:∀ {l:List Oper} {ios:List IOper} {i:Nat} {o:Oper},cmpOpers P fl ops N l = some ios→l[i]? = some o→∃ io,ios[i]? = some io∧cmpOper P fl ops N o = some io
  | [],_,_,_,_,h=>by simp at h
  | x :: l,ios,i,o,hc,h=>by
    unfold cmpOpers at hc
    split at hc
    · rename_i io ios' h1 h2
      injection hc with hc; subst hc
      cases i with
      | zero=>simp at h; subst h; exact ⟨io,rfl,h1⟩
      | succ i =>
        obtain ⟨io2,q1,q2⟩:=cmpOpers_at (i:=i) h2 (by simpa using h)
        exact ⟨io2,by simpa using q1,q2⟩
    · cases hc
theorem ready_spec {ops:Array Oper} {listed:Array Bool} {i:Nat}:i∈Region.ready .any ops listed↔i < ops.size∧listed.getD i true = false∧∃ o,ops[i]? = some o∧∀ e∈o.after.toList,Region.binds .any e = true→listed.getD e.on false = true:=by
  unfold Region.ready
  simp only [List.mem_filter,List.mem_range,Bool.and_eq_true,Bool.not_eq_true']
  constructor
  · rintro ⟨h1,h2,h3⟩
    refine ⟨h1,h2,ops[i],Array.getElem?_eq_getElem h1,fun e he hb=>?_⟩
    rw [Array.getElem?_eq_getElem h1] at h3
    simp only [Option.map_some,Option.getD_some] at h3
    rw [← Array.all_toList,List.all_eq_true] at h3
    have:=h3 e he
    simpa [hb] using this
  · rintro ⟨h1,h2,o,h3,h4⟩
    refine ⟨h1,h2,?_⟩
    rw [h3]
    simp only [Option.map_some,Option.getD_some]
    rw [← Array.all_toList,List.all_eq_true]
    intro e he
    cases hb:Region.binds .any e with
    | false=>rfl
    | true=>simpa using h4 e he hb
theorem Rem_set (n:Nat) (listed:Array Bool) (i:Nat) (hs:listed.size = n) (hi:i < n) {l m:List Nat} (h:Rem n listed = l++i :: m):Rem n (listed.setIfInBounds i true) = l++m:=by
  have hnd:(Rem n listed).Nodup:=List.Nodup.sublist List.filter_sublist List.nodup_range
  have e:Rem n (listed.setIfInBounds i true) = (Rem n listed).filter fun j=>j != i:=by
    unfold Rem
    rw [List.filter_filter]
    apply List.filter_congr
    intro j hj
    have hjn:j < n:=List.mem_range.1 hj
    by_cases hji:j = i
    · subst hji
      simp [Array.getD_eq_getD_getElem?,hs,hjn]
    · have:(listed.setIfInBounds i true)[j]? = listed[j]?:=Array.getElem?_setIfInBounds_ne (fun e=>hji e.symm)
      simp [Array.getD_eq_getD_getElem?,this,hji]
  rw [e,h]
  rw [h] at hnd
  rw [List.nodup_append] at hnd
  obtain ⟨_,h2,h3⟩:=hnd
  rw [List.nodup_cons] at h2
  rw [List.filter_append,List.filter_cons]
  simp only [bne_self_eq_false,Bool.false_eq_true,if_false]
  rw [List.filter_eq_self.2 fun j hj=>by simpa using h3 j hj i (by simp),List.filter_eq_self.2 fun j hj=>by simp; intro e; exact h2.1 (e ▸ hj)]
theorem draw_sound (hG:HeldM G V0.M w0) {ops:Array Oper} {ios:List IOper} (hc:cmpOpers P fl ops N ops.toList = some ios) (hok:regOk ops ios = true) {Q:Exit→Act→World→Prop} {σf:S} (hQ:∀ env' a' w',Sim w0 V0 N env' σf a' w'→Q .normal a' w') :
    ∀ (fuel:Nat) (listed:Array Bool) (σ:S) (env:Env) (a:Act) (w:World),listed.size = ops.size→(Rem ops.size listed).length≤fuel→RunAt P G ios (Rem ops.size listed) σ σf→Sim w0 V0 N env σ a w →
      (∀ (i:Nat) (o:Oper),ops[i]? = some o→listed.getD i true = true→∀ e∈o.after.toList,Region.binds .any e = true→listed.getD e.on false = true)→wpAnyIn (FW rd) rn P .any ops Q fuel listed a w:=by
  unfold regOk at hok
  simp only [Bool.and_eq_true,List.all_eq_true,List.mem_range] at hok
  obtain ⟨hdown,hap⟩:=hok
  have fin:∀ (listed:Array Bool) (σ:S) (env:Env) (a:Act) (w:World),listed.size = ops.size→RunAt P G ios (Rem ops.size listed) σ σf→Sim w0 V0 N env σ a w→Region.ready .any ops listed = []→Q .normal a w:=by
    intro listed σ env a w hsz hrun hsim hr
    have hnil:Rem ops.size listed = []:=by
      cases hR:Rem ops.size listed with
      | nil=>rfl
      | cons i R =>
        exfalso
        -- the least that is left is ready
        have hi:i∈Rem ops.size listed:=by rw [hR]; simp
        unfold Rem at hi
        rw [List.mem_filter,List.mem_range] at hi
        have hio:ops[i]? = some ops[i]:=Array.getElem?_eq_getElem hi.1
        have hmem:i∈Region.ready .any ops listed:=by
          refine ready_spec.2 ⟨hi.1,by have:=hi.2; simp at this; simpa using this,ops[i],hio,fun e he hb=>?_⟩
          have hlt:=edgesDown_at ops.toList 0 i ops[i] hdown (by rw [Array.getElem?_toList]; exact hio) e he hb
          rw [Nat.zero_add] at hlt
          cases hl:listed.getD e.on false with
          | true=>rfl
          | false =>
            exfalso
            have he2:e.on∈Rem ops.size listed:=by
              unfold Rem
              rw [List.mem_filter,List.mem_range]
              refine ⟨by omega,?_⟩
              have hlt2:e.on < listed.size:=by omega
              simp only [Array.getD_eq_getD_getElem?,Array.getElem?_eq_getElem hlt2,Option.getD_some] at hl ⊢
              simp [hl]
            have hsorted:(Rem ops.size listed).Pairwise (· < ·):=List.Pairwise.sublist List.filter_sublist List.pairwise_lt_range
            rw [hR] at hsorted he2
            rcases List.mem_cons.1 he2 with h | h
            · omega
            · have:=(List.pairwise_cons.1 hsorted).1 _ h
              omega
        rw [hr] at hmem
        cases hmem
    rw [hnil] at hrun
    cases hrun
    exact hQ _ _ _ hsim
  intro fuel
  induction fuel with
  | zero =>
    intro listed σ env a w hsz hlen hrun hsim hcl
    have hnil:Rem ops.size listed = []:=List.eq_nil_of_length_eq_zero (by omega)
    have hr:Region.ready .any ops listed = []:=by
      cases hR:Region.ready .any ops listed with
      | nil=>rfl
      | cons i R =>
        exfalso
        have hi:i∈Region.ready .any ops listed:=by rw [hR]; simp
        obtain ⟨h1,h2,_⟩:=ready_spec.1 hi
        have:i∈Rem ops.size listed:=by unfold Rem; rw [List.mem_filter,List.mem_range]; exact ⟨h1,by simp [h2]⟩
        rw [hnil] at this; cases this
    exact ⟨hr,fin listed σ env a w hsz hrun hsim hr⟩
  | succ fuel ih =>
    intro listed σ env a w hsz hlen hrun hsim hcl
    refine ⟨fin listed σ env a w hsz hrun hsim,fun i hi=>?_⟩
    obtain ⟨h1,h2,o,ho,hed⟩:=ready_spec.1 hi
    have hiR:i∈Rem ops.size listed:=by unfold Rem; rw [List.mem_filter,List.mem_range]; exact ⟨h1,by simp [h2]⟩
    obtain ⟨l,m,hlm⟩:=List.append_of_mem hiR
    have hsorted:(Rem ops.size listed).Pairwise (· < ·):=List.Pairwise.sublist List.filter_sublist List.pairwise_lt_range
    obtain ⟨io,hio,hco⟩:=cmpOpers_at hc (by simpa using ho:ops.toList[i]? = some o)
    have hfront:RunAt P G ios (i :: (l++m)) σ σf:=by
      refine runAt_front hio l m σ σf (fun j hj=>?_) (by rw [← hlm]; exact hrun)
      have hji:j < i:=by
        rw [hlm,List.pairwise_append] at hsorted
        exact hsorted.2.2 j hj i (by simp)
      have hjR:j∈Rem ops.size listed:=by rw [hlm]; exact List.mem_append_left _ hj
      have hjl:listed.getD j true = false:=by
        unfold Rem at hjR
        rw [List.mem_filter] at hjR
        simpa using hjR.2
      have hpair:=hap i h1 j hji
      rw [Bool.or_eq_true] at hpair
      rcases hpair with hp | hp
      · exfalso
        have hlt:j < listed.size:=by omega
        have:=mask_listed hdown (L:=fun k=>listed.getD k false = true) (fun k ok hk hlk=>hcl k ok hk (by
          have hkn:k < listed.size:=by rw [hsz]; exact (Array.getElem?_eq_some_iff.1 hk).1
          simp only [Array.getD_eq_getD_getElem?,Array.getElem?_eq_getElem hkn,Option.getD_some] at hlk ⊢
          exact hlk)) i o ho hed j hp
        simp only [Array.getD_eq_getD_getElem?,Array.getElem?_eq_getElem hlt,Option.getD_some] at this hjl
        rw [this] at hjl; cases hjl
      · rw [hio] at hp
        split at hp
        · rename_i ja jb hja hjb
          injection hjb with hjb; subst hjb
          exact ⟨ja,hja,hp⟩
        · cases hp
    obtain ⟨io',σ1,q1,q2,q3⟩:=hfront
    rw [hio] at q1; injection q1 with q1; subst q1
    refine op_sound hG ho hco q2.2 hsim fun env' a' w' hs'=>?_
    have hset:=Rem_set ops.size listed i hsz h1 hlm
    refine ih _ σ1 env' a' w' (by simp [hsz]) ?_ (by rw [hset]; exact q3) hs' fun k ok hk hlk e he hb=>?_
    · rw [hset]
      rw [hlm] at hlen
      simp at hlen ⊢
      omega
    · have hkn:k < listed.size:=by rw [hsz]; exact (Array.getElem?_eq_some_iff.1 hk).1
      have grow:∀ x,listed.getD x false = true→(listed.setIfInBounds i true).getD x false = true:=fun x hx=>by
        by_cases hxi:x = i
        · subst hxi
          have:x < listed.size:=by rw [hsz]; exact h1
          simp [Array.getD_eq_getD_getElem?,this]
        · simp only [Array.getD_eq_getD_getElem?] at hx ⊢
          rw [Array.getElem?_setIfInBounds_ne (fun e=>hxi e.symm)]
          exact hx
      by_cases hki:k = i
      · subst hki
        rw [ho] at hk; injection hk with hk; subst hk
        exact grow _ (hed e he hb)
      · refine grow _ (hcl k ok hk ?_ e he hb)
        simp only [Array.getD_eq_getD_getElem?] at hlk ⊢
        rw [Array.getElem?_setIfInBounds_ne (fun e=>hki e.symm)] at hlk
        exact hlk
theorem cmpOpers_len {ops:Array Oper}:∀ {l:List Oper} {ios:List IOper},cmpOpers P fl ops N l = some ios→ios.length = l.length
  | [],ios,h=>by simp [cmpOpers] at h; subst h; rfl
  | x :: l,ios,h=>by
    unfold cmpOpers at h
    split at h
    · rename_i io ios' h1 h2
      injection h with h; subst h
      simp [cmpOpers_len h2]
    · cases h
theorem runAt_of_run {ios:List IOper}:∀ (l:List IOper) (k:Nat) (σ σ':S),(∀ j,l[j]? = ios[k + j]?)→RunI P G l σ σ'→RunAt P G ios (List.range' k l.length) σ σ'
  | [],_,_,_,_,h=>h
  | o :: l,k,σ,σ',hat,⟨σ1,h1,h2⟩=>by
    refine ⟨o,σ1,by have:=hat 0; simpa using this.symm,h1,?_⟩
    exact runAt_of_run l (k + 1) σ1 σ' (fun j=>by have:=hat (j + 1); simpa [Nat.add_assoc,Nat.add_comm 1 j] using this) h2
theorem seq_sound (hG:HeldM G V0.M w0) {ops:Array Oper} {ios:List IOper} (hc:cmpOpers P fl ops N ops.toList = some ios) {Q:Exit→Act→World→Prop} {σf:S} (hQ:∀ env' a' w',Sim w0 V0 N env' σf a' w'→Q .normal a' w') :
    ∀ (l:List Nat) (σ:S) (env:Env) (a:Act) (w:World),RunAt P G ios l σ σf→Sim w0 V0 N env σ a w→wpOpsIn (FW rd) rn P ops Q l a w
  | [],σ,env,a,w,h,hs=>by cases h; exact hQ _ _ _ hs
  | i :: l,σ,env,a,w,⟨io,σ1,h1,h2,h3⟩,hs=>by
    rw [wpOpsIn_cons]
    have hlt:i < ops.size:=by
      have:=(List.getElem?_eq_some_iff.1 h1).1
      rw [cmpOpers_len hc] at this
      simpa using this
    have ho:ops[i]? = some ops[i]:=Array.getElem?_eq_getElem hlt
    obtain ⟨io',q1,q2⟩:=cmpOpers_at hc (by rw [Array.getElem?_toList]; exact ho:ops.toList[i]? = some ops[i])
    rw [h1] at q1; injection q1 with q1; subst q1
    exact op_sound hG ho q2 h2.2 hs fun env' a' w' hs'=>seq_sound hG hc hQ l σ1 env' a' w' h3 hs'
theorem region_sound (hG:HeldM G V0.M w0) {ops:Array Oper} {ios:List IOper} {id:Nat} {draw:Bool} (hc:cmpOpers P fl ops N ops.toList = some ios) (hok:draw = true→regOk ops ios = true∧P.follows .mixedOrders = true)
    (hrun:RunI P G ios σ σ') (hs:Sim w0 V0 N env σ a w) {Q:Exit→Act→World→Prop} (hQ:∀ env' a' w',Sim w0 V0 N env' σ' a' w'→Q .normal a' w'):(Code.region id ops draw).wpIn (FW rd) rn P Q a w:=by
  have hlen:ios.length = ops.size:=by rw [cmpOpers_len hc]; simp
  have hat:=runAt_of_run ios 0 σ σ' (fun j=>by rw [Nat.zero_add]) hrun
  rw [hlen,← List.range_eq_range'] at hat
  cases draw with
  | false=>exact wpIn_region (seq_sound hG hc hQ _ _ _ _ _ hat hs)
  | true =>
    obtain ⟨h1,h2⟩:=hok rfl
    refine wpIn_region_any h2 (draw_sound hG hc h1 hQ ops.size _ σ env a _ (by simp) ?_ ?_ hs.drew fun i o _ hl=>?_)
    · unfold Rem
      exact Nat.le_trans (List.length_filter_le _ _) (by simp)
    · have:Rem ops.size (Array.replicate ops.size false) = List.range ops.size:=by
        unfold Rem
        rw [List.filter_eq_self]
        intro j hj
        have:=List.mem_range.1 hj
        simp [Array.getD_eq_getD_getElem?,this]
      rw [this]
      exact hat
    · have hi:i < ops.size:=by
        rcases Nat.lt_or_ge i ops.size with h | h
        · exact h
        · rename_i ho; rw [Array.getElem?_eq_none h] at ho; cases ho
      simp [Array.getD_eq_getD_getElem?,hi] at hl
end
end Go.Fx

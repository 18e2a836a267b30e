import Derived.Test.YtiomojlcnemnhaaGreatDoorRGxB1
import Derived.Test.YtiomojlcnemnhaaGreatDoorRGxLy
namespace Go.Proofs.YtiomojlcnemnhaaGreatDoor
open Go.Fx Go.RowKit Go.Ped
set_option maxRecDepth 100000 in
theorem v154p (body:List Lit) (sb:Sp) (ns:List Name) (m:Nat) (hm:m < 2 ^ 24) (hin:∀ i∈bitsOf m,i < body.length) (hfit:BodyFit body) :
    MeetsV Tryz.prog GB (fnA 242) [.one (.ref 5009 0 0),.one (.c (cI .u32 m))] (hp (OS 5009 5007 (.sl (body.map Lit.row) sb) ns) [] F0) (.x (.one (.c (cI .i64 (nextL body ns m))))) (hp (OS 5009 5007 (.sl (body.map Lit.row) sb) ns) [] F0):=by
  have h:=(MeetsV.of_fun (m154 body sb ns m hm hin hfit)).ren (π:=swR 10009 5009)
  simp [swF,kn_ren] at h
  have h2:=h.ren (π:=swR 10007 5007)
  simp [swF,kn_ren] at h2
  simpa using h2
theorem pickT_false (g gb y:Bool) (a:T):pickT g false a (.k gb (rB y)) = .k (g && gb) (rB y):=by
  unfold pickT
  split
  · rename_i h2
    injection h2 with e1 e2
    subst e1
    cases e2
    rfl
  · rfl
theorem pickT_true (g ga x:Bool) (b:T):pickT g true (.k ga (rB x)) b = .k (g && ga) (rB x):=by
  unfold pickT
  split
  · rename_i h1
    injection h1 with e1 e2
    subst e1
    cases e2
    rfl
  · rfl
theorem bitsOf_clr {m j i:Nat} (hj:j < 24) (h:i∈bitsOf (clr m j)):i∈bitsOf m:=by
  obtain ⟨h1,h2⟩:=bitsOf_mem h
  rw [clr_bit hj (by omega)] at h2
  simp only [Bool.and_eq_true] at h2
  exact List.mem_filter.2 ⟨List.mem_range.2 h1,h2.1⟩
abbrev madeRow (r:Rule) (steps:List Stp):List C:=planRow r.bareR (steps.map fun s=>(s,[])) []
abbrev zeroPlan:List C:=[cS (bs []),.sl [] [],.sl [] [],.sl [] []]
def badFirst (r:Rule) (first:Int):Prop:=first < -1∨(r.body.length:Int)≤first∨0≤first∧∀ x,r.body[first.toNat]? = some x→x.kind≠1
def MakeIs (r:Rule) (ks:List Name) (first:Int) (res:CR):Prop :=
  (mayOf r ks≠0∧res = .tup [.agg zeroPlan,.one (cI .i64 (mayOf r ks))]) ∨
  (mayOf r ks = 0∧badFirst r first∧res = .tup [.agg zeroPlan,.one (cI .i64 120)]) ∨
  (mayOf r ks = 0∧¬ badFirst r first∧∃ steps,makeOn r.body first r.body.length (2 ^ r.body.length - 1) (learnOn [] ks) = some steps∧res = .tup [.agg (madeRow r steps),.one (cI .i64 0)])
set_option maxRecDepth 100000 in
set_option maxHeartbeats 16000000 in
theorem m82 (r:Rule) (ks:List Name) (sp:Sp) (first:Int) (hr:r.small 1048576) (hle:r.terms.length≤1048576) (hk:ks.length + r.body.length≤1048576) (hsp:∀ e∈sp,e.length = 1) (res:CR) (hres:MakeIs r ks first res) :
    Meets Tryz.prog GB 157 [.agg r.row,.one (.sl (ks.map nmRow) sp),.one (cI .i64 first)] res:=by
  have h146:=m146 (G:=GB) r ks sp hr hle hk hsp
  have hrow:r.row = [cS (bs r.p),.sl (r.head.map Arg.row) r.hsp,.sl (r.body.map Lit.row) r.bsp]:=rfl
  have h153:=m153 (G:=GB) r hr
  rw [hrow] at h146 h153 ⊢
  unfold MakeIs at hres
  by_cases hm:mayOf r ks = 0
  · rw [hm] at h146 hres
    have hok:=mayOf_ok hm
    obtain ⟨hb16,hlit⟩:=rule_body24 hok
    rcases hres with ⟨h,_⟩ | ⟨_,hbad,rfl⟩ | ⟨_,hgood,steps,hsteps,rfl⟩
    · exact absurd rfl h
    · refine meets Tryz.func157 ie82 ig82 (Nat.le_of_ble_eq_true rfl) ?_
      simp [ic82,ir82]
      refine call_of h146 ?_
      simp
      by_cases h1:first < -1
      · simp [h1,pickT_true]
      · by_cases h2:(r.body.length:Int)≤first
        · simp [h1,h2,pickT_true]
        · rcases hbad with h | h | ⟨h3,h4⟩
          · exact absurd h h1
          · exact absurd h h2
          · obtain ⟨j,rfl⟩:∃ j:Nat,first = j:=⟨first.toNat,by omega⟩
            have hjl:j < r.body.length:=by omega
            have hkj:¬ r.body[j].kind = 1:=h4 _ (by simp [hjl])
            have hr16:=lit16 r.body[j]
            simp [hjl,hr16,hkj,h3]
    · unfold badFirst at hgood
      have h1:¬ first < -1:=fun h=>hgood (.inl h)
      have h2:¬ (r.body.length:Int)≤first:=fun h=>hgood (.inr (.inl h))
      have hlen:r.bareR.body.length = r.body.length:=List.length_map ..
      have h147:=v147p (G:=GB) (r.bareR.body.map Lit.row) [] ks sp (by unfold maxLen; omega)
      have h148:=m148 (G:=GB) r.body.length (by omega)
      have hfit:=bareR_fit hr hle hok
      have hbrow:r.bareR.row = [cS (bs r.p),.sl (r.head.map Arg.row) [],.sl (r.bareR.body.map Lit.row) []]:=rfl
      rw [hbrow] at h153
      have hmade:madeRow r steps = [cS (bs r.p),.sl (r.head.map Arg.row) [],.sl (r.bareR.body.map Lit.row) [],.sl (steps.map fun s=>s.row []) []]:=by
        show [_,_,_,C.sl ((steps.map fun s=>(s,[])).map srow) []] = _
        rw [List.map_map]
        rfl
      rw [hmade]
      have hbt:bitsTo r.body.length = ((2 ^ r.body.length - 1:Nat):Int):=by
        have:=Nat.one_le_two_pow (n:=r.body.length)
        unfold bitsTo
        rw [Int.natCast_sub this]
        simp
      have hm0:2 ^ r.body.length - 1 < 2 ^ 24:=by
        have:=Nat.pow_le_pow_right (show 0 < 2 by omega) (show r.body.length≤16 from hb16)
        have h2:(2:Nat) ^ 16 < 2 ^ 24:=by decide
        omega
      have hsl:=makeOn_len _ _ _ _ hsteps
      have hin0:∀ i∈bitsOf (2 ^ r.body.length - 1),i < r.body.length:=fun i hi=>by
        have h:=(bitsOf_mem hi).2
        rw [Nat.testBit_two_pow_sub_one] at h
        simpa using h
      refine meets Tryz.func157 ie82 ig82 (Nat.le_of_ble_eq_true rfl) ?_
      by_cases hf:first < 0
      · obtain rfl:first = -1:=by omega
        clear h1 hf
        simp [ic82,ir82]
        refine call_of h146 ?_
        simp [h2,pickT_false]
        refine call_of h153 ?_
        simp
        refine r_callW _ _ [] [] _ (OS 5009 5007 (.sl (r.bareR.body.map Lit.row) []) (learnOn [] ks)) [] h147 rfl rfl rfl (by simp [X.fits,A.fits]) (by simp) ?_
        simp
        refine call_of h148 ?_
        simp
        rw [hbt]
        refine w_loopA [] [13,81] [2,6,9,10,11] (by simp [ownKey])
          (fun a:Nat × List Name × List Stp × A × List (Nat × Fx.Tok)=>st [(2,tI .i64 (-1)),(6,.k true (.x (.one (.ref 6 0 0)))),(9,.k true (.x (.one (.ref 9 0 0)))),(10,.k true (.x (.one (.ref 5009 0 0)))),(11,.k true (rI .u32 a.1))]
            [(9,⟨80,4,[[.c (cS (bs r.p)),.c (.sl (r.head.map Arg.row) []),.c (.sl (r.bareR.body.map Lit.row) []),a.2.2.2.1]],none⟩),(6,⟨80,4,[[.c (cS (bs [])),.nil,.nil,.nil]],none⟩),(3,⟨29,3,[[.c (cS (bs r.p)),.c (.sl (r.head.map Arg.row) r.hsp),.c (.sl (r.body.map Lit.row) r.bsp)]],none⟩),
              (5007,⟨0,1,a.2.1.map knRow,some (.string,false)⟩),(5009,⟨263,2,[[.c (.sl (r.bareR.body.map Lit.row) []),.mapr 5007]],none⟩)] a.2.2.2.2 F0) (fun a=>r.body.length - a.2.2.1.length)
          (fun a=>a.1 < 2 ^ 24∧(∀ i∈bitsOf a.1,i < r.body.length)∧a.2.2.1.length≤r.body.length∧(∃ l,makeOn r.body (-1) (r.body.length - a.2.2.1.length) a.1 a.2.1 = some l∧steps = a.2.2.1++l)∧AccN 82 90 4 (a.2.2.1.map fun s=>s.row []) a.2.2.2.1 a.2.2.2.2) (2 ^ r.body.length - 1,learnOn [] ks,[],.nil,[]) (by simp [kn_strike']) ⟨hm0,hin0,Nat.zero_le _,⟨steps,hsteps,rfl⟩,.nil⟩ ?_
        rintro ⟨m,ns,done,t,U⟩ K hK ⟨hm24,hin,hdl,⟨l,hl,hst⟩,hacc⟩
        simp only at hm24 hin hdl hl hst hacc
        have hUk:∀ k,k≠82→strikeU [k] U = U:=fun k h=>hacc.strikeU h
        by_cases hmz:m = 0
        · subst hmz
          have hl0:l = []:=by
            cases hq:r.body.length - done.length with
            | zero=>rw [hq,makeOn,if_pos rfl] at hl; exact (Option.some.inj hl).symm
            | succ n=>rw [hq,makeOn,if_pos rfl] at hl; exact (Option.some.inj hl).symm
          subst hl0
          rw [List.append_nil] at hst
          subst hst
          rcases hacc with ⟨h0,rfl,rfl⟩ | ⟨rfl,rfl⟩
          · rw [h0]
            simp [ic82l0]
          · simp [ic82l0]
        · obtain ⟨n,hn⟩:∃ n,r.body.length - done.length = n + 1:=by
            cases hq:r.body.length - done.length with
            | zero=>rw [hq,makeOn,if_neg hmz] at hl; cases hl
            | succ n=>exact ⟨n,rfl⟩
          rw [hn,makeOn,if_neg hmz] at hl
          split at hl
          · cases hl
          rename_i hnn
          split at hl
          · cases hl
          rename_i x hx
          obtain ⟨l',hl',rfl⟩:=Option.map_eq_some_iff.1 hl
          have hmne:((m:Int) == 0) = false:=beq_eq_false_iff_ne.2 (by omega)
          have hU:∀ (a:Nat) (b:Fx.Tok),(a,b)∈U→a < 15000:=fun a b h=>by
            rcases hacc with ⟨_,_,rfl⟩ | ⟨_,rfl⟩
            · cases h
            · simp only [List.mem_singleton,Prod.mk.injEq] at h
              omega
          have hpk:pickL r.body (-1) m ns = nextL r.body ns m:=if_pos (.inl (by omega))
          have h154:=v154p r.bareR.body [] ns m hm24 (by rw [hlen]; exact hin) hfit
          rw [show nextL r.bareR.body ns m = nextL r.body ns m from nextL_bare _ _ _] at h154
          rw [hpk] at hnn hx hl' hst
          obtain ⟨j,hj⟩:∃ j:Nat,nextL r.body ns m = j:=⟨(nextL r.body ns m).toNat,by omega⟩
          rw [hj] at h154 hx hl' hst
          rw [Int.toNat_natCast] at hx hl' hst
          obtain ⟨hjl,rfl⟩:=List.getElem?_eq_some_iff.1 hx
          have hxm:r.body[j]∈r.body:=List.getElem_mem hjl
          have hjl':j < r.bareR.body.length:=by rw [hlen]; exact hjl
          have hbj:r.bareR.body[j] = r.body[j].bareL:=by simp [Rule.bareR]
          have hle2:r.body[j].terms.length≤1048576:=Nat.le_trans (lit_terms_le hxm) hle
          have h149:=v149p (G:=GB) r.bareR.body [] ns j hjl' (by rw [hbj]; exact bareL_small (hr.2.2 _ hxm)) (by rw [hbj,bareL_terms]; exact hle2) (fun _=>by rw [hbj]; show r.body[j].l.length≤24; exact lit_args (hlit _ hxm))
          rw [hbj,stepOf_bare] at h149
          have hgl:=step_gives ns r.body[j] j
          generalize stepOf ns r.body[j] j = S at *
          obtain ⟨y,ok⟩:=S
          have h151:=v151p (G:=GB) (.sl (r.bareR.body.map Lit.row) []) ns y.gives [] (by simp only at hgl; unfold maxLen; omega)
          have hclr:=andNot_bit j m (by omega) hm24
          have hclt:clr m j < 2 ^ 24:=clr_lt hm24
          have hjn:¬ ((j:Int) < 0):=by omega
          simp only at hl' hst
          unfold stepX Stp.row at h149
          simp only at h149
          simp [ic82l0,hmne]
          refine r_callW _ _ (OS 5009 5007 (.sl (r.bareR.body.map Lit.row) []) ns) [] _ (OS 5009 5007 (.sl (r.bareR.body.map Lit.row) []) ns) [] h154 rfl rfl rfl (by simp [X.fits,A.fits]) (by simp; exact hU) ?_
          simp [kn_strike']
          refine r_callW _ _ (OS 5009 5007 (.sl (r.bareR.body.map Lit.row) []) ns) [] _ (OS 5009 5007 (.sl (r.bareR.body.map Lit.row) []) ns) [] h149 rfl rfl rfl (by simp [X.fits,A.fits]) (by simp [hUk 13 (by decide)]; exact hU) ?_
          rcases hacc with ⟨h0,rfl,rfl⟩ | ⟨rfl,rfl⟩
          · obtain rfl:done = []:=by simpa using h0
            simp [kn_strike']
            refine ⟨by unfold maxLen; omega,by unfold maxBytes; omega,?_⟩
            refine r_callW _ _ (OS 5009 5007 (.sl (r.bareR.body.map Lit.row) []) ns) [] _ (OS 5009 5007 (.sl (r.bareR.body.map Lit.row) []) (learnOn ns y.gives)) [] h151 rfl rfl rfl (by simp [X.fits,A.fits]) (by simp) ?_
            simp [hclr]
            refine hK (clr m j,learnOn ns y.gives,([]:List Stp)++[y],.own 82 ((([]:List Stp)++[y]).map fun s=>s.row []),[(82,⟨90,4,0 + 1⟩)]) _ (by simp [Stp.row,kn_strike']) ⟨hclt,fun i hi=>?_,?_,⟨l',?_,?_⟩,.own ?_⟩ ?_
            · exact hin i (bitsOf_clr (by omega) hi)
            · simp only [List.length_append,List.length_singleton,List.length_nil]; omega
            · have hq:r.body.length - (([]:List Stp)++[y]).length = n:=by
                simp only [List.length_append,List.length_singleton,List.length_nil]
                try simp only [List.length_nil] at hn
                omega
              rw [hq]; exact hl'
            · rw [hst,List.append_assoc]; rfl
            · simp
            · simp only [List.length_append,List.length_singleton,List.length_nil]; try simp only [List.length_nil] at hn
              omega
          · simp [kn_strike']
            refine ⟨by unfold maxLen; omega,by unfold maxBytes; omega,?_⟩
            refine r_callW _ _ (OS 5009 5007 (.sl (r.bareR.body.map Lit.row) []) ns) [] _ (OS 5009 5007 (.sl (r.bareR.body.map Lit.row) []) (learnOn ns y.gives)) [] h151 rfl rfl rfl (by simp [X.fits,A.fits]) (by simp) ?_
            simp [hclr]
            refine hK (clr m j,learnOn ns y.gives,done++[y],.own 82 ((done++[y]).map fun s=>s.row []),[(82,⟨90,4,done.length + 1⟩)]) _ (by simp [Stp.row,kn_strike']) ⟨hclt,fun i hi=>?_,?_,⟨l',?_,?_⟩,.own ?_⟩ ?_
            · exact hin i (bitsOf_clr (by omega) hi)
            · simp only [List.length_append,List.length_singleton]; omega
            · have hq:r.body.length - (done++[y]).length = n:=by
                simp only [List.length_append,List.length_singleton]
                omega
              rw [hq]; exact hl'
            · rw [hst,List.append_assoc]; rfl
            · simp
            · simp only [List.length_append,List.length_singleton]
              omega
      · obtain ⟨j0,rfl⟩:∃ j0:Nat,first = j0:=⟨first.toNat,by omega⟩
        have hjl0:j0 < r.body.length:=by omega
        have hk1:r.body[j0].kind = 1:=by
          by_cases hk:r.body[j0].kind = 1
          · exact hk
          · exact absurd (.inr (.inr ⟨by omega,fun x hx=>by rw [Int.toNat_natCast,List.getElem?_eq_getElem hjl0] at hx; cases hx; exact hk⟩)) hgood
        have hr16:=lit16 r.body[j0]
        simp [ic82,ir82]
        refine call_of h146 ?_
        simp [hjl0,hr16,hk1,h1,Nat.not_le.2 hjl0]
        refine call_of h153 ?_
        simp
        refine r_callW _ _ [] [] _ (OS 5009 5007 (.sl (r.bareR.body.map Lit.row) []) (learnOn [] ks)) [] h147 rfl rfl rfl (by simp [X.fits,A.fits]) (by simp) ?_
        simp
        refine call_of h148 ?_
        simp
        rw [hbt]
        refine w_loopA [] [13,81] [2,6,9,10,11] (by simp [ownKey])
          (fun a:Nat × List Name × List Stp × A × List (Nat × Fx.Tok)=>st [(2,tI .i64 j0),(6,.k true (.x (.one (.ref 6 0 0)))),(9,.k true (.x (.one (.ref 9 0 0)))),(10,.k true (.x (.one (.ref 5009 0 0)))),(11,.k true (rI .u32 a.1))]
            [(9,⟨80,4,[[.c (cS (bs r.p)),.c (.sl (r.head.map Arg.row) []),.c (.sl (r.bareR.body.map Lit.row) []),a.2.2.2.1]],none⟩),(6,⟨80,4,[[.c (cS (bs [])),.nil,.nil,.nil]],none⟩),(3,⟨29,3,[[.c (cS (bs r.p)),.c (.sl (r.head.map Arg.row) r.hsp),.c (.sl (r.body.map Lit.row) r.bsp)]],none⟩),
              (5007,⟨0,1,a.2.1.map knRow,some (.string,false)⟩),(5009,⟨263,2,[[.c (.sl (r.bareR.body.map Lit.row) []),.mapr 5007]],none⟩)] a.2.2.2.2 F0) (fun a=>r.body.length - a.2.2.1.length)
          (fun a=>a.1 < 2 ^ 24∧(∀ i∈bitsOf a.1,i < r.body.length)∧a.2.2.1.length≤r.body.length∧(∃ l,makeOn r.body j0 (r.body.length - a.2.2.1.length) a.1 a.2.1 = some l∧steps = a.2.2.1++l)∧AccN 82 90 4 (a.2.2.1.map fun s=>s.row []) a.2.2.2.1 a.2.2.2.2) (2 ^ r.body.length - 1,learnOn [] ks,[],.nil,[]) (by simp [kn_strike']) ⟨hm0,hin0,Nat.zero_le _,⟨steps,hsteps,rfl⟩,.nil⟩ ?_
        rintro ⟨m,ns,done,t,U⟩ K hK ⟨hm24,hin,hdl,⟨l,hl,hst⟩,hacc⟩
        simp only at hm24 hin hdl hl hst hacc
        have hUk:∀ k,k≠82→strikeU [k] U = U:=fun k h=>hacc.strikeU h
        by_cases hmz:m = 0
        · subst hmz
          have hl0:l = []:=by
            cases hq:r.body.length - done.length with
            | zero=>rw [hq,makeOn,if_pos rfl] at hl; exact (Option.some.inj hl).symm
            | succ n=>rw [hq,makeOn,if_pos rfl] at hl; exact (Option.some.inj hl).symm
          subst hl0
          rw [List.append_nil] at hst
          subst hst
          rcases hacc with ⟨h0,rfl,rfl⟩ | ⟨rfl,rfl⟩
          · rw [h0]
            simp [ic82l0]
          · simp [ic82l0]
        · obtain ⟨n,hn⟩:∃ n,r.body.length - done.length = n + 1:=by
            cases hq:r.body.length - done.length with
            | zero=>rw [hq,makeOn,if_neg hmz] at hl; cases hl
            | succ n=>exact ⟨n,rfl⟩
          rw [hn,makeOn,if_neg hmz] at hl
          split at hl
          · cases hl
          rename_i hnn
          split at hl
          · cases hl
          rename_i x hx
          obtain ⟨l',hl',rfl⟩:=Option.map_eq_some_iff.1 hl
          have hmne:((m:Int) == 0) = false:=beq_eq_false_iff_ne.2 (by omega)
          have hU:∀ (a:Nat) (b:Fx.Tok),(a,b)∈U→a < 15000:=fun a b h=>by
            rcases hacc with ⟨_,_,rfl⟩ | ⟨_,rfl⟩
            · cases h
            · simp only [List.mem_singleton,Prod.mk.injEq] at h
              omega
          have hand:=and_bit j0 m (by omega) hm24
          by_cases hb:m.testBit j0 = false
          · rw [if_neg (by rw [hb]; exact Bool.noConfusion)] at hand
            have hpk:pickL r.body j0 m ns = nextL r.body ns m:=if_pos (.inr (by rw [Int.toNat_natCast]; exact hb))
            have h154:=v154p r.bareR.body [] ns m hm24 (by rw [hlen]; exact hin) hfit
            rw [show nextL r.bareR.body ns m = nextL r.body ns m from nextL_bare _ _ _] at h154
            rw [hpk] at hnn hx hl' hst
            obtain ⟨j,hj⟩:∃ j:Nat,nextL r.body ns m = j:=⟨(nextL r.body ns m).toNat,by omega⟩
            rw [hj] at h154 hx hl' hst
            rw [Int.toNat_natCast] at hx hl' hst
            obtain ⟨hjl,rfl⟩:=List.getElem?_eq_some_iff.1 hx
            have hxm:r.body[j]∈r.body:=List.getElem_mem hjl
            have hjl':j < r.bareR.body.length:=by rw [hlen]; exact hjl
            have hbj:r.bareR.body[j] = r.body[j].bareL:=by simp [Rule.bareR]
            have hle2:r.body[j].terms.length≤1048576:=Nat.le_trans (lit_terms_le hxm) hle
            have h149:=v149p (G:=GB) r.bareR.body [] ns j hjl' (by rw [hbj]; exact bareL_small (hr.2.2 _ hxm)) (by rw [hbj,bareL_terms]; exact hle2) (fun _=>by rw [hbj]; show r.body[j].l.length≤24; exact lit_args (hlit _ hxm))
            rw [hbj,stepOf_bare] at h149
            have hgl:=step_gives ns r.body[j] j
            generalize stepOf ns r.body[j] j = S at *
            obtain ⟨y,ok⟩:=S
            have h151:=v151p (G:=GB) (.sl (r.bareR.body.map Lit.row) []) ns y.gives [] (by simp only at hgl; unfold maxLen; omega)
            have hclr:=andNot_bit j m (by omega) hm24
            have hclt:clr m j < 2 ^ 24:=clr_lt hm24
            have hjn:¬ ((j:Int) < 0):=by omega
            simp only at hl' hst
            unfold stepX Stp.row at h149
            simp only at h149
            simp [ic82l0,hmne,hand]
            refine r_callW _ _ (OS 5009 5007 (.sl (r.bareR.body.map Lit.row) []) ns) [] _ (OS 5009 5007 (.sl (r.bareR.body.map Lit.row) []) ns) [] h154 rfl rfl rfl (by simp [X.fits,A.fits]) (by simp; exact hU) ?_
            simp [kn_strike']
            refine r_callW _ _ (OS 5009 5007 (.sl (r.bareR.body.map Lit.row) []) ns) [] _ (OS 5009 5007 (.sl (r.bareR.body.map Lit.row) []) ns) [] h149 rfl rfl rfl (by simp [X.fits,A.fits]) (by simp [hUk 13 (by decide)]; exact hU) ?_
            rcases hacc with ⟨h0,rfl,rfl⟩ | ⟨rfl,rfl⟩
            · obtain rfl:done = []:=by simpa using h0
              simp [kn_strike']
              refine ⟨by unfold maxLen; omega,by unfold maxBytes; omega,?_⟩
              refine r_callW _ _ (OS 5009 5007 (.sl (r.bareR.body.map Lit.row) []) ns) [] _ (OS 5009 5007 (.sl (r.bareR.body.map Lit.row) []) (learnOn ns y.gives)) [] h151 rfl rfl rfl (by simp [X.fits,A.fits]) (by simp) ?_
              simp [hclr]
              refine hK (clr m j,learnOn ns y.gives,([]:List Stp)++[y],.own 82 ((([]:List Stp)++[y]).map fun s=>s.row []),[(82,⟨90,4,0 + 1⟩)]) _ (by simp [Stp.row,kn_strike']) ⟨hclt,fun i hi=>?_,?_,⟨l',?_,?_⟩,.own ?_⟩ ?_
              · exact hin i (bitsOf_clr (by omega) hi)
              · simp only [List.length_append,List.length_singleton,List.length_nil]; omega
              · have hq:r.body.length - (([]:List Stp)++[y]).length = n:=by
                  simp only [List.length_append,List.length_singleton,List.length_nil]
                  try simp only [List.length_nil] at hn
                  omega
                rw [hq]; exact hl'
              · rw [hst,List.append_assoc]; rfl
              · simp
              · simp only [List.length_append,List.length_singleton,List.length_nil]; try simp only [List.length_nil] at hn
                omega
            · simp [kn_strike']
              refine ⟨by unfold maxLen; omega,by unfold maxBytes; omega,?_⟩
              refine r_callW _ _ (OS 5009 5007 (.sl (r.bareR.body.map Lit.row) []) ns) [] _ (OS 5009 5007 (.sl (r.bareR.body.map Lit.row) []) (learnOn ns y.gives)) [] h151 rfl rfl rfl (by simp [X.fits,A.fits]) (by simp) ?_
              simp [hclr]
              refine hK (clr m j,learnOn ns y.gives,done++[y],.own 82 ((done++[y]).map fun s=>s.row []),[(82,⟨90,4,done.length + 1⟩)]) _ (by simp [Stp.row,kn_strike']) ⟨hclt,fun i hi=>?_,?_,⟨l',?_,?_⟩,.own ?_⟩ ?_
              · exact hin i (bitsOf_clr (by omega) hi)
              · simp only [List.length_append,List.length_singleton]; omega
              · have hq:r.body.length - (done++[y]).length = n:=by
                  simp only [List.length_append,List.length_singleton]
                  omega
                rw [hq]; exact hl'
              · rw [hst,List.append_assoc]; rfl
              · simp
              · simp only [List.length_append,List.length_singleton]
                omega
          · rw [if_pos (by simpa using hb)] at hand
            have hpk:pickL r.body j0 m ns = j0:=if_neg (by
              rintro (h | h)
              · omega
              · rw [Int.toNat_natCast] at h; exact hb h)
            have hpw:((2:Int) ^ j0 == 0) = false:=beq_eq_false_iff_ne.2 fun e=>by
              have h1:=Nat.one_le_two_pow (n:=j0)
              have h2:((2 ^ j0:Nat):Int) = 0:=by rw [Int.natCast_pow]; exact e
              omega
            rw [hpk] at hnn hx hl' hst
            rw [Int.toNat_natCast] at hx hl' hst
            obtain ⟨hjl,rfl⟩:=List.getElem?_eq_some_iff.1 hx
            have hxm:r.body[j0]∈r.body:=List.getElem_mem hjl
            have hjl':j0 < r.bareR.body.length:=by rw [hlen]; exact hjl
            have hbj:r.bareR.body[j0] = r.body[j0].bareL:=by simp [Rule.bareR]
            have hle2:r.body[j0].terms.length≤1048576:=Nat.le_trans (lit_terms_le hxm) hle
            have h149:=v149p (G:=GB) r.bareR.body [] ns j0 hjl' (by rw [hbj]; exact bareL_small (hr.2.2 _ hxm)) (by rw [hbj,bareL_terms]; exact hle2) (fun _=>by rw [hbj]; show r.body[j0].l.length≤24; exact lit_args (hlit _ hxm))
            rw [hbj,stepOf_bare] at h149
            have hgl:=step_gives ns r.body[j0] j0
            generalize stepOf ns r.body[j0] j0 = S at *
            obtain ⟨y,ok⟩:=S
            have h151:=v151p (G:=GB) (.sl (r.bareR.body.map Lit.row) []) ns y.gives [] (by simp only at hgl; unfold maxLen; omega)
            have hclr:=andNot_bit j0 m (by omega) hm24
            have hclt:clr m j0 < 2 ^ 24:=clr_lt hm24
            have hjn:¬ ((j0:Int) < 0):=by omega
            simp only at hl' hst
            unfold stepX Stp.row at h149
            simp only at h149
            simp [ic82l0,hmne,hand,hpw,hjn]
            refine r_callW _ _ (OS 5009 5007 (.sl (r.bareR.body.map Lit.row) []) ns) [] _ (OS 5009 5007 (.sl (r.bareR.body.map Lit.row) []) ns) [] h149 rfl rfl rfl (by simp [X.fits,A.fits]) (by simp [hUk 13 (by decide)]; exact hU) ?_
            rcases hacc with ⟨h0,rfl,rfl⟩ | ⟨rfl,rfl⟩
            · obtain rfl:done = []:=by simpa using h0
              simp [kn_strike']
              refine ⟨by unfold maxLen; omega,by unfold maxBytes; omega,?_⟩
              refine r_callW _ _ (OS 5009 5007 (.sl (r.bareR.body.map Lit.row) []) ns) [] _ (OS 5009 5007 (.sl (r.bareR.body.map Lit.row) []) (learnOn ns y.gives)) [] h151 rfl rfl rfl (by simp [X.fits,A.fits]) (by simp) ?_
              simp [hclr]
              refine hK (clr m j0,learnOn ns y.gives,([]:List Stp)++[y],.own 82 ((([]:List Stp)++[y]).map fun s=>s.row []),[(82,⟨90,4,0 + 1⟩)]) _ (by simp [Stp.row,kn_strike']) ⟨hclt,fun i hi=>?_,?_,⟨l',?_,?_⟩,.own ?_⟩ ?_
              · exact hin i (bitsOf_clr (by omega) hi)
              · simp only [List.length_append,List.length_singleton,List.length_nil]; omega
              · have hq:r.body.length - (([]:List Stp)++[y]).length = n:=by
                  simp only [List.length_append,List.length_singleton,List.length_nil]
                  try simp only [List.length_nil] at hn
                  omega
                rw [hq]; exact hl'
              · rw [hst,List.append_assoc]; rfl
              · simp
              · simp only [List.length_append,List.length_singleton,List.length_nil]; try simp only [List.length_nil] at hn
                omega
            · simp [kn_strike']
              refine ⟨by unfold maxLen; omega,by unfold maxBytes; omega,?_⟩
              refine r_callW _ _ (OS 5009 5007 (.sl (r.bareR.body.map Lit.row) []) ns) [] _ (OS 5009 5007 (.sl (r.bareR.body.map Lit.row) []) (learnOn ns y.gives)) [] h151 rfl rfl rfl (by simp [X.fits,A.fits]) (by simp) ?_
              simp [hclr]
              refine hK (clr m j0,learnOn ns y.gives,done++[y],.own 82 ((done++[y]).map fun s=>s.row []),[(82,⟨90,4,done.length + 1⟩)]) _ (by simp [Stp.row,kn_strike']) ⟨hclt,fun i hi=>?_,?_,⟨l',?_,?_⟩,.own ?_⟩ ?_
              · exact hin i (bitsOf_clr (by omega) hi)
              · simp only [List.length_append,List.length_singleton]; omega
              · have hq:r.body.length - (done++[y]).length = n:=by
                  simp only [List.length_append,List.length_singleton]
                  omega
                rw [hq]; exact hl'
              · rw [hst,List.append_assoc]; rfl
              · simp
              · simp only [List.length_append,List.length_singleton]
                omega
  · rcases hres with ⟨h,rfl⟩ | ⟨h,_⟩ | ⟨h,_⟩
    · refine meets Tryz.func157 ie82 ig82 (Nat.le_of_ble_eq_true rfl) ?_
      simp [ic82,ir82]
      refine call_of h146 ?_
      simp [hm]
    · exact absurd h hm
    · exact absurd h hm
end Go.Proofs.YtiomojlcnemnhaaGreatDoor

import Derived.Test.YtiomojlcnemnhaaGreatDoorRGxLb
import Derived.Test.YtiomojlcnemnhaaGreatDoorRGxZ4
import Derived.Laws.RangeAny
namespace Go.Proofs.YtiomojlcnemnhaaGreatDoor
open Go.Fx Go.RowKit Go.Ped
variable {G:World→Prop}
def isLone (e o:Ex) (v:Name):Bool:=e.op == 0 && e.t.v == v && !(tmVars o.terms).contains v
theorem m218 (e o:Ex) (v:Name) (ho:o.small 1048576) (hl:o.terms.length≤1048576):MeetsH Tryz.prog G 286 [.agg (e.row.map A.c),.agg (o.row.map A.c),.one (.ref 10003 0 0)] (hp [(10003,⟨9,1,[[.c (cS (bs v))]],none⟩)] [] F0) (rB (isLone e o v)) (hp [(10003,⟨9,1,[[.c (cS (bs v))]],none⟩)] [] F0):=by
  have h1:=m175 (G:=G) o ho (by omega)
  have h2:=m192 (G:=G) (tmVars o.terms) v [] (by
    have h2:=varsOn_length (o.terms.map Tm.v) []
    simp only [List.length_nil,List.length_map,Nat.zero_add] at h2
    have:(tmVars o.terms).length≤o.terms.length:=h2
    unfold maxLen; omega)
  unfold isLone
  generalize (tmVars o.terms).contains v = c at *
  generalize (tmVars o.terms).map nmRow = tv at *
  refine meetsH [] Tryz.func286 ie218 ig218 (Nat.le_of_ble_eq_true rfl) (by simp [midKey,ownKey]) (by simp) (by simp [ownKey]) (by simp) (by simp) (sameKeys_refl F0) (by simp) (by simp) ?_
  rw [Ex.row_eq e,Ex.row_eq o]
  rw [Ex.row_eq o] at h1
  simp [ic218,ir218]
  generalize (e.op == 0 && e.t.v == v) = g
  cases g with
  | true =>
    refine call_of h1 ?_
    simp
    refine call_of h2 ?_
    simp
    exact ret_st (by simp) (by simp) (by simp) (by simp) (by simp) (by simp)
  | false =>
    refine call_no (.x (.one (.sl [] []))) ?_
    simp
    refine call_no (.x (.one (cB true))) ?_
    simp
    exact ret_st (by simp) (by simp) (by simp) (by simp) (by simp) (by simp)
set_option maxRecDepth 100000 in
theorem v218 (e o:Ex) (v:Name) (ho:o.small 1048576) (hl:o.terms.length≤1048576):MeetsV Tryz.prog G (.clo 286 [] [.ref 3 0 0]) [.agg (e.row.map A.c),.agg (o.row.map A.c)] (hp [(3,⟨9,1,[[.c (cS (bs v))]],none⟩)] [] F0) (rB (isLone e o v)) (hp [(3,⟨9,1,[[.c (cS (bs v))]],none⟩)] [] F0):=by
  have h1:=(clo_of (f:=286) (fs:=[]) (args:=[.agg (e.row.map A.c),.agg (o.row.map A.c)]) (cs:=[.ref 10003 0 0]) rfl (m218 (G:=G) e o v ho hl)).ren (π:=nearMid)
  simp [nmF] at h1
  exact h1
set_option maxHeartbeats 2000000 in
theorem m196 (x:Lit) (v:Name) (h1:x.left.small 1048576) (h2:x.right.small 1048576) (l1:x.left.terms.length≤1048576) (l2:x.right.terms.length≤1048576):Meets Tryz.prog G 231 [.agg x.row,.one (cS (bs v))] (.x (.one (cB (isLone x.left x.right v || isLone x.right x.left v)))):=by
  have a1:=v218 (G:=G) x.left x.right v h2 l2
  have a2:=v218 (G:=G) x.right x.left v h1 l1
  generalize isLone x.left x.right v = g1 at *
  generalize isLone x.right x.left v = g2 at *
  refine meets Tryz.func231 ie196 ig196 (Nat.le_of_ble_eq_true rfl) ?_
  unfold Lit.row
  rw [Ex.row_eq x.left,Ex.row_eq x.right] at *
  simp at a1 a2
  simp (config:={ maxSteps:=4000000 }) [ic196,ir196]
  refine r_callW _ _ [(3,⟨9,1,[[.c (cS (bs v))]],none⟩)] [] _ [(3,⟨9,1,[[.c (cS (bs v))]],none⟩)] [] a1 rfl rfl rfl (by simp [X.fits,A.fits,fitsL]) (by simp) ?_
  cases g1 with
  | true =>
    simp (config:={ maxSteps:=4000000 })
    refine r_callVF (.x (.one (.c (cB true)))) rfl ?_
    simp
  | false =>
    simp (config:={ maxSteps:=4000000 })
    refine r_callW _ _ [(3,⟨9,1,[[.c (cS (bs v))]],none⟩)] [] _ [(3,⟨9,1,[[.c (cS (bs v))]],none⟩)] [] a2 rfl rfl rfl (by simp [X.fits,A.fits,fitsL]) (by simp) ?_
    simp
def markOf (ns:List Name):List Tm→Nat
  | []=>0
  | t :: l=>(if t.v = []∨ns.contains t.v = true then 1 else 0) + 2 * markOf ns l
theorem mark_take (ns:List Name):∀ (l:List Tm) (i:Nat) (h:i < l.length),markOf ns (l.take (i + 1)) = markOf ns (l.take i) + if l[i].v = []∨ns.contains l[i].v = true then 2 ^ i else 0
  | [],_,h=>absurd h (Nat.not_lt_zero _)
  | t :: l,0,_=>by simp [markOf]
  | t :: l,i + 1,h=>by
    have:=mark_take ns l i (by simpa using h)
    rw [List.take_succ_cons,List.take_succ_cons,markOf,markOf,this,List.getElem_cons_succ,Nat.pow_succ]
    split <;> split <;> omega
theorem wrap_u32 (n:Nat) (h:n < 4294967296):IntKind.u32.wrap (n:Int) = n:=by
  simp [IntKind.wrap,IntKind.bits,IntKind.signed]
  omega
theorem or_bit (i a:Nat) (hi:i < 24) (ha:a < 2 ^ i):bits .or .u32 (a:Int) (IntKind.u32.wrap (2 ^ min i IntKind.u32.bits)) = ((a + 2 ^ i:Nat):Int):=by
  have e1:IntKind.u32.wrap (2 ^ min i IntKind.u32.bits) = ((2 ^ i:Nat):Int):=(by decide +kernel:∀ m:Fin 24,IntKind.u32.wrap (2 ^ min m.val IntKind.u32.bits) = ((2 ^ m.val:Nat):Int)) ⟨i,hi⟩
  have e2:(2:Nat) ^ i≤8388608:=(by decide +kernel:∀ m:Fin 24,(2:Nat) ^ m.val≤8388608) ⟨i,hi⟩
  rw [e1]
  have e3:2 ^ i * 1 + a = 2 ^ i * 1 ||| a:=Nat.two_pow_add_eq_or_of_lt ha 1
  rw [Nat.mul_one] at e3
  unfold bits
  simp only [BitVec.ofInt_natCast,BitVec.toNat_or,BitVec.toNat_ofNat]
  have hb:(2:Nat) ^ IntKind.u32.bits = 4294967296:=by decide
  rw [hb,Nat.mod_eq_of_lt (by omega),Nat.mod_eq_of_lt (by omega),Nat.or_comm,← e3,wrap_u32 _ (by omega)]
  omega
theorem mark_lt (ns:List Name):∀ l:List Tm,markOf ns l < 2 ^ l.length
  | []=>by simp [markOf]
  | t :: l=>by
    have:=mark_lt ns l
    rw [markOf,List.length_cons]
    split <;> omega
theorem v217 (body:C) (ns:List Name) (v:Name):MeetsV Tryz.prog G (fnA 285) [.one (.ref 10009 0 0),.one (.c (cS (bs v)))] (hp (OS 10009 10007 body ns) [] F0) (rB (ns.contains v)) (hp (OS 10009 10007 body ns) [] F0):=MeetsV.of_fun (m217 body ns v)
set_option maxHeartbeats 2000000 in
theorem m195 (body:C) (ns:List Name) (p:Name) (l:List Tm) (sp:Sp) (hl:l.length≤24):MeetsH Tryz.prog G 230 [.one (.ref 10009 0 0),.agg [.c (cS (bs p)),.c (.sl (l.map Tm.row) sp)]] (hp (OS 10009 10007 body ns) [] F0) (.x (.one (.c (cI .u32 (markOf ns l))))) (hp (OS 10009 10007 body ns) [] F0):=by
  refine meetsH [] Tryz.func230 ie195 ig195 (Nat.le_of_ble_eq_true rfl) (by simp [midKey,ownKey]) (by simp) (by simp [ownKey]) (by simp) (by simp) (sameKeys_refl F0) (by simp) (by simp) ?_
  simp [ic195,ir195,kn_strike']
  generalize hR:markOf ns l = R
  refine w_loopA [] [7,20,21,22] [0,3,4,5,9,10,11] (by simp [ownKey])
    (fun i:Nat=>st [(0,.k true (.x (.one (.ref 10009 0 0)))),(3,.k true (.x (.one (.ref 3 0 0)))),(4,.k true (rI .u32 0)),(5,.k true (rI .u32 (markOf ns (l.take i)))),(9,.k true (.x (.one (.c (.sl (l.map Tm.row) sp))))),(10,tI .i64 l.length),(11,tI .i64 i)]
      ((3,⟨25,2,[[.c (cS (bs p)),.c (.sl (l.map Tm.row) sp)]],none⟩) :: OS 10009 10007 body ns) [] F0) (fun i=>l.length - i)
    (fun i=>i≤l.length) 0 (by simp [kn_strike',markOf]) (by simp) ?_
  rintro i K hK hi
  obtain hlt | hge:=Nat.lt_or_ge i l.length
  · have hr:l[i].row = [cS (bs l[i].v),cI .i8 l[i].x.k,cI .i64 l[i].x.n,cS (bs l[i].x.s)]:=rfl
    have hc:=v217 (G:=G) body ns l[i].v
    have hts:markOf ns (l.take (i + 1)) = markOf ns (l.take i) + if l[i].v = []∨ns.contains l[i].v = true then 2 ^ i else 0:=mark_take ns l i hlt
    have hlt2:=mark_lt ns (l.take i)
    rw [List.length_take,Nat.min_eq_left (Nat.le_of_lt hlt)] at hlt2
    by_cases h0:l[i].v = []
    · rw [if_pos (.inl h0)] at hts
      simp [ic195l0,hlt,hr,h0,kn_strike']
      refine r_callVF (.x (.one (.c (cB true)))) rfl ?_
      simp [or_bit i _ (by omega) hlt2]
      simp (disch:=omega) only [wrap64]
      refine hK (i + 1) _ (by simp [kn_strike',hts]) (by omega) (by omega)
    · have he:l[i].v.isEmpty = false:=by simpa using h0
      simp [ic195l0,hlt,hr,he,kn_strike']
      refine r_callW _ _ (OS 10009 10007 body ns) [] _ (OS 10009 10007 body ns) [] hc rfl rfl rfl (by simp [X.fits,A.fits,fitsL]) (by simp) ?_
      cases hq:ns.contains l[i].v with
      | true =>
        rw [if_pos (.inr hq)] at hts
        simp [or_bit i _ (by omega) hlt2]
        simp (disch:=omega) only [wrap64]
        refine hK (i + 1) _ (by simp [kn_strike',hts]) (by omega) (by omega)
      | false =>
        rw [if_neg (by rw [hq]; rintro (h | h); exact h0 h; cases h)] at hts
        simp
        simp (disch:=omega) only [wrap64]
        refine hK (i + 1) _ (by simp [kn_strike',hts]) (by omega) (by omega)
  · have hi2:i = l.length:=by omega
    subst hi2
    rw [List.take_length,hR]
    simp [ic195l0]
    exact ret_st (by simp) (by simp) (by simp) (by simp) (by simp) (by simp)
structure Stp where
  kind:Int
  lit:Int
  known:Int
  gives:List Name
def Stp.row (s:Stp) (sp:Sp):List C:=[cI .i8 s.kind,cI .i64 s.lit,cI .u32 s.known,.sl (s.gives.map nmRow) sp]
abbrev openOf (ns:List Name) (x:Lit):List Name:=unk ns (tmVars x.terms)
def stepOf (ns:List Name) (x:Lit) (i:Nat):Stp × Bool :=
  if x.kind = 1 then (⟨if (markOf ns x.l:Int) = bitsTo x.l.length then 3 else if (markOf ns x.l:Int) = 0 then 1 else 2,i,markOf ns x.l,openOf ns x⟩,true)
  else if x.kind = 2 then (⟨4,i,markOf ns x.l,[]⟩,(openOf ns x).isEmpty)
  else match openOf ns x with
    | []=>(⟨5,i,0,[]⟩,true)
    | v :: l=>if l = []∧x.rel = 1∧(isLone x.left x.right v || isLone x.right x.left v) = true then (⟨6,i,0,[v]⟩,true) else (⟨0,i,0,[]⟩,false)
def stepX (s:Stp × Bool):R:=.tup [.agg ((s.1.row []).map A.c),.one (.c (cB s.2))]
theorem unk_len (ns l:List Name):(unk ns l).length≤l.length:=List.length_filter_le _ _
set_option maxHeartbeats 4000000 in
theorem m149 (body:List Lit) (sb:Sp) (ns:List Name) (i:Nat) (hi:i < body.length) (hx:body[i].small 1048576) (hl:body[i].terms.length≤1048576) (ha:body[i].kind = 1∨body[i].kind = 2→body[i].l.length≤24) :
    MeetsH Tryz.prog G 148 [.one (.ref 10009 0 0),.one (.c (cI .i64 i))] (hp (OS 10009 10007 (.sl (body.map Lit.row) sb) ns) [] F0) (stepX (stepOf ns body[i] i)) (hp (OS 10009 10007 (.sl (body.map Lit.row) sb) ns) [] F0):=by
  have h59:=m59 (G:=G) body[i] hx (by omega)
  have hvl:=tmVars_len body[i].terms
  have h194:=MeetsV.of_fun (m194 (G:=G) (.sl (body.map Lit.row) sb) ns (tmVars body[i].terms) [] (by omega))
  have hr:body[i].row = [cI .i8 body[i].kind,cS (bs body[i].p),.sl (body[i].l.map Tm.row) body[i].sp,cI .i8 body[i].rel,cI .i8 body[i].left.op,cS (bs body[i].left.t.v),cI .i8 body[i].left.t.x.k,cI .i64 body[i].left.t.x.n,cS (bs body[i].left.t.x.s),.sl (body[i].left.kids.map Ex.row) body[i].left.sp,cI .i8 body[i].right.op,cS (bs body[i].right.t.v),cI .i8 body[i].right.t.x.k,cI .i64 body[i].right.t.x.n,cS (bs body[i].right.t.x.s),.sl (body[i].right.kids.map Ex.row) body[i].right.sp]:=by
    unfold Lit.row
    rw [Ex.row_eq body[i].left,Ex.row_eq body[i].right]
    rfl
  refine meetsH [] Tryz.func148 ie149 ig149 (Nat.le_of_ble_eq_true rfl) (by simp [midKey,ownKey]) (by simp) (by simp [ownKey]) (by simp) (by simp [stepX,Stp.row]) (sameKeys_refl F0) (by simp [stepX,Stp.row]) (by simp [stepX,Stp.row]) ?_
  rw [hr] at h59
  generalize hS:stepOf ns body[i] i = S
  simp (config:={ maxSteps:=4000000 }) [ic149,ir149,hi,hr,kn_strike']
  refine call_of h59 ?_
  simp (config:={ maxSteps:=4000000 })
  refine r_callW _ _ (OS 10009 10007 (.sl (body.map Lit.row) sb) ns) [] _ (OS 10009 10007 (.sl (body.map Lit.row) sb) ns) [] h194 rfl rfl rfl (by simp [X.fits,A.fits,fitsL]) (by simp) ?_
  simp (config:={ maxSteps:=4000000 })
  unfold stepOf at hS
  by_cases h1:body[i].kind = 1
  · have h24:=ha (.inl h1)
    rw [if_pos h1] at hS
    have h195:=MeetsV.of_fun (m195 (G:=G) (.sl (body.map Lit.row) sb) ns body[i].p body[i].l body[i].sp h24)
    have h148:=m148 (G:=G) body[i].l.length h24
    simp (config:={ maxSteps:=4000000 }) [h1]
    refine r_callW _ _ (OS 10009 10007 (.sl (body.map Lit.row) sb) ns) [] _ (OS 10009 10007 (.sl (body.map Lit.row) sb) ns) [] h195 rfl rfl rfl (by simp [X.fits,A.fits,fitsL]) (by simp) ?_
    simp (config:={ maxSteps:=4000000 })
    refine call_of h148 ?_
    by_cases hf:(markOf ns body[i].l:Int) = bitsTo body[i].l.length
    · rw [if_pos hf] at hS
      subst hS
      simp (config:={ maxSteps:=4000000 }) [hf]
      exact ret_st (by simp) (by simp [stepX,Stp.row,X.fits,A.fits,fitsL]) (by simp) (by simp) (by simp) (by simp)
    · by_cases h0:(markOf ns body[i].l:Int) = 0
      · rw [if_neg hf,if_pos h0] at hS
        subst hS
        have hfb:((markOf ns body[i].l:Int) == bitsTo body[i].l.length) = false:=beq_eq_false_iff_ne.2 hf
        have h0b:((markOf ns body[i].l:Int) == 0) = true:=beq_iff_eq.2 h0
        simp (config:={ maxSteps:=4000000 }) [hfb,h0b]
        exact ret_st (by simp) (by simp [stepX,Stp.row,X.fits,A.fits,fitsL]) (by simp) (by simp) (by simp) (by simp)
      · rw [if_neg hf,if_neg h0] at hS
        subst hS
        have hfb:((markOf ns body[i].l:Int) == bitsTo body[i].l.length) = false:=beq_eq_false_iff_ne.2 hf
        have h0b:((markOf ns body[i].l:Int) == 0) = false:=beq_eq_false_iff_ne.2 h0
        simp (config:={ maxSteps:=4000000 }) [hfb,h0b]
        exact ret_st (by simp) (by simp [stepX,Stp.row,X.fits,A.fits,fitsL]) (by simp) (by simp) (by simp) (by simp)
  by_cases h2:body[i].kind = 2
  · have h24:=ha (.inr h2)
    rw [if_neg h1,if_pos h2] at hS
    have h195:=MeetsV.of_fun (m195 (G:=G) (.sl (body.map Lit.row) sb) ns body[i].p body[i].l body[i].sp h24)
    simp (config:={ maxSteps:=4000000 }) [h2]
    refine r_callW _ _ (OS 10009 10007 (.sl (body.map Lit.row) sb) ns) [] _ (OS 10009 10007 (.sl (body.map Lit.row) sb) ns) [] h195 rfl rfl rfl (by simp [X.fits,A.fits,fitsL]) (by simp) ?_
    subst hS
    simp (config:={ maxSteps:=4000000 })
    exact ret_st (by simp) (by simp [stepX,Stp.row,X.fits,A.fits,fitsL]) (by simp) (by simp) (by simp) (by simp)
  rw [if_neg h1,if_neg h2] at hS
  have h1b:(body[i].kind == 1) = false:=beq_eq_false_iff_ne.2 h1
  have h2b:(body[i].kind == 2) = false:=beq_eq_false_iff_ne.2 h2
  cases hO:unk ns (tmVars body[i].terms) with
  | nil =>
    rw [show openOf ns body[i] = _ from hO] at hS
    subst hS
    simp (config:={ maxSteps:=4000000 }) [h1b,h2b]
    exact ret_st (by simp) (by simp [stepX,Stp.row,X.fits,A.fits,fitsL]) (by simp) (by simp) (by simp) (by simp)
  | cons v l =>
    have htl:body[i].left.terms.length≤body[i].terms.length∧body[i].right.terms.length≤body[i].terms.length:=by
      unfold Lit.terms
      simp only [List.length_append]
      omega
    have hlone:=m196 (G:=G) body[i] v hx.2.1 hx.2.2 (by omega) (by omega)
    rw [hr] at hlone
    rw [show openOf ns body[i] = _ from hO] at hS
    simp only at hS
    generalize (isLone body[i].left body[i].right v || isLone body[i].right body[i].left v) = lo at *
    simp (config:={ maxSteps:=4000000 }) [h1b,h2b]
    cases l with
    | nil =>
      by_cases hrel:body[i].rel = 1
      · have hrb:(body[i].rel == 1) = true:=beq_iff_eq.2 hrel
        simp (config:={ maxSteps:=4000000 }) [hrb]
        refine call_of hlone ?_
        cases lo with
        | true =>
          rw [if_pos ⟨rfl,hrel,rfl⟩] at hS
          subst hS
          simp (config:={ maxSteps:=4000000 })
          exact ret_st (by simp) (by simp [stepX,Stp.row,X.fits,A.fits,fitsL]) (by simp) (by simp) (by simp) (by simp)
        | false =>
          rw [if_neg (by rintro ⟨_,_,h⟩; cases h)] at hS
          subst hS
          simp (config:={ maxSteps:=4000000 })
          exact ret_st (by simp) (by simp [stepX,Stp.row,X.fits,A.fits,fitsL]) (by simp) (by simp) (by simp) (by simp)
      · have hrb:(body[i].rel == 1) = false:=beq_eq_false_iff_ne.2 hrel
        rw [if_neg (fun h=>hrel h.2.1)] at hS
        subst hS
        simp (config:={ maxSteps:=4000000 }) [hrb]
        refine call_no (.x (.one (cB true))) ?_
        simp (config:={ maxSteps:=4000000 })
        exact ret_st (by simp) (by simp [stepX,Stp.row,X.fits,A.fits,fitsL]) (by simp) (by simp) (by simp) (by simp)
    | cons u l =>
      rw [if_neg (by rintro ⟨h,_⟩; cases h)] at hS
      subst hS
      have hz0:((l.length:Int) + 1 + 1 == 0) = false:=beq_eq_false_iff_ne.2 (by omega)
      have hz1:((l.length:Int) + 1 + 1 == 1) = false:=beq_eq_false_iff_ne.2 (by omega)
      simp (config:={ maxSteps:=4000000 }) [hz0,hz1]
      refine ⟨by omega,?_⟩
      refine call_no (.x (.one (cB true))) ?_
      simp (config:={ maxSteps:=4000000 })
      exact ret_st (by simp) (by simp [stepX,Stp.row,X.fits,A.fits,fitsL]) (by simp) (by simp) (by simp) (by simp)
end Go.Proofs.YtiomojlcnemnhaaGreatDoor

namespace Go.Proofs.YtiomojlcnemnhaaGreatDoor
open Go.Fx Go.RowKit Go.Ped Go.Lib
def inWord (r:Int):Bool:=(decide (97≤r) && decide (r≤122)) || (decide (65≤r) && decide (r≤90)) || (decide (48≤r) && decide (r≤57)) || decide (r = 95)
set_option maxRecDepth 100000 in
theorem word_calls (r:Int) (w:World):Calls Tryz.prog 324 #[.int .i32 r] w fun e w'=>e = .returned (.bool (inWord r))∧w' = w:=by
  generalize hR:inWord r = R
  unfold inWord at hR
  by_cases h1:97≤r <;> by_cases h2:r≤122 <;> by_cases h3:65≤r <;> by_cases h4:r≤90 <;> by_cases h5:48≤r <;> by_cases h6:r≤57 <;> by_cases h7:r = 95 <;> first | omega | skip
  all_goals
    simp only [h1,h2,h3,h4,h5,h6,h7,decide_true,decide_false,Bool.and_true,Bool.true_and,Bool.and_false,Bool.false_and,Bool.or_true,Bool.true_or,Bool.or_false,Bool.false_or] at hR
    subst hR
    go_enter Tryz.func324,Tryz.ntmps324
    go_wp2_with fail
    simp [bodyPost,results,Tryz.results324,go_sem]
theorem ba_len (b:ByteArray):b.data.toList.length = b.size:=rfl
theorem ba_loop (b:ByteArray):∀ (n i:Nat) (r:List UInt8),b.size - i = n→ByteArray.toList.loop b i r = r.reverse++b.data.toList.drop i
  | 0,i,r,h=>by
    have:=ba_len b
    rw [ByteArray.toList.loop,if_neg (by omega),List.drop_eq_nil_of_le (by omega),List.append_nil]
  | n + 1,i,r,h=>by
    have:=ba_len b
    have hl:i < b.data.toList.length:=by omega
    rw [ByteArray.toList.loop,if_pos (by omega),ba_loop b n (i + 1) _ (by omega),List.drop_eq_getElem_cons hl]
    have hg:b.get! i = b.data.toList[i]:=by
      rw [ByteArray.get!,getElem!_pos b.data i (by simpa using hl)]
      simp
    rw [hg]
    simp
theorem bs_toList (s:List UInt8):(bs s).toList = s:=by
  rw [ByteArray.toList,ba_loop _ _ 0 [] rfl]
  simp [bs]
theorem okB_word (b:UInt8):inWord (b.toNat:Int) = okB b:=by
  have h:∀ n:Fin 256,inWord (n.val:Int) = okN n.val:=by decide +kernel
  exact h ⟨b.toNat,b.toNat_lt⟩
def PreOk (s:Name) (pos:Nat):Prop:=pos≤s.length∧(∀ b∈s.take pos,okB b = true)∧(0 < pos→∀ b∈s.take 1,65≤(b.toNat:Int)∧(b.toNat:Int)≤90)
theorem word_all {s:Name} (h0:s≠[]) (h1:s.length≤120) (h:PreOk s s.length):wordOk 65 90 s = true:=by
  obtain ⟨_,h2,h3⟩:=h
  cases s with
  | nil=>exact absurd rfl h0
  | cons b l =>
    rw [List.take_length] at h2
    have h4:=h3 (by simp) b (by simp)
    simp only [wordOk,Bool.and_eq_true,decide_eq_true_eq,List.all_eq_true]
    exact ⟨⟨⟨⟨h1,h4.1⟩,h4.2⟩,h2 b (List.mem_cons_self ..)⟩,fun x hx=>h2 x (List.mem_cons_of_mem _ hx)⟩
theorem word_bad {s:Name} {b:UInt8} (hb:b∈s) (h:okB b = false):wordOk 65 90 s = false:=by
  cases s with
  | nil=>cases hb
  | cons c l =>
    rw [Bool.eq_false_iff]
    simp only [wordOk,ne_eq,Bool.and_eq_true,decide_eq_true_eq,List.all_eq_true]
    rintro ⟨⟨_,h5⟩,h6⟩
    rcases List.mem_cons.1 hb with rfl | hb
    · rw [h] at h5; cases h5
    · rw [h6 b hb] at h; cases h
theorem word_first {s:Name} (hp:0 < s.length) (h:¬ (65≤(s[0].toNat:Int)∧(s[0].toNat:Int)≤90)):wordOk 65 90 s = false:=by
  cases s with
  | nil=>exact absurd hp (Nat.lt_irrefl _)
  | cons c l =>
    rw [Bool.eq_false_iff]
    simp only [wordOk,ne_eq,Bool.and_eq_true,decide_eq_true_eq,List.all_eq_true]
    rintro ⟨⟨⟨⟨_,h3⟩,h4⟩,h5⟩,h6⟩
    exact h ⟨h3,h4⟩
theorem pre_step {s:Name} {pos:Nat} (h:PreOk s pos) (hp:pos < s.length) (hb:okB s[pos] = true) (hf:pos = 0→65≤(s[pos].toNat:Int)∧(s[pos].toNat:Int)≤90):PreOk s (pos + 1):=by
  obtain ⟨h1,h2,h3⟩:=h
  refine ⟨hp,fun b hb2=>?_,fun _ b hb2=>?_⟩
  · rw [List.take_succ_eq_append_getElem hp] at hb2
    rcases List.mem_append.1 hb2 with hb2 | hb2
    · exact h2 b hb2
    · rw [List.mem_singleton.1 hb2]; exact hb
  · by_cases h0:pos = 0
    · subst h0
      rw [List.take_succ_eq_append_getElem hp] at hb2
      have:b = s[0]:=by simpa using hb2
      rw [this]
      exact hf rfl
    · exact h3 (by omega) b hb2
set_option maxRecDepth 100000 in
set_option maxHeartbeats 1000000 in
theorem spelt_calls (s:Name) (w:World):Calls Tryz.prog 281 #[.string (bs s),.int .i32 65,.int .i32 90] w fun e w'=>e = .returned (.bool (wordOk 65 90 s))∧Below w.heap.size w w':=by
  have hsize:(bs s).size = s.length:=by simp [bs,ByteArray.size]
  have ht:(bs s).toList = s:=bs_toList s
  by_cases h0:s = []
  · subst h0
    go_enter Tryz.func281,Tryz.ntmps281
    go_wp2_with fail
    simp [bodyPost,results,Tryz.results281,go_sem]
    exact ⟨by rfl,Below.refl _ _⟩
  have he:s.isEmpty = false:=by simpa using h0
  by_cases h1:¬ s.length≤120
  · have hz:((s.length:Nat):Int) > 120:=by omega
    have hR:wordOk 65 90 s = false:=by
      cases s with
      | nil=>rfl
      | cons b l=>simp only [wordOk,decide_eq_false h1,Bool.false_and]
    go_enter Tryz.func281,Tryz.ntmps281
    go_wp2_with fail
    simp [bodyPost,results,Tryz.results281,go_sem]
    exact ⟨hR,Below.refl _ _⟩
  · have hz:¬ ((s.length:Nat):Int) > 120:=by omega
    go_enter Tryz.func281,Tryz.ntmps281
    go_wp2_with fail
    go_loopw [7] (fun _ w'=>∃ pos,w' = w.iter (bs s) pos∧PreOk s pos) (fun _ w'=>(bs s).size - w'.iterPos w.heap.size)
    case atStart=>exact ⟨0,rfl,Nat.zero_le _,by simp,fun h=>absurd h (Nat.lt_irrefl _)⟩
    case round =>
      obtain ⟨pos,rfl,hpre⟩:=hrel
      have hP:Aside (PreOk s pos):=hpre
      by_cases hp:pos < (bs s).size
      · have hnx:∀ ty,(Instr.next (.pointer (some ⟨w.heap.size,0,none⟩)) true ty).run Tryz.prog (w.iter (bs s) pos) = _:=fun ty=>run_next_any w (bs s) pos ty hp
        have hp':pos < s.length:=by omega
        have hmem:s[pos]∈s:=List.getElem_mem hp'
        have hfin:Below w.heap.size w (w.iter (bs s) (pos + (Utf8.decode (bs s) pos).2)):=Below.alloc (Below.refl _ _) (Nat.le_refl _) _
        have hb1:(bs s)[pos]'hp = s[pos]:=rfl
        rcases Nat.lt_or_ge s[pos].toNat 128 with ha | ha
        · have hd:=decode_ascii (bs s) pos hp (by rw [hb1]; exact ha)
          rw [hb1] at hd
          rw [hd] at hnx hfin
          simp only at hnx hfin
          have hwc:=word_calls (s[pos].toNat:Int) (w.iter (bs s) (pos + 1))
          rw [okB_word] at hwc
          cases hok:okB s[pos] with
          | false =>
            have hR:=word_bad hmem hok
            rw [hok] at hwc
            clear hpre
            go_wp2_with fail
            refine hwc.mono ?_
            rintro e w2 ⟨rfl,rfl⟩
            go_wp2_with fail
            simp [bodyPost,results,Tryz.results281,go_sem]
            exact ⟨hR,hfin⟩
          | true =>
            rw [hok] at hwc
            by_cases hz0:pos = 0
            · subst hz0
              by_cases n1:(s[0].toNat:Int) < 65
              · have hR:=word_first hp' (by omega)
                clear hpre
                go_wp2_with fail
                refine hwc.mono ?_
                rintro e w2 ⟨rfl,rfl⟩
                go_wp2_with fail
                simp [bodyPost,results,Tryz.results281,go_sem]
                exact ⟨hR,hfin⟩
              by_cases n2:(s[0].toNat:Int) > 90
              · have hR:=word_first hp' (by omega)
                clear hpre
                go_wp2_with fail
                refine hwc.mono ?_
                rintro e w2 ⟨rfl,rfl⟩
                go_wp2_with fail
                simp [bodyPost,results,Tryz.results281,go_sem]
                exact ⟨hR,hfin⟩
              · have hP2:Aside (PreOk s 1):=pre_step hpre hp' hok fun _=>⟨by omega,by omega⟩
                clear hpre
                go_wp2_with fail
                refine hwc.mono ?_
                rintro e w2 ⟨rfl,rfl⟩
                go_wp2_with fail
                refine ⟨⟨1,rfl,hP2.out⟩,?_⟩
                simp
                omega
            · have hP2:Aside (PreOk s (pos + 1)):=pre_step hpre hp' hok fun h=>absurd h hz0
              have hz1:((pos:Int) == 0) = false:=beq_eq_false_iff_ne.2 (by omega)
              clear hpre
              go_wp2_with fail
              refine hwc.mono ?_
              rintro e w2 ⟨rfl,rfl⟩
              go_wp2_with fail
              refine ⟨⟨pos + 1,rfl,hP2.out⟩,?_⟩
              simp
              omega
        · have hd:=decode_high (bs s) pos hp (by rw [hb1]; exact ha)
          have hwc:=word_calls ((Utf8.decode (bs s) pos).1:Int) (w.iter (bs s) (pos + (Utf8.decode (bs s) pos).2))
          have hno:inWord ((Utf8.decode (bs s) pos).1:Int) = false:=by
            unfold inWord
            simp only [Bool.or_eq_false_iff,Bool.and_eq_false_iff,decide_eq_false_iff_not]
            omega
          rw [hno] at hwc
          have hok:okB s[pos] = false:=by
            have h:∀ n:Fin 256,128≤n.val→okN n.val = false:=by decide +kernel
            exact h ⟨s[pos].toNat,s[pos].toNat_lt⟩ ha
          have hR:=word_bad hmem hok
          generalize Utf8.decode (bs s) pos = d at *
          clear hpre hd hno
          go_wp2_with fail
          refine hwc.mono ?_
          rintro e w2 ⟨rfl,rfl⟩
          go_wp2_with fail
          simp [bodyPost,results,Tryz.results281,go_sem]
          exact ⟨hR,hfin⟩
      · have hnx:∀ ty,(Instr.next (.pointer (some ⟨w.heap.size,0,none⟩)) true ty).run Tryz.prog (w.iter (bs s) pos) = _:=fun ty=>run_next_end w (bs s) pos ty hp
        have hR:wordOk 65 90 s = true:=word_all h0 (by omega) (by
          have h2:=hpre
          obtain rfl:pos = s.length:=by have:=hpre.1; omega
          exact h2)
        have hfin:Below w.heap.size w (w.iter (bs s) pos):=Below.alloc (Below.refl _ _) (Nat.le_refl _) _
        clear hpre
        go_wp2_with fail
        simp [bodyPost,results,Tryz.results281,go_sem]
        exact ⟨hR,hfin⟩
variable {G:World→Prop}
theorem m213 (s:Name):Meets Tryz.prog G 281 [.one (cS (bs s)),.one (cI .i32 65),.one (cI .i32 90)] (.x (.one (cB (wordOk 65 90 s)))):=by
  refine ⟨by kernel_rfl,fun w V vs hG hV ha=>?_⟩
  obtain ⟨v1,vs,rfl,h1,hn⟩:=ha.head
  obtain ⟨v2,vs,rfl,h2,hn⟩:=hn.head
  obtain ⟨v3,vs,rfl,h3,hn⟩:=hn.head
  obtain rfl:=hn.nil_left
  obtain rfl:v1 = .string (bs s):=by cases h1; rfl
  obtain rfl:v2 = .int .i32 65:=by cases h2; rfl
  obtain rfl:v3 = .int .i32 90:=by cases h3; rfl
  refine (spelt_calls s w).mono ?_
  rintro e w' ⟨rfl,hb⟩
  exact ⟨_,rfl,.v _ rfl,hb⟩
theorem m191 (s:Name):Meets Tryz.prog G 225 [.one (cS (bs s))] (.x (.one (cB (wordOk 65 90 s)))):=by
  have h:=m213 (G:=G) s
  refine meets Tryz.func225 ie191 ig191 (Nat.le_of_ble_eq_true rfl) ?_
  simp [ic191,ir191]
  refine call_of h ?_
  simp
end Go.Proofs.YtiomojlcnemnhaaGreatDoor

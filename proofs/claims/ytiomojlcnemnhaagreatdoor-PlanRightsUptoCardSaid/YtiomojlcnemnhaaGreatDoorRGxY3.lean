import Derived.Test.YtiomojlcnemnhaaGreatDoorRGxX13
import Derived.Test.YtiomojlcnemnhaaGreatDoorRGxIcH
namespace Go.Proofs.YtiomojlcnemnhaaGreatDoor
open Go.Fx Go.RowKit Go.Ped
variable {G:World→Prop}
theorem m126_rule {fv:A} (hfv:fv.only farKey (fun _=>False)) (r:Rule) (hs:r.small 1048576) (es sq:List (List C)) (i off:Nat) (H H':FHp) (hp1:PtAt es i off r.row) (hc:Ch G fv r.terms H H') :
    MeetsH Tryz.prog G 80 [.one (.ifc 143 (.elem es sq i off)),.one fv] (hp [] [] H) (.tup []) (hp [] [] H'):=by
  obtain ⟨H1,c1,c2⟩:=hc.split
  obtain ⟨hs1,hs2,hs3⟩:=hs
  have hlen:off + 2 < (es[i]?.getD []).length:=by
    have h:=hp1.len
    simp [Rule.row] at h
    omega
  have hlen1:off + 1 < (es[i]?.getD []).length:=by omega
  have hval1:(es[i]?.getD [])[off + 1]'hlen1 = .sl (r.head.map Arg.row) r.hsp:=(List.getElem?_eq_some_iff.1 (hp1.at 1 (by simp))).2
  have hval2:(es[i]?.getD [])[off + 2]'hlen = .sl (r.body.map Lit.row) r.bsp:=(List.getElem?_eq_some_iff.1 (hp1.at 2 (by simp))).2
  refine meetsH [] Tryz.func80 ie126 ig126 (Nat.le_of_ble_eq_true rfl) (by simp) (by simp) ?_ (by simp) (by simp) hc.same (by simp) (by simp) ?_
  · simp
    exact A.only_mono (fun _=>far_not_own) (fun _ h=>h.elim) hfv
  simp [ic126,ir126,hlen1,hval1]
  refine w_loopA [] [] [21,20,1,4] (by simp)
    (fun a:Nat × FHp=>st [(21,tI .i64 a.1),(20,tI .i64 r.head.length),(1,.k true (.x (.one fv))),(4,.k true (.x (.one (.elem es sq i off))))] [] [] a.2) (fun a=>r.head.length - a.1)
    (fun a=>a.1≤r.head.length∧Ch G fv ((r.head.drop a.1).map Arg.t) a.2 H1) (0,H) (by simp) ⟨by simp,by simpa using c1⟩ ?_
  rintro ⟨j,H2⟩ K hK ⟨hj,hd⟩
  simp only at hj hd
  obtain hlt | hge:=Nat.lt_or_ge j r.head.length
  · rw [List.drop_eq_getElem_cons hlt,List.map_cons] at hd
    cases hd with
    | @cons _ _ _ H3 _ h1 hk1 hd =>
    have hm:=h1 (r.head.map Arg.row) r.hsp j 1 ⟨r.head[j].row,by simp [hlt],rfl⟩
    simp [ic126l0,hlt,hlen1,hval1]
    refine r_callC hm hk1 rfl rfl rfl (by simp) (by simp) (by simp) ?_
    simp
    simp (disch:=omega) only [wrap64]
    exact hK (j + 1,H3) _ (by simp) ⟨by simp; omega,hd⟩ (by simp; omega)
  · rw [List.drop_eq_nil_of_le hge] at hd
    cases hd
    simp [ic126l0,Nat.not_lt.mpr hge,hlen,hval2]
    refine w_loopA [] [] [39,38,1,4] (by simp)
      (fun a:Nat × FHp=>st [(39,tI .i64 a.1),(38,tI .i64 r.body.length),(1,.k true (.x (.one fv))),(4,.k true (.x (.one (.elem es sq i off))))] [] [] a.2) (fun a=>r.body.length - a.1)
      (fun a=>a.1≤r.body.length∧Ch G fv ((r.body.drop a.1).flatMap Lit.terms) a.2 H') (0,H1) (by simp) ⟨by simp,by simpa using c2⟩ ?_
    rintro ⟨k,H3⟩ K2 hK2 ⟨hk,hd⟩
    simp only at hk hd
    obtain hlt | hge:=Nat.lt_or_ge k r.body.length
    · rw [List.drop_eq_getElem_cons hlt,List.flatMap_cons] at hd
      obtain ⟨H4,d1,d2⟩:=hd.split
      have hm:=m126_lit (G:=G) hfv r.body[k] (hs3 _ (List.getElem_mem hlt)) (r.body.map Lit.row) r.bsp k 0 H3 H4 ⟨r.body[k].row,by simp [hlt],by rw [List.drop_zero,List.take_of_length_le (Nat.le_refl _)]⟩ d1
      simp [ic126l1,hlt,hlen,hval2]
      refine r_callC (MeetsV.of_fun hm) d1.same rfl rfl rfl (by simp) (by simp) (by simp) ?_
      simp
      simp (disch:=omega) only [wrap64]
      exact hK2 (k + 1,H4) _ (by simp) ⟨by simp; omega,d2⟩ (by simp; omega)
    · rw [List.drop_eq_nil_of_le hge] at hd
      cases hd
      simp [ic126l1,Nat.not_lt.mpr hge]
      exact ret_st (by simp) (by simp) (by simp) (by simp) (by simp) (by simp)
theorem m68 (r:Rule) (hs:r.small 1048576) (hl:r.terms.length≤2000000):Meets Tryz.prog G 96 [.agg r.row] (.x (.one (.sl ((tmVars r.terms).map nmRow) []))):=by
  refine meets Tryz.func96 ie68 ig68 (Nat.le_of_ble_eq_true rfl) ?_
  have hw:Walks G (.ifc 143 (.elem [r.row] [] 0 0)) r.terms:=fun fv H H' hfv hc=>m126_rule hfv r hs [r.row] [] 0 0 H H' ⟨r.row,rfl,rfl⟩ hc
  simp [ic68,ir68,freeze_st,fzL,freezeO,maxLen]
  refine r_call0 (MeetsV.of_fun (m118 _ r.terms (by simp) (fun _=>rfl) (fun _=>rfl) (fun _=>rfl) hl hw)) rfl rfl rfl (by simp) (by simp) (by simp) ?_
  simp
theorem m132o (x:Lit) (hs:x.small 1048576) (es:List (List C)) (hle:es.length + x.terms.length≤100000000) :
    MeetsH Tryz.prog G 167 [.one (.own 10030 es),.agg (x.row.map A.c)] (hp [] (U99 10030 es.length) F0) (.x (.one (.own 10030 (es++x.terms.map Tm.row)))) (hp [] (U99 10030 (es++x.terms.map Tm.row).length) F0):=by
  have hterms:x.terms = x.l++x.left.terms++x.right.terms:=rfl
  rw [hterms] at hle ⊢
  simp only [List.length_append] at hle
  refine meetsH [] Tryz.func167 ie132f ig132f (Nat.le_of_ble_eq_true rfl) (by simp) (by simp [midKey]) (by simp) (by simp) (by simp) (sameKeys_refl F0) (by simp) (by simp) ?_
  simp [ic132f,ir132f]
  have hl1:=hs.1
  refine w_loopA [] [21] [5,3,0] (by simp [ownKey])
    (fun a:Nat × List (List C)=>st [(5,tI .i64 a.1),(3,.k true (.x (.one (.ref 3 0 0)))),(0,.k true (.x (.one (.own 10030 a.2))))] [(3,⟨107,16,[x.row.map A.c],none⟩)] [(10030,⟨73,4,a.2.length⟩)] F0) (fun a=>x.l.length - a.1)
    (fun a=>a.1≤x.l.length∧a.2++(x.l.drop a.1).map Tm.row = es++x.l.map Tm.row) (0,es) (by simp) (by simp) ?_
  rintro ⟨i,E⟩ K hK ⟨hi,hE⟩
  simp only at hi hE
  obtain hlt | hge:=Nat.lt_or_ge i x.l.length
  · rw [List.drop_eq_getElem_cons hlt,List.map_cons] at hE
    have hEl:=congrArg List.length hE
    simp at hEl
    simp [ic132l0f,hlt]
    refine ⟨by simp [maxLen]; omega,by simp [maxBytes]; omega,?_⟩
    simp (disch:=omega) only [wrap64]
    exact hK (i + 1,E++[x.l[i].row]) _ (by simp) ⟨by simp; omega,by simp only [List.append_assoc,List.singleton_append]; exact hE⟩ (by simp; omega)
  · rw [List.drop_eq_nil_of_le hge,List.map_nil,List.append_nil] at hE
    subst hE
    have o1:=c99 (G:=G) 10030
    simp [ic132l0f,Nat.not_lt.mpr hge]
    refine r_callV _ _ [] _ _ [] _ F0 (MeetsV.of_fun (m99 (G:=G) x.left hs.2.1 (es++x.l.map Tm.row) (by simp; omega))) rfl rfl rfl (by simp) (by simp) (by simp) (by simp) (by simp) (by simp) (by simp) (by simp) (by simp) (sameKeys_refl F0) rfl ?_
    simp
    refine r_callV _ _ [] _ _ [] _ F0 (MeetsV.of_fun (m99 (G:=G) x.right hs.2.2 (es++(x.l.map Tm.row++x.left.terms.map Tm.row)) (by simp; omega))) rfl rfl rfl (by simp) (by simp) (by simp) (by simp) (by simp) (by simp) (by simp) (by simp) (by simp) (sameKeys_refl F0) rfl ?_
    simp
    exact ret_st (by simp) (by simp) (by simp) (by simp) (by simp) (by simp)
end Go.Proofs.YtiomojlcnemnhaaGreatDoor

namespace Go.Proofs.YtiomojlcnemnhaaGreatDoor
open Go.Fx Go.RowKit Go.Ped
variable {G:World→Prop}
theorem m157' (t:Tm):Meets Tryz.prog G 250 [.agg t.row] (.x (.one (cB t.ok))):=m157 t.v t.x.k t.x.n t.x.s
theorem m134 (a:Arg):Meets Tryz.prog G 185 [.agg a.row] (.x (.one (cB (argOk a)))):=by
  refine meets Tryz.func185 ie134 ig134 (Nat.le_of_ble_eq_true rfl) ?_
  have h3:=m183 (G:=G) a.t
  by_cases a0:a.agg = 0
  · simp [ic134,ir134,a0]
    refine call_of h3 ?_
    simp [argOk,a0]
  by_cases a1:a.agg = 1
  · simp [ic134,ir134,a1]
    refine call_of (m180 a.t) ?_
    simp [argOk,a1]
  by_cases a2:a.agg = 2∨a.agg = 3∨a.agg = 4
  · have hk:argOk a = (a.t.v != [] && solidOk a.t):=by rcases a2 with h | h | h <;> simp [argOk,h]
    rw [hk]
    rcases a2 with h | h | h <;> simp [ic134,ir134,h]
    all_goals
      refine call_i (fun _=>h3) ?_
      simp
  · have hk:argOk a = false:=by simp [argOk,a0,a1,a2]
    rw [hk]
    simp only [not_or] at a2
    simp [ic134,ir134,a0,a1,a2]
theorem m184 (a:Arg):Meets Tryz.prog G 175 [.agg a.row] (.x (.one (cB (argOk a)))):=by
  refine meets Tryz.func175 ie184 ig184 (Nat.le_of_ble_eq_true rfl) ?_
  have h3:=m157' (G:=G) a.t
  by_cases a0:a.agg = 0
  · have hk:argOk a = (a.t.v != us && a.t.ok):=by simp [argOk,a0,solidOk]
    rw [hk]
    simp [ic184,ir184,a0]
    refine call_i (fun _=>h3) ?_
    simp [us]
  by_cases a1:a.agg = 1
  · have hk:argOk a = (a.t == zeroT):=by simp [argOk,a1]
    rw [hk,tm_zero]
    simp [ic184,ir184,a1,Tm.row]
  by_cases a2:a.agg = 2∨a.agg = 3∨a.agg = 4
  · have hk:argOk a = (a.t.v != [] && a.t.v != us && a.t.ok):=by rcases a2 with h | h | h <;> simp [argOk,h,solidOk,Bool.and_assoc]
    rw [hk]
    rcases a2 with h | h | h <;> simp [ic184,ir184,h]
    all_goals
      refine call_i (fun _=>h3) ?_
      simp [us]
  · have hk:argOk a = false:=by simp [argOk,a0,a1,a2]
    rw [hk]
    simp only [not_or] at a2
    simp [ic184,ir184,a0,a1,a2]
theorem m136 (r:Rule) (hs:r.small 1048576) (hle:r.terms.length≤1048576):Meets Tryz.prog G 142 [.agg r.row] (.x (.one (.sl (r.terms.map Tm.row) []))):=by
  refine meets Tryz.func142 ie136 ig136 (Nat.le_of_ble_eq_true rfl) ?_
  obtain ⟨hs1,hs2,hs3⟩:=hs
  simp only [Rule.terms,List.length_append,List.length_map] at hle
  have hres:r.terms.map Tm.row = (r.head.map Arg.t).map Tm.row++(r.body.flatMap Lit.terms).map Tm.row:=by simp only [Rule.terms,List.map_append]
  rw [hres]
  generalize hT:(r.head.map Arg.t).map Tm.row = T1
  have hT1:T1.length = r.head.length:=by rw [← hT]; simp
  simp [ic136,ir136]
  refine w_loopA [.t 21 3 73 4] [20] [1,3,4] (by simp [ownKey])
    (fun a:Nat × List (List C)=>st [(1,.k true (.x (.one (.ref 1 0 0)))),(3,.k true (.x (.one (.own 21 a.2)))),(4,tI .i64 a.1)] [(1,⟨29,3,[r.row.map A.c],none⟩)] [(21,⟨73,4,a.2.length⟩)] F0) (fun a=>r.head.length - a.1)
    (fun a=>a.1≤r.head.length∧a.2++((r.head.drop a.1).map Arg.t).map Tm.row = T1) (0,[]) (by simp [promoteT_st]) (by simpa using hT) ?_
  rintro ⟨i,E⟩ K hK ⟨hi,hE⟩
  simp only at hi hE
  obtain hlt | hge:=Nat.lt_or_ge i r.head.length
  · rw [List.drop_eq_getElem_cons hlt,List.map_cons,List.map_cons] at hE
    have hEl:=congrArg List.length hE
    simp at hEl
    simp [ic136l0,hlt]
    refine ⟨by unfold maxLen; omega,by unfold maxBytes; omega,?_⟩
    simp (disch:=omega) only [wrap64]
    exact hK (i + 1,E++[r.head[i].t.row]) _ (by simp) ⟨by simp; omega,by simp only [List.append_assoc,List.singleton_append]; exact hE⟩ (by simp; omega)
  · rw [List.drop_eq_nil_of_le hge,List.map_nil,List.map_nil,List.append_nil] at hE
    subst hE
    simp [ic136l0,Nat.not_lt.mpr hge]
    refine w_loopA [] [] [1,3,5] (by simp)
      (fun a:Nat × List (List C)=>st [(1,.k true (.x (.one (.ref 1 0 0)))),(3,.k true (.x (.one (.own 21 a.2)))),(5,tI .i64 a.1)] [(1,⟨29,3,[r.row.map A.c],none⟩)] [(21,⟨73,4,a.2.length⟩)] F0) (fun a=>r.body.length - a.1)
      (fun a=>a.1≤r.body.length∧a.2++((r.body.drop a.1).flatMap Lit.terms).map Tm.row = E++(r.body.flatMap Lit.terms).map Tm.row) (0,E) (by simp) (by simp) ?_
    rintro ⟨j,D⟩ K2 hK2 ⟨hj,hD⟩
    simp only at hj hD
    obtain hlt | hge:=Nat.lt_or_ge j r.body.length
    · rw [List.drop_eq_getElem_cons hlt,List.flatMap_cons,List.map_append,← List.append_assoc] at hD
      have hDl:=congrArg List.length hD
      simp only [List.length_append,List.length_map] at hDl
      have hm:=(MeetsV.of_fun (m132o (G:=G) r.body[j] (hs3 _ (List.getElem_mem hlt)) D (by omega))).ren (π:=swR 10030 21)
      have e1:swF 10030 21 10030 = 21:=by simp [swF]
      simp [e1] at hm
      simp [ic136l1,hlt]
      refine r_callV _ _ [] _ _ [] _ F0 hm rfl rfl rfl (by simp) (by simp) (by simp) (by simp) (by simp) (by simp) (by simp) (by simp) (by simp) (sameKeys_refl F0) rfl ?_
      simp
      simp (disch:=omega) only [wrap64]
      exact hK2 (j + 1,D++r.body[j].terms.map Tm.row) _ (by simp) ⟨by simp; omega,hD⟩ (by simp; omega)
    · rw [List.drop_eq_nil_of_le hge] at hD
      simp at hD
      subst hD
      simp [ic136l1,Nat.not_lt.mpr hge]
theorem m69 (r:Rule) (hs:r.small 1048576) (hle:r.terms.length≤1048576):Meets Tryz.prog G 48 [.agg r.row] (.x (.one (.sl ((tmVars r.terms).map nmRow) []))):=by
  refine meets Tryz.func48 ie69 ig69 (Nat.le_of_ble_eq_true rfl) ?_
  simp [ic69,ir69]
  refine call_of (m136 r hs hle) ?_
  simp
  refine call_of (m98 r.terms [] hle) ?_
  simp
theorem all_not {α:Type} {p:α→Bool} {l:List α} {x:α} (h:x∈l) (hp:p x = false):l.all p = false:=by
  rw [Bool.eq_false_iff]; intro h1; have:=List.all_eq_true.1 h1 x h; rw [hp] at this; cases this
theorem m135 (r:Rule) (hs:r.small 1048576) (hle:r.terms.length≤1048576):Meets Tryz.prog G 77 [.agg r.row] (.x (.one (cB (ruleOk r)))):=by
  refine meets Tryz.func77 ie135 ig135 (Nat.le_of_ble_eq_true rfl) ?_
  have h69:=m69 (G:=G) r hs hle
  obtain ⟨hs1,hs2,hs3⟩:=hs
  simp [ic135,ir135]
  refine call_of (m156 r.p) ?_
  simp
  refine condI_of (fun h=>?_) (fun h=>?_)
  · have:ruleOk r = false:=by
      simp at h
      rcases h with (h | h) | h <;> simp [ruleOk,h]
      · have:¬ r.head.length≤24:=by omega
        simp [this]
      · have:¬ r.body.length≤16:=by omega
        simp [this]
    simp [this]
  simp at h
  obtain ⟨⟨h1,h2⟩,h3⟩:=h
  have hok:ruleOk r = (r.head.all argOk && r.body.all litOk && decide ((varsOf r.terms).length≤24)):=by
    have a2:r.head.length≤24:=by omega
    have a3:r.body.length≤16:=by omega
    simp [ruleOk,h1,a2,a3]
  simp
  refine w_loopA [] [] [1,3] (by simp) (fun i:Nat=>st [(1,.k true (.x (.one (.ref 1 0 0)))),(3,tI .i64 i)] [(1,⟨29,3,[r.row.map A.c],none⟩)] [] F0) (fun i=>r.head.length - i)
    (fun i=>i≤r.head.length∧(r.head.take i).all argOk = true) 0 (by simp) (by simp) ?_
  rintro i K hK ⟨hi,hd⟩
  obtain hlt | hge:=Nat.lt_or_ge i r.head.length
  · simp [ic135l0,hlt]
    refine call_of (m184 r.head[i]) ?_
    simp
    refine condI_of (fun h=>?_) (fun h=>?_)
    · simp at h
      have hR:ruleOk r = false:=by rw [hok,all_not (List.getElem_mem hlt) h]; rfl
      simp [hR]
    · simp at h
      simp
      simp (disch:=omega) only [wrap64]
      exact hK (i + 1) _ (by simp) ⟨by omega,by rw [List.take_succ_eq_append_getElem hlt,List.all_append,hd]; simp [h]⟩ (by omega)
  · rw [List.take_of_length_le hge] at hd
    simp [ic135l0,Nat.not_lt.mpr hge]
    refine w_loopA [] [] [1,4] (by simp) (fun i:Nat=>st [(1,.k true (.x (.one (.ref 1 0 0)))),(4,tI .i64 i)] [(1,⟨29,3,[r.row.map A.c],none⟩)] [] F0) (fun i=>r.body.length - i)
      (fun i=>i≤r.body.length∧(r.body.take i).all litOk = true) 0 (by simp) (by simp) ?_
    rintro j K2 hK2 ⟨hj,hd2⟩
    obtain hlt | hge:=Nat.lt_or_ge j r.body.length
    · simp [ic135l1,hlt]
      refine call_of (m131 r.body[j] (hs3 _ (List.getElem_mem hlt))) ?_
      simp
      refine condI_of (fun h=>?_) (fun h=>?_)
      · simp at h
        have hR:ruleOk r = false:=by rw [hok,hd,all_not (List.getElem_mem hlt) h]; rfl
        simp [hR]
      · simp at h
        simp
        simp (disch:=omega) only [wrap64]
        exact hK2 (j + 1) _ (by simp) ⟨by omega,by rw [List.take_succ_eq_append_getElem hlt,List.all_append,hd2]; simp [h]⟩ (by omega)
    · rw [List.take_of_length_le hge] at hd2
      have hR:ruleOk r = decide ((tmVars r.terms).length≤24):=by rw [hok,hd,hd2]; rfl
      simp [ic135l1,Nat.not_lt.mpr hge]
      refine call_of h69 ?_
      simp [hR]
      omega
theorem m67 (r:Rule) (hs:r.small 1048576) (hle:r.terms.length≤1048576):Meets Tryz.prog G 46 [.agg r.row] (.x (.one (cI .i64 (if ruleOk r then 0 else 40)))):=by
  refine meets Tryz.func46 ie67 ig67 (Nat.le_of_ble_eq_true rfl) ?_
  simp [ic67,ir67]
  refine call_of (m135 r hs hle) ?_
  simp
  refine call_of (m90 _) ?_
  simp
theorem m66 (r:Rule) (hs:r.small 1048576) (hle:r.terms.length≤2000000):Meets Tryz.prog G 93 [.agg r.row] (.x (.one (cI .i64 (if ruleOk r then 0 else 40)))):=by
  refine meets Tryz.func93 ie66 ig66 (Nat.le_of_ble_eq_true rfl) ?_
  have h68:=m68 (G:=G) r hs hle
  obtain ⟨hs1,hs2,hs3⟩:=hs
  simp [ic66,ir66]
  refine call_of (m114 r.p) ?_
  simp
  refine condI_of (fun h=>?_) (fun h=>?_)
  · have:ruleOk r = false:=by
      simp at h
      rcases h with (h | h) | h <;> simp [ruleOk,h]
      · have:¬ r.head.length≤24:=by omega
        simp [this]
      · have:¬ r.body.length≤16:=by omega
        simp [this]
    simp [this]
  simp at h
  obtain ⟨⟨h1,h2⟩,h3⟩:=h
  have hok:ruleOk r = (r.head.all argOk && r.body.all litOk && decide ((varsOf r.terms).length≤24)):=by
    have a2:r.head.length≤24:=by omega
    have a3:r.body.length≤16:=by omega
    simp [ruleOk,h1,a2,a3]
  simp
  refine w_loopA [] [4] [1,25,26,27] (by simp [ownKey]) (fun i:Nat=>st [(1,.k true (.x (.one (.ref 1 0 0)))),(25,.k true (.x (.one (.c (.sl (r.head.map Arg.row) r.hsp))))),(26,tI .i64 r.head.length),(27,tI .i64 i)] [(1,⟨29,3,[r.row.map A.c],none⟩)] [] F0) (fun i=>r.head.length - i)
    (fun i=>i≤r.head.length∧(r.head.take i).all argOk = true) 0 (by simp) (by simp) ?_
  rintro i K hK ⟨hi,hd⟩
  obtain hlt | hge:=Nat.lt_or_ge i r.head.length
  · simp [ic66l0,hlt]
    refine call_of (m134 r.head[i]) ?_
    simp
    refine condI_of (fun h=>?_) (fun h=>?_)
    · simp at h
      have hR:ruleOk r = false:=by rw [hok,all_not (List.getElem_mem hlt) h]; rfl
      simp [hR]
    · simp at h
      simp
      simp (disch:=omega) only [wrap64]
      exact hK (i + 1) _ (by simp) ⟨by omega,by rw [List.take_succ_eq_append_getElem hlt,List.all_append,hd]; simp [h]⟩ (by omega)
  · rw [List.take_of_length_le hge] at hd
    simp [ic66l0,Nat.not_lt.mpr hge]
    refine w_loopA [] [6] [1,36,37,38] (by simp [ownKey]) (fun i:Nat=>st [(1,.k true (.x (.one (.ref 1 0 0)))),(36,.k true (.x (.one (.c (.sl (r.body.map Lit.row) r.bsp))))),(37,tI .i64 r.body.length),(38,tI .i64 i)] [(1,⟨29,3,[r.row.map A.c],none⟩)] [] F0) (fun i=>r.body.length - i)
      (fun i=>i≤r.body.length∧(r.body.take i).all litOk = true) 0 (by simp) (by simp) ?_
    rintro j K2 hK2 ⟨hj,hd2⟩
    obtain hlt | hge:=Nat.lt_or_ge j r.body.length
    · simp [ic66l1,hlt]
      refine call_of (m57 r.body[j] (hs3 _ (List.getElem_mem hlt))) ?_
      simp
      refine condI_of (fun h=>?_) (fun h=>?_)
      · simp at h
        have hR:ruleOk r = false:=by rw [hok,hd,all_not (List.getElem_mem hlt) h]; rfl
        simp [hR,h]
      · simp at h
        simp
        simp (disch:=omega) only [wrap64]
        exact hK2 (j + 1) _ (by simp) ⟨by omega,by rw [List.take_succ_eq_append_getElem hlt,List.all_append,hd2]; simp [h]⟩ (by omega)
    · rw [List.take_of_length_le hge] at hd2
      have hR:ruleOk r = decide ((tmVars r.terms).length≤24):=by rw [hok,hd,hd2]; rfl
      simp [ic66l1,Nat.not_lt.mpr hge]
      refine call_of h68 ?_
      simp
      refine call_of (m113 _) ?_
      have e24:((tmVars r.terms).length:Int)≤24↔(tmVars r.terms).length≤24:=by omega
      simp [hR,e24]
end Go.Proofs.YtiomojlcnemnhaaGreatDoor

namespace Go.Proofs.YtiomojlcnemnhaaGreatDoor
open Go.Fx Go.RowKit Go.Ped
variable {G:World→Prop}
def exZ:Ex:=.mk 0 zeroT [] []
def litMark:Lit:=⟨99,markW 777777,[],[],0,exZ,exZ⟩
def argMark:Arg:=⟨0,markT⟩
theorem exZ_row:exZ.row = [cI .i8 0,cS (bs []),cI .i8 0,cI .i64 0,cS (bs []),.sl [] []]:=by rw [exZ,Ex.row_mk]; rfl
theorem litMark_row:litMark.row = [cI .i8 99,cS (bs (markW 777777)),.sl [] [],cI .i8 0,cI .i8 0,cS (bs []),cI .i8 0,cI .i64 0,cS (bs []),.sl [] [],cI .i8 0,cS (bs []),cI .i8 0,cI .i64 0,cS (bs []),.sl [] []]:=by
  simp [litMark,Lit.row,exZ_row]
theorem argMark_row:argMark.row = [cI .i8 0,cS (bs (markW 777777)),cI .i8 0,cI .i64 0,cS (bs [])]:=rfl
theorem m172':Meets Tryz.prog GT 171 [.one (cI .i64 777777)] (.x (.one (cS (bs (markW 777777))))):=m172 777777 (by omega) (by omega) itoa777
theorem m120:Meets Tryz.prog GT 163 [.one (cI .i64 777777)] (.x (.agg litMark.row)):=by
  refine meets Tryz.func163 ie120 ig120 (Nat.le_of_ble_eq_true rfl) ?_
  simp [ic120,ir120]
  refine call_of m172' ?_
  simp [litMark_row]
theorem m124:Meets Tryz.prog GT 183 [.agg litMark.row,.one (cI .i64 777777)] (.x (.one (cB true))):=by
  refine meets Tryz.func183 ie124 ig124 (Nat.le_of_ble_eq_true rfl) ?_
  simp [ic124,ir124,litMark_row]
  refine call_of m172' ?_
  simp
theorem m182:Meets Tryz.prog GT 173 [.one (cI .i64 777777)] (.x (.agg argMark.row)):=by
  refine meets Tryz.func173 ie182 ig182 (Nat.le_of_ble_eq_true rfl) ?_
  simp [ic182,ir182]
  refine call_of m172' ?_
  simp [argMark_row]
theorem m185:Meets Tryz.prog GT 181 [.agg argMark.row,.one (cI .i64 777777)] (.x (.one (cB true))):=by
  refine meets Tryz.func181 ie185 ig185 (Nat.le_of_ble_eq_true rfl) ?_
  simp [ic185,ir185,argMark_row]
  refine call_of m172' ?_
  simp
def encA:Enc Arg 5 [.i .i8,.s,.i .i8,.i .i64,.s] where
  row:=Arg.row
  len:=fun _=>rfl
  eq:=fun x y _=>by
    obtain ⟨g,a,k,n,s⟩:=x
    obtain ⟨h,b,l,m,t⟩:=y
    simp [Arg.row,Tm.row]
    rw [Bool.eq_iff_iff]
    simp
theorem m139 (l m:List Arg) (sp sq:List (List C)) (hl:l.length≤maxLen):Meets Tryz.prog G 86 [.one (.sl (l.map Arg.row) sp),.one (.sl (m.map Arg.row) sq)] (.x (.one (cB (decide (l = m))))) :=
  same_gen encA Tryz.func86 ie139 ig139 (Nat.le_of_ble_eq_true rfl) l m sp sq hl
theorem m139' (l:List Arg) (sp sq:List (List C)) (hl:l.length≤maxLen):Meets Tryz.prog G 86 [.one (.sl (l.map Arg.row) sp),.one (.sl (l.map Arg.row) sq)] (.x (.one (cB true))):=by
  have:=m139 (G:=G) l l sp sq hl
  simpa using this
theorem m133 (l:List Arg) (sp:List (List C)) (hl:l.length≤1048576):Meets Tryz.prog GT 76 [.one (.sl (l.map Arg.row) sp)] (.x (.one (.sl (l.map Arg.row) [argMark.row]))) :=
  twin_gen (x:=argMark) encA Tryz.func76 ie133 ig133 (Nat.le_of_ble_eq_true rfl) rfl (by omega) m182 l sp hl
theorem m137 (l:List Arg) (sp:List (List C)) (hl:l.length≤1048576):Meets Tryz.prog GT 91 [.one (.sl (l.map Arg.row) [argMark.row]),.one (.sl (l.map Arg.row) sp)] (.x (.one (cB true))) :=
  left_gen (x:=argMark) encA Tryz.func91 ie137 ig137 (Nat.le_of_ble_eq_true rfl) l sp hl (m139' l [argMark.row] sp (by unfold maxLen; omega)) m185
abbrev Lit.tw (x:Lit):Lit:=x.twin markT.row markE
theorem m49 (l:List Lit) (sp:List (List C)) (hl:l.length≤1048576) (hs:∀ x∈l,x.small 1048576):Meets Tryz.prog GT 64 [.one (.sl (l.map Lit.row) sp)] (.x (.one (.sl ((l.map Lit.tw).map Lit.row) [litMark.row]))):=by
  have h:=twF_gen Lit.row (fun k=>k.tw.row) (fun x=>Lit.row_length x) (fun x=>Lit.row_length _) (Lit.row_length litMark) Tryz.func64 ie49 ig49 (Nat.le_of_ble_eq_true rfl) rfl (by omega) m120 l sp hl (fun x hx=>m56 x (hs x hx))
  simpa [Function.comp_def] using h
theorem m52 (l:List Lit) (sp:List (List C)) (hl:l.length≤1048576) (hs:∀ x∈l,x.small 1048576):Meets Tryz.prog GT 92 [.one (.sl ((l.map Lit.tw).map Lit.row) [litMark.row]),.one (.sl (l.map Lit.row) sp)] (.x (.one (cB true))):=by
  refine meets Tryz.func92 ie52 ig52 (Nat.le_of_ble_eq_true rfl) ?_
  simp [ic52,ir52]
  refine w_loopA [] [] [0,1,5] (by simp)
    (fun i:Nat=>st [(0,.k true (.x (.one (.c (.sl (l.map (Lit.row ∘ Lit.tw)) [litMark.row]))))),(1,.k true (.x (.one (.c (.sl (l.map Lit.row) sp))))),(5,tI .i64 i)] [] [] F0) (fun i=>l.length - i) (fun i=>i≤l.length) 0 (by simp) (by simp) ?_
  rintro i K hK hi
  obtain hlt | hge:=Nat.lt_or_ge i l.length
  · simp [ic52l0,hlt]
    refine call_of (m61 l[i] (hs _ (List.getElem_mem hlt))) ?_
    simp
    simp (disch:=omega) only [wrap64]
    exact hK (i + 1) _ (by simp) (by omega) (by omega)
  · simp [ic52l0,Nat.not_lt.mpr hge]
    simp (disch:=omega) [wrap64]
    refine ⟨⟨by omega,?_⟩,?_⟩
    · rintro e (⟨a,_,rfl⟩ | rfl) <;> exact Lit.row_length _
    refine call_of m124 ?_
    simp
def Rule.tw (r:Rule):Rule:=⟨r.p,r.head,[argMark.row],r.body.map Lit.tw,[litMark.row]⟩
theorem Rule.tw_row (r:Rule):r.tw.row = [cS (bs r.p),.sl (r.head.map Arg.row) [argMark.row],.sl ((r.body.map Lit.tw).map Lit.row) [litMark.row]]:=rfl
theorem Rule.small_tw {r:Rule} (h:r.small 1048576):r.tw.small 1048576:=⟨h.1,by simpa [Rule.tw] using h.2.1,fun x hx=>by
  obtain ⟨y,hy,rfl⟩:=List.mem_map.1 hx; exact Lit.small_twin (h.2.2 y hy)⟩
theorem Rule.terms_tw (r:Rule):r.tw.terms = r.terms:=by
  simp only [Rule.terms,Rule.tw]
  congr 1
  rw [List.flatMap_map]
  congr 1
  funext x; exact Lit.terms_twin _ _ x
theorem ruleOk_tw (r:Rule):ruleOk r.tw = ruleOk r:=by
  have h:(litOk ∘ Lit.tw) = litOk:=by funext x; exact litOk_twin _ _ x
  simp only [ruleOk,Rule.terms_tw]
  simp only [Rule.tw,List.length_map,List.all_map,h]
  rfl
theorem m62 (r:Rule) (hs:r.small 1048576):Meets Tryz.prog G 13 [.agg r.row] (.x (.one (cB (decide (ruleParts r 1048576 > 1048576))))):=by
  refine meets Tryz.func13 ie62 ig62 (Nat.le_of_ble_eq_true rfl) ?_
  simp [ic62,ir62]
  refine call_of (m119 r 1048576 (by omega) (by omega) hs) ?_
  simp
theorem m63 (r:Rule) (hs:r.small 1048576):Meets Tryz.prog GT 16 [.agg r.row] (.x (.agg r.tw.row)):=by
  refine meets Tryz.func16 ie63 ig63 (Nat.le_of_ble_eq_true rfl) ?_
  rw [Rule.tw_row]
  simp [ic63,ir63,Rule.row]
  refine call_of (m133 r.head r.hsp hs.1) ?_
  simp
  refine call_of (m49 r.body r.bsp hs.2.1 hs.2.2) ?_
  simp
theorem m70 (r:Rule) (hs:r.small 1048576):Meets Tryz.prog GT 25 [.agg r.tw.row,.agg r.row] (.x (.one (cB true))):=by
  refine meets Tryz.func25 ie70 ig70 (Nat.le_of_ble_eq_true rfl) ?_
  rw [Rule.tw_row]
  simp only [Rule.row]
  have h2:=m52 r.body r.bsp hs.2.1 hs.2.2
  generalize (r.body.map Lit.tw).map Lit.row = X at *
  simp [ic70,ir70]
  refine call_of (m137 r.head r.hsp hs.1) ?_
  simp
  refine call_of h2 ?_
  simp
end Go.Proofs.YtiomojlcnemnhaaGreatDoor

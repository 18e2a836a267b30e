import Derived.Test.YtiomojlcnemnhaaGreatDoorRGxRow
import Derived.Test.YtiomojlcnemnhaaGreatDoorRGxIcD
import Derived.Test.YtiomojlcnemnhaaGreatDoorRGxX6
import Derived.Test.YtiomojlcnemnhaaGreatDoorRGxX11
namespace Go.Proofs.YtiomojlcnemnhaaGreatDoor
open Go.Fx Go.RowKit Go.Ped
variable {G:World→Prop}
def kidsOn (left n:Int):List Ex→List Ex→Option (List Ex)
  | [],acc=>some acc
  | e :: l,acc=>if n + acc.length + e.kids.length > left then none else kidsOn left n l (acc++e.kids)
def partsOn (left:Int):Nat→Int→Int→List Ex→Int
  | 0,_,_,_=>left + 1
  | f + 1,n,d,lv =>
    if lv.isEmpty then n else if n + lv.length > left∨d > 65536 then left + 1 else
    match kidsOn left (n + lv.length) lv [] with
    | none=>left + 1
    | some nx=>partsOn left f (n + lv.length) (d + 1) nx
def exParts (e:Ex) (left:Int):Int:=partsOn left 65540 0 0 [e]
theorem kidsOn_small {left n:Int} {N:Nat}:∀ {l acc nx:List Ex},kidsOn left n l acc = some nx→(∀ e∈l,e.small N)→(∀ e∈acc,e.small N)→∀ e∈nx,e.small N
  | [],acc,nx,h,_,h0=>by simp [kidsOn] at h; subst h; exact h0
  | e :: l,acc,nx,h,hl,h0=>by
    simp only [kidsOn] at h
    split at h
    · cases h
    · refine kidsOn_small h (fun x hx=>hl x (List.mem_cons_of_mem _ hx)) fun x hx=>?_
      rcases List.mem_append.1 hx with hx | hx
      · exact h0 x hx
      · have:=hl e (List.mem_cons_self ..)
        obtain ⟨op,t,kids,sp⟩:=e
        exact (Ex.small_mk.1 this).2 x hx
theorem partsOn_bound {left:Int}:∀ (f:Nat) (n d:Int) (lv:List Ex),0≤n→n≤left→0≤partsOn left f n d lv∧partsOn left f n d lv≤left + 1
  | 0,n,d,lv,h0,h1=>by simp only [partsOn]; omega
  | f + 1,n,d,lv,h0,h1=>by
    simp only [partsOn]
    split
    · omega
    · split
      · omega
      · split
        · omega
        · exact partsOn_bound f _ _ _ (by omega) (by omega)
theorem exParts_bound (e:Ex) {left:Int} (h:0≤left):0≤exParts e left∧exParts e left≤left + 1:=partsOn_bound _ _ _ _ (by omega) h
theorem wrap64 {n:Int} (h1:-9223372036854775808≤n) (h2:n≤9223372036854775807):IntKind.i64.wrap n = n:=Go.IntWalk.i64_in _ (by omega)
theorem m93 (e:Ex) (left:Int) (hl:0≤left) (hl2:left≤1048576) (hs:e.small 1048576):Meets Tryz.prog G 247 [.agg e.row,.one (cI .i64 left)] (.x (.one (cI .i64 (exParts e left)))):=by
  refine meets Tryz.func247 ie93 ig93 (Nat.le_of_ble_eq_true rfl) ?_
  simp [ic93,ir93]
  refine w_loopA [] [2,12,71,72] [6,5,1,7] (by simp [ownKey])
    (fun a:Int × Nat × List Ex=>st [(6,tL (a.2.2.map Ex.row)),(5,tI .i64 a.1),(1,tI .i64 left),(7,tI .i64 a.2.1)] [] [] F0) (fun a=>65540 - a.2.1)
    (fun a=>exParts e left = partsOn left (65540 - a.2.1) a.1 a.2.1 a.2.2∧a.2.1≤65537∧0≤a.1∧a.1≤left∧a.1 + a.2.2.length≤left + 1∧∀ x∈a.2.2,x.small 1048576)
    (0,0,[e]) (by simp) ⟨rfl,by simp,by simp,by simpa using hl,by simp; omega,by simpa using hs⟩ ?_
  rintro ⟨n,d,lv⟩ K hK ⟨hd,hd1,hn0,hn1,hlen,hsm⟩
  simp only at hd hd1 hn0 hn1 hlen hsm
  obtain ⟨f,hf⟩:∃ f,65540 - d = f + 1:=⟨65539 - d,by omega⟩
  rw [hf,partsOn] at hd
  by_cases hlv:lv = []
  · subst hlv
    simp [ic93l2]
    simp at hd
    exact hd.symm
  have hpos:0 < lv.length:=List.length_pos_iff.2 hlv
  rw [if_neg (by simpa using hlv)] at hd
  simp [ic93l2,hpos]
  rw [wrap64 (by omega) (by omega)]
  by_cases hc1:n + lv.length > left∨(d:Int) > 65536
  · rw [if_pos hc1] at hd
    have:(decide (left < n + ↑lv.length) || decide (65536 < (d:Int))) = true:=by simpa using hc1
    simp [this]
    rw [wrap64 (by omega) (by omega),hd]
  have hc1':(decide (left < n + ↑lv.length) || decide (65536 < (d:Int))) = false:=by simpa using hc1
  rw [if_neg hc1] at hd
  simp [hc1']
  -- the kids
  generalize hm:n + (lv.length:Int) = m at *
  refine w_loopA [.t 72 8 105 6] [71] [6,5,1,7,8,9] (by simp [ownKey])
    (fun a:Nat × List Ex=>st [(6,tL (lv.map Ex.row)),(5,tI .i64 m),(1,tI .i64 left),(7,tI .i64 d),(8,.k true (.x (.one (.own 72 (a.2.map Ex.row))))),(9,tI .i64 a.1)] [] [(72,⟨105,6,a.2.length⟩)] F0) (fun a=>lv.length - a.1)
    (fun a=>a.1≤lv.length∧kidsOn left m lv [] = kidsOn left m (lv.drop a.1) a.2∧m + a.2.length≤left)
    (0,[]) (by simp [promoteT_st]) ⟨by simp,by simp,by simp; omega⟩ ?_
  rintro ⟨i,acc⟩ K2 hK2 ⟨hi,hk,hma⟩
  simp only at hi hk hma
  obtain hlt | hge:=Nat.lt_or_ge i lv.length
  · rw [List.drop_eq_getElem_cons hlt,kidsOn] at hk
    have hsk:=hsm lv[i] (List.getElem_mem hlt)
    have hkl:lv[i].kids.length≤1048576:=by
      generalize lv[i] = x at hsk
      obtain ⟨op,t,kids,sp⟩:=x
      exact (Ex.small_mk.1 hsk).1
    simp [ic93l1,hlt]
    simp (disch:=omega) only [wrap64]
    generalize hks:lv[i].kids = ks at *
    by_cases hc2:m + acc.length + ks.length > left
    · rw [if_pos hc2] at hk
      rw [hk] at hd
      simp [hc2]
      rw [wrap64 (by omega) (by omega),hd]
    rw [if_neg hc2] at hk
    simp [Int.not_lt.mp hc2,hc2]
    refine w_loopA [] [71] [6,5,1,7,8,9,10] (by simp [ownKey])
      (fun a:Nat × List (List C)=>st [(6,tL (lv.map Ex.row)),(5,tI .i64 m),(1,tI .i64 left),(7,tI .i64 d),(8,.k true (.x (.one (.own 72 a.2)))),(9,tI .i64 i),(10,tI .i64 a.1)] [] [(72,⟨105,6,a.2.length⟩)] F0) (fun a=>ks.length - a.1)
      (fun a=>a.1≤ks.length∧a.2 = (acc++ks.take a.1).map Ex.row) (0,acc.map Ex.row) (by simp) (by simp) ?_
    rintro ⟨j,E⟩ K3 hK3 ⟨hj,hE⟩
    simp only at hj hE
    have hEl:E.length = acc.length + j:=by rw [hE]; simp; omega
    obtain hlt2 | hge2:=Nat.lt_or_ge j ks.length
    · simp [ic93l0,hlt,hlt2,hks]
      refine ⟨by simp [maxLen]; omega,by simp [maxBytes]; omega,?_⟩
      simp (disch:=omega) only [wrap64]
      exact hK3 (j + 1,E++[ks[j].row]) _ (by simp) ⟨by simp; omega,by simp only; rw [hE,List.take_succ_eq_append_getElem hlt2]; simp only [List.map_append,List.map_cons,List.map_nil,List.append_assoc]⟩ (by simp; omega)
    · have htk:ks.take j = ks:=List.take_of_length_le hge2
      rw [htk] at hE
      subst hE
      simp [ic93l0,hlt,Nat.not_lt.mpr hge2,hks]
      simp (disch:=omega) only [wrap64]
      exact hK2 (i + 1,acc++ks) _ (by simp) ⟨by simp; omega,by simpa using hk,by simp; omega⟩ (by simp; omega)
  · rw [List.drop_eq_nil_of_le hge] at hk
    simp only [kidsOn] at hk
    rw [hk] at hd
    simp [ic93l1,Nat.not_lt.mpr hge]
    simp (disch:=omega) only [wrap64]
    exact hK (m,d + 1,acc) _ (by simp) ⟨by simp only; rw [hd,show 65540 - (d + 1) = f by omega]; simp,by simp; omega,by simp; omega,by simp; omega,by simp; omega,by simpa using kidsOn_small hk hsm (by simp)⟩ (by simp; omega)
def litParts (x:Lit) (left:Int):Int :=
  if 1 + x.l.length + exParts x.left left > left then left + 1 else 1 + x.l.length + exParts x.left left + exParts x.right (left - (1 + x.l.length + exParts x.left left))
theorem litParts_bound (x:Lit) {left:Int} (h:0≤left):0≤litParts x left∧litParts x left≤left + 1:=by
  have h1:=exParts_bound x.left h
  unfold litParts
  split
  · omega
  · have h2:=exParts_bound x.right (left:=left - (1 + x.l.length + exParts x.left left)) (by omega)
    omega
theorem m171 (x:Lit) (left:Int) (hl:0≤left) (hl2:left≤1048576) (hs:x.small 1048576):Meets Tryz.prog G 170 [.agg x.row,.one (cI .i64 left)] (.x (.one (cI .i64 (litParts x left)))):=by
  refine meets Tryz.func170 ie171 ig171 (Nat.le_of_ble_eq_true rfl) ?_
  have h1:=exParts_bound x.left hl
  have hl3:=hs.1
  simp [ic171,ir171]
  refine call_of (m93 x.left left hl hl2 hs.2.1) ?_
  have w1:IntKind.i64.wrap (1 + (x.l.length:Int)) = 1 + x.l.length:=wrap64 (by omega) (by omega)
  have w2:IntKind.i64.wrap (1 + (x.l.length:Int) + exParts x.left left) = 1 + x.l.length + exParts x.left left:=wrap64 (by omega) (by omega)
  have w3:IntKind.i64.wrap (left + 1) = left + 1:=wrap64 (by omega) (by omega)
  simp [w1,w2]
  by_cases hc:1 + (x.l.length:Int) + exParts x.left left > left
  · simp [hc,litParts,w3]
  · have h2:=exParts_bound x.right (left:=left - (1 + x.l.length + exParts x.left left)) (by omega)
    have w4:IntKind.i64.wrap (left - (1 + (x.l.length:Int) + exParts x.left left)) = left - (1 + x.l.length + exParts x.left left):=wrap64 (by omega) (by omega)
    have w5:=wrap64 (n:=1 + (x.l.length:Int) + exParts x.left left + exParts x.right (left - (1 + x.l.length + exParts x.left left))) (by omega) (by omega)
    simp [hc,Int.not_lt.mp hc,litParts,w4]
    refine call_of (m93 x.right _ (by omega) (by omega) hs.2.2) ?_
    simp [w5]
def bodyParts (left:Int):List Lit→Int→Int
  | [],n=>n
  | x :: l,n=>if n≤left then bodyParts left l (n + litParts x (left - n)) else n
def ruleParts (r:Rule) (left:Int):Int:=bodyParts left r.body (1 + r.head.length)
theorem m119 (r:Rule) (left:Int) (hl:0≤left) (hl2:left≤1048576) (hs:r.small 1048576):Meets Tryz.prog G 73 [.agg r.row,.one (cI .i64 left)] (.x (.one (cI .i64 (ruleParts r left)))):=by
  refine meets Tryz.func73 ie119 ig119 (Nat.le_of_ble_eq_true rfl) ?_
  obtain ⟨hs1,hs2,hs3⟩:=hs
  simp [ic119,ir119]
  rw [wrap64 (by omega) (by omega)]
  refine w_loopA [] [] [2,6,5,1] (by simp)
    (fun a:Nat × Int=>st [(2,.k true (.x (.one (.ref 2 0 0)))),(6,tI .i64 a.1),(5,tI .i64 a.2),(1,tI .i64 left)] [(2,⟨29,3,[r.row.map A.c],none⟩)] [] F0) (fun a=>r.body.length - a.1)
    (fun a=>a.1≤r.body.length∧ruleParts r left = bodyParts left (r.body.drop a.1) a.2∧0≤a.2∧a.2≤1 + 1048576 + 1048577)
    (0,1 + r.head.length) (by simp) ⟨by simp,by simp [ruleParts],by simp; omega,by simp; omega⟩ ?_
  rintro ⟨i,n⟩ K hK ⟨hi,hd,hn0,hn1⟩
  simp only at hi hd hn0 hn1
  obtain hlt | hge:=Nat.lt_or_ge i r.body.length
  · rw [List.drop_eq_getElem_cons hlt,bodyParts] at hd
    by_cases hc:n≤left
    · rw [if_pos hc] at hd
      have hx:=hs3 r.body[i] (List.getElem_mem hlt)
      have hb:=litParts_bound r.body[i] (left:=left - n) (by omega)
      simp [ic119l0,hlt,hc]
      rw [wrap64 (by omega) (by omega)]
      refine call_of (m171 r.body[i] (left - n) (by omega) (by omega) hx) ?_
      simp
      simp (disch:=omega) only [wrap64]
      exact hK (i + 1,n + litParts r.body[i] (left - n)) _ (by simp) ⟨by simp; omega,by simpa using hd,by simp; omega,by simp; omega⟩ (by simp; omega)
    · rw [if_neg hc] at hd
      simp [ic119l0,hlt,hc]
      exact hd.symm
  · rw [List.drop_eq_nil_of_le hge,bodyParts] at hd
    simp [ic119l0,Nat.not_lt.mpr hge]
    exact hd.symm
end Go.Proofs.YtiomojlcnemnhaaGreatDoor

namespace Go.Proofs.YtiomojlcnemnhaaGreatDoor
open Go.Fx Go.RowKit Go.Ped
variable {G:World→Prop}
theorem m57 (x:Lit) (hs:x.small 1048576):Meets Tryz.prog G 186 [.agg x.row] (.x (.one (cI .i64 (if litOk x then 0 else 40)))):=by
  refine meets Tryz.func186 ie57f ig57f (Nat.le_of_ble_eq_true rfl) ?_
  have ha:=m44 (G:=G) x.p x.l x.sp (by have:=hs.1; unfold maxLen; omega)
  have e1:=m94 (G:=G) x.left hs.2.1
  have e2:=m94 (G:=G) x.right hs.2.2
  by_cases k1:x.kind = 1∨x.kind = 2
  · have h0:litOk x = (atomOk x.p x.l && x.rel == 0 && exNone x.left && exNone x.right):=by simp [litOk,k1]
    rw [h0]
    rcases k1 with k1 | k1 <;> simp [ic57f,ir57f,ic57c0f,k1]
    all_goals
      refine call_i (fun _=>m130 x.left) ?_
      simp
      refine call_i (fun _=>m130 x.right) ?_
      simp
      refine condI_of (fun h=>?_) (fun h=>?_)
      · simp at h ⊢; grind
      · simp at h ⊢
        refine call_of ha ?_
        simp
        grind
  · by_cases k3:x.kind = 3
    · have h0:litOk x = (x.p == [] && x.l.isEmpty && decide (1≤x.rel) && decide (x.rel≤6) && exOk 8 x.left && exOk 8 x.right):=by simp [litOk,k3]
      rw [h0]
      simp [ic57f,ir57f,ic57c2f,ic57c1f,k3]
      refine call_i (fun _=>e1) ?_
      simp
      refine condI_of (fun h=>?_) (fun h=>?_)
      · simp at h ⊢; grind
      · simp at h ⊢
        refine call_of e2 ?_
        simp
        grind
    · have h0:litOk x = false:=by simp [litOk,k1,k3]
      rw [h0]
      have k1':¬ x.kind = 1:=fun h=>k1 (.inl h)
      have k2':¬ x.kind = 2:=fun h=>k1 (.inr h)
      simp [ic57f,ir57f,ic57c2f,k1',k2',k3]
theorem Ex.small_twin {mk:List C} {N:Nat}:∀ e:Ex,e.small N→(e.twin mk).small N:=by
  refine Ex.ind fun op t kids sp ih h=>?_
  obtain ⟨h1,h2⟩:=Ex.small_mk.1 h
  rw [Ex.twin_mk]
  refine Ex.small_mk.2 ⟨by simpa using h1,fun k hk=>?_⟩
  obtain ⟨k',hk',rfl⟩:=List.mem_map.1 hk
  exact ih k' hk' (h2 k' hk')
theorem exNone_twin (mk:List C) (e:Ex):exNone (e.twin mk) = exNone e:=by
  obtain ⟨op,t,kids,sp⟩:=e
  rw [Ex.twin_mk]; simp [exNone,List.isEmpty_map]
theorem litOk_twin (mt me:List C) (x:Lit):litOk (x.twin mt me) = litOk x:=by
  obtain ⟨kind,p,l,sp,rel,left,right⟩:=x
  simp only [Lit.twin,litOk,exNone_twin,exOk_twin]
  rfl
theorem Lit.small_twin {mt me:List C} {N:Nat} {x:Lit} (h:x.small N):(x.twin mt me).small N:=⟨h.1,Ex.small_twin _ h.2.1,Ex.small_twin _ h.2.2⟩
theorem Lit.terms_twin (mt me:List C) (x:Lit):(x.twin mt me).terms = x.terms:=by
  simp only [Lit.terms,Lit.twin,Ex.terms_twin]
end Go.Proofs.YtiomojlcnemnhaaGreatDoor

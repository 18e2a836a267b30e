import Derived.Test.YtiomojlcnemnhaaGreatDoorRFxZ
import Derived.Test.YtiomojlcnemnhaaGreatDoorProg
import Derived.KernelRfl
import Derived.Test.YtiomojlcnemnhaaGreatDoorRGxM8
namespace Go.Proofs.YtiomojlcnemnhaaGreatDoor
open Go.Fx
@[simp] abbrev kGxIcB_0:List Nat:=[0,12,14,15,4,21,20,22,1,5,39,38,40,6,53,54,7,74,75,8,86,85,87,9,100,101,10,107,106,108,11]
@[simp] abbrev kGxIcB_1:List Nat:=[0,1,2]
@[simp] abbrev kGxIcB_2:List Nat:=[0,3,2]
@[simp] abbrev kGxIcB_3:List Nat:=[0,1,10,5,14,25,4]
@[simp] abbrev kGxIcB_4:List Nat:=[0,4,3,2]
@[simp] abbrev kGxIcB_5:List Nat:=[0,1,24,2]
abbrev ks126 (t0 t12 t14 t15 t4 t21 t20 t22 t1 t5 t39 t38 t40 t6 t53 t54 t7 t74 t75 t8 t86 t85 t87 t9 t100 t101 t10 t107 t106 t108 t11:T) (O:List (Nat × Box)) (U:List (Nat × Fx.Tok)) (H:FHp):S:=st [(0,t0),(12,t12),(14,t14),(15,t15),(4,t4),(21,t21),(20,t20),(22,t22),(1,t1),(5,t5),(39,t39),(38,t38),(40,t40),(6,t6),(53,t53),(54,t54),(7,t7),(74,t74),(75,t75),(8,t8),(86,t86),(85,t85),(87,t87),(9,t9),(100,t100),(101,t101),(10,t10),(107,t107),(106,t106),(108,t108),(11,t11)] O U H
def ic126l0:IC:=(.seq (rG kGxIcB_0 [oB 22 .lss (.t 21)
 (.t 20)]) (.seq (.cond (.t 22) .skip (.exit 1))
 (.seq (.block 2 (.seq (rG kGxIcB_0 [oM 23 21,oM 5 23])
 (rG kGxIcB_0 [oM 24 1,oM 25 4,oX 26 (.nilchk (.t 25)),
 oF 27 1 26,oL 28 27,oM 29 5,oA 30 5 28 29,oF 31 1 30,oX 32 (.call (.t 24) [(.t 31)])])))
 (rG kGxIcB_0 [oB 33 .add (.t 21) (.k (rI .i64 1)),oM 21 33]))))
def ic126l1:IC:=(.seq (rG kGxIcB_0 [oB 40 .lss (.t 39)
 (.t 38)]) (.seq (.cond (.t 40) .skip (.exit 3))
 (.seq (.block 4 (.seq (rG kGxIcB_0 [oM 41 39,oM 6 41])
 (rG kGxIcB_0 [oM 42 4,oX 43 (.nilchk (.t 42)),oF 44 2 43,
 oL 45 44,oM 46 6,oA 47 16 45 46,oX 48 (.mki 221 (.t 47)),oM 49 1,oX 50 (.call (.k (rF 80)) [(.t 48),(.t 49)])])))
 (rG kGxIcB_0 [oB 51 .add (.t 39) (.k (rI .i64 1)),oM 39 51]))))
def ic126l2:IC:=(.seq (rG kGxIcB_0 [oB 87 .lss (.t 86)
 (.t 85)]) (.seq (.cond (.t 87) .skip (.exit 5))
 (.seq (.block 6 (.seq (rG kGxIcB_0 [oM 88 86,oM 9 88])
 (rG kGxIcB_0 [oM 89 8,oX 90 (.nilchk (.t 89)),oF 91 5 90,
 oL 92 91,oM 93 9,oA 94 6 92 93,oX 95 (.mki 222 (.t 94)),oM 96 1,oX 97 (.call (.k (rF 80)) [(.t 95),(.t 96)])])))
 (rG kGxIcB_0 [oB 98 .add (.t 86) (.k (rI .i64 1)),oM 86 98]))))
def ic126l3:IC:=(.seq (rG kGxIcB_0 [oB 108 .lss (.t 107)
 (.t 106)]) (.seq (.cond (.t 108) .skip (.exit 7))
 (.seq (.block 8 (.seq (rG kGxIcB_0 [oM 109 107,oM 11 109])
 (rG kGxIcB_0 [oM 110 1,oM 111 10,oX 112 (.nilchk (.t 111)),
 oF 113 1 112,oL 114 113,oM 115 11,oA 116 4 114 115,oX 117 (.call (.t 110) [(.t 116)])])))
 (rG kGxIcB_0 [oB 118 .add (.t 107) (.k (rI .i64 1)),
 oM 107 118]))))
def ic126:IC:=(.seq (rG kGxIcB_0 [oM 12 0])
 (.block 0 (.seq (rG kGxIcB_0 [oX 13 (.asrt 143 true true [(.c (.v (.pointer none)))] (.t 12)),
 oX 14 (.ext (.t 13) 1),oX 15 (.ext (.t 13) 0)]) (.cond (.t 14)
 (.seq (rG kGxIcB_0 [oM 4 15])
 (.seq (.seq (rG kGxIcB_0 [oM 16 4,oX 17 (.nilchk (.t 16)),
 oF 18 1 17,oL 19 18,oN 20 19,oX 21 (.move (.k (rI .i64 0)))]) (.block 1 (.loop ic126l0)))
 (.seq (rG kGxIcB_0 [oM 34 4,oX 35 (.nilchk (.t 34)),oF 36 2 35,
 oL 37 36,oN 38 37,oX 39 (.move (.k (rI .i64 0)))]) (.block 3 (.loop ic126l1)))))
 (.seq (rG kGxIcB_0 [oX 52 (.asrt 221 true true [(.c (.v (.pointer none)))] (.t 12)),
 oX 53 (.ext (.t 52) 1),oX 54 (.ext (.t 52) 0)]) (.cond (.t 53)
 (.seq (rG kGxIcB_0 [oM 7 54])
 (.seq (rG kGxIcB_0 [oM 55 7,oX 56 (.nilchk (.t 55)),oF 57 1 56,
 oX 58 (.mki 120 (.t 57)),oM 59 1,oX 60 (.call (.k (rF 80)) [(.t 58),(.t 59)])])
 (.seq (rG kGxIcB_0 [oM 61 7,oX 62 (.nilchk (.t 61)),oF 63 4 62,
 oX 64 (.mki 222 (.t 63)),oM 65 1,oX 66 (.call (.k (rF 80)) [(.t 64),(.t 65)])])
 (rG kGxIcB_0 [oM 67 7,oX 68 (.nilchk (.t 67)),oF 69 10 68,
 oX 70 (.mki 222 (.t 69)),oM 71 1,oX 72 (.call (.k (rF 80)) [(.t 70),(.t 71)])]))))
 (.seq (rG kGxIcB_0 [oX 73 (.asrt 222 true true [(.c (.v (.pointer none)))] (.t 12)),
 oX 74 (.ext (.t 73) 1),oX 75 (.ext (.t 73) 0)]) (.cond (.t 74)
 (.seq (rG kGxIcB_0 [oM 8 75])
 (.seq (rG kGxIcB_0 [oM 76 1,oM 77 8,oX 78 (.nilchk (.t 77)),
 oF 79 1 78,oX 80 (.call (.t 76) [(.t 79)])])
 (.seq (rG kGxIcB_0 [oM 81 8,oX 82 (.nilchk (.t 81)),oF 83 5 82,
 oL 84 83,oN 85 84,oX 86 (.move (.k (rI .i64 0)))]) (.block 5 (.loop ic126l2)))))
 (.seq (rG kGxIcB_0 [oX 99 (.asrt 120 true true [(.c (.v (.pointer none)))] (.t 12)),
 oX 100 (.ext (.t 99) 1),oX 101 (.ext (.t 99) 0)]) (.cond (.t 100)
 (.seq (rG kGxIcB_0 [oM 10 101])
 (.seq (rG kGxIcB_0 [oM 102 10,oX 103 (.nilchk (.t 102)),
 oF 104 1 103,oL 105 104,oN 106 105,oX 107 (.move (.k (rI .i64 0)))]) (.block 7 (.loop ic126l3)))) .skip))))))))))
def ir126:List IRes:=[]
theorem ie126:cmpFunc Tryz.prog ⟨[(32,none),(50,none),(60,none),(66,none),(72,none),(80,none),(97,none),(117,none)],[]⟩ Tryz.f80 [0,12,14,15,4,21,20,22,1,5,39,38,40,6,53,54,7,74,75,8,86,85,87,9,100,101,10,107,106,108,11] = some ic126:=by kernel_rfl
theorem ig126:cmpRes Tryz.prog Tryz.f80.results.toList = some ir126:=by kernel_rfl
def ic46:IC:=(.seq (rH [1] kGxIcB_1 [oX 1 (.box 25 (.t 0)),oX 2 (.move (.k (.x (.one .nil))))])
 (.seq (.region [] [.fz [1]] [0,1,2] [oX 3 (.mki 120 (.t 1)),oX 4 (.call (.k (rF 194)) [(.t 3)]),oM 2 4]) .ret))
def ir46:List IRes:=[.tmp 2]
theorem ie46:cmpFunc Tryz.prog ⟨[(4,none)],[(3,.fz [1])]⟩ Tryz.f123 [0,1,2] = some ic46:=by kernel_rfl
theorem ig46:cmpRes Tryz.prog Tryz.f123.results.toList = some ir46:=by kernel_rfl
def ic90:IC:=(.seq (rG kGxIcB_2 [oX 2 (.move (.k (rI .i64 0)))]) (.seq (.seq (rG kGxIcB_2 [oM 3 0]) (.cond (.t 3)
 (.seq (rG kGxIcB_2 [oX 2 (.move (.k (rI .i64 0)))]) .ret) .skip)) (.seq (rG kGxIcB_2 [oX 2 (.move (.k (rI .i64 40)))]) .ret)))
def ir90:List IRes:=[.tmp 2]
theorem ie90:cmpFunc Tryz.prog ⟨[],[]⟩ Tryz.f140 [0,3,2] = some ic90:=by kernel_rfl
theorem ig90:cmpRes Tryz.prog Tryz.f140.results.toList = some ir90:=by kernel_rfl
abbrev ks45 (t0 t1 t10 t5 t14 t25 t4:T) (O:List (Nat × Box)) (U:List (Nat × Fx.Tok)) (H:FHp):S:=st [(0,t0),(1,t1),(10,t10),(5,t5),(14,t14),(25,t25),(4,t4)] O U H
def ic45l0:IC:=(.seq (.seq (rG kGxIcB_3 [oM 11 5,oM 12 0,oN 13 12,oB 14 .lss (.t 11) (.t 13)]) (.cond (.t 14) .skip (.exit 0)))
 (.seq (.block 1 (.seq (rG kGxIcB_3 [oM 17 0,oM 18 5,oA 19 1 17 18,oL 20 19,oM 21 1,oM 22 5,oA 23 1 21 22,oL 24 23,
 oB 25 .neq (.t 20) (.t 24)]) (.cond (.t 25) (.seq (rG kGxIcB_3 [oX 4 (.move (.k (rB false)))]) .ret) .skip)))
 (rG kGxIcB_3 [oM 15 5,oB 16 .add (.t 15) (.k (rI .i64 1)),oM 5 16])))
def ic45:IC:=(.seq (rG kGxIcB_3 [oX 4 (.move (.k (rB false)))]) (.seq (.seq (rG kGxIcB_3 [oM 6 0,oN 7 6,oM 8 1,
 oN 9 8,oB 10 .neq (.t 7) (.t 9)]) (.cond (.t 10) (.seq (rG kGxIcB_3 [oX 4 (.move (.k (rB false)))]) .ret) .skip))
 (.seq (.seq (rG kGxIcB_3 [oX 5 (.move (.k (rI .i64 0)))]) (.block 0 (.loop ic45l0)))
 (.seq (rG kGxIcB_3 [oX 4 (.move (.k (rB true)))]) .ret))))
def ir45:List IRes:=[.tmp 4]
theorem ie45:cmpFunc Tryz.prog ⟨[],[]⟩ Tryz.f155 [0,1,10,5,14,25,4] = some ic45:=by kernel_rfl
theorem ig45:cmpRes Tryz.prog Tryz.f155.results.toList = some ir45:=by kernel_rfl
def ic118:IC:=(.seq (rG kGxIcB_4 [oX 2 (.move (.k (.x (.one .nil))))]) (.seq (rH [3] kGxIcB_4 [oX 3 (.zero 67 [.nil])])
 (.seq (rH [5,4] kGxIcB_4 [oX 5 (.mkmap .string 2 true),oX 4 (.zero 150 [(.c (.v (.map none)))]),oS 1 4 5])
 (.seq (.region [] [.pm 30 3 9 1] [0,4,3,2] [oM 6 0,oX 7 (.clo 263 [] [(.t 4),(.t 3)]),oX 8 (.call (.k (rF 80)) [(.t 6),(.t 7)])])
 (.seq (rG kGxIcB_4 [oL 9 3,oM 2 9]) .ret)))))
def ir118:List IRes:=[.tmp 2]
theorem ie118:cmpFunc Tryz.prog ⟨[(8,none)],[(6,.pm 30 3 9 1)]⟩ Tryz.f194 [0,4,3,2] = some ic118:=by kernel_rfl
theorem ig118:cmpRes Tryz.prog Tryz.f194.results.toList = some ir118:=by kernel_rfl
def ic170:IC:=(.seq (.seq (rG kGxIcB_5 [oM 4 0,oX 5 (.nilchk (.t 4)),oF 6 0 5,oL 7 6,oB 8 .eql (.t 7) (.k (rS (bs []))),oM 9 8,
 oG 10 (.move (.t 0)) 9 false,oG 11 (.nilchk (.t 10)) 9 false,oG 12 (.faddr 0 (.t 11)) 9 false,oG 13 (.load none (.t 12)) 9 false,oG 14 (.bin .eql (.t 13)
 (.k (rS (bs [95])))) 9 false,oP 15 9 14,oM 16 15,oG 17 (.load none (.t 1)) 16 false,oG 18 (.move (.t 0)) 16 false,oG 19 (.nilchk (.t 18)) 16 false,
 oG 20 (.faddr 0 (.t 19)) 16 false,oG 21 (.load none (.t 20)) 16 false,oG 22 (.mlook .string true false [(.c (.v (.int .i64 0)))] (.t 17) (.t 21)) 16 false,
 oG 23 (.bin .gtr (.t 22) (.k (rI .i64 0))) 16 false,oP 24 16 23]) (.cond (.t 24) .ret .skip)) (.seq (rH [30] kGxIcB_5 [oL 25 2,oM 26 0,
 oX 27 (.nilchk (.t 26)),oF 28 0 27,oL 29 28,oX 30 (.row 9 1 [(.t 29)]),oX 31 (.app 9 1 16 (.t 25) (.t 30)),oS 1 2 31]) (rG kGxIcB_5 [oL 32 1,
 oM 33 0,oX 34 (.nilchk (.t 33)),oF 35 0 34,oL 36 35,oL 37 2,oN 38 37,⟨none,(.mapup .string true (.t 32) (.t 36) (.t 38)),none,none⟩])))
def ir170:List IRes:=[]
theorem ie170:cmpFunc Tryz.prog ⟨[],[]⟩ Tryz.f263 [0,1,24,2] = some ic170:=by kernel_rfl
theorem ig170:cmpRes Tryz.prog Tryz.f263.results.toList = some ir170:=by kernel_rfl
end Go.Proofs.YtiomojlcnemnhaaGreatDoor

namespace Go.Proofs.YtiomojlcnemnhaaGreatDoor
open Go.Fx Go.RowKit Go.Ped
variable {G:World→Prop}
def PtTo (es:List (List C)) (i off:Nat) (t:Tm):Prop:=∃ r,es[i]? = some r∧(r.drop off).take 4 = t.row
theorem PtTo.at {es:List (List C)} {i off:Nat} {t:Tm} (h:PtTo es i off t) (j:Nat) (hj:j < 4):(es[i]?.getD [])[off + j]? = t.row[j]?:=by
  obtain ⟨r,h1,h2⟩:=h
  rw [h1,← h2]
  simp [hj]
theorem PtTo.len {es:List (List C)} {i off:Nat} {t:Tm} (h:PtTo es i off t):off + 4≤(es[i]?.getD []).length:=by
  obtain ⟨r,h1,h2⟩:=h
  have:=congrArg List.length h2
  simp [Tm.row] at this
  rw [h1]; simp; omega
def thr:Nat→List Name→List (List A)
  | _,[]=>[]
  | n,v :: l=>[.c (cS (bs v)),.c (cI .i64 (n + 1))] :: thr (n + 1) l
theorem thr_only {p q:Nat→Prop}:∀ (l:List Name) (n:Nat),∀ r∈thr n l,onlyL p q r
  | v :: l,n,r,hr=>by
    simp only [thr,List.mem_cons] at hr
    rcases hr with rfl | hr
    · simp
    · exact thr_only l _ r hr
def thrAt:Nat→List Name→Name→Int
  | _,[],_=>0
  | n,u :: l,v=>if u = v then n + 1 else thrAt (n + 1) l v
theorem thrAt_pos:∀ (l:List Name) (n:Nat) (v:Name),(0 < thrAt n l v↔v∈l)
  | [],n,v=>by simp [thrAt]
  | u :: l,n,v=>by
    unfold thrAt
    by_cases h:u = v
    · subst h; simp
    · rw [if_neg h,thrAt_pos l]; simp [Ne.symm h]
theorem thr_get0 (v:Name):∀ (l:List Name) (n:Nat),mapGet (thr n l) (.string (bs v)) [.c (cI .i64 0)] = [.c (cI .i64 (thrAt n l v))]
  | [],n=>by simp [thr,mapGet,thrAt]
  | u :: l,n=>by
    have ih:=thr_get0 v l (n + 1)
    unfold mapGet at ih ⊢
    unfold thr thrAt
    by_cases h:u = v
    · subst h; simp [keyEq]
    · simp [keyEq,h] at ih ⊢
      exact ih
theorem thr_get (v:Name) (l:List Name):mapGet (thr 0 l) (.string (bs v)) [.c (cI .i64 0)] = [.c (cI .i64 (thrAt 0 l v))]:=thr_get0 v l 0
theorem thr_put0 (v:Name) (m:Int):∀ (l:List Name) (n:Nat),v ∉ l→(thr n l).any (keyEq (.string (bs v))) = false
  | [],n,_=>rfl
  | u :: l,n,h=>by
    simp only [List.mem_cons,not_or] at h
    simp [thr,keyEq,thr_put0 v m l (n + 1) h.2,Ne.symm h.1]
theorem thr_app (v:Name):∀ (l:List Name) (n:Nat),thr n (l++[v]) = thr n l++[[.c (cS (bs v)),.c (cI .i64 (n + l.length + 1))]]
  | [],n=>by simp [thr]
  | u :: l,n=>by simp [thr,thr_app v l (n + 1)]; omega
theorem thr_put (v:Name) (l:List Name) (h:v ∉ l):mapPut (thr 0 l) (.string (bs v)) [.c (cI .i64 (l.length + 1))] = thr 0 (l++[v]):=by
  unfold mapPut
  rw [thr_put0 v 0 l 0 h,thr_app]
  simp
theorem thr_strike (ks:List Nat):∀ (l:List Name) (n:Nat),(thr n l).map (strikeL ks) = thr n l
  | [],_=>rfl
  | v :: l,n=>by simp [thr,thr_strike ks l (n + 1)]
abbrev O170 (acc:List Name):List (Nat × Box):=[(10003,⟨67,1,[[.own 10030 (acc.map nmRow)]],none⟩),(10004,⟨150,1,[[.mapr 10005]],none⟩),(10005,⟨0,2,thr 0 acc,some (.string,true)⟩)]
abbrev U170 (acc:List Name):List (Nat × Fx.Tok):=[(10030,⟨9,1,acc.length⟩)]
set_option maxHeartbeats 2000000 in
theorem m170 (es sp:List (List C)) (i off:Nat) (t:Tm) (h:PtTo es i off t) (acc:List Name) (hl:acc.length≤2000000) :
    MeetsH Tryz.prog G 263 [.one (.elem es sp i off),.one (.ref 10004 0 0),.one (.ref 10003 0 0)] (hp (O170 acc) (U170 acc) F0) (.tup []) (hp (O170 (varsOn acc [t.v])) (U170 (varsOn acc [t.v])) F0):=by
  refine meetsH [] Tryz.func263 ie170 ig170 (Nat.le_of_ble_eq_true rfl) ?_ ?_ ?_ ?_ ?_ (sameKeys_refl F0) ?_ ?_ ?_
  · intro p hp
    simp only [List.mem_cons,List.not_mem_nil,or_false] at hp
    rcases hp with rfl | rfl | rfl
    · exact ⟨by unfold midKey; omega,by simp [ownKey]⟩
    · exact ⟨by unfold midKey; omega,by simp [ownKey]⟩
    · exact ⟨by unfold midKey; omega,fun r hr=>thr_only _ _ r hr⟩
  · intro p hp
    simp only [List.mem_cons,List.not_mem_nil,or_false] at hp
    subst hp; unfold midKey; omega
  · simp [ownKey]
  · simp
  · simp
  · intro p hp
    simp only [List.mem_cons,List.not_mem_nil,or_false] at hp
    rcases hp with rfl | rfl | rfl
    · simp
    · simp [ownKey]
    · exact fun r hr=>thr_only _ _ r hr
  · simp
  have hat:=h.at 0 (by omega)
  have hlen:off < (es[i]?.getD []).length:=by have:=h.len; omega
  simp only [Nat.add_zero,Tm.row,List.getElem?_cons_zero] at hat
  have hval:(es[i]?.getD [])[off]'hlen = cS (bs t.v):=(List.getElem?_eq_some_iff.1 hat).2
  clear hat
  have hv1:varsOn acc [t.v] = if Ped.isVar t.v && !acc.contains t.v then acc++[t.v] else acc:=rfl
  by_cases h0:t.v = []
  · have e:varsOn acc [[]] = acc:=by rw [← h0,hv1,h0]; simp [Ped.isVar]
    simp [ic170,ir170,hval,hlen,h0,thr_get,e]
    exact ret_st (by simp) (by simp) (by simp) (by simp) (by simp) (by simp)
  by_cases h1:t.v = [95]
  · have e:varsOn acc [[95]] = acc:=by rw [← h1,hv1,h1]; simp [Ped.isVar,us]
    simp [ic170,ir170,hval,hlen,h1,thr_get,e]
    exact ret_st (by simp) (by simp) (by simp) (by simp) (by simp) (by simp)
  by_cases h2:t.v∈acc
  · have e:varsOn acc [t.v] = acc:=by rw [hv1]; simp [h2]
    simp [ic170,ir170,hval,hlen,h0,h1,thr_get,(thrAt_pos acc 0 t.v).2 h2,e]
    exact ret_st (by simp) (by simp) (by simp) (by simp) (by simp) (by simp)
  · have e:varsOn acc [t.v] = acc++[t.v]:=by rw [hv1]; simp [h2,Ped.isVar,us,h0,h1]
    simp [ic170,ir170,hval,hlen,h0,h1,thr_get,mt (thrAt_pos acc 0 t.v).1 h2,thr_strike,e]
    refine k_row rfl rfl (by simp) (by simp) ?_
    refine k_app (k:=10030) (es:=acc.map nmRow) (q:=⟨9,1,acc.length⟩) (by simp) rfl rfl (by simp) (by simp) rfl rfl (by simp) (by simp [maxLen]; omega) (by simp [maxBytes]; omega) trivial ?_
    simp [hval,hlen,thr_put t.v acc h2]
    exact ret_st (by simp) (by simp) (by simp) (by simp) (by simp) (by simp)
end Go.Proofs.YtiomojlcnemnhaaGreatDoor

namespace Go.Proofs.YtiomojlcnemnhaaGreatDoor
open Go.Fx Go.RowKit Go.Ped
variable {G:World→Prop}
theorem sameKeys_trans {H1 H2 H3:FHp} (h:sameKeys H1 H2) (h':sameKeys H2 H3):sameKeys H1 H3 :=
  ⟨fun k=>⟨(h.1 k).1.trans (h'.1 k).1,(h.1 k).2.trans (h'.1 k).2⟩,h'.2.trans h.2⟩
inductive Ch (G:World→Prop) (fv:A):List Tm→FHp→FHp→Prop
  | nil (H:FHp):Ch G fv [] H H
  | cons {t:Tm} {l:List Tm} {H H1 H2:FHp} (h:∀ es sp i off,PtTo es i off t→MeetsV Tryz.prog G fv [.one (.elem es sp i off)] (hp [] [] H) (.tup []) (hp [] [] H1)) (hs:sameKeys H H1) (hl:Ch G fv l H1 H2):Ch G fv (t :: l) H H2
theorem Ch.same {fv:A} {l:List Tm} {H H':FHp} (h:Ch G fv l H H'):sameKeys H H':=by
  induction h with
  | nil H=>exact sameKeys_refl H
  | cons _ hs _ ih=>exact sameKeys_trans hs ih
theorem Ch.split {fv:A}:∀ {l m:List Tm} {H H2:FHp},Ch G fv (l++m) H H2→∃ H1,Ch G fv l H H1∧Ch G fv m H1 H2
  | [],_,H,_,h=>⟨H,.nil H,h⟩
  | _ :: l,m,_,_,h=>by
    cases h with
    | cons h hs hl =>
      obtain ⟨H1,h1,h2⟩:=Ch.split hl
      exact ⟨H1,.cons h hs h1,h2⟩
theorem Ch.step {fv:A} {l:List Tm} {H H2:FHp} {i:Nat} {t:Tm} (ht:l[i]? = some t) (h:Ch G fv (l.drop i) H H2) :
    ∃ H1,(∀ es sp j off,PtTo es j off t→MeetsV Tryz.prog G fv [.one (.elem es sp j off)] (hp [] [] H) (.tup []) (hp [] [] H1))∧sameKeys H H1∧Ch G fv (l.drop (i + 1)) H1 H2:=by
  obtain ⟨hi,rfl⟩:=List.getElem?_eq_some_iff.1 ht
  rw [List.drop_eq_getElem_cons hi] at h
  cases h with
  | cons h hs hl=>exact ⟨_,h,hs,hl⟩
theorem r_callC {P:Program} {L:List (Nat × T)} {O:List (Nat × Box)} {U:List (Nat × Fx.Tok)} {H H2:FHp} {l:List IOper} {K:S→Prop} {d:Nat} {f:D} {args:List D} {gd:Option (Nat × Bool)} {fv:A} {xs:List X} {res:R} (hm:MeetsV P G fv xs (hp [] [] H) res (hp [] [] H2))
    (hs:sameKeys H H2) (hg:guardO (st L O U H) gd = some true) (hf:f.val (st L O U H) = .k true (.x (.one fv))) (ha:(args.all fun d=>(d.val (st L O U H)).g) = true) (hx:fitsR (args.map fun d=>(d.val (st L O U H)).r) xs)
    (hO:∀ p∈O,p.1 < 15000) (hU:∀ p∈U,p.1 < 15000) (h:runK P G l (st ((d,.k true res) :: L) O U H2) K):runK P G (⟨some d,.call f args,gd,none⟩ :: l) (st L O U H) K :=
  r_callV fv xs [] [] res [] [] H2 hm hg hf ha hx (fun _ h=>by cases h) (fun _ h=>by cases h) hO hU (fun _ h=>by cases h) (fun _ h=>by cases h) (fun _ h=>by cases h) (fun _ h=>by cases h) hs rfl h
def PtAt (es:List (List C)) (i off:Nat) (cs:List C):Prop:=∃ r,es[i]? = some r∧(r.drop off).take cs.length = cs
theorem PtAt.len {es:List (List C)} {i off:Nat} {cs:List C} (h:PtAt es i off cs):off + cs.length≤(es[i]?.getD []).length∨cs = []:=by
  obtain ⟨r,h1,h2⟩:=h
  have:=congrArg List.length h2
  simp at this
  rw [h1]; simp
  by_cases hc:cs = []
  · exact .inr hc
  · left; have:0 < cs.length:=List.length_pos_iff.2 hc; omega
theorem PtAt.at {es:List (List C)} {i off:Nat} {cs:List C} (h:PtAt es i off cs) (j:Nat) (hj:j < cs.length):(es[i]?.getD [])[off + j]? = some cs[j]:=by
  obtain ⟨r,h1,h2⟩:=h
  rw [h1,← List.getElem?_eq_getElem hj,← h2]
  simp [hj]
section
variable {fv:A} {H H':FHp} {Q:Exit→S→Prop} {t0 t12 t14 t15 t4 t21 t20 t22 t1 t5 t39 t38 t40 t6 t53 t54 t7 t74 t75 t8 t86 t85 t87 t9 t100 t101 t10 t107 t106 t108 t11:T}
theorem walk_l3 (es sq:List (List C)) (i off:Nat) (l:List Tm) (sp:List (List C)) (hl:l.length≤maxLen) (hlen:off + 1 < (es[i]?.getD []).length) (hval:(es[i]?.getD [])[off + 1]'hlen = .sl (l.map Tm.row) sp)
    (hc:Ch G fv l H H') (hQ:∀ t107 t108 t11,Q (.exit 7) (ks126 t0 t12 t14 t15 t4 t21 t20 t22 (.k true (.x (.one fv))) t5 t39 t38 t40 t6 t53 t54 t7 t74 t75 t8 t86 t85 t87 t9 t100 t101 (.k true (.x (.one (.elem es sq i off)))) t107 (tI .i64 l.length) t108 t11 [] [] H')) :
    wpI Tryz.prog G (.loop ic126l3) Q (ks126 t0 t12 t14 t15 t4 t21 t20 t22 (.k true (.x (.one fv))) t5 t39 t38 t40 t6 t53 t54 t7 t74 t75 t8 t86 t85 t87 t9 t100 t101 (.k true (.x (.one (.elem es sq i off)))) (tI .i64 0) (tI .i64 l.length) t108 t11 [] [] H):=by
  refine w_loopK (fun n σ=>∃ (j:Nat) (H1:FHp) (t108 t11:T),j + n = l.length∧Ch G fv (l.drop j) H1 H'∧σ = ks126 t0 t12 t14 t15 t4 t21 t20 t22 (.k true (.x (.one fv))) t5 t39 t38 t40 t6 t53 t54 t7 t74 t75 t8 t86 t85 t87 t9 t100 t101 (.k true (.x (.one (.elem es sq i off)))) (tI .i64 j) (tI .i64 l.length) t108 t11 [] [] H1)
    l.length ⟨0,H,_,_,by simp,by simpa using hc,rfl⟩ ?_
  rintro n σ1 K hK ⟨j,H1,t108,t11,hj,hd,rfl⟩
  obtain hlt | hge:=Nat.lt_or_ge j l.length
  · obtain ⟨H2,hm,hs,hd2⟩:=hd.step (List.getElem?_eq_getElem hlt)
    have hpt:PtTo (l.map Tm.row) j 0 l[j]:=⟨l[j].row,by simp [hlt],by simp [Tm.row]⟩
    simp [ic126l3,hlt,hlen,hval]
    refine r_callC (hm _ sp _ _ hpt) hs rfl rfl rfl (by simp) (by simp) (by simp) ?_
    simp [wrap_next hlt (by unfold maxLen at hl; omega)]
    exact hK _ (n - 1) (by omega) ⟨j + 1,H2,_,_,by omega,hd2,rfl⟩
  · rw [List.drop_eq_nil_of_le hge] at hd
    cases hd
    simp [ic126l3,Nat.not_lt.mpr hge]
    exact hQ _ _ _
end
theorem m126_atom {fv:A} {H H':FHp} (hfv:fv.only farKey (fun _=>False)) (es sq:List (List C)) (i off:Nat) (p:Name) (l:List Tm) (sp:List (List C)) (hl:l.length≤maxLen)
    (hp1:PtAt es i off [cS (bs p),.sl (l.map Tm.row) sp]) (hc:Ch G fv l H H') :
    MeetsH Tryz.prog G 80 [.one (.ifc 120 (.elem es sq i off)),.one fv] (hp [] [] H) (.tup []) (hp [] [] H'):=by
  refine meetsH [] Tryz.func80 ie126 ig126 (Nat.le_of_ble_eq_true rfl) (by simp) (by simp) ?_ (by simp) (by simp) hc.same (by simp) (by simp) ?_
  · simp
    exact A.only_mono (fun _=>far_not_own) (fun _ h=>h.elim) hfv
  have hlen:off + 1 < (es[i]?.getD []).length:=by rcases hp1.len with h | h <;> simp at h; omega
  have hval:(es[i]?.getD [])[off + 1]'hlen = .sl (l.map Tm.row) sp:=(List.getElem?_eq_some_iff.1 (hp1.at 1 (by simp))).2
  simp [ic126,ir126,hlen,hval]
  refine walk_l3 es sq i off l sp hl hlen hval hc ?_
  intro t107 t108 t11
  simp
  exact ret_st (by simp) (by simp) (by simp) (by simp) (by simp) (by simp)
end Go.Proofs.YtiomojlcnemnhaaGreatDoor

namespace Go.Proofs.YtiomojlcnemnhaaGreatDoor
open Go.Fx Go.RowKit Go.Ped
variable {G:World→Prop}
abbrev O15 (acc:List Name):List (Nat × Box):=[(15003,⟨67,1,[[.own 15030 (acc.map nmRow)]],none⟩),(15004,⟨150,1,[[.mapr 15005]],none⟩),(15005,⟨0,2,thr 0 acc,some (.string,true)⟩)]
abbrev U15 (acc:List Name):List (Nat × Fx.Tok):=[(15030,⟨9,1,acc.length⟩)]
theorem hO15 (acc:List Name):∀ p∈O15 acc,farKey p.1∧∀ r∈p.2.rows,onlyL farKey (fun k=>lookT (U15 acc) k≠none) r:=by
  intro p hp
  simp only [List.mem_cons,List.not_mem_nil,or_false] at hp
  rcases hp with rfl | rfl | rfl
  · exact ⟨by unfold farKey; omega,by simp⟩
  · exact ⟨by unfold farKey; omega,by simp [farKey]⟩
  · exact ⟨by unfold farKey; omega,fun r hr=>thr_only _ _ r hr⟩
theorem hU15 (acc:List Name):∀ p∈U15 acc,farKey p.1:=by
  intro p hp
  simp only [List.mem_cons,List.not_mem_nil,or_false] at hp
  subst hp; unfold farKey; omega
def Hv (acc:List Name):FHp:=FHp.of (O15 acc) (U15 acc) (hO15 acc) (hU15 acc)
abbrev fv15:A:=.clo 263 [] [.ref 15004 0 0,.ref 15003 0 0]
theorem thr_ren (f:Nat→Nat):∀ (l:List Name) (n:Nat),(thr n l).map (renL f) = thr n l
  | [],_=>rfl
  | v :: l,n=>by simp [thr,thr_ren f l (n + 1)]
theorem Hv_same (a b:List Name):sameKeys (Hv a) (Hv b):=by
  refine ⟨fun k=>⟨?_,?_⟩,rfl⟩
  · show lookO (O15 a) k = none↔lookO (O15 b) k = none
    simp only [lookO_cons]
    split <;> (try split) <;> (try split) <;> simp
  · show lookT (U15 a) k = none↔lookT (U15 b) k = none
    simp only [lookT_cons]
    split <;> simp
theorem c170 (es sp:List (List C)) (i off:Nat) (t:Tm) (h:PtTo es i off t) (acc:List Name) (hl:acc.length≤2000000) :
    MeetsV Tryz.prog G fv15 [.one (.elem es sp i off)] (hp [] [] (Hv acc)) (.tup []) (hp [] [] (Hv (varsOn acc [t.v]))):=by
  have h1:=(clo_of (f:=263) (fs:=[]) (args:=[.one (.elem es sp i off)]) (cs:=[.ref 10004 0 0,.ref 10003 0 0]) rfl (m170 (G:=G) es sp i off t h acc hl)).ren (π:=midFar)
  simp [mfF,thr_ren] at h1
  unfold Hv
  rw [hp_of,hp_of]
  exact h1
theorem ch170:∀ (l:List Tm) (acc:List Name),acc.length + l.length≤2000000→Ch G fv15 l (Hv acc) (Hv (varsOn acc (l.map Tm.v)))
  | [],acc,_=>.nil _
  | t :: l,acc,h=>by
    have e:varsOn acc ((t :: l).map Tm.v) = varsOn (varsOn acc [t.v]) (l.map Tm.v):=by
      rw [← varsOn_append]; rfl
    have hlen:(varsOn acc [t.v]).length≤acc.length + 1:=by simpa using varsOn_length [t.v] acc
    rw [e]
    simp only [List.length_cons] at h
    exact .cons (fun es sp i off hp=>c170 es sp i off t hp acc (by omega)) (Hv_same _ _) (ch170 l _ (by omega))
def Walks (G:World→Prop) (x:A) (l:List Tm):Prop :=
  ∀ (fv:A) (H H':FHp),fv.only farKey (fun _=>False)→Ch G fv l H H'→MeetsH Tryz.prog G 80 [.one x,.one fv] (hp [] [] H) (.tup []) (hp [] [] H')
set_option maxRecDepth 20000 in
theorem m118 (x:A) (l:List Tm) (hx:x.only (fun _=>False) (fun _=>False)) (hxr:∀ f,x.ren f = x) (hxs:∀ ks,x.strike ks = x) (_hxf:∀ B,x.freeze B = x) (hl:l.length≤2000000) (hw:Walks G x l) :
    MeetsH Tryz.prog G 194 [.one x] (hp [] [] F0) (.x (.one (.c (.sl ((tmVars l).map nmRow) [])))) (hp [] [] F0):=by
  have h1:=(MeetsV.of_fun (hw fv15 _ _ ⟨trivial,by simp [farKey]⟩ (ch170 (G:=G) l [] (by simpa using hl)))).ren (π:=nearFar)
  unfold Hv at h1
  rw [hp_of,hp_of] at h1
  simp [nfF,thr_ren,hxr] at h1
  refine meetsH [] Tryz.func194 ie118 ig118 (Nat.le_of_ble_eq_true rfl) (by simp) (by simp) ?_ (by simp) (by simp) (sameKeys_refl F0) (by simp) (by simp) ?_
  · simp
    exact A.only_mono (fun _ h=>h.elim) (fun _ h=>h.elim) hx
  have e0:thr 0 [] = []:=rfl
  rw [e0] at h1
  simp [ic118,ir118,hxs]
  refine r_callV _ _ _ _ _ _ _ _ h1 rfl rfl rfl (by simp) (by simp) (by simp) (by simp) (by simp) (by simp) (by simp) (by simp) (by simp) (sameKeys_refl F0) rfl ?_
  simp
  refine ret_st (by simp) ?_ (by simp) (by simp) (by simp) (by simp)
  exact ⟨rfl,rfl⟩
end Go.Proofs.YtiomojlcnemnhaaGreatDoor

namespace Go.Proofs.YtiomojlcnemnhaaGreatDoor
open Go.Fx Go.RowKit Go.Ped
variable {G:World→Prop}
theorem walks_atom (es sq:List (List C)) (i off:Nat) (p:Name) (l:List Tm) (sp:List (List C)) (hl:l.length≤maxLen)
    (h:PtAt es i off [cS (bs p),.sl (l.map Tm.row) sp]):Walks G (.ifc 120 (.elem es sq i off)) l :=
  fun _ _ _ hfv hc=>m126_atom hfv es sq i off p l sp hl h hc
theorem m46 (p:Name) (l:List Tm) (sp:List (List C)) (hl:l.length≤1048576) :
    Meets Tryz.prog G 123 [.agg [cS (bs p),.sl (l.map Tm.row) sp]] (.x (.one (.sl ((tmVars l).map nmRow) []))):=by
  refine meets Tryz.func123 ie46 ig46 (Nat.le_of_ble_eq_true rfl) ?_
  have hw:=walks_atom (G:=G) [[cS (bs p),.sl (l.map Tm.row) sp]] [] 0 0 p l sp (by unfold maxLen; omega) ⟨_,rfl,rfl⟩
  simp [ic46,ir46,freeze_st,fzL,freezeO,maxLen,closeL,A.close]
  refine r_call0 (MeetsV.of_fun (m118 _ l (by simp) (fun _=>rfl) (fun _=>rfl) (fun _=>rfl) (by omega) hw)) rfl rfl rfl (by simp) (by simp) (by simp) ?_
  simp
theorem m90 (b:Bool):Meets Tryz.prog G 140 [.one (cB b)] (.x (.one (cI .i64 (if b then 0 else 40)))):=by
  refine meets Tryz.func140 ie90 ig90 (Nat.le_of_ble_eq_true rfl) ?_
  simp [ic90,ir90]
theorem m45 (l m:List Name) (sp sq:List (List C)) (hl:l.length≤maxLen) :
    Meets Tryz.prog G 155 [.one (.sl (l.map nmRow) sp),.one (.sl (m.map nmRow) sq)] (.x (.one (cB (l == m)))):=by
  refine meets Tryz.func155 ie45 ig45 (Nat.le_of_ble_eq_true rfl) ?_
  simp [ic45,ir45]
  refine ⟨fun h=>?_,fun h=>?_⟩
  · have:l≠m:=fun e=>h (by rw [e])
    simp [this]
  refine w_loopK (fun n σ=>∃ (i:Nat) (t10 t14 t25:T),i + n = l.length∧(l = m↔l.drop i = m.drop i)∧σ = ks45 (.k true (.x (.one (.c (.sl (l.map nmRow) sp))))) (.k true (.x (.one (.c (.sl (m.map nmRow) sq))))) t10 (tI .i64 i) t14 t25 (tB false) [] [] F0)
    l.length ⟨0,_,_,_,by simp,by simp,rfl⟩ ?_
  rintro n σ1 K hK ⟨i,t10,t14,t25,hi,hd,rfl⟩
  obtain hlt | hge:=Nat.lt_or_ge i l.length
  · have hltm:i < m.length:=by omega
    have e1:=List.drop_eq_getElem_cons hlt
    have e2:=List.drop_eq_getElem_cons hltm
    rw [e1,e2] at hd
    clear e1 e2
    simp [ic45l0,hlt,hltm,wrap_next hlt (by unfold maxLen at hl; omega)]
    refine ⟨fun h=>?_,fun h=>?_⟩
    · intro e; exact h (List.cons.inj (hd.1 e)).1
    · exact hK _ (n - 1) (by omega) ⟨i + 1,_,_,_,by omega,by rw [hd,h,List.cons.injEq]; exact ⟨fun x=>x.2,fun x=>⟨rfl,x⟩⟩,rfl⟩
  · rw [List.drop_eq_nil_of_le hge,List.drop_eq_nil_of_le (by omega)] at hd
    simp [ic45l0,Nat.not_lt.mpr hge]
    simp at hd
    simp [hd]
end Go.Proofs.YtiomojlcnemnhaaGreatDoor

namespace Go.Proofs.YtiomojlcnemnhaaGreatDoor
open Go.Fx
@[simp] abbrev kGxIcD_0:List Nat:=[0,2,6,5,1,20,4]
@[simp] abbrev kGxIcD_1:List Nat:=[0,1,2]
@[simp] abbrev kGxIcD_2:List Nat:=[0,2,1,5,18,4]
@[simp] abbrev kGxIcD_3:List Nat:=[0,1,2,3,4]
@[simp] abbrev kGxIcD_4:List Nat:=[0,2,6,15,5,1,7,28,9,34,8,49,10,59,4]
@[simp] abbrev kGxIcD_5:List Nat:=[0,1,3,2]
@[simp] abbrev kGxIcD_6:List Nat:=[0,1,8,2,11,5,40,6,45,56,4]
@[simp] abbrev kGxIcD_7:List Nat:=[0,1,3,6,2,9,31,4]
@[simp] abbrev kGxIcD_8:List Nat:=[0,4,12,3,2]
@[simp] abbrev kGxIcD_9:List Nat:=[0,3,14,2]
@[simp] abbrev kGxIcD_10:List Nat:=[0,1,10,5,14,26,4]
@[simp] abbrev kGxIcD_11:List Nat:=[0,3,4,9,2]
@[simp] abbrev kGxIcD_12:List Nat:=[0,1,4]
@[simp] abbrev kGxIcD_13:List Nat:=[0,2,1,3]
@[simp] abbrev kGxIcD_14:List Nat:=[0,2]
@[simp] abbrev kGxIcD_15:List Nat:=[0,2,1,4]
@[simp] abbrev kGxIcD_16:List Nat:=[0,8,7,9,1,5,16,4]
def ic119l0:IC:=(.seq (.seq (rG kGxIcD_0 [oM 11 6,oF 12 2 2,oL 13 12,oN 14 13,oB 15 .lss (.t 11) (.t 14),oM 16 15,
 oG 17 (.move (.t 5)) 16 true,oG 18 (.move (.t 1)) 16 true,oG 19 (.bin .leq (.t 17) (.t 18)) 16 true,oQ 20 16 19]) (.cond (.t 20) .skip (.exit 0)))
 (.seq (.block 1 (rG kGxIcD_0 [oM 23 5,oF 24 2 2,oL 25 24,oM 26 6,oA 27 16 25 26,oR 28 16 27,oM 29 1,oM 30 5,oB 31 .sub (.t 29)
 (.t 30),oC 32 170 [(.t 28),(.t 31)],oB 33 .add (.t 23) (.t 32),oM 5 33])) (rG kGxIcD_0 [oM 21 6,oB 22 .add (.t 21) (.k (rI .i64 1)),
 oM 6 22])))
def ic119:IC:=(.seq (rH [2] kGxIcD_0 [oX 2 (.box 29 (.t 0)),oX 4 (.move (.k (rI .i64 0)))]) (.seq (rG kGxIcD_0 [oF 7 1 2,
 oL 8 7,oN 9 8,oB 10 .add (.k (rI .i64 1)) (.t 9),oM 5 10]) (.seq (.seq (rG kGxIcD_0 [oX 6 (.move (.k (rI .i64 0)))])
 (.block 0 (.loop ic119l0))) (.seq (rG kGxIcD_0 [oM 34 5,oM 4 34]) .ret))))
def ir119:List IRes:=[.tmp 4]
theorem ie119:cmpFunc Tryz.prog ⟨[],[]⟩ Tryz.f73 [0,2,6,5,1,20,4] = some ic119:=by kernel_rfl
theorem ig119:cmpRes Tryz.prog Tryz.f73.results.toList = some ir119:=by kernel_rfl
def ic56:IC:=(.seq (rH [1,2] kGxIcD_1 [oX 1 (.box 107 (.t 0)),
 oX 2 (.zero 107 [(.c (.v (.int .i8 0))),(.c (.v (.string (bs [])))),.nil,(.c (.v (.int .i8 0))),(.c (.v (.int .i8 0))),(.c (.v (.string (bs [])))),(.c (.v (.int .i8 0))),(.c (.v (.int .i64 0))),(.c (.v (.string (bs [])))),.nil,(.c (.v (.int .i8 0))),(.c (.v (.string (bs [])))),(.c (.v (.int .i8 0))),(.c (.v (.int .i64 0))),(.c (.v (.string (bs [])))),.nil])])
 (.seq (rG kGxIcD_1 [oF 3 1 1,oR 4 2 3,oC 5 15 [(.t 4)],oF 6 1 1,oS 2 6 5]) (.seq (rG kGxIcD_1 [oF 7 4 1,oR 8 6 7,oC 9 244 [(.t 8)],
 oF 10 4 1,oS 6 10 9]) (.seq (rG kGxIcD_1 [oF 11 10 1,oR 12 6 11,oC 13 244 [(.t 12)],oF 14 10 1,oS 6 14 13])
 (.seq (rG kGxIcD_1 [oR 15 16 1,oS 16 2 15]) .ret)))))
def ir56:List IRes:=[.cell 2 (some 16)]
theorem ie56:cmpFunc Tryz.prog ⟨[],[]⟩ Tryz.f162 [0,1,2] = some ic56:=by kernel_rfl
theorem ig56:cmpRes Tryz.prog Tryz.f162.results.toList = some ir56:=by kernel_rfl
def ic171:IC:=(.seq (rH [2] kGxIcD_2 [oX 2 (.box 107 (.t 0)),oX 4 (.move (.k (rI .i64 0)))]) (.seq (rG kGxIcD_2 [oF 6 1 2,
 oF 7 1 6,oL 8 7,oN 9 8,oB 10 .add (.k (rI .i64 1)) (.t 9),oF 11 4 2,oR 12 6 11,oM 13 1,oC 14 247 [(.t 12),(.t 13)],oB 15 .add (.t 10) (.t 14),oM 5 15])
 (.seq (.seq (rG kGxIcD_2 [oM 16 5,oM 17 1,oB 18 .gtr (.t 16) (.t 17)]) (.cond (.t 18) (.seq (rG kGxIcD_2 [oM 19 1,
 oB 20 .add (.t 19) (.k (rI .i64 1)),oM 4 20]) .ret) .skip)) (.seq (rG kGxIcD_2 [oM 21 5,oF 22 10 2,oR 23 6 22,oM 24 1,oM 25 5,
 oB 26 .sub (.t 24) (.t 25),oC 27 247 [(.t 23),(.t 26)],oB 28 .add (.t 21) (.t 27),oM 4 28]) .ret))))
def ir171:List IRes:=[.tmp 4]
theorem ie171:cmpFunc Tryz.prog ⟨[],[]⟩ Tryz.f170 [0,2,1,5,18,4] = some ic171:=by kernel_rfl
theorem ig171:cmpRes Tryz.prog Tryz.f170.results.toList = some ir171:=by kernel_rfl
def ic61:IC:=(.seq (rH [2,3] kGxIcD_3 [oX 2 (.box 107 (.t 0)),oX 3 (.box 107 (.t 1)),oX 4 (.move (.k (rB false)))])
 (.seq (rG kGxIcD_3 [oF 5 0 2,oL 6 5,oF 7 0 3,oL 8 7,oB 9 .eql (.t 6) (.t 8),oM 10 9,oG 11 (.faddr 3 (.t 2)) 10 true,
 oG 12 (.load none (.t 11)) 10 true,oG 13 (.faddr 3 (.t 3)) 10 true,oG 14 (.load none (.t 13)) 10 true,oG 15 (.bin .eql (.t 12) (.t 14)) 10 true,oQ 16 10 15,
 oM 17 16,oG 18 (.faddr 1 (.t 2)) 17 true,oG 19 (.load (some 2) (.t 18)) 17 true,oG 20 (.faddr 1 (.t 3)) 17 true,oG 21 (.load (some 2) (.t 20)) 17 true,
 oG 22 (.callp (.k (rF 24)) [(.t 19),(.t 21)]) 17 true,oQ 23 17 22,oM 24 23,oG 25 (.faddr 4 (.t 2)) 24 true,oG 26 (.load (some 6) (.t 25)) 24 true,
 oG 27 (.faddr 4 (.t 3)) 24 true,oG 28 (.load (some 6) (.t 27)) 24 true,oG 29 (.callp (.k (rF 258)) [(.t 26),(.t 28)]) 24 true,oQ 30 24 29,oM 31 30,
 oG 32 (.faddr 10 (.t 2)) 31 true,oG 33 (.load (some 6) (.t 32)) 31 true,oG 34 (.faddr 10 (.t 3)) 31 true,oG 35 (.load (some 6) (.t 34)) 31 true,
 oG 36 (.callp (.k (rF 258)) [(.t 33),(.t 35)]) 31 true,oQ 37 31 36,oM 4 37]) .ret))
def ir61:List IRes:=[.tmp 4]
theorem ie61:cmpFunc Tryz.prog ⟨[],[]⟩ Tryz.f182 [0,1,2,3,4] = some ic61:=by kernel_rfl
theorem ig61:cmpRes Tryz.prog Tryz.f182.results.toList = some ir61:=by kernel_rfl
def ic94:IC:=(.seq (rH [1] kGxIcD_1 [oX 1 (.box 105 (.t 0)),oX 2 (.move (.k (rI .i64 0)))]) (.seq (rG kGxIcD_1 [oR 3 6 1,
 oC 4 278 [(.t 3),(.k (rI .i64 8))],oC 5 187 [(.t 4)],oM 2 5]) .ret))
def ir94:List IRes:=[.tmp 2]
theorem ie94:cmpFunc Tryz.prog ⟨[],[]⟩ Tryz.f220 [0,1,2] = some ic94:=by kernel_rfl
theorem ig94:cmpRes Tryz.prog Tryz.f220.results.toList = some ir94:=by kernel_rfl
def ic74:IC:=(.seq (rH [1,2] kGxIcD_1 [oX 1 (.box 105 (.t 0)),
 oX 2 (.zero 105 [(.c (.v (.int .i8 0))),(.c (.v (.string (bs [])))),(.c (.v (.int .i8 0))),(.c (.v (.int .i64 0))),(.c (.v (.string (bs [])))),.nil])])
 (.seq (rG kGxIcD_1 [oF 3 5 1,oL 4 3,oC 5 291 [(.t 4)],oF 6 5 1,oS 1 6 5]) (.seq (rG kGxIcD_1 [oR 7 6 1,oS 6 2 7]) .ret)))
def ir74:List IRes:=[.cell 2 (some 6)]
theorem ie74:cmpFunc Tryz.prog ⟨[],[]⟩ Tryz.f244 [0,1,2] = some ic74:=by kernel_rfl
theorem ig74:cmpRes Tryz.prog Tryz.f244.results.toList = some ir74:=by kernel_rfl
def ic93l0:IC:=(.seq (.seq (rG kGxIcD_4 [oM 52 10,oM 53 6,oM 54 9,oA 55 6 53 54,oF 56 5 55,oL 57 56,oN 58 57,
 oB 59 .lss (.t 52) (.t 58)]) (.cond (.t 59) .skip (.exit 4))) (.seq (.block 5 (rH [71] kGxIcD_4 [oM 62 8,oM 63 6,oM 64 9,
 oA 65 6 63 64,oF 66 5 65,oL 67 66,oM 68 10,oA 69 6 67 68,oR 70 6 69,oX 71 (.row 105 6 [(.t 70)]),oX 72 (.app 105 6 80 (.t 62) (.t 71)),oM 8 72]))
 (rG kGxIcD_4 [oM 60 10,oB 61 .add (.t 60) (.k (rI .i64 1)),oM 10 61])))
def ic93l1:IC:=(.seq (.seq (rG kGxIcD_4 [oM 31 9,oM 32 6,oN 33 32,oB 34 .lss (.t 31) (.t 33)])
 (.cond (.t 34) .skip (.exit 2))) (.seq (.block 3 (.seq (.seq (rG kGxIcD_4 [oM 37 5,oM 38 8,oN 39 38,
 oB 40 .add (.t 37) (.t 39),oM 41 6,oM 42 9,oA 43 6 41 42,oF 44 5 43,oL 45 44,oN 46 45,oB 47 .add (.t 40) (.t 46),oM 48 1,oB 49 .gtr (.t 47) (.t 48)])
 (.cond (.t 49) (.seq (rG kGxIcD_4 [oM 50 1,oB 51 .add (.t 50) (.k (rI .i64 1)),oM 4 51]) .ret) .skip))
 (.seq (rG kGxIcD_4 [oX 10 (.move (.k (rI .i64 0)))]) (.block 4 (.loop ic93l0)))))
 (rG kGxIcD_4 [oM 35 9,oB 36 .add (.t 35) (.k (rI .i64 1)),oM 9 36])))
def ic93l2:IC:=(.seq (.seq (rG kGxIcD_4 [oM 13 6,oN 14 13,oB 15 .gtr (.t 14) (.k (rI .i64 0))])
 (.cond (.t 15) .skip (.exit 0))) (.seq (.block 1 (.seq (rG kGxIcD_4 [oM 18 5,oM 19 6,oN 20 19,oB 21 .add (.t 18)
 (.t 20),oM 5 21]) (.seq (.seq (rG kGxIcD_4 [oM 22 5,oM 23 1,oB 24 .gtr (.t 22) (.t 23),oM 25 24,
 oG 26 (.move (.t 7)) 25 false,oG 27 (.bin .gtr (.t 26) (.k (rI .i64 65536))) 25 false,oP 28 25 27]) (.cond (.t 28)
 (.seq (rG kGxIcD_4 [oM 29 1,oB 30 .add (.t 29) (.k (rI .i64 1)),oM 4 30]) .ret) .skip))
 (.seq (rG kGxIcD_4 [oX 8 (.move (.k (.x (.one .nil))))])
 (.seq (.seq (rG kGxIcD_4 [oX 9 (.move (.k (rI .i64 0)))]) (.block 2 (.loop ic93l1)))
 (rG kGxIcD_4 [oM 73 8,oM 6 73])))))) (rG kGxIcD_4 [oM 16 7,oB 17 .add (.t 16)
 (.k (rI .i64 1)),oM 7 17])))
def ic93:IC:=(.seq (rH [2] kGxIcD_4 [oX 2 (.box 105 (.t 0)),oX 4 (.move (.k (rI .i64 0)))])
 (.seq (rG kGxIcD_4 [oX 5 (.move (.k (rI .i64 0)))])
 (.seq (rH [12] kGxIcD_4 [oR 11 6 2,oX 12 (.row 105 6 [(.t 11)]),oM 6 12])
 (.seq (.seq (rG kGxIcD_4 [oX 7 (.move (.k (rI .i64 0)))]) (.block 0 (.loop ic93l2)))
 (.seq (rG kGxIcD_4 [oM 74 5,oM 4 74]) .ret)))))
def ir93:List IRes:=[.tmp 4]
theorem ie93:cmpFunc Tryz.prog ⟨[],[]⟩ Tryz.f247 [0,2,6,15,5,1,7,28,9,34,8,49,10,59,4] = some ic93:=by kernel_rfl
theorem ig93:cmpRes Tryz.prog Tryz.f247.results.toList = some ir93:=by kernel_rfl
def ic181:IC:=(.seq (rH [1] kGxIcD_5 [oX 1 (.box 105 (.t 0)),oX 2 (.move (.k (rB false)))])
 (.seq (rH [3] kGxIcD_5 [oX 4 (.build [(.c (.v (.string (bs [])))),(.c (.v (.int .i8 0))),(.c (.v (.int .i64 0))),(.c (.v (.string (bs []))))] []),
 oX 3 (.zero 73 [(.c (.v (.string (bs [])))),(.c (.v (.int .i8 0))),(.c (.v (.int .i64 0))),(.c (.v (.string (bs []))))]),oS 4 3 4])
 (.seq (rG kGxIcD_5 [oF 5 0 1,oL 6 5,oB 7 .eql (.t 6) (.k (rI .i8 0)),oM 8 7,oG 9 (.faddr 1 (.t 1)) 8 true,oG 10 (.load (some 4) (.t 9)) 8 true,
 oG 11 (.load (some 4) (.t 3)) 8 true,oG 12 (.eqs false [.s,.i .i8,.i .i64,.s] (.t 10) (.t 11)) 8 true,oQ 13 8 12,oM 14 13,oG 15 (.faddr 5 (.t 1)) 14 true,
 oG 16 (.load none (.t 15)) 14 true,oG 17 (.len (.t 16)) 14 true,oG 18 (.bin .eql (.t 17) (.k (rI .i64 0))) 14 true,oQ 19 14 18,oM 2 19]) .ret)))
def ir181:List IRes:=[.tmp 2]
theorem ie181:cmpFunc Tryz.prog ⟨[],[]⟩ Tryz.f252 [0,1,3,2] = some ic181:=by kernel_rfl
theorem ig181:cmpRes Tryz.prog Tryz.f252.results.toList = some ir181:=by kernel_rfl
abbrev ks97 (t0 t1 t8 t2 t11 t5 t40 t6 t45 t56 t4:T) (O:List (Nat × Box)) (U:List (Nat × Fx.Tok)) (H:FHp):S:=st [(0,t0),(1,t1),(8,t8),(2,t2),(11,t11),(5,t5),(40,t40),(6,t6),(45,t45),(56,t56),(4,t4)] O U H
def ic97l0:IC:=(.seq (.seq (rG kGxIcD_6 [oM 41 6,oF 42 5 2,oL 43 42,oN 44 43,oB 45 .lss (.t 41) (.t 44)])
 (.cond (.t 45) .skip (.exit 0))) (.seq (.block 1 (.seq (rG kGxIcD_6 [oF 48 5 2,oL 49 48,oM 50 6,oA 51 6 49 50,oR 52 6 51,
 oM 53 1,oB 54 .sub (.t 53) (.k (rI .i64 1)),oC 55 253 [(.t 52),(.t 54)],oX 56 (.un .not (.t 55))]) (.cond (.t 56)
 (.seq (rG kGxIcD_6 [oX 4 (.move (.k (rB false)))]) .ret) .skip))) (rG kGxIcD_6 [oM 46 6,
 oB 47 .add (.t 46) (.k (rI .i64 1)),oM 6 47])))
def ic97:IC:=(.seq (rH [2] kGxIcD_6 [oX 2 (.box 105 (.t 0)),oX 4 (.move (.k (rB false)))])
 (.seq (.seq (rG kGxIcD_6 [oM 7 1,oB 8 .eql (.t 7) (.k (rI .i64 0))]) (.cond (.t 8)
 (.seq (rG kGxIcD_6 [oX 4 (.move (.k (rB false)))]) .ret) .skip)) (.seq (.seq (rG kGxIcD_6 [oF 9 0 2,
 oL 10 9,oB 11 .eql (.t 10) (.k (rI .i8 0))]) (.cond (.t 11) (.seq (rG kGxIcD_6 [oF 12 5 2,oL 13 12,oN 14 13,oB 15 .eql (.t 14)
 (.k (rI .i64 0)),oM 16 15,oG 17 (.faddr 1 (.t 2)) 16 true,oG 18 (.faddr 0 (.t 17)) 16 true,oG 19 (.load none (.t 18)) 16 true,oG 20 (.bin .neq (.t 19)
 (.k (rS (bs [95])))) 16 true,oQ 21 16 20,oM 22 21,oG 23 (.faddr 1 (.t 2)) 22 true,oG 24 (.load (some 4) (.t 23)) 22 true,
 oG 25 (.callp (.k (rF 250)) [(.t 24)]) 22 true,oQ 26 22 25,oM 4 26]) .ret) .skip))
 (.seq (rH [5] kGxIcD_6 [oX 27 (.build [(.c (.v (.string (bs [])))),(.c (.v (.int .i8 0))),(.c (.v (.int .i64 0))),(.c (.v (.string (bs []))))] []),
 oX 5 (.zero 73 [(.c (.v (.string (bs [])))),(.c (.v (.int .i8 0))),(.c (.v (.int .i64 0))),(.c (.v (.string (bs []))))]),oS 4 5 27])
 (.seq (.seq (rG kGxIcD_6 [oF 28 1 2,oR 29 4 28,oR 30 4 5,oX 31 (.eqs true [.s,.i .i8,.i .i64,.s] (.t 29) (.t 30)),oM 32 31,
 oG 33 (.faddr 5 (.t 2)) 32 false,oG 34 (.load none (.t 33)) 32 false,oG 35 (.len (.t 34)) 32 false,oG 36 (.faddr 0 (.t 2)) 32 false,
 oG 37 (.load none (.t 36)) 32 false,oG 38 (.callp (.k (rF 298)) [(.t 37)]) 32 false,oG 39 (.bin .neq (.t 35) (.t 38)) 32 false,oP 40 32 39]) (.cond (.t 40)
 (.seq (rG kGxIcD_6 [oX 4 (.move (.k (rB false)))]) .ret) .skip))
 (.seq (.seq (rG kGxIcD_6 [oX 6 (.move (.k (rI .i64 0)))]) (.block 0 (.loop ic97l0)))
 (.seq (rG kGxIcD_6 [oX 4 (.move (.k (rB true)))]) .ret)))))))
def ir97:List IRes:=[.tmp 4]
theorem ie97:cmpFunc Tryz.prog ⟨[],[]⟩ Tryz.f253 [0,1,8,2,11,5,40,6,45,56,4] = some ic97:=by kernel_rfl
theorem ig97:cmpRes Tryz.prog Tryz.f253.results.toList = some ir97:=by kernel_rfl
def ic76:IC:=(.seq (rH [2,3] kGxIcD_3 [oX 2 (.box 105 (.t 0)),oX 3 (.box 105 (.t 1)),oX 4 (.move (.k (rB false)))])
 (.seq (rG kGxIcD_3 [oF 5 0 2,oL 6 5,oF 7 0 3,oL 8 7,oB 9 .eql (.t 6) (.t 8),oM 10 9,oG 11 (.faddr 1 (.t 2)) 10 true,oG 12 (.load (some 4)
 (.t 11)) 10 true,oG 13 (.faddr 1 (.t 3)) 10 true,oG 14 (.load (some 4) (.t 13)) 10 true,oG 15 (.eqs false [.s,.i .i8,.i .i64,.s] (.t 12) (.t 14)) 10 true,
 oQ 16 10 15,oM 17 16,oG 18 (.faddr 5 (.t 2)) 17 true,oG 19 (.load none (.t 18)) 17 true,oG 20 (.faddr 5 (.t 3)) 17 true,oG 21 (.load none (.t 20)) 17 true,
 oG 22 (.callp (.k (rF 300)) [(.t 19),(.t 21)]) 17 true,oQ 23 17 22,oM 4 23]) .ret))
def ir76:List IRes:=[.tmp 4]
theorem ie76:cmpFunc Tryz.prog ⟨[],[]⟩ Tryz.f258 [0,1,2,3,4] = some ic76:=by kernel_rfl
theorem ig76:cmpRes Tryz.prog Tryz.f258.results.toList = some ir76:=by kernel_rfl
def ic183:IC:=(.seq (rH [1] kGxIcD_1 [oX 1 (.box 73 (.t 0)),oX 2 (.move (.k (rB false)))]) (.seq (rG kGxIcD_1 [oF 3 0 1,oL 4 3,
 oB 5 .neq (.t 4) (.k (rS (bs [95]))),oM 6 5,oG 7 (.load (some 4) (.t 1)) 6 true,oG 8 (.callp (.k (rF 208)) [(.t 7)]) 6 true,oG 9 (.bin .eql (.t 8)
 (.k (rI .i64 0))) 6 true,oQ 10 6 9,oM 2 10]) .ret))
def ir183:List IRes:=[.tmp 2]
theorem ie183:cmpFunc Tryz.prog ⟨[],[]⟩ Tryz.f260 [0,1,2] = some ic183:=by kernel_rfl
theorem ig183:cmpRes Tryz.prog Tryz.f260.results.toList = some ir183:=by kernel_rfl
def ic180:IC:=(.seq (rH [1] kGxIcD_1 [oX 1 (.box 73 (.t 0)),oX 2 (.move (.k (rB false)))]) (.seq (rG kGxIcD_1 [oR 3 4 1,
 oX 4 (.build [(.c (.v (.string (bs [])))),(.c (.v (.int .i8 0))),(.c (.v (.int .i64 0))),(.c (.v (.string (bs []))))] []),
 oX 5 (.eqs false [.s,.i .i8,.i .i64,.s] (.t 3) (.t 4)),oM 2 5]) .ret))
def ir180:List IRes:=[.tmp 2]
theorem ie180:cmpFunc Tryz.prog ⟨[],[]⟩ Tryz.f261 [0,1,2] = some ic180:=by kernel_rfl
theorem ig180:cmpRes Tryz.prog Tryz.f261.results.toList = some ir180:=by kernel_rfl
def ic130:IC:=(.seq (rH [1] kGxIcD_1 [oX 1 (.box 105 (.t 0)),oX 2 (.move (.k (rB false)))]) (.seq (rG kGxIcD_1 [oF 3 0 1,oL 4 3,
 oB 5 .eql (.t 4) (.k (rI .i8 0)),oM 6 5,oG 7 (.faddr 1 (.t 1)) 6 true,oG 8 (.load (some 4) (.t 7)) 6 true,oG 9 (.callp (.k (rF 261)) [(.t 8)]) 6 true,
 oQ 10 6 9,oM 11 10,oG 12 (.faddr 5 (.t 1)) 11 true,oG 13 (.load none (.t 12)) 11 true,oG 14 (.len (.t 13)) 11 true,oG 15 (.bin .eql (.t 14)
 (.k (rI .i64 0))) 11 true,oQ 16 11 15,oM 2 16]) .ret))
def ir130:List IRes:=[.tmp 2]
theorem ie130:cmpFunc Tryz.prog ⟨[],[]⟩ Tryz.f262 [0,1,2] = some ic130:=by kernel_rfl
theorem ig130:cmpRes Tryz.prog Tryz.f262.results.toList = some ir130:=by kernel_rfl
def ic158:IC:=(.seq (rH [2,3] kGxIcD_7 [oX 2 (.box 105 (.t 0)),oX 3 (.box 3 (.t 1)),oX 4 (.move (.k (rB false)))])
 (.seq (.seq (rG kGxIcD_7 [oL 5 3,oB 6 .eql (.t 5) (.k (rI .i64 0))]) (.cond (.t 6)
 (.seq (rG kGxIcD_7 [oX 4 (.move (.k (rB false)))]) .ret) .skip)) (.seq (.seq (rG kGxIcD_7 [oF 7 0 2,oL 8 7,
 oB 9 .eql (.t 8) (.k (rI .i8 0))]) (.cond (.t 9) (.seq (rG kGxIcD_7 [oF 10 5 2,oL 11 10,oN 12 11,oB 13 .eql (.t 12) (.k (rI .i64 0)),
 oM 14 13,oG 15 (.faddr 1 (.t 2)) 14 true,oG 16 (.load (some 4) (.t 15)) 14 true,oG 17 (.callp (.k (rF 260)) [(.t 16)]) 14 true,oQ 18 14 17,
 oM 4 18]) .ret) .skip)) (.seq (.seq (rG kGxIcD_7 [oF 19 1 2,oR 20 4 19,oC 21 261 [(.t 20)],oX 22 (.un .not (.t 21)),oM 23 22,
 oG 24 (.faddr 5 (.t 2)) 23 false,oG 25 (.load none (.t 24)) 23 false,oG 26 (.len (.t 25)) 23 false,oG 27 (.faddr 0 (.t 2)) 23 false,
 oG 28 (.load none (.t 27)) 23 false,oG 29 (.callp (.k (rF 316)) [(.t 28)]) 23 false,oG 30 (.bin .neq (.t 26) (.t 29)) 23 false,oP 31 23 30]) (.cond (.t 31)
 (.seq (rG kGxIcD_7 [oX 4 (.move (.k (rB false)))]) .ret) .skip)) (.seq (rG kGxIcD_7 [oF 32 5 2,oL 33 32,
 oX 34 (.clo 318 [] [(.t 3)]),oX 35 (.call (.k (rF 317)) [(.t 33),(.t 34)]),oX 36 (.un .not (.t 35)),oM 4 36]) .ret)))))
def ir158:List IRes:=[.tmp 4]
theorem ie158:cmpFunc Tryz.prog ⟨[(35,none)],[]⟩ Tryz.f278 [0,1,3,6,2,9,31,4] = some ic158:=by kernel_rfl
theorem ig158:cmpRes Tryz.prog Tryz.f278.results.toList = some ir158:=by kernel_rfl
def ic142l0:IC:=(.seq (.seq (rG kGxIcD_8 [oM 9 4,oM 10 0,oN 11 10,oB 12 .lss (.t 9) (.t 11)]) (.cond (.t 12) .skip (.exit 0)))
 (.seq (.block 1 (rG kGxIcD_8 [oM 15 3,oM 16 4,oM 17 0,oM 18 4,oA 19 6 17 18,oR 20 6 19,oC 21 244 [(.t 20)],oA 22 6 15 16,oS 6 22 21]))
 (rG kGxIcD_8 [oM 13 4,oB 14 .add (.t 13) (.k (rI .i64 1)),oM 4 14])))
def ic142:IC:=(.seq (rG kGxIcD_8 [oX 2 (.move (.k (.x (.one .nil))))]) (.seq (rH [8] kGxIcD_8 [oM 5 0,oN 6 5,oB 7 .add (.t 6)
 (.k (rI .i64 1)),
 oX 8 (.make 105 6 80 [(.c (.v (.int .i8 0))),(.c (.v (.string (bs [])))),(.c (.v (.int .i8 0))),(.c (.v (.int .i64 0))),(.c (.v (.string (bs [])))),.nil] (.t 7)
 (.t 7)),oM 3 8]) (.seq (.seq (rG kGxIcD_8 [oX 4 (.move (.k (rI .i64 0)))]) (.block 0 (.loop ic142l0)))
 (.seq (rG kGxIcD_8 [oM 23 3,oM 24 0,oN 25 24,oC 26 330 [(.k (rI .i64 777777))],oA 27 6 23 25,oS 6 27 26])
 (.seq (rG kGxIcD_8 [oM 28 3,oM 29 0,oN 30 29,oX 31 (.vsl 6 (.t 28) none (some (.t 30))),oM 2 31]) .ret)))))
def ir142:List IRes:=[.tmp 2]
theorem ie142:cmpFunc Tryz.prog ⟨[],[]⟩ Tryz.f291 [0,4,12,3,2] = some ic142:=by kernel_rfl
theorem ig142:cmpRes Tryz.prog Tryz.f291.results.toList = some ir142:=by kernel_rfl
def ic160:IC:=(.seq (rG kGxIcD_9 [oX 2 (.move (.k (rI .i64 0)))]) (.seq (.block 0 (.seq (rG kGxIcD_9 [oM 4 0,oB 5 .eql (.t 4)
 (.k (rI .i8 1)),oM 6 5,oG 7 (.move (.t 0)) 6 false,oG 8 (.bin .geq (.t 7) (.k (rI .i8 8))) 6 false,oG 9 (.move (.t 8)) 6 false,oG 10 (.move (.t 0)) 9 true,
 oG 11 (.bin .leq (.t 10) (.k (rI .i8 10))) 9 true,oG 12 (.pick (.t 9) (.t 11) (.k (rB false))) 6 false,oP 13 6 12,oM 3 13]) (.cond (.t 3)
 (.seq (rG kGxIcD_9 [oX 2 (.move (.k (rI .i64 1)))]) .ret) (.seq (rG kGxIcD_9 [oM 15 0,oB 16 .geq (.t 15) (.k (rI .i8 2)),oM 17 16,
 oG 18 (.move (.t 0)) 17 true,oG 19 (.bin .leq (.t 18) (.k (rI .i8 7))) 17 true,oQ 20 17 19,oM 14 20]) (.cond (.t 14)
 (.seq (rG kGxIcD_9 [oX 2 (.move (.k (rI .i64 2)))]) .ret) .skip))))) (.seq (rG kGxIcD_9 [oX 2 (.move (.k (rI .i64 (-1))))]) .ret)))
def ir160:List IRes:=[.tmp 2]
theorem ie160:cmpFunc Tryz.prog ⟨[],[]⟩ Tryz.f298 [0,3,14,2] = some ic160:=by kernel_rfl
theorem ig160:cmpRes Tryz.prog Tryz.f298.results.toList = some ir160:=by kernel_rfl
abbrev ks144 (t0 t1 t10 t5 t14 t26 t4:T) (O:List (Nat × Box)) (U:List (Nat × Fx.Tok)) (H:FHp):S:=st [(0,t0),(1,t1),(10,t10),(5,t5),(14,t14),(26,t26),(4,t4)] O U H
def ic144l0:IC:=(.seq (.seq (rG kGxIcD_10 [oM 11 5,oM 12 1,oN 13 12,oB 14 .lss (.t 11) (.t 13)]) (.cond (.t 14) .skip (.exit 0)))
 (.seq (.block 1 (.seq (rG kGxIcD_10 [oM 17 0,oM 18 5,oA 19 6 17 18,oR 20 6 19,oM 21 1,oM 22 5,oA 23 6 21 22,oR 24 6 23,
 oC 25 258 [(.t 20),(.t 24)],oX 26 (.un .not (.t 25))]) (.cond (.t 26) (.seq (rG kGxIcD_10 [oX 4 (.move (.k (rB false)))]) .ret) .skip)))
 (rG kGxIcD_10 [oM 15 5,oB 16 .add (.t 15) (.k (rI .i64 1)),oM 5 16])))
def ic144:IC:=(.seq (rG kGxIcD_10 [oX 4 (.move (.k (rB false)))]) (.seq (.seq (rG kGxIcD_10 [oM 6 0,oN 7 6,oM 8 1,
 oN 9 8,oB 10 .neq (.t 7) (.t 9)]) (.cond (.t 10) (.seq (rG kGxIcD_10 [oX 4 (.move (.k (rB false)))]) .ret) .skip))
 (.seq (.seq (rG kGxIcD_10 [oX 5 (.move (.k (rI .i64 0)))]) (.block 0 (.loop ic144l0))) (.seq (rG kGxIcD_10 [oM 27 0,
 oM 28 1,oN 29 28,oB 30 .add (.t 29) (.k (rI .i64 1)),oX 31 (.vsl 6 (.t 27) none (some (.t 30))),oM 32 1,oN 33 32,oA 34 6 31 33,oR 35 6 34,
 oC 36 334 [(.t 35),(.k (rI .i64 777777))],oM 4 36]) .ret))))
def ir144:List IRes:=[.tmp 4]
theorem ie144:cmpFunc Tryz.prog ⟨[],[]⟩ Tryz.f300 [0,1,10,5,14,26,4] = some ic144:=by kernel_rfl
theorem ig144:cmpRes Tryz.prog Tryz.f300.results.toList = some ir144:=by kernel_rfl
def ic204:IC:=(.seq (rG kGxIcD_11 [oX 2 (.move (.k (rI .i64 0)))]) (.seq (.seq (rG kGxIcD_11 [oM 3 0])
 (.block 0 (.seq (.seq (rG kGxIcD_11 [oB 5 .eql (.t 3) (.k (rI .i8 1)),oM 4 5])
 (.cond (.t 4) .skip (.seq (rG kGxIcD_11 [oB 6 .eql (.t 3) (.k (rI .i8 8)),oM 4 6])
 (.cond (.t 4) .skip (.seq (rG kGxIcD_11 [oB 7 .eql (.t 3) (.k (rI .i8 9)),oM 4 7])
 (.cond (.t 4) .skip (rG kGxIcD_11 [oB 8 .eql (.t 3) (.k (rI .i8 10)),oM 4 8]))))))) (.cond (.t 4)
 (.seq (rG kGxIcD_11 [oX 2 (.move (.k (rI .i64 1)))]) .ret) (.seq (.seq (rG kGxIcD_11 [oB 10 .eql (.t 3) (.k (rI .i8 2)),oM 9 10])
 (.cond (.t 9) .skip (.seq (rG kGxIcD_11 [oB 11 .eql (.t 3) (.k (rI .i8 3)),oM 9 11])
 (.cond (.t 9) .skip (.seq (rG kGxIcD_11 [oB 12 .eql (.t 3) (.k (rI .i8 4)),oM 9 12])
 (.cond (.t 9) .skip (.seq (rG kGxIcD_11 [oB 13 .eql (.t 3) (.k (rI .i8 5)),oM 9 13])
 (.cond (.t 9) .skip (.seq (rG kGxIcD_11 [oB 14 .eql (.t 3) (.k (rI .i8 6)),oM 9 14])
 (.cond (.t 9) .skip (rG kGxIcD_11 [oB 15 .eql (.t 3) (.k (rI .i8 7)),oM 9 15]))))))))))) (.cond (.t 9)
 (.seq (rG kGxIcD_11 [oX 2 (.move (.k (rI .i64 2)))]) .ret) .skip))))))
 (.seq (rG kGxIcD_11 [oX 2 (.move (.k (rI .i64 (-1))))]) .ret)))
def ir204:List IRes:=[.tmp 2]
theorem ie204:cmpFunc Tryz.prog ⟨[],[]⟩ Tryz.f316 [0,3,4,9,2] = some ic204:=by kernel_rfl
theorem ig204:cmpRes Tryz.prog Tryz.f316.results.toList = some ir204:=by kernel_rfl
def ic205:IC:=(.seq (rG kGxIcD_12 [oX 4 (.move (.k (rB false)))]) (.seq (rG kGxIcD_12 [oM 5 0,oM 6 1,
 oX 7 (.call (.k (rF 345)) [(.t 5),(.t 6)]),oB 8 .geq (.t 7) (.k (rI .i64 0)),oM 4 8]) .ret))
def ir205:List IRes:=[.tmp 4]
theorem ie205:cmpFunc Tryz.prog ⟨[(7,none)],[]⟩ Tryz.f317 [0,1,4] = some ic205:=by kernel_rfl
theorem ig205:cmpRes Tryz.prog Tryz.f317.results.toList = some ir205:=by kernel_rfl
def ic206:IC:=(.seq (rH [2] kGxIcD_13 [oX 2 (.box 105 (.t 0)),oX 3 (.move (.k (rB false)))]) (.seq (rG kGxIcD_13 [oR 4 6 2,oL 5 1,
 oB 6 .sub (.t 5) (.k (rI .i64 1)),oC 7 278 [(.t 4),(.t 6)],oX 8 (.un .not (.t 7)),oM 3 8]) .ret))
def ir206:List IRes:=[.tmp 3]
theorem ie206:cmpFunc Tryz.prog ⟨[],[]⟩ Tryz.f318 [0,2,1,3] = some ic206:=by kernel_rfl
theorem ig206:cmpRes Tryz.prog Tryz.f318.results.toList = some ir206:=by kernel_rfl
def ic189:IC:=(.seq (rH [2] kGxIcD_14 [oX 2 (.zero 105 [(.c (.v (.int .i8 0))),(.c (.v (.string (bs [])))),(.c (.v (.int .i8 0))),(.c (.v (.int .i64 0))),(.c (.v (.string (bs [])))),.nil])])
 (.seq (rG kGxIcD_14 [oM 3 0,oC 4 171 [(.t 3)],
 oX 5 (.build [(.c (.v (.string (bs [])))),(.c (.v (.int .i8 0))),(.c (.v (.int .i64 0))),(.c (.v (.string (bs []))))] [(0,1,(.t 4))]),
 oX 6 (.build [(.c (.v (.int .i8 0))),(.c (.v (.string (bs [])))),(.c (.v (.int .i8 0))),(.c (.v (.int .i64 0))),(.c (.v (.string (bs [])))),.nil] [(0,1,(.k (rI .i8 99))),(1,4,(.t 5))]),
 oS 6 2 6]) .ret))
def ir189:List IRes:=[.cell 2 (some 6)]
theorem ie189:cmpFunc Tryz.prog ⟨[],[]⟩ Tryz.f330 [0,2] = some ic189:=by kernel_rfl
theorem ig189:cmpRes Tryz.prog Tryz.f330.results.toList = some ir189:=by kernel_rfl
def ic190:IC:=(.seq (rH [2] kGxIcD_15 [oX 2 (.box 105 (.t 0)),oX 4 (.move (.k (rB false)))]) (.seq (rG kGxIcD_15 [oF 5 0 2,oL 6 5,
 oB 7 .eql (.t 6) (.k (rI .i8 99)),oM 8 7,oG 9 (.faddr 1 (.t 2)) 8 true,oG 10 (.load (some 4) (.t 9)) 8 true,oG 11 (.move (.t 1)) 8 true,
 oG 12 (.callp (.k (rF 171)) [(.t 11)]) 8 true,
 oG 13 (.build [(.c (.v (.string (bs [])))),(.c (.v (.int .i8 0))),(.c (.v (.int .i64 0))),(.c (.v (.string (bs []))))] [(0,1,(.t 12))]) 8 true,
 oG 14 (.eqs false [.s,.i .i8,.i .i64,.s] (.t 10) (.t 13)) 8 true,oQ 15 8 14,oM 16 15,oG 17 (.faddr 5 (.t 2)) 16 true,oG 18 (.load none (.t 17)) 16 true,
 oG 19 (.len (.t 18)) 16 true,oG 20 (.bin .eql (.t 19) (.k (rI .i64 0))) 16 true,oQ 21 16 20,oM 4 21]) .ret))
def ir190:List IRes:=[.tmp 4]
theorem ie190:cmpFunc Tryz.prog ⟨[],[]⟩ Tryz.f334 [0,2,1,4] = some ic190:=by kernel_rfl
theorem ig190:cmpRes Tryz.prog Tryz.f334.results.toList = some ir190:=by kernel_rfl
abbrev ks223 (t0 t8 t7 t9 t1 t5 t16 t4:T) (O:List (Nat × Box)) (U:List (Nat × Fx.Tok)) (H:FHp):S:=st [(0,t0),(8,t8),(7,t7),(9,t9),(1,t1),(5,t5),(16,t16),(4,t4)] O U H
def ic223l0:IC:=(.seq (rG kGxIcD_16 [oB 9 .lss (.t 8) (.t 7)]) (.seq (.cond (.t 9) .skip (.exit 0))
 (.seq (.block 1 (.seq (rG kGxIcD_16 [oM 10 8,oM 5 10]) (.seq (rG kGxIcD_16 [oM 11 1,oM 12 0,oM 13 5,oA 14 6 12 13,
 oR 15 6 14,oX 16 (.call (.t 11) [(.t 15)])]) (.cond (.t 16) (.seq (rG kGxIcD_16 [oM 17 5,oM 4 17]) .ret) .skip))))
 (rG kGxIcD_16 [oB 18 .add (.t 8) (.k (rI .i64 1)),oM 8 18]))))
def ic223:IC:=(.seq (rG kGxIcD_16 [oX 4 (.move (.k (rI .i64 0)))]) (.seq (.seq (rG kGxIcD_16 [oM 6 0,oN 7 6,
 oX 8 (.move (.k (rI .i64 0)))]) (.block 0 (.loop ic223l0))) (.seq (rG kGxIcD_16 [oX 4 (.move (.k (rI .i64 (-1))))]) .ret)))
def ir223:List IRes:=[.tmp 4]
theorem ie223:cmpFunc Tryz.prog ⟨[(16,none)],[]⟩ Tryz.f345 [0,8,7,9,1,5,16,4] = some ic223:=by kernel_rfl
theorem ig223:cmpRes Tryz.prog Tryz.f345.results.toList = some ir223:=by kernel_rfl
end Go.Proofs.YtiomojlcnemnhaaGreatDoor

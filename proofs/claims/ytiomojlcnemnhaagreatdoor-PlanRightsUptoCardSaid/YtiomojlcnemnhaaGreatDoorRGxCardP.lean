import Derived.Test.YtiomojlcnemnhaaGreatDoorRGxB2
import Derived.Test.YtiomojlcnemnhaaGreatDoorRGxLo
import Derived.Test.YtiomojlcnemnhaaGreatDoorRGxG8
import Derived.Test.YtiomojlcnemnhaaGreatDoorRGxId1
import Derived.Test.YtiomojlcnemnhaaGreatDoorRGxM8
import Derived.Test.YtiomojlcnemnhaaGreatDoorRGxIcD
import Derived.Test.YtiomojlcnemnhaaGreatDoorRGxY3
import Derived.Test.YtiomojlcnemnhaaGreatDoorRGxX11
import Derived.Test.YtiomojlcnemnhaaGreatDoorRFxWj
import Derived.Test.YtiomojlcnemnhaaGreatDoorRGxId3
import Derived.Test.YtiomojlcnemnhaaGreatDoorRGxFacts
namespace Go.Proofs.YtiomojlcnemnhaaGreatDoor
open Go.Fx Go.RowKit Go.Ped
abbrev stp1:Stp:=⟨2,1,1,[[77]]⟩
abbrev stp2:Stp:=⟨6,0,0,[[78]]⟩
theorem other_may:mayOf otherR [[88]] = 0:=by kernel_rfl
theorem other_make:makeOn otherR.body (-1) otherR.body.length (2 ^ otherR.body.length - 1) (learnOn [] [[88]]) = some [stp1,stp2]:=by kernel_rfl
theorem other_right:rightB otherR [stp1,stp2] [[88]] = true:=by kernel_rfl
theorem other_wrong:rightB otherR [stp1,stp2] [] = false:=by kernel_rfl
theorem other_bare:otherR.bareR = otherR:=by kernel_rfl
theorem ex_small_leaf (op:Int) (t:Tm):(Ex.mk op t [] []).small 1048576:=Ex.small_mk.2 ⟨by simp,by simp⟩
theorem other_small:otherR.small 1048576:=by
  refine ⟨by simp [otherR],by simp [otherR],fun x hx=>?_⟩
  have hx':x = setN∨x = atomE:=by simpa [otherR] using hx
  rcases hx' with rfl | rfl
  · refine ⟨by simp [setN],ex_small_leaf _ _,Ex.small_mk.2 ⟨by simp,fun k hk=>?_⟩⟩
    have hk':k = exT vM∨k = exT ⟨[],⟨1,1,[]⟩⟩:=by simpa using hk
    rcases hk' with rfl | rfl <;> exact ex_small_leaf _ _
  · exact ⟨by simp [atomE],ex_small_leaf _ _,ex_small_leaf _ _⟩
theorem other_terms:otherR.terms.length≤1048576:=by
  have h:otherR.terms.length = 10:=by kernel_rfl
  omega
theorem other_good:¬ badFirst otherR (-1):=by
  rintro (h | h | ⟨h,_⟩)
  · omega
  · have h2:otherR.body.length = 2:=rfl
    omega
  · omega
set_option maxRecDepth 100000 in
set_option maxHeartbeats 8000000 in
theorem m79:Meets Tryz.prog GB 56 [] (.x (.one (cB true))):=by
  have h152:=m152 (G:=GB)
  have h82:=m82 otherR [[88]] [] (-1) other_small other_terms (by show 1 + 2≤_; omega) (by simp) _ (.inr (.inr ⟨other_may,other_good,_,other_make,rfl⟩))
  have h78:=m78 (G:=GB) otherR ([stp1,stp2].map fun s=>(s,[])) [] [[88]] [] other_small other_terms (by show 1 + 2≤_; omega) (by simp) (by simp [maxLen])
  have h78':=m78 (G:=GB) otherR ([stp1,stp2].map fun s=>(s,[])) [] [] [] other_small other_terms (by show 0 + 2≤_; omega) (by simp) (by simp [maxLen])
  rw [show (([stp1,stp2].map fun s=>((s,[]):Stp × Sp)).map (·.1)) = [stp1,stp2] from rfl,other_right] at h78
  rw [show (([stp1,stp2].map fun s=>((s,[]):Stp × Sp)).map (·.1)) = [stp1,stp2] from rfl,other_wrong] at h78'
  unfold madeRow at h82
  rw [other_bare] at h82
  have hrow:otherR.row = [cS (bs otherR.p),.sl (otherR.head.map Arg.row) otherR.hsp,.sl (otherR.body.map Lit.row) otherR.bsp]:=rfl
  rw [hrow] at h152 h82
  unfold planRow at h82 h78 h78'
  generalize otherR = r at *
  have hs1:(([stp1,stp2].map fun s=>((s,[]):Stp × Sp)).map srow) = [[cI .i8 2,cI .i64 1,cI .u32 1,.sl [nmRow [77]] []],[cI .i8 6,cI .i64 0,cI .u32 0,.sl [nmRow [78]] []]]:=rfl
  rw [hs1] at h82 h78 h78'
  refine meets Tryz.func56 ie79 ig79 (Nat.le_of_ble_eq_true rfl) ?_
  simp [ic79,ir79]
  refine call_of h152 ?_
  simp
  refine call_of h82 ?_
  simp
  refine k_rowg (g:=true) rfl rfl rfl (by simp) ?_
  simp
  refine call_of h78 ?_
  simp
  refine call_of h78' ?_
  simp
end Go.Proofs.YtiomojlcnemnhaaGreatDoor

namespace Go.Proofs.YtiomojlcnemnhaaGreatDoor
open Go.Fx Go.RowKit Go.Ped
variable {G:World→Prop}
abbrev wMark:Name:=markW 777777
theorem m2144:Meets Tryz.prog GT 144 [.one (cI .i64 777777)] (.x (.one (cS (bs wMark)))):=by
  refine meets Tryz.func144 ie2144 ig2144 (Nat.le_of_ble_eq_true rfl) ?_
  simp [ic2144,ir2144]
  refine call_of (m172 777777 (by omega) (by omega) itoa777) ?_
  simp
theorem m2156:Meets Tryz.prog GT 156 [.one (cS (bs wMark)),.one (cI .i64 777777)] (.x (.one (cB true))):=by
  refine meets Tryz.func156 ie2156 ig2156 (Nat.le_of_ble_eq_true rfl) ?_
  simp [ic2156,ir2156]
  refine call_of (m172 777777 (by omega) (by omega) itoa777) ?_
  simp
theorem m2051 (l:List Name) (sp:Sp) (hl:l.length≤1048576):Meets Tryz.prog GT 51 [.one (.sl (l.map nmRow) sp)] (.x (.one (.sl (l.map nmRow) [nmRow wMark]))):=by
  refine meetsF [8] Tryz.func51 ie2051 ig2051 (Nat.le_of_ble_eq_true rfl) ?_
  have hw:IntKind.i64.wrap ((l.length:Int) + 1) = (l.length:Int) + 1:=by rw [Go.IntWalk.i64_in _ (by omega)]
  have hn1:((l.length:Int) + 1).toNat = l.length + 1:=by omega
  have h144:=m2144
  generalize wMark = W at *
  simp [ic2051,ir2051,hw]
  refine makeS_of (by omega) (by omega) (by unfold maxLen; omega) (by unfold maxBytes; omega) rfl ?_
  simp [hn1]
  refine w_loopA [] [] [0,3,4] (by simp)
    (fun i:Nat=>st [(0,.k true (.x (.one (.c (.sl (l.map nmRow) sp))))),(3,.k true (.x (.one (.arr 8 0 (l.length + 1) (l.length + 1))))),(4,tI .i64 i)] [(8,⟨9,1,midR nmRow l [.c (.v (.string (bs [])))] i,none⟩)] [] F0) (fun i=>l.length - i)
    (fun i=>i≤l.length) 0 (by simp [midR]) (Nat.zero_le _) ?_
  rintro i K hK hi
  obtain hlt | hge:=Nat.lt_or_ge i l.length
  · have g1:=midR_length nmRow l [.c (.v (.string (bs [])))] (Nat.le_of_lt hlt)
    have g2:(midR nmRow l [.c (.v (.string (bs [])))] i)[i]?.getD [] = [.c (.v (.string (bs [])))]:=by simpa using midR_getD nmRow l [.c (.v (.string (bs [])))] (Nat.le_of_lt hlt)
    have g3:=midR_set nmRow l [.c (.v (.string (bs [])))] hlt
    simp [ic2051l0,hlt,g1,g2]
    refine ⟨by omega,by omega,?_⟩
    simp (disch:=omega) only [wrap64]
    exact hK (i + 1) _ (by simp [← g3]) (by omega) (by omega)
  · obtain rfl:i = l.length:=by omega
    have g1:=midR_length nmRow l [.c (.v (.string (bs [])))] (Nat.le_refl l.length)
    have g2:(midR nmRow l [.c (.v (.string (bs [])))] l.length)[l.length]?.getD [] = [.c (.v (.string (bs [])))]:=by simpa using midR_getD nmRow l [.c (.v (.string (bs [])))] (Nat.le_refl l.length)
    have g3:=midR_last nmRow l [.c (.v (.string (bs [])))] (nmRow W)
    simp [ic2051l0]
    refine call_of h144 ?_
    have g2':∀ h,(midR nmRow l [.c (.v (.string (bs [])))] l.length)[l.length]'h = [.c (.v (.string (bs [])))]:=fun h=>by have g:=g2; rw [List.getElem?_eq_getElem h] at g; exact g
    have g3':(midR nmRow l [.c (.v (.string (bs [])))] l.length).set l.length [.c (cS (bs W))] = (l.map nmRow++[nmRow W]).map fun r=>r.map A.c:=g3
    simp [g1,g2',g3']
    refine ⟨by omega,by omega,?_⟩
    have hrows:List.map ((fun r=>List.map A.c r) ∘ nmRow) l++[[.c (cS (bs W))]] = (l.map nmRow++[nmRow W]).map fun r=>r.map A.c:=by simp
    have hB:fzL [(8,(⟨9,1,(l.map nmRow++[nmRow W]).map fun r=>r.map A.c,none⟩:Box))] [8] = [(8,l.map nmRow++[nmRow W])]:=by
      have hlen:((l.map nmRow++[nmRow W]).map fun r=>r.map A.c).length≤maxLen:=by simp; unfold maxLen; omega
      simp only [fzL,lookO_cons,if_true]
      rw [if_pos (by omega),if_pos ⟨trivial,hlen⟩,closeLL_c]
    rw [hrows,freeze_st,hB]
    simp [freezeO,ret_one]
theorem m2055 (l:List Name) (sp:Sp) (hl:l.length≤1048576):Meets Tryz.prog GT 55 [.one (.sl (l.map nmRow) [nmRow wMark]),.one (.sl (l.map nmRow) sp)] (.x (.one (cB true))):=by
  have h155:=m45 (G:=GT) l l [nmRow wMark] sp (by unfold maxLen; omega)
  have h156:=m2156
  generalize wMark = W at *
  refine meets Tryz.func55 ie2055 ig2055 (Nat.le_of_ble_eq_true rfl) ?_
  simp [ic2055,ir2055]
  refine call_of h155 ?_
  have hw:IntKind.i64.wrap ((l.length:Int) + 1) = (l.length:Int) + 1:=by rw [Go.IntWalk.i64_in _ (by omega)]
  simp [hw]
  refine ⟨⟨by omega,?_⟩,by omega,?_⟩
  · rintro e (⟨a,_,rfl⟩ | rfl) <;> rfl
  refine call_of h156 ?_
  simp
def twS (x:Stp × Sp):Stp × Sp:=(x.1,[nmRow wMark])
theorem srow_len (x:Stp × Sp):(srow x).length = 4:=rfl
def markS:List C:=[cI .i8 0,cI .i64 (-777777),cI .u32 0,.sl [] []]
theorem m2223 (x:Stp × Sp) (hl:x.1.gives.length≤1048576):Meets Tryz.prog GT 223 [.agg (srow x)] (.x (.agg (srow (twS x)))):=by
  have h51:=m2051 x.1.gives x.2 hl
  refine meets Tryz.func223 ie2223 ig2223 (Nat.le_of_ble_eq_true rfl) ?_
  obtain ⟨⟨k,n,m,g⟩,q⟩:=x
  simp only [srow,Stp.row,twS] at h51 ⊢
  simp [ic2223,ir2223]
  refine call_of h51 ?_
  simp
theorem m2224:Meets Tryz.prog G 224 [.one (cI .i64 777777)] (.x (.agg markS)):=by
  refine meets Tryz.func224 ie2224 ig2224 (Nat.le_of_ble_eq_true rfl) ?_
  simp [ic2224,ir2224,markS]
  decide
theorem m2240:Meets Tryz.prog G 240 [.agg markS,.one (cI .i64 777777)] (.x (.one (cB true))):=by
  refine meets Tryz.func240 ie2240 ig2240 (Nat.le_of_ble_eq_true rfl) ?_
  simp [ic2240,ir2240,markS]
  decide
theorem m2239 (x:Stp × Sp) (hl:x.1.gives.length≤1048576):Meets Tryz.prog GT 239 [.agg (srow (twS x)),.agg (srow x)] (.x (.one (cB true))):=by
  have h55:=m2055 x.1.gives x.2 hl
  refine meets Tryz.func239 ie2239 ig2239 (Nat.le_of_ble_eq_true rfl) ?_
  obtain ⟨⟨k,n,m,g⟩,q⟩:=x
  simp only [srow,Stp.row,twS] at h55 ⊢
  simp [ic2239,ir2239]
  refine call_of h55 ?_
  simp
theorem m2154 (steps:List (Stp × Sp)) (ssp:Sp) (hn:steps.length≤1048576) (hl:∀ x∈steps,x.1.gives.length≤1048576):Meets Tryz.prog GT 154 [.one (.sl ((steps.map twS).map srow) [markS]),.one (.sl (steps.map srow) ssp)] (.x (.one (cB true))):=by
  have h240:=m2240 (G:=GT)
  refine meets Tryz.func154 ie2154 ig2154 (Nat.le_of_ble_eq_true rfl) ?_
  simp [ic2154,ir2154]
  refine w_loopA [] [] [0,1,5] (by simp)
    (fun i:Nat=>st [(0,.k true (.x (.one (.c (.sl (steps.map (srow ∘ twS)) [markS]))))),(1,.k true (.x (.one (.c (.sl (steps.map srow) ssp))))),(5,tI .i64 i)] [] [] F0) (fun i=>steps.length - i) (fun i=>i≤steps.length) 0 (by simp) (by simp) ?_
  rintro i K hK hi
  obtain hlt | hge:=Nat.lt_or_ge i steps.length
  · have h239:=m2239 steps[i] (hl _ (List.getElem_mem hlt))
    simp [ic2154l0,hlt,srow_len]
    have t1:List.take 4 (List.map A.c (srow (twS steps[i]))) = List.map A.c (srow (twS steps[i])):=rfl
    have t2:List.take 4 (List.map A.c (srow steps[i])) = List.map A.c (srow steps[i]):=rfl
    rw [t1,t2]
    simp
    refine call_of h239 ?_
    simp
    simp (disch:=omega) only [wrap64]
    exact hK (i + 1) _ (by simp) (by omega) (by omega)
  · simp [ic2154l0,Nat.not_lt.mpr hge]
    simp (disch:=omega) [wrap64]
    have t1:List.take 4 (List.map A.c markS) = List.map A.c markS:=rfl
    refine ⟨⟨by omega,?_⟩,rfl,Nat.le_refl 4,?_⟩
    · rintro e (⟨a,b,_,rfl⟩ | rfl) <;> rfl
    rw [t1]
    simp
    refine call_of h240 ?_
    simp
theorem onlyC {p q:Nat→Prop}:∀ l:List C,onlyL p q (l.map A.c)
  | []=>trivial
  | _ :: l=>⟨trivial,onlyC l⟩
abbrev twRows (steps:List (Stp × Sp)):List (List C):=(steps.map twS).map srow++[markS]
abbrev zS:List A:=[.c (.v (.int .i8 0)),.c (.v (.int .i64 0)),.c (.v (.int .u32 0)),.nil]
set_option maxHeartbeats 2000000 in
theorem m2143 (steps:List (Stp × Sp)) (ssp:Sp) (hn:steps.length≤1048576) (hl:∀ x∈steps,x.1.gives.length≤1048576) :
    MeetsH Tryz.prog GT 143 [.one (.c (.sl (steps.map srow) ssp))] (hp [] [] F0) (.x (.one (.arr 8 0 steps.length (steps.length + 1)))) (hp [(8,⟨90,4,(twRows steps).map fun r=>r.map A.c,none⟩)] [] F0):=by
  have h224:=m2224 (G:=GT)
  have hw:IntKind.i64.wrap ((steps.length:Int) + 1) = (steps.length:Int) + 1:=by rw [Go.IntWalk.i64_in _ (by omega)]
  have hn1:((steps.length:Int) + 1).toNat = steps.length + 1:=by omega
  refine meetsH [] Tryz.func143 ie2143 ig2143 (Nat.le_of_ble_eq_true rfl) (by simp) (by simp) (by simp) (by simp) (by simp) (sameKeys_refl F0) (by simp; rintro r (⟨a,b,_,rfl⟩ | rfl) <;> exact onlyC _) (by simp) ?_
  simp [ic2143,ir2143,hw]
  refine makeS_of (by omega) (by omega) (by unfold maxLen; omega) (by unfold maxBytes; omega) rfl ?_
  simp [hn1]
  refine w_loopA [] [] [0,3,4] (by simp)
    (fun i:Nat=>st [(0,.k true (.x (.one (.c (.sl (steps.map srow) ssp))))),(3,.k true (.x (.one (.arr 8 0 (steps.length + 1) (steps.length + 1))))),(4,tI .i64 i)] [(8,⟨90,4,midR (srow ∘ twS) steps zS i,none⟩)] [] F0) (fun i=>steps.length - i)
    (fun i=>i≤steps.length) 0 (by simp [midR]) (Nat.zero_le _) ?_
  rintro i K hK hi
  obtain hlt | hge:=Nat.lt_or_ge i steps.length
  · have h223:=m2223 steps[i] (hl _ (List.getElem_mem hlt))
    have g1:=midR_length (srow ∘ twS) steps zS (Nat.le_of_lt hlt)
    have g2:(midR (srow ∘ twS) steps zS i)[i]?.getD [] = zS:=by simpa using midR_getD (srow ∘ twS) steps zS (Nat.le_of_lt hlt)
    have g3:=midR_set (srow ∘ twS) steps zS hlt
    have t2:List.take 4 (List.map A.c (srow steps[i])) = List.map A.c (srow steps[i]):=rfl
    simp [ic2143l0,hlt,srow_len]
    rw [t2]
    simp
    refine call_of h223 ?_
    simp [g1,g2,srow_len]
    refine ⟨by omega,by omega,?_⟩
    simp (disch:=omega) only [wrap64]
    exact hK (i + 1) _ (by simp [← g3]) (by omega) (by omega)
  · obtain rfl:i = steps.length:=by omega
    have g1:=midR_length (srow ∘ twS) steps zS (Nat.le_refl steps.length)
    have g2:(midR (srow ∘ twS) steps zS steps.length)[steps.length]?.getD [] = zS:=by simpa using midR_getD (srow ∘ twS) steps zS (Nat.le_refl steps.length)
    have g2':∀ h,(midR (srow ∘ twS) steps zS steps.length)[steps.length]'h = zS:=fun h=>by have g:=g2; rw [List.getElem?_eq_getElem h] at g; exact g
    have g3:=midR_last (srow ∘ twS) steps zS markS
    simp [ic2143l0]
    refine call_of h224 ?_
    simp [g1,g2']
    refine ⟨by omega,⟨Nat.le_refl 4,rfl⟩,by omega,?_⟩
    have e:(midR (srow ∘ twS) steps zS steps.length).set steps.length (List.map A.c markS++List.drop markS.length zS) = List.map ((fun r=>List.map A.c r) ∘ srow ∘ twS) steps++[List.map A.c markS]:=by
      rw [show List.map A.c markS++List.drop markS.length zS = List.map A.c markS from List.append_nil _,g3]
      simp
    rw [e]
    exact ret_st (by simp) (by simp) (by simp) (by simp) (by simp) (by simp)
abbrev stBox (rows:List (List C)):Box:=⟨90,4,rows.map fun r=>r.map A.c,none⟩
theorem v2143 (k:Nat) (hk:k < 10000) (h8:k≠8) (steps:List (Stp × Sp)) (ssp:Sp) (hn:steps.length≤1048576) (hl:∀ x∈steps,x.1.gives.length≤1048576) :
    MeetsV Tryz.prog GT (fnA 143) [.one (.c (.sl (steps.map srow) ssp))] (hp [] [] F0) (.x (.one (.arr k 0 steps.length (steps.length + 1)))) (hp [(k,stBox (twRows steps))] [] F0):=by
  have h0:=m2143 steps ssp hn hl
  generalize twRows steps = W at *
  have h:=(MeetsV.of_fun h0).ren (π:=swR 8 k)
  have e:List.map (renL (swF 8 k) ∘ fun r:List C=>List.map A.c r) W = W.map fun r=>r.map A.c:=List.map_congr_left fun r _=>by simp
  simp [swF] at h
  rw [e] at h
  exact h
theorem m2050 (r:Rule) (steps:List (Stp × Sp)) (ssp:Sp) (hr:r.small 1048576) (hn:steps.length≤1048576) (hl:∀ x∈steps,x.1.gives.length≤1048576) :
    MeetsH Tryz.prog GT 50 [.agg ((planRow r steps ssp).map A.c)] (hp [] [] F0) (.x (.agg (r.tw.row.map A.c++[.arr 5008 0 steps.length (steps.length + 1)]))) (hp [(5008,stBox (twRows steps))] [] F0):=by
  have h63:=m63 r hr
  have h143:=v2143 5008 (by omega) (by omega) steps ssp hn hl
  refine meetsH [] Tryz.func50 ie2050 ig2050 (Nat.le_of_ble_eq_true rfl) (by simp) (by simp) (by simp) (by simp) (by simp) (sameKeys_refl F0) (by simp; rintro r (⟨a,b,_,rfl⟩ | rfl) <;> exact onlyC _) (by
    rw [Rule.tw_row]; simp) ?_
  rw [Rule.tw_row] at h63 ⊢
  simp only [Rule.row] at h63
  generalize (r.body.map Lit.tw).map Lit.row = B at *
  generalize twRows steps = W at *
  simp [ic2050,ir2050]
  refine call_of h63 ?_
  simp
  refine r_callW _ _ [] [] _ [(5008,stBox W)] [] h143 rfl rfl rfl (by simp [X.fits,A.fits]) (by simp) ?_
  simp
  exact ret_st (by simp) (by simp) (by simp) (by simp) (by simp) (by simp)
theorem m2054 (r:Rule) (steps:List (Stp × Sp)) (ssp:Sp) (hr:r.small 1048576) (hn:steps.length≤1048576) (hl:∀ x∈steps,x.1.gives.length≤1048576) :
    Meets Tryz.prog GT 54 [.agg (r.tw.row++[.sl ((steps.map twS).map srow) [markS]]),.agg (planRow r steps ssp)] (.x (.one (cB true))):=by
  have h70:=m70 r hr
  have h154:=m2154 steps ssp hn hl
  rw [Rule.tw_row] at h70 ⊢
  simp only [Rule.row] at h70
  refine meets Tryz.func54 ie2054 ig2054 (Nat.le_of_ble_eq_true rfl) ?_
  generalize (r.body.map Lit.tw).map Lit.row = B at *
  generalize (steps.map twS).map srow = W at *
  simp [ic2054,ir2054]
  refine call_of h70 ?_
  simp
  refine call_of h154 ?_
  simp
end Go.Proofs.YtiomojlcnemnhaaGreatDoor

namespace Go.Proofs.YtiomojlcnemnhaaGreatDoor
open Go.Fx Go.RowKit Go.Ped
theorem bare_twin (mk:List C):∀ e:Ex,e.bare.twin mk = e.twin mk:=by
  refine Ex.ind fun op t kids sp ih=>?_
  rw [Ex.bare_mk,Ex.twin_mk,Ex.twin_mk,List.map_map]
  congr 1
  exact List.map_congr_left fun k hk=>ih k hk
theorem bareL_tw (x:Lit):x.bareL.tw = x.tw:=by
  unfold Lit.bareL
  show Lit.twin _ _ _ = Lit.twin _ _ _
  unfold Lit.twin
  simp only [bare_twin]
theorem bareR_tw (r:Rule):r.bareR.tw = r.tw:=by
  show (⟨r.p,r.head,_,(r.body.map Lit.bareL).map Lit.tw,_⟩:Rule) = ⟨r.p,r.head,_,r.body.map Lit.tw,_⟩
  rw [List.map_map]
  congr 1
  exact List.map_congr_left fun x _=>bareL_tw x
theorem may_bare (r:Rule) (ks:List Name):mayOf r.bareR ks = mayOf r ks:=by
  have h1:ruleOk r.bareR = ruleOk r:=by rw [← ruleOk_tw r.bareR,bareR_tw,ruleOk_tw]
  have h2:limitsOf (r.bareR.body++ks.map knLit) = limitsOf (r.body++ks.map knLit):=by
    rw [← limitsOf_tw,← limitsOf_tw (r.body++ks.map knLit),List.map_append,List.map_append]
    congr 2
    show (r.body.map Lit.bareL).map Lit.tw = _
    rw [List.map_map]
    exact List.map_congr_left fun x _=>bareL_tw x
  unfold mayOf mayIn
  rw [h1,h2,bareR_terms]
theorem rightOn_bare (body:List Lit):∀ (l:List Stp) (m:Nat) (ns:List Name),rightOn (body.map Lit.bareL) m ns l = rightOn body m ns l
  | [],m,ns=>rfl
  | s :: l,m,ns=>by
    rw [rightOn,rightOn,List.length_map,List.getElem?_map]
    cases body[s.lit.toNat]? with
    | none=>rfl
    | some x =>
      simp only [Option.map_some,stepOf_bare,rightOn_bare body l]
theorem rightB_bare (r:Rule) (l:List Stp) (ks:List Name):rightB r.bareR l ks = rightB r l ks:=by
  unfold rightB
  rw [may_bare]
  show (if mayOf r ks = 0 then rightOn (r.body.map Lit.bareL) (2 ^ (r.body.map Lit.bareL).length - 1) (learnOn [] ks) l else false) = _
  rw [List.length_map,rightOn_bare]
theorem twin_bare (mk:List C):∀ e:Ex,(e.twin mk).bare = e.bare:=by
  refine Ex.ind fun op t kids sp ih=>?_
  rw [Ex.bare_mk,Ex.twin_mk,Ex.bare_mk,List.map_map]
  congr 1
  exact List.map_congr_left fun k hk=>ih k hk
theorem tw_bareL (x:Lit):x.tw.bareL = x.bareL:=by
  show Lit.bareL (Lit.twin _ _ _) = _
  unfold Lit.twin Lit.bareL
  simp only [twin_bare]
theorem tw_bareR (r:Rule):r.tw.bareR = r.bareR:=by
  unfold Rule.bareR Rule.tw
  simp only [List.map_map]
  congr 1
  exact List.map_congr_left fun x _=>tw_bareL x
theorem rightB_tw (r:Rule) (l:List Stp) (ks:List Name):rightB r.tw l ks = rightB r l ks:=by rw [← rightB_bare r.tw,tw_bareR,rightB_bare]
theorem twS_fst (l:List (Stp × Sp)):(l.map twS).map (·.1) = l.map (·.1):=by rw [List.map_map]; rfl
def Swapped {α:Type} (l E:List α) (i:Nat):Prop:=E.length = l.length∧∀ j,j < l.length→E[j]? = if j < i∨l.length≤j + i then l.reverse[j]? else l[j]?
theorem Swapped.start {α:Type} (l:List α):Swapped l l 0:=⟨rfl,fun j hj=>by rw [if_neg (by omega)]⟩
theorem Swapped.next {α:Type} {l E:List α} {i:Nat} (h:Swapped l E i) (hi:i < l.length / 2) (a b:α) (ha:E[i]? = some a) (hb:E[l.length - 1 - i]? = some b):Swapped l ((E.set i b).set (l.length - 1 - i) a) (i + 1):=by
  obtain ⟨hl,hE⟩:=h
  have e1:=hE i (by omega)
  have e2:=hE (l.length - 1 - i) (by omega)
  rw [if_neg (by omega),ha] at e1
  rw [if_neg (by omega),hb] at e2
  refine ⟨by simp [hl],fun j hj=>?_⟩
  rw [List.getElem?_set,List.getElem?_set,List.length_set,hl]
  have hrev:l.reverse[j]? = l[l.length - 1 - j]?:=List.getElem?_reverse (by simpa using hj)
  by_cases h1:l.length - 1 - i = j
  · rw [if_pos h1,if_pos (show l.length - 1 - i < l.length by omega),if_pos (by omega),hrev,e1]
    congr 1
    omega
  · rw [if_neg h1]
    by_cases h2:i = j
    · subst h2
      rw [if_pos rfl,if_pos hj,if_pos (by omega),hrev,e2]
    · rw [if_neg h2,hE j hj]
      by_cases h3:j < i∨l.length≤j + i
      · rw [if_pos h3,if_pos (by omega)]
      · rw [if_neg h3,if_neg (by omega)]
theorem Swapped.done {α:Type} {l E:List α} {i:Nat} (h:Swapped l E i) (hi:l.length / 2≤i):E = l.reverse:=by
  obtain ⟨hl,hE⟩:=h
  refine List.ext_getElem? fun j=>?_
  by_cases hj:j < l.length
  · rw [hE j hj]
    split
    · rfl
    · rw [List.getElem?_reverse hj]
      congr 1
      omega
  · rw [List.getElem?_eq_none (by omega),List.getElem?_eq_none (by rw [List.length_reverse]; omega)]
end Go.Proofs.YtiomojlcnemnhaaGreatDoor

namespace Go.Proofs.YtiomojlcnemnhaaGreatDoor
open Go.Fx Go.RowKit Go.Ped
variable {G:World→Prop}
theorem r_callN {P:Program} {L:List (Nat × T)} {O:List (Nat × Box)} {U:List (Nat × Fx.Tok)} {l:List IOper} {K:S→Prop} {d:Nat} {f:D} {args:List D} {gd:Option (Nat × Bool)} (ks:List Nat) (fv:A) (xs:List X) (O1:List (Nat × Box)) (res:R) (hm:MeetsV P G fv xs (hp O1 [] F0) res (hp O1 [] F0))
    (hg:guardO (st L O U F0) gd = some true) (hf:f.val (st L O U F0) = .k true (.x (.one fv))) (ha:(args.all fun d=>(d.val (st L O U F0)).g) = true) (hx:fitsR (args.map fun d=>(d.val (st L O U F0)).r) xs)
    (h1:∀ p∈O1,lookO O p.1 = some p.2∧p.1 < 15000) (hO:∀ p∈O,p.1 < 15000) (hU:∀ p∈U,p.1 < 15000) (hk:∀ p∈O1,p.1∈ks)
    (h:runK P G l (st ((d,.k true res) :: L) (updsO O1 O) U F0) K):runK P G (⟨some d,.call f args,gd,some ks⟩ :: l) (st L O U F0) K:=by
  have hs:=sameKeys_refl F0
  have h3:∀ p∈O1,lookO O1 p.1≠none:=fun p hp e=>by
    have:∀ (O1:List (Nat × Box)),p∈O1→lookO O1 p.1≠none:=by
      intro O1
      induction O1 with
      | nil=>intro h; cases h
      | cons q O1 ih =>
        intro h
        obtain ⟨d,b⟩:=q
        rw [lookO_cons]
        split
        · simp
        · rename_i hne
          rcases List.mem_cons.1 h with rfl | h
          · exact absurd rfl hne
          · exact ih h
    exact this O1 hp e
  have e:=over_st (L:=L) (O:=O) (U:=U) (H:=F0) (O2:=O1) (U2:=[]) (H2:=F0) hO hU (fun k hk=>fun e=>hk ((hs.1 k).1.2 e)) (fun k hk=>fun e=>hk ((hs.1 k).2.2 e))
  exact ⟨_,⟨trivial,true,hg,fv,xs,true,_,res,_,fun _=>⟨ha,hx,hf,hm,lends_st h1 (fun _ h=>by cases h) hO hU h3 (fun _ h=>by cases h) (fun p hp e=>absurd e (h3 p hp)) (fun _ h=>by cases h) (fun k hk=>fun e=>hk ((hs.1 k).1.2 e)) (fun k hk=>fun e=>hk ((hs.1 k).2.2 e)) (fun k hk=>fun e=>hk ((hs.1 k).1.1 e)) (fun k hk=>fun e=>hk ((hs.1 k).2.1 e)) hs.2,by
    have key:∀ k,(hp O1 [] F0).objs k≠none→k∈ks:=fun k hn=>by
      cases hb:lookO O1 k with
      | none=>exact absurd (show (hp O1 [] F0).objs k = none by show (lookO O1 k).or none = none; rw [hb]; rfl) hn
      | some b=>exact hk _ (lookO_mem hb)
    intro k h
    rcases h with h | h | h | h
    · exact key k h
    · exact absurd rfl h
    · exact key k h
    · exact absurd rfl h⟩,rfl⟩,by simpa only [if_true,e,put_st] using (show runK P G l (st ((d,.k true res) :: L) (updsO O1 O) (updsT [] U) F0) K from h)⟩
abbrev GS:World→Prop:=fun w=>GB w∧GT w
theorem Meets.imp {P:Program} {G G':World→Prop} {f:FuncId} {cs:List CX} {res:CR} (hi:∀ w,G' w→G w) (h:Meets P G f cs res):Meets P G' f cs res :=
  ⟨h.1,fun w V vs hG hV ha=>h.2 w V vs (fun w' hb=>hi w' (hG w' hb)) hV ha⟩
theorem MeetsV.imp {P:Program} {G G':World→Prop} {fv:A} {xs:List X} {h h':Hp} {res:R} (hi:∀ w,G' w→G w) (m:MeetsV P G fv xs h res h'):MeetsV P G' fv xs h res h' :=
  ⟨m.1,m.2.1,m.2.2.1,fun w env F v vs hG=>m.2.2.2 w env F v vs (fun w' hb=>hi w' (hG w' hb))⟩
theorem inT {f:FuncId} {cs:List CX} {res:CR} (h:Meets Tryz.prog GT f cs res):Meets Tryz.prog GS f cs res:=Meets.imp (fun _ h=>h.2) h
theorem inB {f:FuncId} {cs:List CX} {res:CR} (h:Meets Tryz.prog GB f cs res):Meets Tryz.prog GS f cs res:=Meets.imp (fun _ h=>h.1) h
def sB (E:List (Stp × Sp)):List (List A):=(E.map srow++[markS]).map fun r=>r.map A.c
theorem sB_len (E:List (Stp × Sp)):(sB E).length = E.length + 1:=by simp [sB]
theorem sB_get (E:List (Stp × Sp)) {j:Nat} (h:j < E.length):(sB E)[j]?.getD [] = (srow E[j]).map A.c:=by
  unfold sB
  rw [List.getElem?_map,List.getElem?_append_left (by simpa using h),List.getElem?_map,List.getElem?_eq_getElem h]
  rfl
theorem sB_set (E:List (Stp × Sp)) {j:Nat} (h:j < E.length) (x:Stp × Sp):(sB E).set j ((srow x).map A.c) = sB (E.set j x):=by
  unfold sB
  rw [List.map_append,List.map_append,List.set_append_left _ _ (by simpa using h),List.map_set,List.map_set]
theorem sB_close (E:List (Stp × Sp)):closeLL (sB E) = some (E.map srow++[markS]):=closeLL_c _
abbrev twC (r:Rule):List C:=[cS (bs r.p),.sl (r.head.map Arg.row) [argMark.row],.sl ((r.body.map Lit.tw).map Lit.row) [litMark.row]]
theorem v2050 (r:Rule) (steps:List (Stp × Sp)) (ssp:Sp) (hr:r.small 1048576) (hn:steps.length≤1048576) (hl:∀ x∈steps,x.1.gives.length≤1048576) :
    MeetsV Tryz.prog GS (fnA 50) [.agg ((planRow r steps ssp).map A.c)] (hp [] [] F0) (.x (.agg ((twC r).map A.c++[.arr 5008 0 steps.length (steps.length + 1)]))) (hp [(5008,⟨90,4,sB (steps.map twS),none⟩)] [] F0) :=
  MeetsV.imp (fun _ h=>h.2) (MeetsV.of_fun (m2050 r steps ssp hr hn hl))
theorem v2050' (r:Rule) (steps:List (Stp × Sp)) (ssp:Sp) (hr:r.small 1048576) (hn:steps.length≤1048576) (hl:∀ x∈steps,x.1.gives.length≤1048576) :
    MeetsV Tryz.prog GS (fnA 50) [.agg ((planRow r steps ssp).map A.c)] (hp [] [] F0) (.x (.agg ((twC r).map A.c++[.arr 5009 0 steps.length (steps.length + 1)]))) (hp [(5009,⟨90,4,sB (steps.map twS),none⟩)] [] F0):=by
  have h:=(v2050 r steps ssp hr hn hl).ren (π:=swR 5008 5009)
  have e:List.map (renL (swF 5008 5009)) (sB (steps.map twS)) = sB (steps.map twS):=by
    unfold sB
    rw [List.map_map]
    exact List.map_congr_left fun r _=>by simp
  generalize sB (steps.map twS) = W at *
  generalize (r.body.map Lit.tw).map Lit.row = B at *
  simp [swF] at h
  rw [e] at h
  simpa using h
theorem v52 (r:Rule) (steps:List (Stp × Sp)) (ks:List Name) (hr:r.small 1048576) (hle:r.terms.length≤1048576) (hk:ks.length + r.body.length≤1048576) (hst:steps.length≤1048576) :
    MeetsV Tryz.prog GS (fnA 52) [.agg ((twC r).map A.c++[.arr 5008 0 steps.length (steps.length + 1)]),.one (.c (.sl (ks.map nmRow) [nmRow wMark]))] (hp [(5008,⟨90,4,sB (steps.map twS),none⟩)] [] F0) (rB (rightB r (steps.map (·.1)) ks)) (hp [(5008,⟨90,4,sB (steps.map twS),none⟩)] [] F0):=by
  have h:=m78 (G:=GS) r.tw (steps.map twS) [markS] ks [nmRow wMark] (Rule.small_tw hr) (by rw [Rule.terms_tw]; exact hle) (by show ks.length + (r.body.map Lit.tw).length≤_; rw [List.length_map]; exact hk) (by intro e he; obtain rfl:=List.mem_singleton.1 he; rfl) (by rw [List.length_map]; unfold maxLen; omega)
  rw [twS_fst,rightB_tw] at h
  have h2:=MeetsV.of_fun (MeetsH.of_lend (cs:=twC r) (k:=5008) (ty:=90) (size:=4) (rows:=(steps.map twS).map srow) (sp:=[markS]) (rest:=[.one (.sl (ks.map nmRow) [nmRow wMark])]) h (by
    intro e he
    rcases List.mem_append.1 he with he | he
    · obtain ⟨x,_,rfl⟩:=List.mem_map.1 he; rfl
    · obtain rfl:=List.mem_singleton.1 he; rfl))
  rw [List.length_map,List.length_map] at h2
  exact h2
theorem v54 (r:Rule) (steps:List (Stp × Sp)) (ssp:Sp) (hr:r.small 1048576) (hn:steps.length≤1048576) (hl:∀ x∈steps,x.1.gives.length≤1048576) :
    MeetsV Tryz.prog GS (fnA 54) [.agg ((twC r).map A.c++[.arr 5008 0 steps.length (steps.length + 1)]),.agg ((planRow r steps ssp).map A.c)] (hp [(5008,⟨90,4,sB (steps.map twS),none⟩)] [] F0) (rB true) (hp [(5008,⟨90,4,sB (steps.map twS),none⟩)] [] F0):=by
  have h:=inT (m2054 r steps ssp hr hn hl)
  have h2:=MeetsV.of_fun (MeetsH.of_lend (cs:=twC r) (k:=5008) (ty:=90) (size:=4) (rows:=(steps.map twS).map srow) (sp:=[markS]) (rest:=[.agg (planRow r steps ssp)]) h (by
    intro e he
    rcases List.mem_append.1 he with he | he
    · obtain ⟨x,_,rfl⟩:=List.mem_map.1 he; rfl
    · obtain rfl:=List.mem_singleton.1 he; rfl))
  rw [List.length_map,List.length_map] at h2
  exact h2
theorem v53 (r:Rule) (steps:List (Stp × Sp)) (ks:List Name) (sp:Sp) (hr:r.small 1048576) (hle:r.terms.length≤1048576) (hk:ks.length≤1048576) (hsp:∀ e∈sp,e.length = 1) :
    MeetsV Tryz.prog GS (fnA 53) [.agg ((twC r).map A.c++[.arr 5009 0 steps.length (steps.length + 1)]),.one (.c (.sl (ks.map nmRow) sp))] (hp [(5009,⟨90,4,sB (steps.map twS),none⟩)] [] F0) (rB (rightB r (steps.map (·.1)) ks)) (hp [(5009,⟨90,4,sB (steps.map twS),none⟩)] [] F0):=by
  have h:=m2053 (G:=GS) r.tw (steps.map twS) [markS] ks sp (Rule.small_tw hr) (by rw [Rule.terms_tw]; exact hle) hk hsp
  rw [twS_fst,ref_right,rightB_tw] at h
  have h2:=MeetsV.of_fun (MeetsH.of_lend (cs:=twC r) (k:=5009) (ty:=90) (size:=4) (rows:=(steps.map twS).map srow) (sp:=[markS]) (rest:=[.one (.sl (ks.map nmRow) sp)]) h (by
    intro e he
    rcases List.mem_append.1 he with he | he
    · obtain ⟨x,_,rfl⟩:=List.mem_map.1 he; rfl
    · obtain rfl:=List.mem_singleton.1 he; rfl))
  rw [List.length_map,List.length_map] at h2
  exact h2
set_option maxRecDepth 100000 in
set_option maxHeartbeats 16000000 in
theorem m2009 (r:Rule) (steps:List (Stp × Sp)) (ssp:Sp) (ks:List Name) (sp:Sp) (hr:r.small 1048576) (hle:r.terms.length≤1048576) (hk:ks.length + r.body.length≤1048576) (hsp:∀ e∈sp,e.length = 1) (hn:steps.length≤1048576) (hl:∀ x∈steps,x.1.gives.length≤1048576) :
    Meets Tryz.prog GS 9 [.agg (planRow r steps ssp),.one (.sl (ks.map nmRow) sp)] (.x (.one (cB true))):=by
  have a13:=m62 (G:=GS) r hr
  generalize decide (ruleParts r 1048576 > 1048576) = big at a13
  have a50:=v2050 r steps ssp hr hn hl
  have a51:=inT (m2051 ks sp (by omega))
  have a52:=v52 r steps ks hr hle hk hn
  have a53:=m2053 (G:=GS) r steps ssp ks sp hr hle (by omega) hsp
  rw [ref_right] at a53
  have a54:=v54 r steps ssp hr hn hl
  have a55:=inT (m2055 ks sp (by omega))
  have a56:=inB m79
  have hrow:r.row = [cS (bs r.p),.sl (r.head.map Arg.row) r.hsp,.sl (r.body.map Lit.row) r.bsp]:=rfl
  rw [hrow] at a13
  refine meets Tryz.func9 ie2009 ig2009 (Nat.le_of_ble_eq_true rfl) ?_
  cases big with
  | true =>
    simp [ic2009,ir2009]
    refine call_of a13 ?_
    simp
  | false =>
    generalize rightB r (steps.map (·.1)) ks = R1 at *
    generalize hB:(r.body.map Lit.tw).map Lit.row = B at *
    simp [ic2009,ir2009]
    refine call_of a13 ?_
    simp
    refine r_callW _ _ [] [] _ [(5008,⟨90,4,sB (steps.map twS),none⟩)] [] a50 rfl rfl rfl (by simp [X.fits,A.fits,fitsL]) (by simp) ?_
    simp
    refine call_of a51 ?_
    simp
    refine r_callN [5008] _ _ [(5008,⟨90,4,sB (steps.map twS),none⟩)] _ a52 rfl rfl rfl (by simp [X.fits,A.fits,fitsL]) (by simp) (by simp) (by simp) (by simp) ?_
    simp
    refine call_of a53 ?_
    simp
    refine r_callN [5008] _ _ [(5008,⟨90,4,sB (steps.map twS),none⟩)] _ a54 rfl rfl rfl (by simp [X.fits,A.fits,fitsL]) (by simp) (by simp) (by simp) (by simp) ?_
    simp
    refine call_of a55 ?_
    simp
    have hT:(steps.map twS).length = steps.length:=List.length_map ..
    refine w_loopA [] [] [1,2,5,6,7] (by simp [ownKey])
      (fun a:Nat × List (Stp × Sp)=>st [(1,.k true (.x (.one (.c (.sl (ks.map nmRow) sp))))),(2,.k true (.x (.one (.ref 2 0 0)))),(5,.k true (.x (.one (.ref 5 0 0)))),(6,.k true (.x (.one (.c (.sl (ks.map nmRow) [nmRow wMark]))))),(7,tI .i64 a.1)]
        [(5,⟨80,4,[[.c (cS (bs r.p)),.c (.sl (r.head.map Arg.row) [argMark.row]),.c (.sl (r.body.map (Lit.row ∘ Lit.tw)) [litMark.row]),.arr 5008 0 steps.length (steps.length + 1)]],none⟩),
          (2,⟨80,4,[[.c (cS (bs r.p)),.c (.sl (r.head.map Arg.row) r.hsp),.c (.sl (r.body.map Lit.row) r.bsp),.c (.sl (steps.map srow) ssp)]],none⟩),(5008,⟨90,4,sB a.2,none⟩)] [] F0) (fun a=>steps.length / 2 - a.1)
      (fun a=>a.1≤steps.length / 2∧Swapped (steps.map twS) a.2 a.1) (0,steps.map twS) (by simp) ⟨Nat.zero_le _,Swapped.start _⟩ ?_
    rintro ⟨i,E⟩ K hK ⟨hi,hE⟩
    simp only at hi hE
    have hEl:E.length = steps.length:=hE.1.trans hT
    obtain hlt | hge:=Nat.lt_or_ge i (steps.length / 2)
    · have hi1:i < E.length:=by omega
      have hk1:steps.length - 1 - i < E.length:=by omega
      have hnx:=hE.next (by rw [hT]; exact hlt) E[i] E[steps.length - 1 - i] (List.getElem?_eq_getElem hi1) (by rw [hT]; exact List.getElem?_eq_getElem hk1)
      rw [hT] at hnx
      have g0:=sB_len E
      have g1:=sB_get E hi1
      have g2:=sB_get E hk1
      have w1:IntKind.i64.wrap (((steps.length:Int) - 1)) = (steps.length:Int) - 1:=wrap64 (by omega) (by omega)
      have w2:IntKind.i64.wrap (((steps.length:Int) - 1) - (i:Int)) = ((steps.length - 1 - i:Nat):Int):=by rw [wrap64 (by omega) (by omega)]; omega
      have hlt2:(i:Int) < IntKind.i64.wrap ((steps.length:Int) / 2):=by rw [wrap64 (by omega) (by omega)]; omega
      simp [ic2009l0,hlt2,w1,w2]
      have hne:¬ i = steps.length - 1 - i:=by omega
      generalize steps.length - 1 - i = k at *
      have t1:∀ x:Stp × Sp,List.take 4 ((srow x).map A.c) = (srow x).map A.c:=fun _=>rfl
      have t2:∀ x y:Stp × Sp,List.drop (min 4 ((srow x).map A.c).length) ((srow y).map A.c) = []:=fun _ _=>rfl
      have t3:∀ x:Stp × Sp,((srow x).map A.c).length = 4:=fun _=>rfl
      have e1:=sB_set E hi1 E[k]
      have g3:(sB (E.set i E[k]))[k]?.getD [] = (srow E[k]).map A.c:=by
        rw [sB_get _ (by rw [List.length_set]; exact hk1),List.getElem_set_ne hne]
      have e2:=sB_set (E.set i E[k]) (j:=k) (by rw [List.length_set]; exact hk1) E[i]
      have t4:∀ x:Stp × Sp,List.drop (min 4 4) ((srow x).map A.c) = []:=fun _=>rfl
      simp only [g1,g2,t1,List.append_nil,g0,t3,t4]
      simp only [e1,g3,t3,t4,List.append_nil,e2]
      refine ⟨by omega,⟨by omega,by omega⟩,by omega,⟨by omega,by omega⟩,by omega,⟨by omega,by omega,by omega⟩,by omega,⟨by omega,by omega,by omega⟩,?_⟩
      simp (disch:=omega) only [wrap64]
      exact hK (i + 1,(E.set i E[k]).set k E[i]) _ (by simp) ⟨by simp only; omega,hnx⟩ (by simp only; omega)
    · have hEr:=hE.done (by rw [hT]; exact hge)
      rw [← List.map_reverse] at hEr
      subst hEr
      have hge2:¬ (i:Int) < IntKind.i64.wrap ((steps.length:Int) / 2):=by rw [wrap64 (by omega) (by omega)]; omega
      simp [ic2009l0,hge2]
      have hcl:=sB_close (steps.map twS).reverse
      have hml:(sB (steps.map twS).reverse).length≤9223372036854775807:=by rw [sB_len,List.length_reverse,hT]; omega
      have htk:List.take steps.length ((List.map (srow ∘ twS) steps).reverse++[markS]) = (List.map (srow ∘ twS) steps).reverse:=List.take_left' (by simp)
      have hdk:List.drop steps.length ((List.map (srow ∘ twS) steps).reverse++[markS]) = [markS]:=List.drop_left' (by simp)
      have a50':=v2050' r.tw (steps.reverse.map twS) [markS] (Rule.small_tw hr) (by simpa using hn) (by
        intro x hx
        obtain ⟨y,hy,rfl⟩:=List.mem_map.1 hx
        exact hl y (List.mem_reverse.1 hy))
      have a53':=v53 r.tw (steps.reverse.map twS) ks sp (Rule.small_tw hr) (by rw [Rule.terms_tw]; exact hle) (by omega) hsp
      have a52':=m78 (G:=GS) r.tw (steps.reverse.map twS) [markS] ks [nmRow wMark] (Rule.small_tw hr) (by rw [Rule.terms_tw]; exact hle) (by show ks.length + (r.body.map Lit.tw).length≤_; rw [List.length_map]; exact hk) (by intro e he; obtain rfl:=List.mem_singleton.1 he; rfl) (by simp; unfold maxLen; omega)
      rw [twS_fst,rightB_tw] at a52' a53'
      have hpr:planRow r.tw (steps.reverse.map twS) [markS] = [cS (bs r.p),.sl (r.head.map Arg.row) [argMark.row],.sl (r.body.map (Lit.row ∘ Lit.tw)) [litMark.row],.sl (steps.map (srow ∘ twS)).reverse [markS]]:=by simp [planRow,Rule.tw]
      have hrl:(steps.reverse.map twS).length = steps.length:=by simp
      rw [hpr] at a50' a52'
      rw [hrl] at a50' a53'
      generalize twC r.tw = C2 at a50' a53'
      generalize sB ((steps.reverse.map twS).map twS) = W2 at a50' a53'
      generalize rightB r (steps.reverse.map (·.1)) ks = R2 at *
      simp [freeze_st,fzL,freezeO,maxLen,hcl,hml,htk,hdk]
      refine r_callW _ _ [] [] _ [(5009,⟨90,4,W2,none⟩)] [] a50' rfl rfl rfl (by simp [X.fits,A.fits,fitsL]) (by simp) ?_
      simp
      refine r_callN [5009] _ _ [(5009,⟨90,4,W2,none⟩)] _ a53' rfl rfl rfl (by simp [X.fits,A.fits,fitsL]) (by simp) (by simp) (by simp) (by simp) ?_
      simp
      refine call_of a52' ?_
      simp
      refine call_of a56 ?_
      simp
end Go.Proofs.YtiomojlcnemnhaaGreatDoor

namespace Go.Proofs.YtiomojlcnemnhaaGreatDoor
open Go.Fx Go.RowKit Go.Ped
theorem gBitsType:(Tryz.prog.globals[2]?).map (·.type) = some 354:=by kernel_rfl
theorem cells354:Tryz.prog.cellsOf 354 = 32:=by kernel_rfl
theorem cells5:Tryz.prog.cellsOf 5 = 1:=by kernel_rfl
theorem bitsData:(Rows.laid_math_bits_deBruijn32tab:DataW Unit) = Lib.tabData .u8 bruijnTab:=by rfl
theorem held_rights {W:World} (h:laidMetH Tryz.prog laidList W):Held GS W:=by
  have h1:=plain_laid (by kernel_rfl) h
  have ht:Held GT W:=tab_of h1.tail.tail
  unfold laidList at h1
  rw [bitsData] at h1
  have hb:Held GB W:=Lib.tabBelow_of_tabIs (Lib.tabIs_of_head gBruijn gBitsType Tryz.underlying354 Tryz.underlying5 cells5 cells354 h1)
  exact fun w' hw=>⟨hb w' hw,ht w' hw⟩
theorem not_agg52:¬ isAggTy Tryz.prog 67:=by
  rintro (⟨fs,h⟩ | ⟨n,e,h⟩) <;> rw [Tryz.underlying67] at h <;> cases h
theorem ty_names {cs:List C} (h:Typed Tryz.prog 67 cs):∃ (l:List Name) (sp:Sp),cs = [.sl (l.map nmRow) sp]∧∀ e∈sp,e.length = 1:=by
  obtain ⟨es,sp,rfl,hes,_⟩:=h.asSlice Tryz.underlying67
  obtain ⟨l,rfl⟩:=list_of (row:=nmRow) (es:=es) fun x hx=>ty_str (hes x (List.mem_append_left _ hx))
  refine ⟨l,sp,rfl,fun e he=>?_⟩
  obtain ⟨s,rfl⟩:=ty_str (hes e (List.mem_append_right _ he))
  rfl
def StpFit (s:Stp × Sp):Prop:=(∀ e∈s.2,e.length = 1)∧0≤s.1.known∧s.1.known < 4294967296
theorem wf_u32 {n:Int} (h:(Lit.int .u32 n).wf = true):0≤n∧n < 4294967296:=by
  unfold Lit.wf at h
  simp only [Bool.and_eq_true,decide_eq_true_eq] at h
  have e1:IntKind.u32.min = 0:=by decide
  have e2:IntKind.u32.max = 4294967295:=by decide
  rw [e1,e2] at h
  omega
theorem ty_step {cs:List C} (h:Typed Tryz.prog 90 cs):∃ s:Stp × Sp,cs = srow s∧StpFit s:=by
  obtain ⟨a,r,rfl,ha,b,r',rfl,hb,c,r'',rfl,hc,d,r3,rfl,hd,hr⟩:=h.asStruct Tryz.underlying90
  cases hr
  obtain ⟨k,rfl,_⟩:=ha.asInt Tryz.underlying86
  obtain ⟨i,rfl,_⟩:=hb.asInt Tryz.underlying3
  obtain ⟨m,rfl,hm⟩:=hc.asInt Tryz.underlying88
  obtain ⟨l,sp,rfl,hsp⟩:=ty_names hd
  exact ⟨(⟨k,i,m,l⟩,sp),rfl,hsp,wf_u32 hm⟩
theorem steps_of:∀ {es:List (List C)},(∀ x∈es,∃ s,x = srow s∧StpFit s)→∃ l:List (Stp × Sp),es = l.map srow∧∀ t∈l,StpFit t
  | [],_=>⟨[],rfl,fun _ h=>by cases h⟩
  | x :: es,h=>by
    obtain ⟨t,rfl,ht⟩:=h x (List.mem_cons_self ..)
    obtain ⟨l,rfl,hl⟩:=steps_of (es:=es) fun y hy=>h y (List.mem_cons_of_mem _ hy)
    exact ⟨t :: l,rfl,fun u hu=>(List.mem_cons.1 hu).elim (fun e=>e ▸ ht) (hl u)⟩
theorem ty_plan {cs:List C} (h:Typed Tryz.prog 80 cs):∃ (r:Rule) (steps:List (Stp × Sp)) (ssp:Sp),cs = planRow r steps ssp∧∀ s∈steps,StpFit s:=by
  obtain ⟨a,r,rfl,ha,b,r',rfl,hb,hr⟩:=h.asStruct Tryz.underlying80
  cases hr
  obtain ⟨x,rfl⟩:=ty_rule ha
  obtain ⟨es,sp,rfl,hes,_⟩:=hb.asSlice Tryz.underlying78
  obtain ⟨l,rfl,hl⟩:=steps_of (es:=es) fun x hx=>ty_step (hes x (List.mem_append_left _ hx))
  exact ⟨x,l,sp,rfl,hl⟩
theorem nm_bulk (v:Name):1≤rowBulk (nmRow v):=by simp only [rowBulk,C.bulk]; omega
theorem step_bulk (s:Stp × Sp):1≤rowBulk (srow s):=by simp only [srow,Stp.row,rowBulk,C.bulk]; omega
theorem step_gives_bulk (s:Stp × Sp):s.1.gives.length≤rowBulk (srow s):=by
  have:=rows_len nm_bulk s.1.gives
  simp only [srow,Stp.row,rowBulk,C.bulk]; omega
theorem plan_bulk (r:Rule) (steps:List (Stp × Sp)) (ssp:Sp):rowBulk r.row + rowsBulk (steps.map srow)≤rowBulk (planRow r steps ssp):=by
  have hr:r.row = [cS (bs r.p),.sl (r.head.map Arg.row) r.hsp,.sl (r.body.map Lit.row) r.bsp]:=rfl
  rw [hr]
  simp only [rowBulk,C.bulk]
  omega
theorem body_bulk (r:Rule):r.body.length≤rowBulk r.row:=by
  have:=rows_len lit_bulk r.body
  simp only [Rule.row,rowBulk,C.bulk]; omega
end Go.Proofs.YtiomojlcnemnhaaGreatDoor

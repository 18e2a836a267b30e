import Derived.Test.YtiomojlcnemnhaaGreatDoorRGxLb
import Derived.Test.YtiomojlcnemnhaaGreatDoorRGxG5
import Derived.Deep.RegionWith
namespace Go.Fx
open Go.RowKit
section
variable {P:Program} {G:World→Prop}
def retRX (ks:List Nat) (ress:List IRes) (res:R) (O2:List (Nat × Box)) (U2:List (Nat × Tok)) (σ:S):Prop:=∃ Z:XP,(Z = XP.emp∨Z.mark≠none)∧retR ks ress res O2 U2 (FX Z) σ
def retQX (ks:List Nat) (ress:List IRes) (res:R) (O2:List (Nat × Box)) (U2:List (Nat × Tok)):Exit→S→Prop
  | .ret,σ=>retRX ks ress res O2 U2 σ
  | .normal,σ=>retRX ks ress res O2 U2 σ
  | _,_=>False
@[simp] theorem retQX_ret (ks:List Nat) (ress:List IRes) (res:R) (O2:List (Nat × Box)) (U2:List (Nat × Tok)) {σ:S}:retQX ks ress res O2 U2 .ret σ = retRX ks ress res O2 U2 σ:=rfl
@[simp] theorem retQX_normal (ks:List Nat) (ress:List IRes) (res:R) (O2:List (Nat × Box)) (U2:List (Nat × Tok)) {σ:S}:retQX ks ress res O2 U2 .normal σ = retRX ks ress res O2 U2 σ:=rfl
theorem meetsHX {f:FuncId} {fn:Func} {fl:Notes} {N:List Nat} {ic:IC} {ress:List IRes} {args:List X} {O:List (Nat × Box)} {U:List (Nat × Tok)} {res:R} {O2:List (Nat × Box)} {U2:List (Nat × Tok)} (ks:List Nat) (hf:P.funcs[f]? = some fn) (hc:cmpFunc P fl fn N = some ic) (hr:cmpRes P fn.results.toList = some ress)
    (hn:args.length≤fn.ntmps) (hO:∀ p∈O,midKey p.1∧∀ r∈p.2.rows,onlyL (fun k=>¬ ownKey k) (fun k=>(lookT U k).or (F0.toks k)≠none) r) (hU:∀ p∈U,midKey p.1)
    (ha:∀ x∈args,x.only (fun k=>¬ ownKey k) (fun k=>(lookT U k).or (F0.toks k)≠none)) (h3:∀ p∈O,lookO O2 p.1≠none) (h4:∀ p∈U,lookT U2 p.1≠none) 
    (hO2:∀ p∈O2,∀ r∈p.2.rows,onlyL (fun k=>¬ ownKey k∨lookO O2 k≠none) (fun k=>(lookT U2 k).or (F0.toks k)≠none) r) (hres:res.only (fun k=>¬ ownKey k∨lookO O2 k≠none) (fun k=>(lookT U2 k).or (F0.toks k)≠none))
    (h:wpI P G ic (retQX ks ress res O2 U2) (st (args.zipIdx.map fun p=>(p.2,.k true (.x p.1))) O U F0)):MeetsH P G f args (hp O U F0) res (hp O2 U2 F0):=by
  have hs:=sameKeys_refl F0
  have orn:∀ {α:Type} {a b:Option α},a.or b≠none↔a≠none∨b≠none:=by intro α a b; cases a <;> cases b <;> simp
  have hk2:∀ k,lookO O2 k≠none→(hp O2 U2 F0).objs k≠none:=fun k hk=>by
    show (lookO O2 k).or (F0.objs k)≠none
    exact orn.2 (.inl hk)
  refine meetsH_of hf hc hr hn hs.2 ⟨fun k hk=>⟨?_,?_⟩,fun k b hk r hr'=>?_⟩ ha (fun k hk=>?_) (fun k hk=>?_) (fun k b hk r hr'=>?_) ?_ fun Q q1 q2=>?_
  · cases hh:(hp O U F0).objs k with
    | none=>rfl
    | some b =>
      simp only [hp] at hh
      cases h1:lookO O k with
      | some c=>exact absurd hk (mid_not (hO _ (lookO_mem h1)).1)
      | none=>rw [h1] at hh; simp at hh; exact absurd hk (far_not_own (F0.key k (.inl (by rw [hh]; simp))))
  · cases hh:(hp O U F0).toks k with
    | none=>rfl
    | some b =>
      simp only [hp] at hh
      cases h1:lookT U k with
      | some c=>exact absurd hk (mid_not (hU _ (lookT_mem h1)))
      | none=>rw [h1] at hh; simp at hh; exact absurd hk (far_not_own (F0.key k (.inr (by rw [hh]; simp))))
  · simp only [hp] at hk
    cases h1:lookO O k with
    | some c=>rw [h1] at hk; simp at hk; subst hk; exact (hO _ (lookO_mem h1)).2 r hr'
    | none =>
      rw [h1] at hk; simp at hk
      exact onlyL_mono (fun k hk=>far_not_own hk) (fun k hk=>orn.2 (.inr hk)) (F0.names k b hk r hr')
  · rcases orn.1 hk with h1 | h1
    · cases h2:lookO O k with
      | none=>exact absurd h2 h1
      | some c=>exact orn.2 (.inl (h3 _ (lookO_mem h2)))
    · exact orn.2 (.inr fun e=>h1 ((hs.1 k).1.2 e))
  · rcases orn.1 hk with h1 | h1
    · cases h2:lookT U k with
      | none=>exact absurd h2 h1
      | some c=>exact orn.2 (.inl (h4 _ (lookT_mem h2)))
    · exact orn.2 (.inr fun e=>h1 ((hs.1 k).2.2 e))
  · simp only [hp] at hk
    cases h1:lookO O2 k with
    | some c =>
      rw [h1] at hk; simp at hk; subst hk
      exact onlyL_mono (fun k hk=>hk.imp id (hk2 k)) (fun k hk=>hk) (hO2 _ (lookO_mem h1) r hr')
    | none =>
      rw [h1] at hk; simp at hk
      exact onlyL_mono (fun k hk=>.inl (far_not_own hk)) (fun k hk=>orn.2 (.inr hk)) (F0.names k b hk r hr')
  · cases res with
    | x y=>exact X.only_mono (fun k hk=>hk.imp id (hk2 k)) (fun k hk=>hk) hres
    | tup ys=>exact fun y hy=>X.only_mono (fun k hk=>hk.imp id (hk2 k)) (fun k hk=>hk) (hres y hy)
  · have key:∀ σ,retRX ks ress res O2 U2 σ→retH ress res (hp O2 U2 F0) σ:=by
      rintro σ ⟨Z,hZ,L,O',U',he,g1,g2,g3,g4,g5,g6⟩
      refine ⟨st L O' U' (FX Z),he ▸ .freeze ks σ,g1,g2,fun k b hk=>?_,fun k b hk=>?_,hZ.elim (fun e=>.inl (by rw [e]; rfl)) fun e=>.inr ⟨e,rfl⟩⟩
      · simp only [hp,st_objs] at hk ⊢
        cases h1:lookO O2 k with
        | some c=>rw [h1] at hk; simp at hk; subst hk; rw [g3 _ (lookO_mem h1)]; rfl
        | none =>
          rw [h1] at hk; simp at hk
          have:lookO O' k = none:=by
            cases h2:lookO O' k with
            | none=>rfl
            | some c=>exact absurd (F0.key k (.inl (by rw [hk]; simp))) (g5 _ (lookO_mem h2))
          rw [this]; exact hk
      · simp only [hp,st_toks] at hk ⊢
        cases h1:lookT U2 k with
        | some c=>rw [h1] at hk; simp at hk; subst hk; rw [g4 _ (lookT_mem h1)]; rfl
        | none =>
          rw [h1] at hk; simp at hk
          have:lookT U' k = none:=by
            cases h2:lookT U' k with
            | none=>rfl
            | some c=>exact absurd (F0.key k (.inr (by rw [hk]; simp))) (g6 _ (lookT_mem h2))
          rw [this]; exact hk
    rw [init_eq]
    exact wpI_mono (fun e σ hq=>by
      cases e with
      | ret=>exact q1 _ (key σ hq)
      | normal=>exact q2 _ (key σ hq)
      | _=>exact False.elim hq) h
end
end Go.Fx

namespace Go.Proofs.YtiomojlcnemnhaaGreatDoor
open Go.Fx Go.RowKit Go.Ped
variable {G:World→Prop}
set_option maxRecDepth 100000 in
set_option maxHeartbeats 8000000 in
theorem m154 (body:List Lit) (sb:Sp) (ns:List Name) (m:Nat) (hm:m < 2 ^ 24) (hin:∀ i∈bitsOf m,i < body.length) (hfit:BodyFit body) :
    MeetsH Tryz.prog GB 242 [.one (.ref 10009 0 0),.one (.c (cI .u32 m))] (hp (OS 10009 10007 (.sl (body.map Lit.row) sb) ns) [] F0) (.x (.one (.c (cI .i64 (nextL body ns m))))) (hp (OS 10009 10007 (.sl (body.map Lit.row) sb) ns) [] F0):=by
  refine meetsHX [] Tryz.func242 ie154 ig154 (Nat.le_of_ble_eq_true rfl) (by simp [midKey,ownKey]) (by simp) (by simp [ownKey]) (by simp) (by simp) (by simp) (by simp) ?_
  generalize hN:nextL body ns m = N
  unfold nextL at hN
  simp [ic154,ir154,kn_strike']
  refine r_callW _ _ [] [] _ [(1,⟨190,1,[[.c (cI .u32 m)]],none⟩)] [] (MeetsV.of_fun (m199 m)) rfl rfl rfl (by simp) (by simp) ?_
  simp [kn_strike']
  refine w_rangeF [2,4,5] [.ref 2 0 0,.ref 4 0 0,.ref 5 0 0] rfl trivial rfl ?_ (by simp) (by simp)
  intro l ta E B mk hE hB hR
  have hY:∀ i∈bitsOf m,Rounds GB l ta (E .normal) (E .ret) body sb ns i:=fun i hi=>by
    refine ⟨fun h r pos hk=>?_,fun h r pos hk hs=>?_,fun h r pos hk hs=>?_⟩
    · refine hR [.ref 10002 0 0,.ref 10004 0 0,.ref 10005 0 0] [.one (.c (cI .i64 i))] (ON (.sl (body.map Lit.row) sb) ns r pos) [] (ON (.sl (body.map Lit.row) sb) ns r (if pos < 0 then i else pos)) [] .normal rfl rfl trivial ?_ ?_
      · refine ⟨?_,by simp,by simp,by simp [ownKey],by simp,by simp,?_⟩
        · simp [midKey,ownKey]
        · simp [ownKey]
      · simp [ic154a0,roundL]
        refine roundA_mk ?_
        have hr:=lit16 body[i]
        simp (config:={ maxSteps:=4000000 }) [ic154l0,h,hr,hk,kn_strike']
        by_cases hp:pos < 0
        · simp [hp]
          exact roundQ_mk (by simp [hp]) (by simp)
        · simp [hp]
          exact roundQ_mk (by simp [hp]) (by simp)
    · obtain ⟨q1,q2,q3⟩:=hfit body[i] (List.getElem_mem h)
      have h149:=MeetsV.of_fun (m149z (G:=GB) B body sb ns i h q1 q2 (fun _=>q3))
      have hkb:(body[i].kind == 1) = false:=beq_eq_false_iff_ne.2 hk
      refine hR [.ref 10002 0 0,.ref 10004 0 0,.ref 10005 0 0] [.one (.c (cI .i64 i))] (ON (.sl (body.map Lit.row) sb) ns r pos) [] (ON (.sl (body.map Lit.row) sb) ns i pos) [] .ret rfl rfl trivial ?_ ?_
      · refine ⟨?_,by simp,by simp,by simp [ownKey],by simp,by simp,?_⟩
        · simp [midKey,ownKey]
        · simp [ownKey]
      · simp [ic154a0,roundL]
        refine roundA_mk ?_
        have hr:=lit16 body[i]
        generalize stepOf ns body[i] i = S at *
        obtain ⟨y,ok⟩:=S
        simp only at hs
        subst hs
        unfold stepX Stp.row at h149
        simp only at h149
        simp (config:={ maxSteps:=4000000 }) [ic154l0,h,hr,hkb,kn_strike']
        refine r_callW _ _ (OS 10009 10007 (.sl (body.map Lit.row) sb) ns) [] _ (OS 10009 10007 (.sl (body.map Lit.row) sb) ns) [] h149 rfl rfl rfl (by simp [X.fits,A.fits,fitsL]) (by simp) ?_
        simp (config:={ maxSteps:=4000000 }) [kn_strike']
        exact roundQ_mk (by simp [kn_strike']) (by simp)
    · obtain ⟨q1,q2,q3⟩:=hfit body[i] (List.getElem_mem h)
      have h149:=MeetsV.of_fun (m149z (G:=GB) B body sb ns i h q1 q2 (fun _=>q3))
      have hkb:(body[i].kind == 1) = false:=beq_eq_false_iff_ne.2 hk
      refine hR [.ref 10002 0 0,.ref 10004 0 0,.ref 10005 0 0] [.one (.c (cI .i64 i))] (ON (.sl (body.map Lit.row) sb) ns r pos) [] (ON (.sl (body.map Lit.row) sb) ns r pos) [] .normal rfl rfl trivial ?_ ?_
      · refine ⟨?_,by simp,by simp,by simp [ownKey],by simp,by simp,?_⟩
        · simp [midKey,ownKey]
        · simp [ownKey]
      · simp [ic154a0,roundL]
        refine roundA_mk ?_
        have hr:=lit16 body[i]
        generalize stepOf ns body[i] i = S at *
        obtain ⟨y,ok⟩:=S
        simp only at hs
        subst hs
        unfold stepX Stp.row at h149
        simp only at h149
        simp (config:={ maxSteps:=4000000 }) [ic154l0,h,hr,hkb,kn_strike']
        refine r_callW _ _ (OS 10009 10007 (.sl (body.map Lit.row) sb) ns) [] _ (OS 10009 10007 (.sl (body.map Lit.row) sb) ns) [] h149 rfl rfl rfl (by simp [X.fits,A.fits,fitsL]) (by simp) ?_
        simp (config:={ maxSteps:=4000000 }) [kn_strike']
        exact roundQ_mk (by simp [kn_strike']) (by simp)
  generalize hrun:runOn body ns (bitsOf m) (-1) = out at hN
  obtain ⟨s,pos'⟩:=out
  cases s with
  | none =>
    simp only at hN
    subst hN
    refine ⟨_,[],_,[],_,.normal,v220n (E .normal) (E .ret) l ta body sb ns m hm hin hY 0 (-1) pos' hrun,?_,trivial,fun Z hZ=>?_⟩
    · simp
    · simp [kn_strike']
      exact ⟨Z,.inr (by rw [hZ]; simp),ret_st (by simp) (by simp) (by simp [kn_strike']) (by simp) (by simp) (by simp)⟩
  | some s =>
    simp only at hN
    subst hN
    refine ⟨_,[],_,[],_,.ret,v220s (E .normal) (E .ret) (by rw [hE,hE]) l ta body sb ns m hm hin hY 0 (-1) pos' s hrun,?_,trivial,fun Z hZ=>?_⟩
    · simp
    · simp [kn_strike']
      exact ⟨Z,.inr (by rw [hZ]; simp),ret_st (by simp) (by simp) (by simp [kn_strike']) (by simp) (by simp) (by simp)⟩
end Go.Proofs.YtiomojlcnemnhaaGreatDoor

namespace Go.Proofs.YtiomojlcnemnhaaGreatDoor
open Go.Fx Go.RowKit Go.Ped
mutual
def Nd.put (m:List Pr):Nd→Nd
  | .mk op t b c kids=>.mk op (putP m t) b c (ndsPut m kids)
def ndsPut (m:List Pr):List Nd→List Nd
  | []=>[]
  | k :: l=>k.put m :: ndsPut m l
end
end Go.Proofs.YtiomojlcnemnhaaGreatDoor

namespace Go.Proofs.YtiomojlcnemnhaaGreatDoor
open Go.Fx Go.RowKit Go.Ped
theorem ownsRow_len {w:World} {base:Nat} {e:TypeId} {size:Nat} {v:Value} {n:Nat} {xs:List Value} (h:w.ownsRow base e size v n xs):∃ ad cap,v = .slice ad n cap∧n≤maxLen:=by
  obtain ⟨_,⟨rfl,h0⟩ | ⟨g,cap,cur,rfl,_,_,hn,hm,_⟩⟩:=h
  · exact ⟨_,_,by rw [h0],by rw [h0]; exact Nat.zero_le _⟩
  · exact ⟨_,_,rfl,Nat.le_trans hn hm⟩
def LitM.put (m:List Pr) (x:LitM):LitM:={ x with l:=x.l.map (putP m),left:=x.left.put m,right:=x.right.put m }
def argPut (m:List Pr) (a:Arg):Arg:={ a with t:=putP m a.t }
def RuleM.put (m:List Pr) (r:RuleM):RuleM:={ r with hs:=r.hs.map (argPut m),ls:=r.ls.map (LitM.put m) }
end Go.Proofs.YtiomojlcnemnhaaGreatDoor

namespace Go.Proofs.YtiomojlcnemnhaaGreatDoor
open Go.Fx Go.RowKit Go.Ped
theorem ownsRow_mid {w:World} {base:Nat} {e:TypeId} {size:Nat} {v:Value} {n:Nat} {A mid C:List Value} (hne:mid≠[]) (h:w.ownsRow base e size v n (A++mid++C)) :
    ∃ g cap room,v = .slice (some ⟨g,0,none⟩) n cap∧n≤cap∧cap≤maxLen∧base≤g∧g∈svB v∧w.heap[g]? = some (.cells (A++mid++(C++room)).toArray e (0,0)) ∧
      ∀ (w':World) (mid':List Value),mid'.length = mid.length→w'.heap[g]? = some (.cells (A++mid'++(C++room)).toArray e (0,0))→w'.ownsRow base e size v n (A++mid'++C):=by
  obtain ⟨hl,⟨_,h0⟩ | ⟨g,cap,cur,rfl,hbase,hcur,hn,hm,hsz,htk⟩⟩:=h
  · rw [h0,Nat.zero_mul] at hl
    simp only [List.length_append] at hl
    exact absurd (List.length_eq_zero_iff.1 (by omega)) hne
  obtain ⟨room,hroom⟩:∃ room,cur.toList = A++mid++(C++room):=by
    refine ⟨cur.toList.drop (n * size),?_⟩
    rw [← List.append_assoc,← htk,List.take_append_drop]
  refine ⟨g,cap,room,rfl,hn,hm,hbase,svB_mem.2 rfl,by rw [hcur,← hroom],fun w' mid' hml hw'=>?_⟩
  have hl':(A++mid'++C).length = n * size:=by
    simp only [List.length_append] at hl ⊢; omega
  have hsz':(A++mid++C).length + room.length = cap * size:=by
    have h1:cur.toList.length = cap * size:=by rw [Array.length_toList,hsz]
    rw [hroom] at h1
    simp only [List.length_append] at h1 ⊢
    omega
  refine ⟨hl',.inr ⟨g,cap,_,rfl,hbase,hw',hn,hm,?_,?_⟩⟩
  · rw [← List.append_assoc]
    simp only [List.size_toArray]
    rw [List.length_append,hl']
    rw [hl] at hsz'
    exact hsz'
  · rw [← List.append_assoc]
    simp only [List.take_left' hl']
theorem six_set {W:World} {b:Nat} {ty:TypeId} {pre post:List Value} {x0 x1 x2 x3 x4 x5:Value} (v0 v1 v2 v3 v4 v5:Value) (n:Nat) (hn:n = pre.length) (hb:W.heap[b]? = some (.cells (pre++[x0,x1,x2,x3,x4,x5]++post).toArray ty (0,0))) :
    ∃ A1 A2 A3 A4 A5 A6,W.setCell ⟨b,n,none⟩ v0 = A1∧A1.setCell ⟨b,n + 1,none⟩ v1 = A2∧A2.setCell ⟨b,n + 2,none⟩ v2 = A3∧A3.setCell ⟨b,n + 3,none⟩ v3 = A4∧A4.setCell ⟨b,n + 4,none⟩ v4 = A5∧A5.setCell ⟨b,n + 5,none⟩ v5 = A6 ∧
      W.cell? ⟨b,n,none⟩ = some x0∧W.frozen? ⟨b,n,none⟩ = false∧A1.cell? ⟨b,n + 1,none⟩ = some x1∧A1.frozen? ⟨b,n + 1,none⟩ = false ∧
      A2.cell? ⟨b,n + 2,none⟩ = some x2∧A2.frozen? ⟨b,n + 2,none⟩ = false∧A3.cell? ⟨b,n + 3,none⟩ = some x3∧A3.frozen? ⟨b,n + 3,none⟩ = false ∧
      A4.cell? ⟨b,n + 4,none⟩ = some x4∧A4.frozen? ⟨b,n + 4,none⟩ = false∧A5.cell? ⟨b,n + 5,none⟩ = some x5∧A5.frozen? ⟨b,n + 5,none⟩ = false ∧
      A6.heap[b]? = some (.cells (pre++[v0,v1,v2,v3,v4,v5]++post).toArray ty (0,0))∧KeptBut (fun c=>c = b) W A6:=by
  subst hn
  have hb0:W.heap[b]? = some (.cells (pre++x0 :: (x1 :: x2 :: x3 :: x4 :: x5 :: post)).toArray ty (0,0)):=by rw [hb,List.append_assoc]; rfl
  obtain ⟨h1,c1,f1,k1⟩:=cells_set (v:=v0) rfl hb0
  generalize hA1:W.setCell ⟨b,pre.length,none⟩ v0 = A1 at *
  have hb1:A1.heap[b]? = some (.cells ((pre++[v0])++x1 :: (x2 :: x3 :: x4 :: x5 :: post)).toArray ty (0,0)):=by rw [h1]; simp
  obtain ⟨h2,c2,f2,k2⟩:=cells_set (n:=pre.length + 1) (v:=v1) (by simp) hb1
  generalize hA2:A1.setCell ⟨b,pre.length + 1,none⟩ v1 = A2 at *
  have hb2:A2.heap[b]? = some (.cells ((pre++[v0,v1])++x2 :: (x3 :: x4 :: x5 :: post)).toArray ty (0,0)):=by rw [h2]; simp
  obtain ⟨h3,c3,f3,k3⟩:=cells_set (n:=pre.length + 2) (v:=v2) (by simp) hb2
  generalize hA3:A2.setCell ⟨b,pre.length + 2,none⟩ v2 = A3 at *
  have hb3:A3.heap[b]? = some (.cells ((pre++[v0,v1,v2])++x3 :: (x4 :: x5 :: post)).toArray ty (0,0)):=by rw [h3]; simp
  obtain ⟨h4,c4,f4,k4⟩:=cells_set (n:=pre.length + 3) (v:=v3) (by simp) hb3
  generalize hA4:A3.setCell ⟨b,pre.length + 3,none⟩ v3 = A4 at *
  have hb4:A4.heap[b]? = some (.cells ((pre++[v0,v1,v2,v3])++x4 :: (x5 :: post)).toArray ty (0,0)):=by rw [h4]; simp
  obtain ⟨h5,c5,f5,k5⟩:=cells_set (n:=pre.length + 4) (v:=v4) (by simp) hb4
  generalize hA5:A4.setCell ⟨b,pre.length + 4,none⟩ v4 = A5 at *
  have hb5:A5.heap[b]? = some (.cells ((pre++[v0,v1,v2,v3,v4])++x5 :: post).toArray ty (0,0)):=by rw [h5]; simp
  obtain ⟨h6,c6,f6,k6⟩:=cells_set (n:=pre.length + 5) (v:=v5) (by simp) hb5
  refine ⟨A1,A2,A3,A4,A5,_,rfl,hA2,hA3,hA4,hA5,rfl,c1,f1,c2,f2,c3,f3,c4,f4,c5,f5,c6,f6,?_,kept_same (kept_same (kept_same (kept_same (kept_same k1 k2) k3) k4) k5) k6⟩
  rw [h6]; simp
theorem twelve_set {W:World} {b:Nat} {ty:TypeId} {pre post:List Value} {x0 x1 x2 x3 x4 x5 y0 y1 y2 y3 y4 y5:Value} (v0 v1 v2 v3 v4 v5 u0 u1 u2 u3 u4 u5:Value) (n k:Nat) (hn:n = pre.length) (hk:k = pre.length + 6) (hb:W.heap[b]? = some (.cells (pre++[x0,x1,x2,x3,x4,x5]++([y0,y1,y2,y3,y4,y5]++post)).toArray ty (0,0))) :
    ∃ A1 A2 A3 A4 A5 A6 B1 B2 B3 B4 B5 B6,W.setCell ⟨b,n,none⟩ v0 = A1∧A1.setCell ⟨b,n + 1,none⟩ v1 = A2∧A2.setCell ⟨b,n + 2,none⟩ v2 = A3∧A3.setCell ⟨b,n + 3,none⟩ v3 = A4∧A4.setCell ⟨b,n + 4,none⟩ v4 = A5∧A5.setCell ⟨b,n + 5,none⟩ v5 = A6 ∧
      A6.setCell ⟨b,k,none⟩ u0 = B1∧B1.setCell ⟨b,k + 1,none⟩ u1 = B2∧B2.setCell ⟨b,k + 2,none⟩ u2 = B3∧B3.setCell ⟨b,k + 3,none⟩ u3 = B4∧B4.setCell ⟨b,k + 4,none⟩ u4 = B5∧B5.setCell ⟨b,k + 5,none⟩ u5 = B6 ∧
      W.cell? ⟨b,n,none⟩ = some x0∧W.frozen? ⟨b,n,none⟩ = false∧A1.cell? ⟨b,n + 1,none⟩ = some x1∧A1.frozen? ⟨b,n + 1,none⟩ = false ∧
      A2.cell? ⟨b,n + 2,none⟩ = some x2∧A2.frozen? ⟨b,n + 2,none⟩ = false∧A3.cell? ⟨b,n + 3,none⟩ = some x3∧A3.frozen? ⟨b,n + 3,none⟩ = false ∧
      A4.cell? ⟨b,n + 4,none⟩ = some x4∧A4.frozen? ⟨b,n + 4,none⟩ = false∧A5.cell? ⟨b,n + 5,none⟩ = some x5∧A5.frozen? ⟨b,n + 5,none⟩ = false ∧
      A6.cell? ⟨b,k,none⟩ = some y0∧A6.frozen? ⟨b,k,none⟩ = false∧B1.cell? ⟨b,k + 1,none⟩ = some y1∧B1.frozen? ⟨b,k + 1,none⟩ = false ∧
      B2.cell? ⟨b,k + 2,none⟩ = some y2∧B2.frozen? ⟨b,k + 2,none⟩ = false∧B3.cell? ⟨b,k + 3,none⟩ = some y3∧B3.frozen? ⟨b,k + 3,none⟩ = false ∧
      B4.cell? ⟨b,k + 4,none⟩ = some y4∧B4.frozen? ⟨b,k + 4,none⟩ = false∧B5.cell? ⟨b,k + 5,none⟩ = some y5∧B5.frozen? ⟨b,k + 5,none⟩ = false ∧
      B6.heap[b]? = some (.cells (pre++[v0,v1,v2,v3,v4,v5]++([u0,u1,u2,u3,u4,u5]++post)).toArray ty (0,0))∧KeptBut (fun c=>c = b) W B6:=by
  obtain ⟨A1,A2,A3,A4,A5,A6,a1,a2,a3,a4,a5,a6,c1,c2,c3,c4,c5,c6,c7,c8,c9,c10,c11,c12,h1,k1⟩:=six_set v0 v1 v2 v3 v4 v5 n hn hb
  obtain ⟨B1,B2,B3,B4,B5,B6,b1,b2,b3,b4,b5,b6,d1,d2,d3,d4,d5,d6,d7,d8,d9,d10,d11,d12,h2,k2⟩:=six_set (W:=A6) (ty:=ty) (x0:=y0) (x1:=y1) (x2:=y2) (x3:=y3) (x4:=y4) (x5:=y5) (pre:=pre++[v0,v1,v2,v3,v4,v5]) (post:=post) u0 u1 u2 u3 u4 u5 k (by simp [hk]) (by rw [h1]; simp)
  exact ⟨A1,A2,A3,A4,A5,A6,B1,B2,B3,B4,B5,B6,a1,a2,a3,a4,a5,a6,b1,b2,b3,b4,b5,b6,c1,c2,c3,c4,c5,c6,c7,c8,c9,c10,c11,c12,d1,d2,d3,d4,d5,d6,d7,d8,d9,d10,d11,d12,by rw [h2]; simp,kept_same k1 k2⟩
def Lit.bareL (x:Lit):Lit:={ x with sp:=[],left:=x.left.bare,right:=x.right.bare }
def Rule.bareR (r:Rule):Rule:=⟨r.p,r.head,[],r.body.map Lit.bareL,[]⟩
theorem below_drew (w:World):Below w.heap.size w w.drew:=⟨rfl,rfl,rfl,Nat.le_refl _,fun _ _=>rfl⟩
end Go.Proofs.YtiomojlcnemnhaaGreatDoor

namespace Go.Proofs.YtiomojlcnemnhaaGreatDoor
open Go.Fx Go.RowKit Go.Ped
def pickL (body:List Lit) (first:Int) (m:Nat) (ns:List Name):Int:=if first < 0∨m.testBit first.toNat = false then nextL body ns m else first
def makeOn (body:List Lit) (first:Int):Nat→Nat→List Name→Option (List Stp)
  | 0,m,_=>if m = 0 then some [] else none
  | f + 1,m,ns =>
    if m = 0 then some [] else
    if pickL body first m ns < 0 then none else
    match body[(pickL body first m ns).toNat]? with
    | none=>none
    | some x=>(makeOn body first f (clr m (pickL body first m ns).toNat) (learnOn ns (stepOf ns x (pickL body first m ns).toNat).1.gives)).map ((stepOf ns x (pickL body first m ns).toNat).1 :: ·)
theorem makeOn_len {body:List Lit} {first:Int}:∀ (f m:Nat) (ns:List Name) (l:List Stp),makeOn body first f m ns = some l→l.length≤f
  | 0,m,ns,l,h=>by
    rw [makeOn] at h
    split at h
    · cases h; exact Nat.le_refl _
    · cases h
  | f + 1,m,ns,l,h=>by
    rw [makeOn] at h
    split at h
    · cases h; exact Nat.zero_le _
    · split at h
      · cases h
      · split at h
        · cases h
        · obtain ⟨l',h',rfl⟩:=Option.map_eq_some_iff.1 h
          have:=makeOn_len f _ _ l' h'
          rw [List.length_cons]; omega
theorem flatMap_same {α β:Type} {f g:α→List β}:∀ {l:List α},(∀ x∈l,f x = g x)→l.flatMap f = l.flatMap g
  | [],_=>rfl
  | x :: l,h=>by rw [List.flatMap_cons,List.flatMap_cons,h x (List.mem_cons_self ..),flatMap_same fun y hy=>h y (List.mem_cons_of_mem _ hy)]
theorem terms_bare:∀ e:Ex,e.bare.terms = e.terms:=by
  refine Ex.ind fun op t kids sp ih=>?_
  rw [Ex.bare_mk,Ex.terms_mk,Ex.terms_mk,List.flatMap_map]
  congr 1
  exact flatMap_same fun k hk=>ih k hk
theorem Ex.small_put {N:Nat} (s:List Pr):∀ e:Ex,e.small N→(e.put s).small N:=by
  refine Ex.ind fun op t kids sp ih h=>?_
  obtain ⟨h1,h2⟩:=Ex.small_mk.1 h
  rw [Ex.put_mk]
  refine Ex.small_mk.2 ⟨by simpa using h1,fun k hk=>?_⟩
  obtain ⟨k',hk',rfl⟩:=List.mem_map.1 hk
  exact ih k' hk' (h2 k' hk')
theorem small_bare {N:Nat} (e:Ex) (h:e.small N):e.bare.small N:=Ex.small_put [] e h
theorem bareL_terms (x:Lit):x.bareL.terms = x.terms:=by
  unfold Lit.terms Lit.bareL
  simp only [terms_bare]
theorem bareL_small {N:Nat} {x:Lit} (h:x.small N):x.bareL.small N:=⟨h.1,small_bare _ h.2.1,small_bare _ h.2.2⟩
theorem bareR_terms (r:Rule):r.bareR.terms = r.terms:=by
  unfold Rule.terms Rule.bareR
  rw [List.flatMap_map]
  congr 1
  exact flatMap_same fun k _=>bareL_terms k
theorem isLone_bare (e o:Ex) (v:Name):isLone e.bare o.bare v = isLone e o v:=by
  unfold isLone
  have h1:e.bare.op = e.op:=by cases e; rw [Ex.bare_mk]; rfl
  have h2:e.bare.t = e.t:=by cases e; rw [Ex.bare_mk]; rfl
  rw [h1,h2,terms_bare]
theorem openOf_bare (ns:List Name) (x:Lit):openOf ns x.bareL = openOf ns x:=by
  show unk ns (tmVars x.bareL.terms) = _
  rw [bareL_terms]
theorem stepOf_bare (ns:List Name) (x:Lit) (i:Nat):stepOf ns x.bareL i = stepOf ns x i:=by
  unfold stepOf
  rw [openOf_bare]
  simp only [show x.bareL.kind = x.kind from rfl,show x.bareL.l = x.l from rfl,show x.bareL.rel = x.rel from rfl,show x.bareL.left = x.left.bare from rfl,show x.bareL.right = x.right.bare from rfl,isLone_bare]
theorem runOn_bare (body:List Lit) (ns:List Name):∀ (l:List Nat) (pos:Int),runOn (body.map Lit.bareL) ns l pos = runOn body ns l pos
  | [],pos=>rfl
  | i :: l,pos=>by
    rw [runOn,runOn,List.getElem?_map]
    cases body[i]? with
    | none=>rfl
    | some x =>
      simp only [Option.map_some,stepOf_bare,show x.bareL.kind = x.kind from rfl]
      split
      · exact runOn_bare body ns l _
      · split
        · rfl
        · exact runOn_bare body ns l _
theorem nextL_bare (body:List Lit) (ns:List Name) (m:Nat):nextL (body.map Lit.bareL) ns m = nextL body ns m:=by
  unfold nextL
  rw [runOn_bare]
theorem bareR_fit {r:Rule} (hs:r.small 1048576) (hle:r.terms.length≤1048576) (hok:ruleOk r = true):BodyFit (r.body.map Lit.bareL):=fun x hx=>by
  obtain ⟨y,hy,rfl⟩:=List.mem_map.1 hx
  refine ⟨bareL_small (hs.2.2 y hy),?_,show y.l.length≤24 from lit_args ((rule_body24 hok).2 y hy)⟩
  rw [bareL_terms]
  exact Nat.le_trans (lit_terms_le hy) hle
end Go.Proofs.YtiomojlcnemnhaaGreatDoor

import Derived.Shelf.Small.Bits
import Derived.Shelf.Small.Strs
import Derived.Shelf.Strconv.Itoa0
import Derived.Shelf.Strconv.Itoa1
import Derived.Shelf.LaysM
import Derived.Shelf.Strconv.Itoa2
import Derived.Shelf.Strconv.Itoa3
import Derived.Shelf.Slices.Turned
import Derived.Shelf.Slices.Equal
import Derived.Ground.Names2Prog
import Derived.Shelf.Slices.Clone
import Derived.Shelf.Slices.Empties2
import Derived.Ground.SlgnProg
import Derived.Shelf.SlicesE.Clone
import Derived.Test.YtiomojlcnemnhaaGreatDoorProg
import Derived.Test.YtiomojlcnemnhaaGreatDoorRFxZ
import Derived.KernelRfl
import Derived.Test.YtiomojlcnemnhaaGreatDoorRGxM3
namespace Go.Proofs
open Go.Shelf
def Tryz.laysM171_ren:Go.Shelf.Ren:=⟨fun | 171=>99 | 243=>197 | 246=>265 | 283=>301 | 284=>302 | 285=>303 | 286=>304 | 129=>315 | 317=>335 | 318=>336 | 319=>337 | 320=>338 | 337=>329 | 338=>350 | n=>n,fun | 3=>3 | 9=>9 | 2=>2 | 4=>4 | 171=>313 | 0=>0 | 53=>285 | 37=>312 | 5=>5 | 173=>316 | 212=>344 | 51=>87 | 20=>20 | 213=>345 | 46=>295 | 232=>354 | 233=>358 | n=>n,fun | 17=>1 | 18=>2 | 19=>4 | n=>n⟩
theorem Tryz.laysM171:Go.Proofs.LaysM.n171 Tryz.prog Tryz.laysM171_ren:={
  mixed:=by kernel_rfl
  f129:=Tryz.func315.trans (congrArg some (by kernel_rfl))
  f171:=Tryz.func99.trans (congrArg some (by kernel_rfl))
  f243:=Tryz.func197.trans (congrArg some (by kernel_rfl))
  f246:=Tryz.func265.trans (congrArg some (by kernel_rfl))
  f283:=Tryz.func301.trans (congrArg some (by kernel_rfl))
  f284:=Tryz.func302.trans (congrArg some (by kernel_rfl))
  f285:=Tryz.func303.trans (congrArg some (by kernel_rfl))
  f286:=Tryz.func304.trans (congrArg some (by kernel_rfl))
  f317:=Tryz.func335.trans (congrArg some (by kernel_rfl))
  f318:=Tryz.func336.trans (congrArg some (by kernel_rfl))
  f319:=Tryz.func337.trans (congrArg some (by kernel_rfl))
  f320:=Tryz.func338.trans (congrArg some (by kernel_rfl))
  f337:=Tryz.func329.trans (congrArg some (by kernel_rfl))
  f338:=Tryz.func350.trans (congrArg some (by kernel_rfl))
  t0:=Tryz.underlying0
  a0:=Tryz.isAgg0
  z0:=Tryz.sizeOf0
  v0:=Tryz.zeroValue0
  t2:=Tryz.underlying2
  a2:=Tryz.isAgg2
  z2:=Tryz.sizeOf2
  v2:=Tryz.zeroValue2
  t3:=Tryz.underlying3
  a3:=Tryz.isAgg3
  z3:=Tryz.sizeOf3
  v3:=Tryz.zeroValue3
  t4:=Tryz.underlying4
  a4:=Tryz.isAgg4
  z4:=Tryz.sizeOf4
  v4:=Tryz.zeroValue4
  t5:=Tryz.underlying5
  a5:=Tryz.isAgg5
  z5:=Tryz.sizeOf5
  v5:=Tryz.zeroValue5
  t9:=Tryz.underlying9
  a9:=Tryz.isAgg9
  z9:=Tryz.sizeOf9
  v9:=Tryz.zeroValue9
  t20:=Tryz.underlying20
  a20:=Tryz.isAgg20
  z20:=Tryz.sizeOf20
  v20:=Tryz.zeroValue20
  t37:=Tryz.underlying312
  a37:=Tryz.isAgg312
  z37:=Tryz.sizeOf312
  v37:=Tryz.zeroValue312
  t46:=Tryz.underlying295
  a46:=Tryz.isAgg295
  z46:=Tryz.sizeOf295
  v46:=Tryz.zeroValue295
  t51:=Tryz.underlying87
  a51:=Tryz.isAgg87
  z51:=Tryz.sizeOf87
  v51:=Tryz.zeroValue87
  t53:=Tryz.underlying285
  a53:=Tryz.isAgg285
  z53:=Tryz.sizeOf285
  v53:=Tryz.zeroValue285
  t171:=Tryz.underlying313
  a171:=Tryz.isAgg313
  z171:=Tryz.sizeOf313
  v171:=Tryz.zeroValue313
  t173:=Tryz.underlying316
  a173:=Tryz.isAgg316
  z173:=Tryz.sizeOf316
  v173:=Tryz.zeroValue316
  t212:=Tryz.underlying344
  a212:=Tryz.isAgg344
  z212:=Tryz.sizeOf344
  v212:=Tryz.zeroValue344
  t213:=Tryz.underlying345
  a213:=Tryz.isAgg345
  z213:=Tryz.sizeOf345
  t232:=Tryz.underlying354
  a232:=Tryz.isAgg354
  z232:=Tryz.sizeOf354
  v232:=Tryz.zeroValue354
  t233:=Tryz.underlying358
  a233:=Tryz.isAgg358
  z233:=Tryz.sizeOf358
  v233:=Tryz.zeroValue358
  g17:=by kernel_rfl
  g18:=by kernel_rfl
  g19:=by kernel_rfl
  i0:=by kernel_rfl
  i2:=by kernel_rfl
  i3:=by kernel_rfl
  i4:=by kernel_rfl
  i5:=by kernel_rfl
  i9:=by kernel_rfl
  i20:=by kernel_rfl
  i37:=by kernel_rfl
  i46:=by kernel_rfl
  i51:=by kernel_rfl
  i53:=by kernel_rfl
  i171:=by kernel_rfl
  i173:=by kernel_rfl
  i212:=by kernel_rfl
  i232:=by kernel_rfl
  i233:=by kernel_rfl
  m17:=by kernel_rfl
  m18:=by kernel_rfl
  m19:=by kernel_rfl }
open Go.RowKit Go.Sort Go.Lib in
theorem Tryz.strconv_Itoa (n:Int) (h0:-9223372036854775808≤n) (h1:n≤9223372036854775807) (w:World) (htab:Lib.TabIs Tryz.prog w "internal/strconv.uint64pow10" .u64 Lib.pow10Tab) :
    Calls Tryz.prog 99 #[.int .i64 n] w fun e w'=>e = .returned (.string ⟨(Lib.itoa n).toArray⟩)∧∃ k os,w' = grow (w.drewN k) os:=Any.strconv_Itoa Tryz.laysM171 n h0 h1 w htab
end Go.Proofs

namespace Go.Fx
open Go.RowKit
def tab10 (P:Program) (w:World):Prop:=Lib.TabIs P w "internal/strconv.uint64pow10" .u64 Lib.pow10Tab
theorem m207 (n:Int) (h0:-9223372036854775808≤n) (h1:n≤9223372036854775807):Meets Go.Proofs.Tryz.prog (tab10 Go.Proofs.Tryz.prog) 99 [.one (cI .i64 n)] (.x (.one (cS (bs (Lib.itoa n))))):=by
  refine ⟨by kernel_rfl,fun w V vs hG hV ha=>?_⟩
  obtain ⟨v,vs',rfl,hv,hn⟩:=ha.head
  obtain rfl:=hn.nil_left
  have hv':v = .int .i64 n:=by cases hv; rfl
  subst hv'
  have ht:Lib.TabIs Go.Proofs.Tryz.prog w "internal/strconv.uint64pow10" .u64 Lib.pow10Tab:=hG w (Below.refl _ _)
  refine (Go.Proofs.Tryz.strconv_Itoa n h0 h1 w ht).mono fun e w' ⟨he,k,os,hw⟩=>⟨_,he,.v _ rfl,?_⟩
  subst hw
  have hg:Below w.heap.size (w.drewN k) (Sort.grow (w.drewN k) os):=⟨rfl,rfl,rfl,by simp [Sort.grow],fun i hi=>by
    show (w.heap++os)[i]? = w.heap[i]?
    rw [Array.getElem?_append_left hi]⟩
  exact Below.trans (show Below w.heap.size w (w.drewN k) from ⟨rfl,rfl,rfl,Nat.le_refl _,fun _ _=>rfl⟩) hg
end Go.Fx

namespace Go.Fx
open Go.RowKit
abbrev ksSame (t0 t1 t10 t5 t14 t25 t4:T) (O:List (Nat × Box)) (U:List (Nat × Tok)) (H:FHp):S:=st [(0,t0),(1,t1),(10,t10),(5,t5),(14,t14),(25,t25),(4,t4)] O U H
def icSamel0 (s:Nat) (ks:List Kd):IC :=
 (.seq
  (.seq
   (.region [] [] [0,1,10,5,14,25,4] [
     ⟨(some 11),(.move (.t 5)),none,none⟩,
     ⟨(some 12),(.move (.t 0)),none,none⟩,
     ⟨(some 13),(.len (.t 12)),none,none⟩,
     ⟨(some 14),(.bin .lss (.t 11) (.t 13)),none,none⟩])
   (.cond (.t 14)
    .skip
    (.exit 0)))
  (.seq
   (.block 1
    (.seq
     (.region [] [] [0,1,10,5,14,25,4] [
       ⟨(some 17),(.move (.t 0)),none,none⟩,
       ⟨(some 18),(.move (.t 5)),none,none⟩,
       ⟨(some 19),(.iaddr s (.t 17) (.t 18)),none,none⟩,
       ⟨(some 20),(.load (some s) (.t 19)),none,none⟩,
       ⟨(some 21),(.move (.t 1)),none,none⟩,
       ⟨(some 22),(.move (.t 5)),none,none⟩,
       ⟨(some 23),(.iaddr s (.t 21) (.t 22)),none,none⟩,
       ⟨(some 24),(.load (some s) (.t 23)),none,none⟩,
       ⟨(some 25),(.eqs true ks (.t 20) (.t 24)),none,none⟩])
     (.cond (.t 25)
      (.seq
       (.region [] [] [0,1,10,5,14,25,4] [
         ⟨(some 4),(.move (.k (rB false))),none,none⟩])
       .ret)
      .skip)))
   (.region [] [] [0,1,10,5,14,25,4] [
     ⟨(some 15),(.move (.t 5)),none,none⟩,
     ⟨(some 16),(.bin .add (.t 15) (.k (rI .i64 1))),none,none⟩,
     ⟨(some 5),(.move (.t 16)),none,none⟩])))
def icSame (s:Nat) (ks:List Kd):IC :=
 (.seq
  (.region [] [] [0,1,10,5,14,25,4] [
    ⟨(some 4),(.move (.k (rB false))),none,none⟩])
  (.seq
   (.seq
    (.region [] [] [0,1,10,5,14,25,4] [
      ⟨(some 6),(.move (.t 0)),none,none⟩,
      ⟨(some 7),(.len (.t 6)),none,none⟩,
      ⟨(some 8),(.move (.t 1)),none,none⟩,
      ⟨(some 9),(.len (.t 8)),none,none⟩,
      ⟨(some 10),(.bin .neq (.t 7) (.t 9)),none,none⟩])
    (.cond (.t 10)
     (.seq
      (.region [] [] [0,1,10,5,14,25,4] [
        ⟨(some 4),(.move (.k (rB false))),none,none⟩])
      .ret)
     .skip))
   (.seq
    (.seq
     (.region [] [] [0,1,10,5,14,25,4] [
       ⟨(some 5),(.move (.k (rI .i64 0))),none,none⟩])
     (.block 0
      (.loop (icSamel0 s ks))))
    (.seq
     (.region [] [] [0,1,10,5,14,25,4] [
       ⟨(some 4),(.move (.k (rB true))),none,none⟩])
     .ret))))
structure Enc (α:Type) (s:Nat) (ks:List Kd) where
  row:α→List C
  len:∀ x,(row x).length = s
  eq:∀ (x y:α) (_e:DecidableEq α),eqRows ks ((row x).map A.c) ((row y).map A.c) = some (decide (x = y))
section
variable {P:Program} {G:World→Prop} {α:Type} [DecidableEq α] {s:Nat} {ks:List Kd}
theorem same_gen (E:Enc α s ks) {f:FuncId} {fn:Func} (hf:P.funcs[f]? = some fn) (hc:cmpFunc P ⟨[],[]⟩ fn [0,1,10,5,14,25,4] = some (icSame s ks)) (hr:cmpRes P fn.results.toList = some [.tmp 4]) (hn:2≤fn.ntmps)
    (l m:List α) (sp sq:List (List C)) (hl:l.length≤maxLen):Meets P G f [.one (.sl (l.map E.row) sp),.one (.sl (m.map E.row) sq)] (.x (.one (cB (decide (l = m))))):=by
  refine meets hf hc hr hn ?_
  simp [icSame]
  constructor
  · intro h
    have:¬ l = m:=fun e=>by subst e; exact h rfl
    simpa using this
  intro hlen
  have hlen:l.length = m.length:=by omega
  refine w_loopK (fun n σ=>∃ (i:Nat) (t10 t14 t25:T),i + n = l.length∧l.take i = m.take i∧σ = ksSame (.k true (.x (.one (.c (.sl (l.map E.row) sp))))) (.k true (.x (.one (.c (.sl (m.map E.row) sq))))) t10 (tI .i64 i) t14 t25 (tB false) [] [] F0)
    l.length ⟨0,_,_,_,by simp,by simp,rfl⟩ ?_
  rintro n σ1 K hK ⟨i,t10,t14,t25,hi,hd,rfl⟩
  obtain hlt | hge:=Nat.lt_or_ge i l.length
  · have hltm:i < m.length:=by omega
    have hI:∀ t10 t14 t25,l.take (i + 1) = m.take (i + 1)→K (ksSame (.k true (.x (.one (.c (.sl (l.map E.row) sp))))) (.k true (.x (.one (.c (.sl (m.map E.row) sq))))) t10 (tI .i64 (i + 1)) t14 t25 (tB false) [] [] F0) :=
      fun t10 t14 t25 h=>hK _ (n - 1) (by omega) ⟨i + 1,t10,t14,t25,by omega,h,rfl⟩
    clear hK
    have h1:=E.len l[i]
    have h2:=E.len m[i]
    have k1:((E.row l[i]).map A.c).take s = (E.row l[i]).map A.c:=List.take_of_length_le (by simp [h1])
    have k2:((E.row m[i]).map A.c).take s = (E.row m[i]).map A.c:=List.take_of_length_le (by simp [h2])
    have he:=E.eq l[i] m[i] inferInstance
    simp [icSamel0,hlt,hltm,h1,h2,k1,k2,he,wrap_next hlt (by unfold maxLen at hl; omega)]
    constructor
    · intro hne e
      subst e
      exact hne rfl
    · intro e
      refine hI _ _ _ ?_
      rw [List.take_succ_eq_append_getElem hlt,List.take_succ_eq_append_getElem hltm,hd,e]
  · have:l = m:=by
      rw [List.take_of_length_le hge,List.take_of_length_le (by omega)] at hd; exact hd
    subst this
    simp [icSamel0,Nat.not_lt.mpr hge]
end
end Go.Fx

namespace Go.Fx
open Go.RowKit
abbrev ksTwin (t0 t4 t12 t3 t2:T) (O:List (Nat × Box)) (U:List (Nat × Tok)) (H:FHp):S:=st [(0,t0),(4,t4),(12,t12),(3,t3),(2,t2)] O U H
def icTwinl0 (s:Nat):IC :=
 (.seq
  (.seq
   (.region [] [] [0,4,12,3,2] [
     ⟨(some 9),(.move (.t 4)),none,none⟩,
     ⟨(some 10),(.move (.t 0)),none,none⟩,
     ⟨(some 11),(.len (.t 10)),none,none⟩,
     ⟨(some 12),(.bin .lss (.t 9) (.t 11)),none,none⟩])
   (.cond (.t 12)
    .skip
    (.exit 0)))
  (.seq
   (.block 1
    (.region [] [] [0,4,12,3,2] [
      ⟨(some 15),(.move (.t 3)),none,none⟩,
      ⟨(some 16),(.move (.t 4)),none,none⟩,
      ⟨(some 17),(.move (.t 0)),none,none⟩,
      ⟨(some 18),(.move (.t 4)),none,none⟩,
      ⟨(some 19),(.iaddr s (.t 17) (.t 18)),none,none⟩,
      ⟨(some 20),(.load (some s) (.t 19)),none,none⟩,
      ⟨(some 21),(.iaddr s (.t 15) (.t 16)),none,none⟩,
      ⟨none,(.store (some s) (.t 21) (.t 20)),none,none⟩]))
   (.region [] [] [0,4,12,3,2] [
     ⟨(some 13),(.move (.t 4)),none,none⟩,
     ⟨(some 14),(.bin .add (.t 13) (.k (rI .i64 1))),none,none⟩,
     ⟨(some 4),(.move (.t 14)),none,none⟩])))
def icTwin (ty s bytes:Nat) (z:List A) (mark:FuncId):IC :=
 (.seq
  (.region [] [] [0,4,12,3,2] [
    ⟨(some 2),(.move (.k (.x (.one .nil)))),none,none⟩])
  (.seq
   (.region [8] [] [0,4,12,3,2] [
     ⟨(some 5),(.move (.t 0)),none,none⟩,
     ⟨(some 6),(.len (.t 5)),none,none⟩,
     ⟨(some 7),(.bin .add (.t 6) (.k (rI .i64 1))),none,none⟩,
     ⟨(some 8),(.make ty s bytes z (.t 7) (.t 7)),none,none⟩,
     ⟨(some 3),(.move (.t 8)),none,none⟩])
   (.seq
    (.seq
     (.region [] [] [0,4,12,3,2] [
       ⟨(some 4),(.move (.k (rI .i64 0))),none,none⟩])
     (.block 0
      (.loop (icTwinl0 s))))
    (.seq
     (.region [] [] [0,4,12,3,2] [
       ⟨(some 22),(.move (.t 3)),none,none⟩,
       ⟨(some 23),(.move (.t 0)),none,none⟩,
       ⟨(some 24),(.len (.t 23)),none,none⟩,
       ⟨(some 25),(.callp (.k (rF mark)) [(.k (rI .i64 777777))]),none,none⟩,
       ⟨(some 26),(.iaddr s (.t 22) (.t 24)),none,none⟩,
       ⟨none,(.store (some s) (.t 26) (.t 25)),none,none⟩])
     (.seq
      (.region [] [] [0,4,12,3,2] [
        ⟨(some 27),(.move (.t 3)),none,none⟩,
        ⟨(some 28),(.move (.t 0)),none,none⟩,
        ⟨(some 29),(.len (.t 28)),none,none⟩,
        ⟨(some 30),(.vsl s (.t 27) none (some (.t 29))),none,none⟩,
        ⟨(some 2),(.move (.t 30)),none,none⟩])
      .ret)))))
section
variable {P:Program} {G:World→Prop} {α:Type} {s:Nat} {ks:List Kd}
theorem set_mid {β:Type} (a:List β) (x y:β) (b:List β):(a++x :: b).set a.length y = a++y :: b:=by simp
theorem getD_mid {β:Type} (a:List β) (x d:β) (b:List β):(a++x :: b).getD a.length d = x:=by simp
def midRows (E:Enc α s ks) (l:List α) (z:List A) (i:Nat):List (List A):=(l.take i).map (fun x=>(E.row x).map A.c)++List.replicate (l.length + 1 - i) z
theorem midRows_length (E:Enc α s ks) (l:List α) (z:List A) {i:Nat} (h:i≤l.length):(midRows E l z i).length = l.length + 1:=by
  simp [midRows,List.length_take,Nat.min_eq_left h]; omega
theorem midRows_getD (E:Enc α s ks) (l:List α) (z:List A) {i:Nat} (h:i≤l.length):(midRows E l z i).getD i [] = z:=by
  have h1:((l.take i).map (fun x=>(E.row x).map A.c)).length = i:=by simp [List.length_take,Nat.min_eq_left h]
  have h2:l.length + 1 - i = (l.length - i) + 1:=by omega
  unfold midRows
  rw [h2,List.replicate_succ]
  conv=>lhs; arg 2; rw [← h1]
  exact getD_mid _ _ _ _
theorem midRows_set (E:Enc α s ks) (l:List α) (z:List A) {i:Nat} (h:i < l.length):(midRows E l z i).set i ((E.row l[i]).map A.c) = midRows E l z (i + 1):=by
  have h1:((l.take i).map (fun x=>(E.row x).map A.c)).length = i:=by simp [List.length_take,Nat.min_eq_left (Nat.le_of_lt h)]
  have h2:l.length + 1 - i = (l.length + 1 - (i + 1)) + 1:=by omega
  unfold midRows
  rw [h2,List.replicate_succ]
  conv=>lhs; arg 2; rw [← h1]
  rw [set_mid,List.take_succ_eq_append_getElem h,List.map_append,List.append_assoc]
  rfl
theorem midRows_last (E:Enc α s ks) (l:List α) (z:List A) (x:α):(midRows E l z l.length).set l.length ((E.row x).map A.c) = (l.map E.row++[E.row x]).map fun r=>r.map A.c:=by
  have h1:((l.take l.length).map (fun x=>(E.row x).map A.c)).length = l.length:=by simp
  have h2:l.length + 1 - l.length = 0 + 1:=by omega
  unfold midRows
  rw [h2,List.replicate_succ]
  conv=>lhs; arg 2; rw [← h1]
  rw [set_mid]
  simp [Function.comp_def]
theorem twin_gen (E:Enc α s ks) {f mark:FuncId} {fn:Func} {ty bytes:Nat} {z:List A} {x:α} (hf:P.funcs[f]? = some fn) (hc:cmpFunc P ⟨[],[]⟩ fn [0,4,12,3,2] = some (icTwin ty s bytes z mark)) (hr:cmpRes P fn.results.toList = some [.tmp 2]) (hn:1≤fn.ntmps)
    (hz:z.length = s) (hb:bytes≤1024) (hm:Meets P G mark [.one (cI .i64 777777)] (.x (.agg (E.row x)))) (l:List α) (sp:List (List C)) (hl:l.length≤1048576):Meets P G f [.one (.sl (l.map E.row) sp)] (.x (.one (.sl (l.map E.row) [E.row x]))):=by
  refine meetsF [8] hf hc hr hn ?_
  have hw:IntKind.i64.wrap ((l.length:Int) + 1) = (l.length:Int) + 1:=by rw [Go.IntWalk.i64_in _ (by omega)]
  simp [icTwin,hw]
  refine k_make rfl rfl rfl (by omega) (by omega) (by unfold maxLen; omega) (by
    have:(bytes:Int) * ((l.length:Int) + 1)≤1024 * 1048577:=by
      have h1:(bytes:Int)≤1024:=by omega
      have h2:(l.length:Int) + 1≤1048577:=by omega
      exact Int.mul_le_mul h1 h2 (by omega) (by omega)
    unfold maxBytes; omega) hz ?_
  have hn1:((l.length:Int) + 1).toNat = l.length + 1:=by omega
  simp [hn1]
  refine w_loopK (fun n σ=>∃ (i:Nat) (t12:T),i + n = l.length∧σ = ksTwin (.k true (.x (.one (.c (.sl (l.map E.row) sp))))) (tI .i64 i) t12 (.k true (.x (.one (.arr 8 0 (l.length + 1) (l.length + 1))))) (.k true (.x (.one .nil))) [(8,⟨ty,s,midRows E l z i,none⟩)] [] F0)
    l.length ⟨0,_,by simp,by simp [midRows]; rfl⟩ ?_
  rintro n σ1 K hK ⟨i,t12,hi,rfl⟩
  obtain hlt | hge:=Nat.lt_or_ge i l.length
  · have hI:∀ t12,K (ksTwin (.k true (.x (.one (.c (.sl (l.map E.row) sp))))) (tI .i64 (i + 1)) t12 (.k true (.x (.one (.arr 8 0 (l.length + 1) (l.length + 1))))) (.k true (.x (.one .nil))) [(8,⟨ty,s,midRows E l z (i + 1),none⟩)] [] F0) :=
      fun t12=>hK _ (n - 1) (by omega) ⟨i + 1,t12,by omega,rfl⟩
    clear hK
    have h1:=E.len l[i]
    have k1:((E.row l[i]).map A.c).take s = (E.row l[i]).map A.c:=List.take_of_length_le (by simp [h1])
    have g1:=midRows_length E l z (Nat.le_of_lt hlt)
    have g2:(midRows E l z i)[i]?.getD [] = z:=by simpa using midRows_getD E l z (Nat.le_of_lt hlt)
    have hzd:z.drop s = []:=List.drop_eq_nil_of_le (by omega)
    have g3:=midRows_set E l z hlt
    simp [icTwinl0,hlt,h1,k1,wrap_next hlt (by omega),g1,g2,g3,hz,hzd]
    exact ⟨by omega,by omega,hI _⟩
  · obtain rfl:i = l.length:=by omega
    have g1:=midRows_length E l z (Nat.le_refl l.length)
    have g2:(midRows E l z l.length)[l.length]?.getD [] = z:=by simpa using midRows_getD E l z (Nat.le_refl l.length)
    have g2':∀ h,(midRows E l z l.length)[l.length]'h = z:=fun h=>by have g:=g2; rw [List.getElem?_eq_getElem h] at g; exact g
    have g3:=midRows_last E l z x
    have hzd:z.drop s = []:=List.drop_eq_nil_of_le (by omega)
    have h1:=E.len x
    simp [icTwinl0]
    refine r_call mark true _ _ hm rfl rfl rfl rfl ?_
    simp [g1,g2',hz,hzd,h1,g3]
    refine ⟨by omega,?_⟩
    have hrows:List.map ((fun r=>List.map A.c r) ∘ E.row) l++[List.map A.c (E.row x)] = (l.map E.row++[E.row x]).map fun r=>r.map A.c:=by simp
    rw [hrows,freeze_st]
    have hB:fzL [(8,⟨ty,s,(l.map E.row++[E.row x]).map fun r=>r.map A.c,none⟩)] [8] = [(8,l.map E.row++[E.row x])]:=by
      have hlen:((l.map E.row++[E.row x]).map fun r=>r.map A.c).length≤maxLen:=by simp; unfold maxLen; omega
      simp only [fzL,lookO_cons,if_true]
      rw [if_pos (by omega),if_pos ⟨trivial,hlen⟩,closeLL_c]
    rw [hB]
    simp [freezeO,ret_one]
    omega
def icLeft (s:Nat) (same mark:FuncId):IC :=
 (.seq
  (.region [] [] [0,1,4] [
    ⟨(some 4),(.move (.k (rB false))),none,none⟩])
  (.seq
   (.region [] [] [0,1,4] [
     ⟨(some 5),(.move (.t 0)),none,none⟩,
     ⟨(some 6),(.move (.t 1)),none,none⟩,
     ⟨(some 7),(.callp (.k (rF same)) [(.t 5),(.t 6)]),none,none⟩,
     ⟨(some 8),(.move (.t 7)),none,none⟩,
     ⟨(some 9),(.move (.t 0)),some (8,true),none⟩,
     ⟨(some 10),(.move (.t 1)),some (8,true),none⟩,
     ⟨(some 11),(.len (.t 10)),some (8,true),none⟩,
     ⟨(some 12),(.bin .add (.t 11) (.k (rI .i64 1))),some (8,true),none⟩,
     ⟨(some 13),(.vsl s (.t 9) none (some (.t 12))),some (8,true),none⟩,
     ⟨(some 14),(.move (.t 1)),some (8,true),none⟩,
     ⟨(some 15),(.len (.t 14)),some (8,true),none⟩,
     ⟨(some 16),(.iaddr s (.t 13) (.t 15)),some (8,true),none⟩,
     ⟨(some 17),(.load (some s) (.t 16)),some (8,true),none⟩,
     ⟨(some 18),(.callp (.k (rF mark)) [(.t 17),(.k (rI .i64 777777))]),some (8,true),none⟩,
     ⟨(some 19),(.pick (.t 8) (.t 18) (.k (rB false))),none,none⟩,
     ⟨(some 4),(.move (.t 19)),none,none⟩])
   .ret))
set_option maxHeartbeats 2000000 in
theorem left_gen (E:Enc α s ks) {f same mark:FuncId} {fn:Func} {x:α} (hf:P.funcs[f]? = some fn) (hc:cmpFunc P ⟨[],[]⟩ fn [0,1,4] = some (icLeft s same mark)) (hr:cmpRes P fn.results.toList = some [.tmp 4]) (hn:2≤fn.ntmps) (l:List α) (sp:List (List C)) (hl:l.length≤1048576)
    (hs:Meets P G same [.one (.sl (l.map E.row) [E.row x]),.one (.sl (l.map E.row) sp)] (.x (.one (cB true)))) (hm:Meets P G mark [.agg (E.row x),.one (cI .i64 777777)] (.x (.one (cB true)))) :
    Meets P G f [.one (.sl (l.map E.row) [E.row x]),.one (.sl (l.map E.row) sp)] (.x (.one (cB true))):=by
  refine meets hf hc hr hn ?_
  have hw:IntKind.i64.wrap ((l.length:Int) + 1) = (l.length:Int) + 1:=by rw [Go.IntWalk.i64_in _ (by omega)]
  have hn1:((l.length:Int) + 1).toNat = l.length + 1:=by omega
  have h1:=E.len x
  have hlx:∀ a∈l,(E.row a).length = s:=fun a _=>E.len a
  have k1:((E.row x).map A.c).take s = (E.row x).map A.c:=List.take_of_length_le (by simp [h1])
  simp [icLeft]
  refine r_call same true _ _ hs rfl rfl rfl rfl ?_
  have ht:(l.map E.row++[E.row x]).take (l.length + 1) = l.map E.row++[E.row x]:=List.take_of_length_le (by simp)
  have hd:(l.map E.row++[E.row x]).drop (l.length + 1) = []:=List.drop_eq_nil_of_le (by simp)
  have hg:∀ h,(l.map E.row++[E.row x])[l.length]'h = E.row x:=fun h=>by simp
  have hall:∀ e∈l.map E.row++[E.row x],e.length = s:=fun e he=>by
    rcases List.mem_append.1 he with he | he
    · obtain ⟨a,_,rfl⟩:=List.mem_map.1 he; exact E.len a
    · simp only [List.mem_singleton] at he; subst he; exact h1
  generalize hR:l.map E.row++[E.row x] = R at *
  have hRl:R.length = l.length + 1:=by rw [← hR]; simp
  simp (maxSteps:=4000000) [hw,hn1,hR,ht,hd,hRl,hg,k1,h1]
  refine ⟨⟨by omega,hall⟩,by omega,?_⟩
  refine r_call mark true _ _ hm rfl rfl rfl (by simp) ?_
  simp
end
end Go.Fx

namespace Go.Proofs.YtiomojlcnemnhaaGreatDoor
open Go.Fx Go.RowKit
variable {G:World→Prop}
abbrev GT:World→Prop:=tab10 Tryz.prog
def markW (n:Int):List UInt8:=35 :: Lib.itoa n
theorem m172 (n:Int) (h0:-9223372036854775808≤n) (h1:n≤9223372036854775807) (hl:(Lib.itoa n).length≤100):Meets Tryz.prog GT 171 [.one (cI .i64 n)] (.x (.one (cS (bs (markW n))))):=by
  refine meets Tryz.func171 ie172 ig172 (Nat.le_of_ble_eq_true rfl) ?_
  simp [ic172,ir172]
  refine r_call 99 true _ _ (m207 n h0 h1) rfl rfl rfl rfl ?_
  simp [markW]
  omega
end Go.Proofs.YtiomojlcnemnhaaGreatDoor

namespace Go.Proofs.YtiomojlcnemnhaaGreatDoor
open Go.Fx Go.RowKit Go.Ped
variable {G:World→Prop}
theorem itoa777:(Lib.itoa 777777).length≤100:=by decide +kernel
def markT:Tm:=⟨markW 777777,zeroV⟩
def encT:Enc Tm 4 [.s,.i .i8,.i .i64,.s] where
  row:=Tm.row
  len:=fun _=>rfl
  eq:=fun x y _=>by
    obtain ⟨a,k,n,s⟩:=x
    obtain ⟨b,l,m,t⟩:=y
    simp [Tm.row]
    rw [Bool.eq_iff_iff]
    simp
theorem m129 (l m:List Tm) (sp sq:List (List C)) (hl:l.length≤maxLen):Meets Tryz.prog G 84 [.one (.sl (l.map Tm.row) sp),.one (.sl (m.map Tm.row) sq)] (.x (.one (cB (decide (l = m))))) :=
  same_gen encT Tryz.func84 ie129 ig129 (Nat.le_of_ble_eq_true rfl) l m sp sq hl
theorem m129' (l:List Tm) (sp sq:List (List C)) (hl:l.length≤maxLen):Meets Tryz.prog G 84 [.one (.sl (l.map Tm.row) sp),.one (.sl (l.map Tm.row) sq)] (.x (.one (cB true))):=by
  have:=m129 (G:=G) l l sp sq hl
  simpa using this
theorem m163:Meets Tryz.prog GT 172 [.one (cI .i64 777777)] (.x (.agg markT.row)):=by
  refine meets Tryz.func172 ie163 ig163 (Nat.le_of_ble_eq_true rfl) ?_
  simp [ic163,ir163]
  refine r_call 171 true _ _ (m172 777777 (by omega) (by omega) itoa777) rfl rfl rfl rfl ?_
  simp [markT,Tm.row,zeroV]
theorem m165:Meets Tryz.prog GT 180 [.agg markT.row,.one (cI .i64 777777)] (.x (.one (cB true))):=by
  refine meets Tryz.func180 ie165 ig165 (Nat.le_of_ble_eq_true rfl) ?_
  simp [ic165,ir165,markT,Tm.row,zeroV]
  refine r_call 171 true _ _ (m172 777777 (by omega) (by omega) itoa777) rfl rfl rfl rfl ?_
  simp
theorem m108 (l:List Tm) (sp:List (List C)) (hl:l.length≤1048576):Meets Tryz.prog GT 75 [.one (.sl (l.map Tm.row) sp)] (.x (.one (.sl (l.map Tm.row) [markT.row]))) :=
  twin_gen (x:=markT) encT Tryz.func75 ie108 ig108 (Nat.le_of_ble_eq_true rfl) rfl (by omega) m163 l sp hl
theorem m110 (l:List Tm) (sp:List (List C)) (hl:l.length≤1048576):Meets Tryz.prog GT 90 [.one (.sl (l.map Tm.row) [markT.row]),.one (.sl (l.map Tm.row) sp)] (.x (.one (cB true))) :=
  left_gen (x:=markT) encT Tryz.func90 ie110 ig110 (Nat.le_of_ble_eq_true rfl) l sp hl (m129' l [markT.row] sp (by unfold maxLen; omega)) m165
theorem m37 (p:Name) (l:List Tm) (sp:List (List C)) (hl:l.length≤1048576):Meets Tryz.prog GT 15 [.agg [cS (bs p),.sl (l.map Tm.row) sp]] (.x (.agg [cS (bs p),.sl (l.map Tm.row) [markT.row]])):=by
  refine meets Tryz.func15 ie37 ig37 (Nat.le_of_ble_eq_true rfl) ?_
  simp [ic37,ir37]
  refine r_call 75 true _ _ (m108 l sp hl) rfl rfl rfl rfl ?_
  simp
theorem m40 (p:Name) (l:List Tm) (sp:List (List C)) (hl:l.length≤1048576):Meets Tryz.prog GT 24 [.agg [cS (bs p),.sl (l.map Tm.row) [markT.row]],.agg [cS (bs p),.sl (l.map Tm.row) sp]] (.x (.one (cB true))):=by
  refine meets Tryz.func24 ie40 ig40 (Nat.le_of_ble_eq_true rfl) ?_
  simp [ic40,ir40]
  refine r_call 90 true _ _ (m110 l sp hl) rfl rfl rfl rfl ?_
  simp
theorem m30 (x:Name) (l:List Name) (sp:List (List C)) (hl:l.length≤maxLen):Meets Tryz.prog G 67 [.one (cS (bs x)),.one (.sl (l.map fun v=>[cS (bs v)]) sp)] (.x (.one (cB (l.contains x)))):=by
  refine meets Tryz.func67 ie30 ig30 (Nat.le_of_ble_eq_true rfl) ?_
  simp [ic30,ir30]
  refine w_loopK (fun n σ=>∃ (i:Nat) (t9 t17:T),i + n = l.length∧(x∈l↔x∈l.drop i)∧σ = ks30 (tI .i64 i) (.k true (.x (.one (.c (.sl (l.map fun v=>[cS (bs v)]) sp))))) t9 (tS x) t17 (tB false) [] [] F0)
    l.length ⟨0,_,_,by simp,by simp,rfl⟩ ?_
  rintro n σ1 K hK ⟨i,t9,t17,hi,hd,rfl⟩
  obtain hlt | hge:=Nat.lt_or_ge i l.length
  · obtain ⟨c,hc,hdr⟩:=at_list hlt
    obtain ⟨_,rfl⟩:=List.getElem?_eq_some_iff.1 hc
    rw [hdr] at hd
    have hI:∀ t9 t17,(x∈l↔x∈l.drop (i + 1))→K (ks30 (tI .i64 (i + 1)) (.k true (.x (.one (.c (.sl (l.map fun v=>[cS (bs v)]) sp))))) t9 (tS x) t17 (tB false) [] [] F0) :=
      fun t9 t17 h=>hK _ (n - 1) (by omega) ⟨i + 1,t9,t17,by omega,h,rfl⟩
    clear hK
    simp [ic30l0,hlt,wrap_next hlt (by unfold maxLen at hl; omega)]
    constructor
    · intro h
      exact h ▸ List.getElem_mem _
    · intro h
      refine hI _ _ ?_
      rw [hd,List.mem_cons]
      simp [Ne.symm h]
  · simp [ic30l0,Nat.not_lt.mpr hge,hd,List.drop_eq_nil_of_le hge]
end Go.Proofs.YtiomojlcnemnhaaGreatDoor

namespace Go.Fx
open Go.RowKit
section
variable {P:Program} {G:World→Prop} {L:List (Nat × T)} {O:List (Nat × Box)} {U:List (Nat × Tok)} {H:FHp} {l:List IOper} {K:S→Prop} {d:Nat}
def AccS (k j:Nat) (ty:TypeId) (size:Nat) (es:List (List C)) (a:A) (U:List (Nat × Tok)):Prop :=
  (es = []∧a = .nil∧U = [])∨(a = .own k es∧U = [(k,⟨ty,size,es.length⟩),(j,⟨ty,size,1⟩)])∨(a = .own k es∧U = [(j,⟨ty,size,1⟩),(k,⟨ty,size,es.length⟩)])
theorem AccS.nil {k j size:Nat} {ty:TypeId}:AccS k j ty size [] .nil []:=.inl ⟨rfl,rfl,rfl⟩
theorem AccS.own {k j size:Nat} {ty:TypeId} {es:List (List C)} {n:Nat} (h:n = es.length):AccS k j ty size es (.own k es) [(k,⟨ty,size,n⟩),(j,⟨ty,size,1⟩)]:=.inr (.inl ⟨rfl,by rw [h]⟩)
theorem AccS.own' {k j size:Nat} {ty:TypeId} {es:List (List C)} {n:Nat} (h:n = es.length):AccS k j ty size es (.own k es) [(j,⟨ty,size,1⟩),(k,⟨ty,size,n⟩)]:=.inr (.inr ⟨rfl,by rw [h]⟩)
theorem AccS.close {k j size:Nat} {ty:TypeId} {es:List (List C)} {t:A} {U:List (Nat × Tok)} (h:AccS k j ty size es t U):t.close = some (.sl es []):=by
  rcases h with ⟨rfl,rfl,rfl⟩ | ⟨rfl,rfl⟩ | ⟨rfl,rfl⟩ <;> rfl
theorem AccS.args {k j size:Nat} {ty:TypeId} {es:List (List C)} {t:A} {U:List (Nat × Tok)} (h:AccS k j ty size es t U):(X.one t).close = some (.one (.sl es [])):=by
  simp only [X.close,h.close,Option.map_some]
theorem X.close_c (c:C):(X.one (.c c)).close = some (.one c):=rfl
end
end Go.Fx

namespace Go.Proofs.YtiomojlcnemnhaaGreatDoor
open Go.Fx Go.RowKit Go.Ped
variable {G:World→Prop}
theorem m91 (p:Name) (l:List Tm) (sp:List (List C)) :
    Meets Tryz.prog G 251 [.agg [cS (bs p),.sl (l.map Tm.row) sp]] (.x (.one (cB (atomOk p l)))):=by
  refine meets Tryz.func251 ie91 ig91 (Nat.le_of_ble_eq_true rfl) ?_
  simp [ic91,ir91]
  refine r_call 174 true _ _ (m156 _) rfl rfl rfl rfl ?_
  simp
  refine ⟨fun h=>by simp [atomOk,h],fun h1=>⟨fun h=>?_,fun h2=>?_⟩⟩
  · have:¬ l.length≤24:=by omega
    simp [atomOk,this]
  refine w_loopK (fun n σ=>∃ (i:Nat) (t13 t18 t27:T),i + n = l.length∧(l.all Tm.ok = (l.drop i).all Tm.ok)∧σ = ks91 (.k true (.x (.agg [.c (cS (bs p)),.c (.sl (l.map Tm.row) sp)]))) (.k true (.x (.one (.ref 1 0 0)))) t13 (tI .i64 i) t18 t27 (tB false) [(1,⟨25,2,[[.c (cS (bs p)),.c (.sl (l.map Tm.row) sp)]],none⟩)] [] F0)
    l.length ⟨0,_,_,_,by simp,by simp,rfl⟩ ?_
  rintro n σ1 K hK ⟨i,t13,t18,t27,hi,hd,rfl⟩
  have hat:atomOk p l = l.all Tm.ok:=by simp only [atomOk,h1,Bool.true_and,decide_eq_true (show l.length≤24 by omega)]
  obtain hlt | hge:=Nat.lt_or_ge i l.length
  · obtain ⟨c,hc,hdr⟩:=at_list hlt
    obtain ⟨_,rfl⟩:=List.getElem?_eq_some_iff.1 hc
    rw [hdr] at hd
    have hI:∀ t13 t18 t27,l.all Tm.ok = (l.drop (i + 1)).all Tm.ok→K (ks91 (.k true (.x (.agg [.c (cS (bs p)),.c (.sl (l.map Tm.row) sp)]))) (.k true (.x (.one (.ref 1 0 0)))) t13 (tI .i64 (i + 1)) t18 t27 (tB false) [(1,⟨25,2,[[.c (cS (bs p)),.c (.sl (l.map Tm.row) sp)]],none⟩)] [] F0) :=
      fun t13 t18 t27 h=>hK _ (n - 1) (by omega) ⟨i + 1,t13,t18,t27,by omega,h,rfl⟩
    clear hK
    simp only [List.all_cons] at hd
    simp [ic91l0,hlt,Tm.row_length]
    refine r_call 250 true _ _ (m157 l[i].v l[i].x.k l[i].x.n l[i].x.s) rfl rfl rfl rfl ?_
    simp [wrap_next hlt (by omega)]
    have hok:termOk l[i].v l[i].x.k l[i].x.n l[i].x.s = l[i].ok:=rfl
    rw [hok,hat]
    refine ⟨fun h=>?_,fun h=>?_⟩
    · rw [hd,h]; rfl
    · rw [h,Bool.true_and] at hd
      exact hI _ _ _ hd
  · simp [ic91l0,Nat.not_lt.mpr hge]
    rw [hat,hd,List.drop_eq_nil_of_le hge]; rfl
abbrev tmVars (l:List Tm):List Name:=varsOn [] (l.map Tm.v)
abbrev nmRow (v:Name):List C:=[cS (bs v)]
theorem varsOn_length:∀ (l acc:List Name),(varsOn acc l).length≤acc.length + l.length
  | [],acc=>by simp [varsOn]
  | v :: l,acc=>by
    simp only [varsOn]
    split
    · have:=varsOn_length l (acc++[v]); simp at this ⊢; omega
    · have:=varsOn_length l acc; simp; omega
theorem m98 (l:List Tm) (sp:List (List C)) (hl:l.length≤1048576) :
    Meets Tryz.prog G 141 [.one (.sl (l.map Tm.row) sp)] (.x (.one (.sl ((tmVars l).map nmRow) []))):=by
  refine meets Tryz.func141 ie98 ig98 (Nat.le_of_ble_eq_true rfl) ?_
  simp [ic98,ir98]
  refine w_loopK (fun n σ=>∃ (i:Nat) (acc:List Name) (t9 t5 t28:T) (a:A) (U:List (Nat × Fx.Tok)),i + n = l.length∧tmVars l = varsOn acc ((l.drop i).map Tm.v)∧acc.length≤i∧AccS 32 31 9 1 (acc.map nmRow) a U∧σ = ks98 (tI .i64 i) (.k true (.x (.one (.c (.sl (l.map Tm.row) sp))))) t9 t5 (.k true (.x (.one a))) t28 (.k true (.x (.one .nil))) [] U F0)
    l.length ⟨0,[],_,_,_,_,_,by simp,by simp,by simp,.nil,rfl⟩ ?_
  rintro n σ1 K hK ⟨i,acc,t9,t5,t28,a,U,hi,hd,hn,hacc,rfl⟩
  obtain hlt | hge:=Nat.lt_or_ge i l.length
  · obtain ⟨c,hc,hdr⟩:=at_list hlt
    obtain ⟨_,rfl⟩:=List.getElem?_eq_some_iff.1 hc
    rw [hdr] at hd
    have hI:∀ acc t9 t5 t28 a U,tmVars l = varsOn acc ((l.drop (i + 1)).map Tm.v)→acc.length≤i + 1→AccS 32 31 9 1 (acc.map nmRow) a U→K (ks98 (tI .i64 (i + 1)) (.k true (.x (.one (.c (.sl (l.map Tm.row) sp))))) t9 t5 (.k true (.x (.one a))) t28 (.k true (.x (.one .nil))) [] U F0) :=
      fun acc t9 t5 t28 a U h1 h2 h3=>hK _ (n - 1) (by omega) ⟨i + 1,acc,t9,t5,t28,a,U,by omega,h1,h2,h3,rfl⟩
    clear hK
    simp only [List.map_cons,varsOn] at hd
    generalize hv:l[i].v = v at *
    by_cases h1:v = []
    · simp [ic98l0,hlt,Tm.row,hv,h1]
      refine r_callF (.x (.one (cB false))) rfl ?_
      simp [wrap_next hlt (by omega)]
      exact hI _ _ _ _ _ _ (by rw [hd]; simp [Ped.isVar,h1]) (by omega) hacc
    by_cases h2:v = [95]
    · simp [ic98l0,hlt,Tm.row,hv,h2]
      refine r_callF (.x (.one (cB false))) rfl ?_
      simp [wrap_next hlt (by omega)]
      exact hI _ _ _ _ _ _ (by rw [hd]; simp [Ped.isVar,us,h2]) (by omega) hacc
    have hiv:Ped.isVar v = true:=by simp [Ped.isVar,h1,us,h2]
    simp [ic98l0,hlt,Tm.row,hv,h1,h2]
    refine r_call 67 true _ _ (m30 v acc [] (by unfold maxLen; omega)) rfl rfl rfl (by simp [-X.close,-A.close,hacc.args,X.close_c]) ?_
    simp
    refine ⟨fun h=>?_,fun h=>?_⟩
    · have hnew:tmVars l = varsOn (acc++[v]) ((l.drop (i + 1)).map Tm.v):=by rw [hd]; simp [h,hiv]
      rcases hacc with ⟨h,rfl,rfl⟩ | ⟨rfl,rfl⟩ | ⟨rfl,rfl⟩
      · obtain rfl:acc = []:=by simpa using h
        refine k_row rfl rfl (by simp) (by simp) ?_
        refine k_app0 rfl rfl rfl (by simp) (by simp) (by simp [maxLen]) (by simp [maxBytes]) ?_
        simp [wrap_next hlt (by omega)]
        exact hI _ _ _ _ _ _ hnew (by simp) (.own rfl)
      all_goals
        refine k_row rfl rfl (by simp) (by simp) ?_
        refine k_app (q:=⟨9,1,acc.length⟩) rfl rfl rfl (by simp) (by simp) rfl rfl (by simp) (by simp [maxLen]; omega) (by simp [maxBytes]; omega) trivial ?_
        simp [wrap_next hlt (by omega)]
        refine hI (acc++[v]) _ _ _ _ _ hnew (by simp; omega) ?_
        simp
        exact .own' (by simp)
    · simp [wrap_next hlt (by omega)]
      exact hI _ _ _ _ _ _ (by rw [hd]; simp [h]) (by omega) hacc
  · simp [ic98l0,Nat.not_lt.mpr hge]
    rw [hd,List.drop_eq_nil_of_le hge]
    rcases hacc with ⟨h,rfl,rfl⟩ | ⟨rfl,rfl⟩ | ⟨rfl,rfl⟩
    · simp [h,varsOn]
    · simp [varsOn]
    · simp [varsOn]
end Go.Proofs.YtiomojlcnemnhaaGreatDoor

namespace Go.Fx
open Go.RowKit
section
theorem w_loopSN {P:Program} {G:World→Prop} {Q:Exit→S→Prop} (ks:List Nat) (hks:∀ k∈ks,ownKey k) {a:IC} {σ:S} (I:Nat→S→Prop) (n:Nat) (h0:I n (σ.strike ks)) (hr:∀ n σ1,I n σ1→wpI P G a (thenQ (fun σ'=>∃ m,m < n∧I m (σ'.strike ks)) Q) σ1):wpI P G (.loop a) Q σ:=by
  classical
  have key:∀ σ,(∃ n,I n σ)→∃ n,I n σ∧∀ m,m < n→¬ I m σ:=fun σ h=>by
    obtain ⟨n,h⟩:=h
    induction n using Nat.strongRecOn with
    | ind n ih =>
      by_cases hm:∃ m,m < n∧I m σ
      · obtain ⟨m,h1,h2⟩:=hm; exact ih m h1 h2
      · exact ⟨n,h,fun m h1 h2=>hm ⟨m,h1,h2⟩⟩
  let μ:S→Nat:=fun σ=>if h:∃ n,I n σ then Classical.choose (key σ h) else 0
  refine ⟨fun σ=>∃ n,I n σ,μ,⟨_,.strike ks σ hks,n,h0⟩,fun σ1 h1=>?_⟩
  have hc:=Classical.choose_spec (key σ1 h1)
  refine wpI_mono (c:=a) (fun e σ' hq=>?_) (hr _ σ1 hc.1)
  cases e <;> try exact hq
  obtain ⟨m,hm,hI⟩:=hq
  refine ⟨_,.strike ks σ' hks,⟨m,hI⟩,?_⟩
  have h2:∃ n,I n (σ'.strike ks):=⟨m,hI⟩
  have hc2:=Classical.choose_spec (key _ h2)
  have e1:μ (σ'.strike ks) = Classical.choose (key _ h2):=dif_pos h2
  have e2:μ σ1 = Classical.choose (key σ1 h1):=dif_pos h1
  rw [e1,e2]
  refine Nat.lt_of_le_of_lt (Nat.le_of_not_lt fun hlt=>hc2.2 m hlt hI) hm
theorem w_loopS {P:Program} {G:World→Prop} {Q:Exit→S→Prop} (ks:List Nat) (hks:∀ k∈ks,ownKey k) {a:IC} {σ:S} (I:Nat→S→Prop) (n:Nat) (h0:I n (σ.strike ks)) (hr:∀ n σ1 (K:S→Prop),(∀ σ' m,m < n→I m (σ'.strike ks)→K σ')→I n σ1→wpI P G a (thenQ K Q) σ1):wpI P G (.loop a) Q σ :=
  w_loopSN ks hks I n h0 fun n σ1 h1=>hr n σ1 _ (fun _ m hm hI=>⟨m,hm,hI⟩) h1
def AccN (k:Nat) (ty:TypeId) (size:Nat) (es:List (List C)) (a:A) (U:List (Nat × Tok)):Prop :=
  (es = []∧a = .nil∧U = [])∨(a = .own k es∧U = [(k,⟨ty,size,es.length⟩)])
theorem AccN.nil {k size:Nat} {ty:TypeId}:AccN k ty size [] .nil []:=.inl ⟨rfl,rfl,rfl⟩
theorem AccN.own {k size:Nat} {ty:TypeId} {es:List (List C)} {n:Nat} (h:n = es.length):AccN k ty size es (.own k es) [(k,⟨ty,size,n⟩)]:=.inr ⟨rfl,by rw [h]⟩
theorem AccN.strike {k size:Nat} {ty:TypeId} {es:List (List C)} {t:A} {U:List (Nat × Tok)} (h:AccN k ty size es t U) {l:Nat} (hl:l≠k):A.strike [l] t = t:=by
  rcases h with ⟨rfl,rfl,rfl⟩ | ⟨rfl,rfl⟩
  · rfl
  · simp [Ne.symm hl]
theorem AccN.strikeU {k size:Nat} {ty:TypeId} {es:List (List C)} {t:A} {U:List (Nat × Tok)} (h:AccN k ty size es t U) {l:Nat} (hl:l≠k):strikeU [l] U = U:=by
  rcases h with ⟨rfl,rfl,rfl⟩ | ⟨rfl,rfl⟩
  · rfl
  · simp [Ne.symm hl]
end
end Go.Fx

namespace Go.Proofs.YtiomojlcnemnhaaGreatDoor
open Go.Fx Go.RowKit Go.Ped
variable {G:World→Prop}
end Go.Proofs.YtiomojlcnemnhaaGreatDoor

namespace Go.Proofs.YtiomojlcnemnhaaGreatDoor
open Go.Fx Go.RowKit Go.Ped
variable {G:World→Prop}
def mpRow (t:Tm):List A:=.c (cS (bs t.v)) :: t.x.row.map A.c
end Go.Proofs.YtiomojlcnemnhaaGreatDoor

import Derived.Test.YtiomojlcnemnhaaGreatDoorRGxIcN
import Derived.Test.YtiomojlcnemnhaaGreatDoorRGxW4
import Derived.Test.YtiomojlcnemnhaaGreatDoorRGxJ1
import Derived.OwnWalk
import Derived.Deep.WholeRow
import Derived.Deep.MidRow
import Derived.Maps.AppendAt
import Derived.Test.YtiomojlcnemnhaaGreatDoorRGxW9
import Derived.Test.YtiomojlcnemnhaaGreatDoorRGxIcD
import Derived.Test.YtiomojlcnemnhaaGreatDoorRGxM8
import Derived.Shelf.SlicesE.Clone
import Derived.Test.YtiomojlcnemnhaaGreatDoorRGxZ4
import Derived.Shelf.SlicesE.DeleteFunc
namespace Go.Proofs.YtiomojlcnemnhaaGreatDoor
open Go.Fx Go.RowKit Go.Ped
variable {G:World→Prop}
def fitsV (how:Int) (l:List Val):Bool:=!(how == 0) && (l.length == (if how = 2∨how = 4 then 2 else 1)) && l.all fun v=>(v.k == (if how = 4∨how = 3 then 2 else 1)) && v.ok
def numV (n:Int):Val:=⟨1,n,[]⟩
def txtO (s:List UInt8):Option Val:=if s.length≤200 then some ⟨2,0,s⟩ else none
def charsB (s:List UInt8):List (List UInt8):=segs (bs s) s.length 0
def backB (s:List UInt8):List UInt8:=(charsB s).reverse.flatten
def arithV (op:Int) (l:List Val):Option Val :=
  if op < 0∨11≤op then none
  else if fitsV (takesTab.getD op.toNat 0) l = false then none
  else if op = 1 then some (numV (IntKind.i64.wrap (-(l.getD 0 zeroV).n)))
  else if op = 2 then some (numV (IntKind.i64.wrap ((l.getD 0 zeroV).n + (l.getD 1 zeroV).n)))
  else if op = 3 then some (numV (IntKind.i64.wrap ((l.getD 0 zeroV).n - (l.getD 1 zeroV).n)))
  else if op = 4 then some (numV (IntKind.i64.wrap ((l.getD 0 zeroV).n * (l.getD 1 zeroV).n)))
  else if op = 5∨op = 6 then (divGo op (l.getD 0 zeroV).n (l.getD 1 zeroV).n).map numV
  else if op = 7 then txtO ((l.getD 0 zeroV).s++(l.getD 1 zeroV).s)
  else if op = 8 then some (numV (l.getD 0 zeroV).s.length)
  else if op = 9 then some (numV (charsB (l.getD 0 zeroV).s).length)
  else txtO (backB (l.getD 0 zeroV).s)
end Go.Proofs.YtiomojlcnemnhaaGreatDoor

namespace Go.Proofs.YtiomojlcnemnhaaGreatDoor
open Go.Fx Go.RowKit Go.Ped Go.Lib
variable {G:World→Prop}
theorem below_cell {N:Nat} {w w':World} (h:Below N w w') {b:Nat} (hb:b < N) (o:Nat):w'.cell? ⟨b,o,none⟩ = w.cell? ⟨b,o,none⟩:=by simp only [World.cell?,h.block b hb]
end Go.Proofs.YtiomojlcnemnhaaGreatDoor

namespace Go.Proofs.YtiomojlcnemnhaaGreatDoor
open Go.Fx Go.RowKit Go.Ped
@[irreducible] def Stop (p:Prop):Prop:=p
def exCells (e:Ex) (v:Value):List Value:=.int .i8 e.op :: (tmCells e.t++[v])
def KidsRep (V:Nat→Nat→Prop) (w:World) (e:Ex) (v:Value):Prop:=RepC V w (.sl (e.kids.map Ex.row) e.sp) v
theorem kids_slice {V:Nat→Nat→Prop} {w:World} {e:Ex} {v:Value} (h:KidsRep V w e v):∃ ad cap,v = .slice ad e.kids.length cap:=by
  unfold KidsRep at h
  generalize hr:e.kids.map Ex.row = rows at h
  have hl:rows.length = e.kids.length:=by rw [← hr,List.length_map]
  generalize e.sp = sp at h
  cases h with
  | nil c=>exact ⟨none,0,by rw [← hl]; rfl⟩
  | emp a=>exact ⟨some a,0,by rw [← hl]; rfl⟩
  | sl _ _ s b o n cap us hn _ _ _ _ _ _=>exact ⟨some ⟨b,o,none⟩,cap,by rw [hn,hl]⟩
theorem ownsRow_block {w:World} {base:Nat} {e:TypeId} {size:Nat} {v:Value} {n:Nat} {xs:List Value} (h:w.ownsRow base e size v n xs):∀ g,v.ownBlock = some g→base≤g∧g < w.heap.size:=by
  intro g hg
  rcases h.2 with ⟨rfl,_⟩ | ⟨g',cap,cur,rfl,e2,e3,_⟩
  · cases hg
  · obtain rfl:g' = g:=Option.some.inj hg
    exact ⟨e2,(Array.getElem?_eq_some_iff.1 e3).1⟩
end Go.Proofs.YtiomojlcnemnhaaGreatDoor

namespace Go.Proofs.YtiomojlcnemnhaaGreatDoor
open Go.Fx Go.RowKit Go.Ped
variable {G:World→Prop}
abbrev OW (a b c:Nat) (p:Name) (n:Nat) (l:List Tm) (m:List Pr):List (Nat × Box):=[(a,⟨25,2,[[.c (cS (bs p)),.arr b 0 n n]],none⟩),(b,bxT l),(c,⟨0,5,m.map nxRow,some (.string,false)⟩)]
attribute [simp] OW
end Go.Proofs.YtiomojlcnemnhaaGreatDoor

namespace Go.Fx
open Go.RowKit
section
variable {P:Program} {G:World→Prop}
end
end Go.Fx

namespace Go.Proofs
def Tryz.slc125_ren:Go.Shelf.Ren:=⟨fun | 41=>79 | n=>n,fun | 22=>23 | 23=>73 | 4=>4 | n=>n,fun | n=>n⟩
theorem Tryz.slc125:Go.Proofs.SlLaysE0.n41 Tryz.prog Tryz.slc125_ren:={
  mixed:=by kernel_rfl
  f41:=⟨Tryz.f79.name,by decide,Tryz.func79.trans (congrArg some (by kernel_rfl))⟩
  t4:=Tryz.underlying4
  a4:=Tryz.isAgg4
  z4:=Tryz.sizeOf4
  v4:=Tryz.zeroValue4
  t22:=Tryz.underlying23
  a22:=Tryz.isAgg23
  z22:=Tryz.sizeOf23
  v22:=Tryz.zeroValue23 }
section
open Go.Shelf Go.RowKit Go.Lib
variable {P:Program} {ρ:Ren}
set_option maxHeartbeats 2000000 in
set_option maxRecDepth 100000 in
theorem clone_zero (L:SlLaysE0.n41 P ρ) (i0:TypeInfo) (z:Value) (size bytes:Nat) (hi:P.info? (ρ.t 23) = some i0) (hz0:i0.zero = some z) (hz1:i0.size = size) (hz2:i0.bytes = bytes) (hzs:z.cells.size = size) (hsz:0 < size)
    (z23:∀ w,(Go.sizeOf (ρ.t 23)).run P w = .ok size w) (a:Addr) (c:Nat) (w:World) :
    Calls P (ρ.f 41) #[.slice (some a) 0 c] w fun e w'=>∃ v',e = .returned v'∧w'.ownsRow w.heap.size (ρ.t 23) size v' 0 []∧v'≠.slice none 0 0∧Below w.heap.size w w':=by
  have mixed:=L.mixed; have t4:=L.t4; have a4:=L.a4; have z4:=L.z4; have v4:=L.v4; have t22:=L.t22; have a22:=L.a22; have z22:=L.z22; have v22:=L.v22
  have q22:∀ (w:World) (a:Option Addr) (n c n' c':Nat),(binOp .eql (ρ.t 22) (.slice a n c) (.slice none n' c')).run P w = .ok (.bool a.isNone) w:=fun w a n c n' c'=>Lib.run_eql_slice_nil w _ _ a n c n' c' L.t22
  have u22:∀ w,Sem.run P (underlying (ρ.t 22)) w = .ok (TypeDesc.slice (ρ.t 23)) w:=run_underlying t22
  obtain ⟨_,_,FG⟩:=L.f41
  go_enter FG,SlBodyN.n41_ntmps ρ
  go_wp2_with (at_builtin; refine wpList_append_own _ rfl _ _ (ρ.t 22) rfl w.heap.size (ρ.t 23) i0 z size bytes t22 hi hz0 hz1 hz2 hzs hsz _ _ _ rfl (World.ownsRow_made w #[] 0 (Nat.le_refl _) (Nat.zero_le _) (by simp)) a 0 c [] rfl (by simp) (by intro j u hj; simp at hj) (by intro u hu; cases hu) (by unfold maxLen; omega) (by omega) (by simp) ?_)
  intro v' w1 hown hgrow hnil
  go_wp2
  go_ret
  refine ⟨v',rfl,by simpa using hown,?_,?_⟩
  · first | exact hnil | (intro e; exact absurd (hnil.1 e).1 (by simp))
  · exact ((Below.refl _ w).alloc (Nat.le_refl _) _).grown hgrow (by simp) (by intro k hk; simp [Value.ownBlock] at hk; omega)
end
end Go.Proofs
namespace Go.Proofs.YtiomojlcnemnhaaGreatDoor
open Go.Fx Go.RowKit Go.Ped
variable {G:World→Prop}
theorem info41:∃ i0 z,Tryz.prog.info? 73 = some i0∧i0.zero = some z∧i0.size = 4∧i0.bytes = 48∧z.cells.size = 4:=by
  have e1:(Tryz.prog.info? 73).map (·.bytes) = some 48:=by kernel_rfl
  have e2:(Tryz.prog.info? 73).map (·.size) = some 4:=by kernel_rfl
  have e3:((Tryz.prog.info? 73).bind fun i=>i.zero.map fun z=>z.cells.size) = some 4:=by kernel_rfl
  obtain ⟨i0,h,h1⟩:=Option.map_eq_some_iff.1 e1
  rw [h] at e2 e3
  obtain ⟨z,h3,h4⟩:=Option.map_eq_some_iff.1 (show i0.zero.map (fun z=>z.cells.size) = some 4 from e3)
  exact ⟨i0,z,h,h3,by simpa using e2,h1,h4⟩
end Go.Proofs.YtiomojlcnemnhaaGreatDoor

namespace Go.Proofs
def Tryz.slc197_ren:Go.Shelf.Ren:=⟨fun | 41=>255 | n=>n,fun | 22=>26 | 23=>137 | 4=>4 | n=>n,fun | n=>n⟩
theorem Tryz.slc197:Go.Proofs.SlLaysE0.n41 Tryz.prog Tryz.slc197_ren:={
  mixed:=by kernel_rfl
  f41:=⟨Tryz.f255.name,by decide,Tryz.func255.trans (congrArg some (by kernel_rfl))⟩
  t4:=Tryz.underlying4
  a4:=Tryz.isAgg4
  z4:=Tryz.sizeOf4
  v4:=Tryz.zeroValue4
  t22:=Tryz.underlying26
  a22:=Tryz.isAgg26
  z22:=Tryz.sizeOf26
  v22:=Tryz.zeroValue26 }
def Tryz.slc193b_ren:Go.Shelf.Ren:=⟨fun | 41=>227 | n=>n,fun | 22=>27 | 23=>107 | 4=>4 | n=>n,fun | n=>n⟩
theorem Tryz.slc193b:Go.Proofs.SlLaysE0.n41 Tryz.prog Tryz.slc193b_ren:={
  mixed:=by kernel_rfl
  f41:=⟨Tryz.f227.name,by decide,Tryz.func227.trans (congrArg some (by kernel_rfl))⟩
  t4:=Tryz.underlying4
  a4:=Tryz.isAgg4
  z4:=Tryz.sizeOf4
  v4:=Tryz.zeroValue4
  t22:=Tryz.underlying27
  a22:=Tryz.isAgg27
  z22:=Tryz.sizeOf27
  v22:=Tryz.zeroValue27 }
end Go.Proofs
namespace Go.Proofs.YtiomojlcnemnhaaGreatDoor
open Go.Fx Go.RowKit Go.Ped
theorem clone_any {ρ:Go.Shelf.Ren} (L:SlLaysE0.n41 Tryz.prog ρ) (i0:TypeInfo) (z:Value) (size bytes:Nat) (hi:Tryz.prog.info? (ρ.t 23) = some i0) (hz0:i0.zero = some z) (hz1:i0.size = size) (hz2:i0.bytes = bytes) (hzs:z.cells.size = size) (hsz:0 < size)
    (z23:∀ w,(Go.sizeOf (ρ.t 23)).run Tryz.prog w = .ok size w) (rows:List (List C)) (sp:Sp) (hw:∀ r∈rows,r.length = size) (hbig:rows.length * bytes≤140737488355328) {V:Nat→Nat→Prop} {w:World} {v:Value} (hv:RepC V w (.sl rows sp) v) :
    Calls Tryz.prog (ρ.f 41) #[v] w fun e w'=>∃ v' xs,e = .returned v'∧w'.ownsRow w.heap.size (ρ.t 23) size v' rows.length xs∧All2 (RepC V w) rows.flatten xs∧Below w.heap.size w w':=by
  have fin:∀ (a:Addr) (c:Nat),Calls Tryz.prog (ρ.f 41) #[.slice (some a) 0 c] w fun e w'=>∃ v' xs,e = .returned v'∧w'.ownsRow w.heap.size (ρ.t 23) size v' 0 xs∧All2 (RepC V w) [] xs∧Below w.heap.size w w':=fun a c=>by
    refine (clone_zero L i0 z size bytes hi hz0 hz1 hz2 hzs hsz z23 a c w).mono ?_
    rintro e w' ⟨v',rfl,hown,_,hb⟩
    exact ⟨v',[],rfl,hown,.nil,hb⟩
  have hfl:rows.flatten.length = rows.length * size:=length_flatten _ hw
  cases hv with
  | nil c =>
    refine (AnyE.slices_Clone_nil L 0 0 w).mono ?_
    rintro e w' ⟨rfl,rfl⟩
    exact ⟨_,[],rfl,World.ownsRow_nil _ _ _ _,.nil,Below.refl _ _⟩
  | emp a=>exact fin a 0
  | sl _ _ s b o n cap us hn hc hm hw' hul hu hr =>
    subst hn
    have hcat:(rows++sp).flatten = rows.flatten++sp.flatten:=List.flatten_append
    have hus:rows.flatten.length≤us.length:=by rw [hul,hcat,List.length_append]; omega
    have hat:∀ (j:Nat) (u:Value),(us.take rows.flatten.length)[j]? = some u→us[j]? = some u∧j < rows.flatten.length:=fun j u h=>by
      rw [List.getElem?_take] at h
      split at h
      · rename_i hj; exact ⟨h,hj⟩
      · cases h
    have hrep:All2 (RepC V w) rows.flatten (us.take rows.flatten.length):=by
      refine ⟨by rw [List.length_take]; omega,fun j c u h1 h2=>?_⟩
      obtain ⟨h3,h4⟩:=hat j u h2
      exact hr j c u (by rw [hcat,List.getElem?_append_left h4]; exact h1) h3
    have hcall:=AnyE.slices_Clone L i0 z size bytes hi hz0 hz1 hz2 hzs hsz z23 b o rows.length cap (us.take rows.flatten.length) w (by rw [List.length_take]; omega) (by unfold maxLen at *; omega) hbig
      (fun j u h=>(hu j u (hat j u h).1).1) (fun u hm=>by
        obtain ⟨j,hj,rfl⟩:=List.mem_iff_getElem.1 hm
        have hj':j < rows.flatten.length:=by rw [List.length_take] at hj; omega
        exact (hrep.2 j _ _ (List.getElem?_eq_getElem hj') (List.getElem?_eq_getElem hj)).oneCell)
    refine hcall.mono ?_
    rintro e w' ⟨v',rfl,hown,_,hb⟩
    exact ⟨v',_,rfl,hown,hrep,hb⟩
theorem info_of (t s b:Nat) (e1:(Tryz.prog.info? t).map (·.bytes) = some b) (e2:(Tryz.prog.info? t).map (·.size) = some s) (e3:((Tryz.prog.info? t).bind fun i=>i.zero.map fun z=>z.cells.size) = some s) :
    ∃ i0 z,Tryz.prog.info? t = some i0∧i0.zero = some z∧i0.size = s∧i0.bytes = b∧z.cells.size = s:=by
  obtain ⟨i0,h,h1⟩:=Option.map_eq_some_iff.1 e1
  rw [h] at e2 e3
  obtain ⟨z,h3,h4⟩:=Option.map_eq_some_iff.1 (show i0.zero.map (fun z=>z.cells.size) = some s from e3)
  exact ⟨i0,z,h,h3,by simpa using e2,h1,h4⟩
theorem clone125 (l:List Tm) (sp:Sp) (hl:l.length≤1048576) {V:Nat→Nat→Prop} {w:World} {v:Value} (hv:RepC V w (.sl (l.map Tm.row) sp) v) :
    Calls Tryz.prog 79 #[v] w fun e w'=>∃ v' xs,e = .returned v'∧w'.ownsRow w.heap.size 73 4 v' l.length xs∧All2 (RepC V w) (l.map Tm.row).flatten xs∧Below w.heap.size w w':=by
  obtain ⟨i0,z,hi,hz0,hz1,hz2,hzs⟩:=info41
  have h:=clone_any Tryz.slc125 i0 z 4 48 hi hz0 hz1 hz2 hzs (by decide) (fun w=>Tryz.sizeOf73 w) (l.map Tm.row) sp (fun r hr=>by obtain ⟨t,_,rfl⟩:=List.mem_map.1 hr; rfl) (by rw [List.length_map]; omega) hv
  rw [List.length_map] at h
  exact h
theorem clone197 (l:List Arg) (sp:Sp) (hl:l.length≤1048576) {V:Nat→Nat→Prop} {w:World} {v:Value} (hv:RepC V w (.sl (l.map Arg.row) sp) v) :
    Calls Tryz.prog 255 #[v] w fun e w'=>∃ v' xs,e = .returned v'∧w'.ownsRow w.heap.size 137 5 v' l.length xs∧All2 (RepC V w) (l.map Arg.row).flatten xs∧Below w.heap.size w w':=by
  obtain ⟨i0,z,hi,hz0,hz1,hz2,hzs⟩:=info_of 137 5 56 (by kernel_rfl) (by kernel_rfl) (by kernel_rfl)
  have h:=clone_any Tryz.slc197 i0 z 5 56 hi hz0 hz1 hz2 hzs (by decide) (fun w=>Tryz.sizeOf137 w) (l.map Arg.row) sp (fun r hr=>by obtain ⟨t,_,rfl⟩:=List.mem_map.1 hr; rfl) (by rw [List.length_map]; omega) hv
  rw [List.length_map] at h
  exact h
theorem clone193 (l:List Lit) (sp:Sp) (hl:l.length≤1048576) {V:Nat→Nat→Prop} {w:World} {v:Value} (hv:RepC V w (.sl (l.map Lit.row) sp) v) :
    Calls Tryz.prog 227 #[v] w fun e w'=>∃ v' xs,e = .returned v'∧w'.ownsRow w.heap.size 107 16 v' l.length xs∧All2 (RepC V w) (l.map Lit.row).flatten xs∧Below w.heap.size w w':=by
  obtain ⟨i0,z,hi,hz0,hz1,hz2,hzs⟩:=info_of 107 16 216 (by kernel_rfl) (by kernel_rfl) (by kernel_rfl)
  have h:=clone_any Tryz.slc193b i0 z 16 216 hi hz0 hz1 hz2 hzs (by decide) (fun w=>Tryz.sizeOf107 w) (l.map Lit.row) sp (fun r hr=>by obtain ⟨t,_,rfl⟩:=List.mem_map.1 hr; exact Lit.row_length _) (by rw [List.length_map]; omega) hv
  rw [List.length_map] at h
  exact h
theorem tm_cells_rep {V:Nat→Nat→Prop} {w:World} (t:Tm):All2 (RepC V w) t.row (tmCells t) :=
  .cons (.v _ rfl) (.cons (.v _ rfl) (.cons (.v _ rfl) (.cons (.v _ rfl) .nil)))
theorem tm_cells_of {V:Nat→Nat→Prop} {w:World} {t:Tm} {us:List Value} (h:All2 (RepC V w) t.row us):us = tmCells t:=by
  obtain ⟨_,_,rfl,h1,h⟩:=h.head
  obtain ⟨_,_,rfl,h2,h⟩:=h.head
  obtain ⟨_,_,rfl,h3,h⟩:=h.head
  obtain ⟨_,_,rfl,h4,h⟩:=h.head
  obtain rfl:=h.nil_left
  cases h1; cases h2; cases h3; cases h4
  rfl
theorem all2_split {α β:Type} {p:α→β→Prop} {l l':List α} {m:List β} (h:All2 p (l++l') m):∃ m1 m2,m = m1++m2∧All2 p l m1∧All2 p l' m2:=by
  refine ⟨m.take l.length,m.drop l.length,(List.take_append_drop _ _).symm,?_,?_⟩
  · have:=h.take l.length; rwa [List.take_left] at this
  · have:=h.drop l.length; rwa [List.drop_left] at this
theorem tms_cells_of {V:Nat→Nat→Prop} {w:World}:∀ {l:List Tm} {us:List Value},All2 (RepC V w) (l.map Tm.row).flatten us→us = l.flatMap tmCells
  | [],us,h=>h.nil_left
  | t :: l,us,h=>by
    rw [List.map_cons,List.flatten_cons] at h
    obtain ⟨m1,m2,rfl,h1,h2⟩:=all2_split h
    rw [tm_cells_of h1,tms_cells_of h2,List.flatMap_cons]
theorem tms_cells_rep {V:Nat→Nat→Prop} {w:World}:∀ (l:List Tm),All2 (RepC V w) (l.map Tm.row).flatten (l.flatMap tmCells)
  | []=>.nil
  | t :: l=>by rw [List.map_cons,List.flatten_cons,List.flatMap_cons]; exact (tm_cells_rep t).append (tms_cells_rep l)
def argCells (a:Arg):List Value:=.int .i8 a.agg :: tmCells a.t
@[simp] theorem argCells_length (a:Arg):(argCells a).length = 5:=rfl
theorem args_cells_of {V:Nat→Nat→Prop} {w:World}:∀ {l:List Arg} {us:List Value},All2 (RepC V w) (l.map Arg.row).flatten us→us = l.flatMap argCells
  | [],us,h=>h.nil_left
  | t :: l,us,h=>by
    rw [List.map_cons,List.flatten_cons] at h
    obtain ⟨m1,m2,rfl,h1,h2⟩:=all2_split h
    rw [args_cells_of h2,List.flatMap_cons]
    obtain ⟨_,_,rfl,h3,h1⟩:=h1.head
    rw [tm_cells_of h1]
    cases h3
    rfl
theorem args_cells_rep {V:Nat→Nat→Prop} {w:World}:∀ (l:List Arg),All2 (RepC V w) (l.map Arg.row).flatten (l.flatMap argCells)
  | []=>.nil
  | t :: l=>by rw [List.map_cons,List.flatten_cons,List.flatMap_cons]; exact (All2.cons (.v _ rfl) (tm_cells_rep t.t)).append (args_cells_rep l)
theorem ownsRow_rep {V:Nat→Nat→Prop} {w:World} {base:Nat} {e:TypeId} {size:Nat} {v:Value} {xs:List Value} {rows:List (List C)} (h:w.ownsRow base e size v rows.length xs) (hw:∀ r∈rows,r.length = size) (hr:All2 (RepC V w) rows.flatten xs)
    (hV:∀ b,v.ownBlock = some b→∀ o,V b o):RepC V w (.sl rows []) v:=by
  obtain ⟨hl,⟨rfl,h0⟩ | ⟨g,cap,cur,rfl,_,hg,hn,hm,hsz,htk⟩⟩:=h
  · obtain rfl:=List.length_eq_zero_iff.1 h0
    exact .nil 0
  · refine .sl rows [] size g 0 _ cap xs rfl (by simpa using hn) hm (by simpa using hw) (by rw [List.append_nil]; exact hr.1.symm) (fun j u hj=>⟨?_,hV g rfl _⟩) (fun j c u hj hu=>hr.2 j c u (by simpa using hj) hu)
    rw [← htk,List.getElem?_take] at hj
    split at hj
    · simp only [World.cell?,hg,Nat.zero_add]
      simpa using hj
    · cases hj
def svB (v:Value):List Nat:=v.ownBlock.toList
structure LitM where
  kind:Int
  p:Name
  sv:Value
  l:List Tm
  rel:Int
  left:Nd
  right:Nd
  deriving Inhabited
def LitM.cells (x:LitM):List Value:=.int .i8 x.kind :: .string (bs x.p) :: x.sv :: .int .i8 x.rel :: (x.left.cells++x.right.cells)
@[simp] theorem LitM.cells_length (x:LitM):x.cells.length = 16:=rfl
def LitM.lit (x:LitM):Lit:=⟨x.kind,x.p,x.l,[],x.rel,x.left.ex,x.right.ex⟩
theorem svB_mem {v:Value} {b:Nat}:b∈svB v↔v.ownBlock = some b:=by unfold svB; simp
theorem ownsRow_frame' {w w':World} {base base':Nat} {e:TypeId} {size:Nat} {v:Value} {n:Nat} {xs:List Value} (h:w.ownsRow base e size v n xs) (hbase:base'≤base) (hb:∀ g∈svB v,w'.heap[g]? = w.heap[g]?):w'.ownsRow base' e size v n xs :=
  ⟨h.1,h.2.imp id fun ⟨g,cap,cur,e1,e2,e3,r⟩=>⟨g,cap,cur,e1,Nat.le_trans hbase e2,(hb g (by rw [e1]; exact svB_mem.2 rfl)).trans e3,r⟩⟩
structure RuleM where
  p:Name
  hv:Value
  hs:List Arg
  bv:Value
  ls:List LitM
  deriving Inhabited
def RuleM.cells (r:RuleM):List Value:=[.string (bs r.p),r.hv,r.bv]
theorem lit_cells_of {V:Nat→Nat→Prop} {w:World} {x:Lit} {us:List Value} (h:All2 (RepC V w) x.row us):∃ u vl vr,us = .int .i8 x.kind :: .string (bs x.p) :: u :: .int .i8 x.rel :: (exCells x.left vl++exCells x.right vr)∧RepC V w (.sl (x.l.map Tm.row) x.sp) u∧KidsRep V w x.left vl∧KidsRep V w x.right vr:=by
  unfold Lit.row at h
  rw [List.append_assoc] at h
  obtain ⟨m1,m2,rfl,h1,h2⟩:=all2_split h
  obtain ⟨m3,m4,rfl,h3,h4⟩:=all2_split h2
  obtain ⟨_,_,rfl,a1,h1⟩:=h1.head
  obtain ⟨_,_,rfl,a2,h1⟩:=h1.head
  obtain ⟨u,_,rfl,a3,h1⟩:=h1.head
  obtain ⟨_,_,rfl,a4,h1⟩:=h1.head
  obtain rfl:=h1.nil_left
  have six:∀ {e:Ex} {us:List Value},All2 (RepC V w) e.row us→∃ v,us = exCells e v∧KidsRep V w e v:=fun {e us} h=>by
    rw [Ex.row_eq] at h
    obtain ⟨_,_,rfl,b1,h⟩:=h.head
    obtain ⟨_,_,rfl,b2,h⟩:=h.head
    obtain ⟨_,_,rfl,b3,h⟩:=h.head
    obtain ⟨_,_,rfl,b4,h⟩:=h.head
    obtain ⟨_,_,rfl,b5,h⟩:=h.head
    obtain ⟨v,_,rfl,b6,h⟩:=h.head
    obtain rfl:=h.nil_left
    cases b1; cases b2; cases b3; cases b4; cases b5
    exact ⟨v,rfl,b6⟩
  obtain ⟨vl,rfl,k1⟩:=six h3
  obtain ⟨vr,rfl,k2⟩:=six h4
  cases a1; cases a2; cases a4
  exact ⟨u,vl,vr,rfl,a3,k1,k2⟩
end Go.Proofs.YtiomojlcnemnhaaGreatDoor

namespace Go.Proofs.YtiomojlcnemnhaaGreatDoor
open Go.Fx Go.RowKit Go.Ped
theorem cells_set {W:World} {b n:Nat} {ty:TypeId} {pre post:List Value} {x v:Value} (hn:n = pre.length) (hb:W.heap[b]? = some (.cells (pre++x :: post).toArray ty (0,0))) :
    (W.setCell ⟨b,n,none⟩ v).heap[b]? = some (.cells (pre++v :: post).toArray ty (0,0))∧W.cell? ⟨b,n,none⟩ = some x∧W.frozen? ⟨b,n,none⟩ = false∧KeptBut (fun c=>c = b) W (W.setCell ⟨b,n,none⟩ v):=by
  subst hn
  refine ⟨?_,?_,?_,⟨rfl,rfl,rfl,?_,fun i hi hne=>?_⟩⟩
  · simp [World.setCell,Array.getElem?_modify,hb]
  · simp [World.cell?,hb]
  · simp [World.frozen?,hb]
  · simp [World.setCell,Array.size_modify]
  · have hb':¬ b = i:=fun e=>hne e.symm
    simp only [World.setCell,Array.getElem?_modify,hb',if_false]
theorem kept_same {M:Nat→Prop} {w w1 w2:World} (h:KeptBut M w w1) (h':KeptBut M w1 w2):KeptBut M w w2:=h.trans h' fun _ h=>.inr h
end Go.Proofs.YtiomojlcnemnhaaGreatDoor

namespace Go.Fx
open Go.RowKit
section
variable {P:Program} {G:World→Prop}
theorem MeetsH.of_reader {f:FuncId} {args:List X} {res:CR} {h:Hp} (hcl:callable P f = true) (hx:∀ x∈args,x.only (fun _=>True) (fun k=>h.toks k≠none)) (ho:h.only (fun _=>True) (fun k=>h.toks k≠none))
    (hm:∀ (w:World) (env:Env) (F:Nat→Prop) (vs:List Value),HeldM G (Owned env h F) w→HMem env h F w→All2 (RepX env h.toks w) args vs →
      Calls P f vs.toArray w fun e w'=>∃ v,e = .returned v∧RepCR (fun b o=>env.V b o∨w.heap.size≤b) w' res v∧Below w.heap.size w w'):MeetsH P G f args h res.open h:=by
  refine ⟨hcl,hx,ho,fun w env F vs hG hmem hfr ha=>?_⟩
  refine (hm w env F vs hG hmem ha).mono ?_
  rintro e w' ⟨v,rfl,hr,hb⟩
  have hcell:∀ b o,env.V b o→w'.cell? ⟨b,o,none⟩ = w.cell? ⟨b,o,none⟩:=fun b o hv=>hb.cell (p:=⟨b,o,none⟩) (hmem.vlt b o hv)
  let env':Env:={ env with V:=fun b o=>env.V b o∨(w.heap.size≤b∧b < w'.heap.size) }
  have hle:env.Le env' h.toks h.toks w w':=⟨fun _ _ x=>.inl x,hcell,fun _ _ x=>x,fun _ t x=>⟨t,x,rfl,Nat.le_refl _,fun _=>rfl⟩⟩
  have hV:∀ b o,b < w.heap.size→env'.V b o→env.V b o:=fun b o hlt hv=>hv.elim id fun h=>absurd hlt (Nat.not_lt.mpr h.1)
  refine ⟨v,env',F,rfl,openR_rep (fun b o h=>h.1.elim .inl fun hh=>.inr ⟨hh,h.2⟩) hr.bound,{
    mem:={
      vlt:=fun b o hv=>hv.elim (fun h=>Nat.lt_of_lt_of_le (hmem.vlt b o h) hb.size) fun h=>h.2
      ρlt:=fun k b s hk=>Nat.lt_of_lt_of_le (hmem.ρlt k b s hk) hb.size
      τlt:=fun k v b hk hv=>Nat.lt_of_lt_of_le (hmem.τlt k v b hk hv) hb.size
      objs:=fun k x hk=>by
        obtain ⟨b,us,g1,g2,g3,g4,g5⟩:=hmem.objs k x hk
        exact ⟨b,us,g1,g2.of (hb.block b g2.lt),g3.imp fun _ _ _=>RepA.mono hle,g4,fun o hv=>g5 o (hV b o g2.lt hv)⟩
      inj:=hmem.inj
      toks:=fun k t hk=>by
        obtain ⟨v,xs,g1,g2,g3⟩:=hmem.toks k t hk
        exact ⟨v,xs,g1,ownsRow_of_block g2 fun b hv=>hb.block b (g2.lt b hv).2,fun b hv=>⟨fun o ho hh=>(g3 b hv).1 o ho (hV b o (g2.lt b hv).2 hh),(g3 b hv).2⟩⟩
      tinj:=hmem.tinj
      sep:=hmem.sep
      ext:=h.ext.mono (w:=w) (fun _ _ x=>.inl x) hcell (fun b hF=>hb.block b (hmem.flt b hF).1) hmem.ext
      flt:=fun b hF=>by
        obtain ⟨g1,g2,g3,g4⟩:=hmem.flt b hF
        exact ⟨Nat.lt_of_lt_of_le g1 hb.size,fun o hv=>g2 o (hV b o g1 hv),g3,g4⟩ }
    kept:=KeptBut.of_below hb
    owned:=fun b hb=>.inr hb
    vold:=fun b o hv=>.inl hv
    vcell:=hcell
    vnew:=fun b o hv=>hv.imp id fun h=>.inl h.1
    ρold:=fun _ _ x=>x
    ρnew:=fun _ _ x=>.inl x
    τold:=fun _ _ _=>rfl
    τnew:=fun k v hk=>.inl (by rw [show env.τ k = some v from hk]; simp)
    tok:=fun k t t' h1 h2=>by rw [h1] at h2; injection h2 with h2; subst h2; exact ⟨rfl,Nat.le_refl _,fun _=>rfl⟩ }⟩
end
end Go.Fx

namespace Go.Proofs.YtiomojlcnemnhaaGreatDoor
open Go.Fx Go.RowKit Go.Ped
def KnownAt (w:World) (mb:Nat) (ns:List Name):Prop :=
  ∃ ob,w.heap[mb]? = some ob∧∀ w':World,w'.heap[mb]? = some ob→∀ v:Name,(Instr.lookup 261 (.map (some mb)) (.string (bs v)) true).run Tryz.prog w' = .ok (.tuple #[.agg #[],.bool (ns.contains v)]) w'
theorem KnownAt.frame {w w':World} {mb:Nat} {ns:List Name} (h:KnownAt w mb ns) (hb:w'.heap[mb]? = w.heap[mb]?):KnownAt w' mb ns:=by
  obtain ⟨ob,h1,h2⟩:=h
  exact ⟨ob,hb.trans h1,h2⟩
theorem KnownAt.run {w:World} {mb:Nat} {ns:List Name} (h:KnownAt w mb ns) (v:Name):(Instr.lookup 261 (.map (some mb)) (.string (bs v)) true).run Tryz.prog w = .ok (.tuple #[.agg #[],.bool (ns.contains v)]) w:=by
  obtain ⟨ob,h1,h2⟩:=h
  exact h2 w h1 v
theorem KnownAt.lt {w:World} {mb:Nat} {ns:List Name} (h:KnownAt w mb ns):mb < w.heap.size:=by
  obtain ⟨ob,h1,_⟩:=h
  exact (Array.getElem?_eq_some_iff.1 h1).1
theorem kn_find (v:Name) (ns:List Name):(ns.map knRow).find? (keyEq (.string (bs v))) = if ns.contains v then some (knRow v) else none:=by
  have h:=kn_any v ns
  rw [← List.isSome_find?] at h
  split
  · rename_i hc
    rw [hc] at h
    obtain ⟨r,hr⟩:=Option.isSome_iff_exists.1 h
    rw [hr]
    obtain ⟨u,_,rfl⟩:=List.mem_map.1 (List.mem_of_find?_eq_some hr)
    have:=List.find?_some hr
    rw [kn_key,beq_iff_eq] at this
    rw [this]
  · rename_i hc
    simp only [Bool.not_eq_true] at hc
    rw [hc] at h
    exact Option.isNone_iff_eq_none.1 (by rw [← Option.not_isSome,h]; rfl)
set_option maxRecDepth 100000 in
theorem known_of {env:Env} {toks:Nat→Option Fx.Tok} {w:World} {mb:Nat} {us:List Value} {ns:List Name} (hb:BoxIn w ⟨0,1,ns.map knRow,some (.string,false)⟩ mb us)
    (hr:All2 (RepA env toks w) ((ns.map knRow).flatten) us):KnownAt w mb ns:=by
  obtain ⟨ob,g3,g3'⟩:=hb
  refine ⟨ob,g3,fun w' g3 v=>?_⟩
  obtain ⟨⟨es,clock,rfl,rfl,hl,_,hes⟩,hrows⟩:=g3'
  have hd:Tryz.prog.underlying 9 = some .string:=Tryz.underlying9
  have ht:Tryz.prog.underlying 261 = some (.map 9 266):=Tryz.underlying261
  have hx:MapKept.IsKey .string (.string (bs v)):=by simp [MapKept.IsKey]
  have hal:=aligned (by simpa using hl.symm) (fun r hr=>by obtain ⟨p,_,rfl⟩:=List.mem_map.1 hr; rfl) (fun e he=>(hes e he).2.1) hrows hr
  have hzr:(zeroValue 266).run Tryz.prog w' = .ok (.agg #[]) w':=Tryz.zeroValue266 w'
  have hfind:=kn_find v ns
  rcases find_aligned hx 0 hal (fun e he=>(hes e he).1) with ⟨q1,q2⟩ | ⟨j,r,e,q1,_,q3,_,q5,⟨tl,q6,q7⟩,_⟩
  · have hrun:=run_mlook true ht hd g3 hx hzr q2
    rw [hfind] at q1
    have hn:ns.contains v = false:=by
      cases h:ns.contains v with
      | false=>rfl
      | true=>rw [h,if_pos rfl] at q1; cases q1
    rw [hrun,hn]
    rfl
  · have hrun:=run_mlook true ht hd g3 hx hzr q3
    have he:e∈es.toList:=List.mem_of_getElem? q5
    rw [hfind] at q1
    have hn:ns.contains v = true:=by
      cases h:ns.contains v with
      | true=>rfl
      | false=>rw [h] at q1; cases q1
    rw [hn,if_pos rfl] at q1
    injection q1 with q1
    subst q1
    obtain ⟨cs,hcs⟩:=(hes e he).2.2.2 rfl
    have hval:e.val = .agg #[]:=by
      have htl:tl = []:=(List.cons.inj q6).2.symm
      have h4:=q7.2
      rw [htl,hcs] at h4
      have h5:=h4.nil_left
      rw [hcs]
      congr 1
      exact Array.toList_eq_nil_iff.1 h5
    refine hrun.trans ?_
    rw [hn,hval]
    rfl
set_option maxRecDepth 100000 in
set_option maxHeartbeats 1000000 in
theorem has_calls {w:World} {sb mb:Nat} {ns:List Name} (hk:KnownAt w mb ns) (hc:w.cell? ⟨sb,1,none⟩ = some (.map (some mb))) (v:Name) :
    Calls Tryz.prog 285 #[.pointer (some ⟨sb,0,none⟩),.string (bs v)] w fun e w'=>e = .returned (.bool (ns.contains v))∧Below w.heap.size w w':=by
  have hrun:=hk.run v
  go_enter Tryz.func285,Tryz.ntmps285
  go_wp2_with fail
  simp [bodyPost,results,Tryz.results285,go_sem]
  exact (Below.refl _ w).alloc (Nat.le_refl _) _
def firstIn (ns l:List Name):Int:=if l.findIdx ns.contains < l.length then (l.findIdx ns.contains:Int) else -1
theorem first_hit {ns l:List Name} {i:Nat} (hlt:i < l.length) (hno:∀ v∈l.take i,ns.contains v = false) (h:ns.contains l[i] = true):l.findIdx ns.contains = i:=by
  rw [List.findIdx_eq hlt]
  refine ⟨h,fun j hj=>?_⟩
  exact hno _ (List.mem_take_iff_getElem.2 ⟨j,by omega,rfl⟩)
theorem first_none {ns l:List Name} (hno:∀ v∈l,ns.contains v = false):firstIn ns l = -1:=by
  unfold firstIn
  rw [if_neg]
  rw [List.findIdx_lt_length]
  rintro ⟨v,hv,h⟩
  rw [hno v hv] at h
  cases h
abbrev fvHas (sb:Nat):Value:=.func (.func 285) #[.pointer (some ⟨sb,0,none⟩)] #[]
set_option maxRecDepth 100000 in
set_option maxHeartbeats 1000000 in
theorem index_calls {w:World} {sb mb blk cap:Nat} {ns l:List Name} {ad:Option Addr} (hk:KnownAt w mb ns) (hsb:sb < w.heap.size) (hc:w.cell? ⟨sb,1,none⟩ = some (.map (some mb))) (hblk:l≠[]→blk < w.heap.size) (had:l≠[]→ad = some ⟨blk,0,none⟩)
    (hl:∀ (j:Nat) (hj:j < l.length),w.cell? ⟨blk,j,none⟩ = some (.string (bs l[j]))) (hn:l.length≤maxLen) (hcap:l.length≤cap) :
    Calls Tryz.prog 272 #[.slice ad l.length cap,fvHas sb] w fun e w'=>e = .returned (.int .i64 (firstIn ns l))∧Below w.heap.size w w':=by
  unfold maxLen at hn
  go_enter Tryz.func272,Tryz.ntmps272
  go_wp2_with fail
  go_loopw [8] (fun n w'=>∃ i:Nat,n = .int .i64 (i:Int)∧i≤l.length∧Below w.heap.size w w'∧∀ v∈l.take i,ns.contains v = false) (fun n _=>match n with | .int _ k=>l.length - k.toNat | _=>0)
  case atStart=>exact ⟨0,rfl,Nat.zero_le _,Below.refl _ _,by simp⟩
  case round =>
    obtain ⟨i,rfl,hi,hb,hno⟩:=hrel
    by_cases hlt:i < l.length
    · have hlt':(i:Int) < (l.length:Int):=by omega
      have hne:l≠[]:=fun e=>by rw [e] at hlt; exact absurd hlt (Nat.not_lt_zero _)
      obtain rfl:=had hne
      have hcl:wr.cell? ⟨blk,i,none⟩ = some (.string (bs l[i])):=(hb.cell (p:=⟨blk,i,none⟩) (hblk hne)).trans (hl i hlt)
      have hcall:=has_calls (w:=wr) (sb:=sb) (hk.frame (hb.block mb hk.lt)) ((hb.cell (p:=⟨sb,1,none⟩) hsb).trans hc) l[i]
      go_wp2_with fail
      refine hcall.mono ?_
      rintro e w2 ⟨rfl,hb2⟩
      have hb3:Below w.heap.size w w2:=hb.trans (hb2.mono hb.size)
      cases hk1:ns.contains l[i] with
      | true =>
        have hf:firstIn ns l = i:=by unfold firstIn; rw [first_hit hlt hno hk1,if_pos hlt]
        go_wp2_with fail
        simp [bodyPost,results,Tryz.results272,go_sem]
        exact ⟨hf.symm,hb3⟩
      | false =>
        go_wp2_with fail
        refine ⟨⟨i + 1,congrArg (Value.int .i64) (by omega),by omega,hb3,fun v hv=>?_⟩,?_⟩
        · rw [List.take_succ_eq_append_getElem hlt] at hv
          rcases List.mem_append.1 hv with hv | hv
          · exact hno v hv
          · rw [List.mem_singleton.1 hv]; exact hk1
        · show l.length - ((i:Int) + 1).toNat < l.length - (i:Int).toNat
          omega
    · have hf:firstIn ns l = -1:=first_none fun v hv=>hno v (by rw [List.take_of_length_le (by omega)]; exact hv)
      go_wp2_with fail
      simp [bodyPost,results,Tryz.results272,go_sem]
      exact ⟨hf.symm,hb⟩
end Go.Proofs.YtiomojlcnemnhaaGreatDoor

namespace Go.Proofs.YtiomojlcnemnhaaGreatDoor
open Go.Fx Go.RowKit Go.Ped
abbrev strV (v:Name):Value:=.string (bs v)
theorem cells_fill {b:Nat} {ty:TypeId} (z:Value):∀ (old:List Value) {W:World} {n:Nat} {pre post:List Value},n = pre.length→W.heap[b]? = some (.cells (pre++old++post).toArray ty (0,0)) →
    (W.setCells b n (List.replicate old.length z)).heap[b]? = some (.cells (pre++List.replicate old.length z++post).toArray ty (0,0))∧KeptBut (fun c=>c = b) W (W.setCells b n (List.replicate old.length z))
  | [],W,n,pre,post,_,hb=>⟨by simpa [World.setCells] using hb,KeptBut.refl _ _⟩
  | x :: old,W,n,pre,post,hn,hb=>by
    obtain ⟨h1,_,_,k1⟩:=cells_set (ty:=ty) (v:=z) (pre:=pre) (x:=x) (post:=old++post) hn (by rw [hb]; simp)
    obtain ⟨h2,k2⟩:=cells_fill (ty:=ty) z old (W:=W.setCell ⟨b,n,none⟩ z) (n:=n + 1) (pre:=pre++[z]) (post:=post) (by rw [List.length_append,hn]; rfl) (by rw [h1]; simp)
    rw [List.length_cons,List.replicate_succ,World.setCells]
    exact ⟨by rw [h2]; simp,kept_same k1 k2⟩
abbrev unk (ns l:List Name):List Name:=l.filter fun v=>!ns.contains v
theorem unk_all {ns l:List Name} (h:∀ v∈l,ns.contains v = false):unk ns l = l:=List.filter_eq_self.2 fun v hv=>by rw [h v hv]; rfl
theorem unk_in {ns l:List Name} {u:Name} (h:ns.contains u = true):unk ns (l++[u]) = unk ns l:=by
  unfold unk
  rw [List.filter_append,List.filter_cons,h]
  exact List.append_nil _
theorem unk_out {ns l:List Name} {u:Name} (h:ns.contains u = false):unk ns (l++[u]) = unk ns l++[u]:=by
  unfold unk
  rw [List.filter_append,List.filter_cons,h]
  rfl
def DelAt (ns l:List Name) (rest:List Value) (blk:Nat) (w:World) (i j:Nat):Prop :=
  ∃ M:List Name,i = (unk ns (l.take j)).length∧i + M.length = j∧M≠[]∧j≤l.length∧w.heap[blk]? = some (.cells ((unk ns (l.take j)).map strV++M.map strV++(l.drop j).map strV++rest).toArray 9 (0,0))
set_option maxRecDepth 100000 in
set_option maxHeartbeats 2000000 in
theorem delete_calls {w:World} {sb mb blk cap:Nat} {ns l:List Name} {rest:List Value} (hk:KnownAt w mb ns) (hsb:sb < w.heap.size) (hc:w.cell? ⟨sb,1,none⟩ = some (.map (some mb))) (hnb:sb≠blk) (hnm:mb≠blk)
    (hb:w.heap[blk]? = some (.cells (l.map strV++rest).toArray 9 (0,0))) (hcap:l.length≤cap) (hmx:cap≤maxLen) :
    Calls Tryz.prog 283 #[.slice (some ⟨blk,0,none⟩) l.length cap,fvHas sb] w fun e w'=>e = .returned (.slice (some ⟨blk,0,none⟩) (unk ns l).length cap) ∧
      w'.heap[blk]? = some (.cells ((unk ns l).map strV++List.replicate (l.length - (unk ns l).length) (strV [])++rest).toArray 9 (0,0))∧KeptBut (fun c=>c = blk) w w':=by
  unfold maxLen at hmx
  have hlt0:blk < w.heap.size:=(Array.getElem?_eq_some_iff.1 hb).1
  have hidx:=index_calls (w:=w) (sb:=sb) (blk:=blk) (cap:=cap) (l:=l) (ad:=some ⟨blk,0,none⟩) hk hsb hc (fun _=>hlt0) (fun _=>rfl)
    (fun j hj=>by simp [World.cell?,hb,List.getElem?_append_left,hj]) (by unfold maxLen; omega) (by omega)
  by_cases hall:∀ v∈l,ns.contains v = false
  · rw [first_none hall] at hidx
    go_enter Tryz.func283,Tryz.ntmps283
    go_wp2_with fail
    refine hidx.mono ?_
    rintro e w1 ⟨rfl,hb1⟩
    go_wp2_with fail
    simp [bodyPost,results,Tryz.results283,go_sem]
    rw [unk_all hall]
    refine ⟨rfl,?_,KeptBut.of_below hb1⟩
    rw [hb1.block blk hlt0,hb]
    simp
  · obtain ⟨k0,hk0,hkn,hno⟩:∃ k0,∃ h:k0 < l.length,ns.contains l[k0] = true∧∀ v∈l.take k0,ns.contains v = false:=by
      refine ⟨l.findIdx ns.contains,List.findIdx_lt_length_of_exists ?_,List.findIdx_getElem,fun v hv=>?_⟩
      · apply Classical.byContradiction
        intro hn
        exact hall fun v hv=>by
          cases h:ns.contains v with
          | false=>rfl
          | true=>exact absurd ⟨v,hv,h⟩ hn
      · obtain ⟨j,hj,rfl⟩:=List.mem_take_iff_getElem.1 hv
        exact List.not_of_lt_findIdx (by omega)
    have hf:firstIn ns l = k0:=by unfold firstIn; rw [first_hit hk0 hno hkn,if_pos hk0]
    rw [hf] at hidx
    have hk1:unk ns (l.take (k0 + 1)) = l.take k0:=by
      rw [List.take_succ_eq_append_getElem hk0,unk,List.filter_append]
      rw [show List.filter (fun v=>!ns.contains v) (l.take k0) = l.take k0 from unk_all hno]
      simp
      simpa using hkn
    have hne1:((k0:Int) == -1) = false:=beq_eq_false_iff_ne.2 (by omega)
    go_enter Tryz.func283,Tryz.ntmps283
    go_wp2_with fail
    refine hidx.mono ?_
    rintro e w1 ⟨rfl,hb1⟩
    go_wp2_with fail
    go_loopw [5,6,7] (fun n5 n6 _ w'=>∃ i j:Nat,n5 = .int .i64 (i:Int)∧n6 = .int .i64 (j:Int)∧DelAt ns l rest blk w' i j∧KeptBut (fun c=>c = blk) w w') (fun _ n _ _=>match n with | .int _ k=>l.length - k.toNat | _=>0)
    case atStart =>
      refine ⟨k0,k0 + 1,rfl,congrArg (Value.int .i64) (by omega),⟨[l[k0]],?_,rfl,by simp,by omega,?_⟩,KeptBut.of_below hb1⟩
      · rw [hk1,List.length_take]; omega
      · rw [hb1.block blk hlt0,hb,hk1]
        congr 4
        rw [← List.map_append,← List.map_append]
        congr 1
        rw [List.append_assoc,List.singleton_append,← List.drop_eq_getElem_cons hk0,List.take_append_drop]
    case round =>
      obtain ⟨i,j,rfl,rfl,⟨M,hi,hij,hM,hj,hw⟩,hkw⟩:=hrel
      have hsz:=hkw.size
      by_cases hlt:j < l.length
      · have hlt':(j:Int) < (l.length:Int):=by omega
        have hcl:wr.cell? ⟨blk,j,none⟩ = some (strV l[j]):=by
          rw [List.drop_eq_getElem_cons hlt] at hw
          have hp:((unk ns (l.take j)).map strV++M.map strV).length = j:=by simp; omega
          have hw2:wr.heap[blk]? = some (.cells (((unk ns (l.take j)).map strV++M.map strV)++strV l[j] :: ((l.drop (j + 1)).map strV++rest)).toArray 9 (0,0)):=by rw [hw,List.map_cons]; simp only [List.append_assoc,List.cons_append]
          exact (cells_set (v:=strV []) hp.symm hw2).2.1
        have hcall:=has_calls (w:=wr) (sb:=sb) (hk.frame (hkw.block mb hk.lt hnm)) ((show wr.cell? ⟨sb,1,none⟩ = w.cell? ⟨sb,1,none⟩ by simp [World.cell?,hkw.block sb hsb hnb]).trans hc) l[j]
        generalize hu:l[j] = u at hcl hcall
        have hH:Aside (DelAt ns l rest blk wr i j):=⟨M,hi,hij,hM,hj,hw⟩
        clear hw hi
        go_wp2_with fail
        refine hcall.mono ?_
        rintro e w2 ⟨rfl,hb2⟩
        have hlt1:blk < wr.heap.size:=by omega
        have hw2:w2.heap[blk]? = wr.heap[blk]?:=hb2.block blk hlt1
        have hk2:KeptBut (fun c=>c = blk) w w2:=kept_same hkw (KeptBut.of_below hb2)
        obtain ⟨M,hi,hij,hM,hj,hw⟩:=hH.out
        rw [← hw2,List.drop_eq_getElem_cons hlt,hu] at hw
        obtain ⟨x,M',rfl⟩:=List.exists_cons_of_ne_nil hM
        have htk:l.take (j + 1) = l.take j++[u]:=by rw [List.take_succ_eq_append_getElem hlt,hu]
        rw [List.length_cons] at hij
        cases hq:ns.contains u with
        | true =>
          have hun:unk ns (l.take (j + 1)) = unk ns (l.take j):=by rw [htk,unk_in hq]
          have hD:Aside (DelAt ns l rest blk w2 i (j + 1)):=⟨x :: M'++[u],by rw [hun]; exact hi,by rw [List.length_append,List.length_cons,List.length_singleton]; omega,by simp,by omega,by rw [hun,hw]; simp⟩
          clear hw hw2 hi
          go_wp2_with fail
          refine ⟨⟨i,j + 1,rfl,congrArg (Value.int .i64) (by omega),hD.out,hk2⟩,?_⟩
          show l.length - ((j:Int) + 1).toNat < l.length - (j:Int).toNat
          omega
        | false =>
          have hun:unk ns (l.take (j + 1)) = unk ns (l.take j)++[u]:=by rw [htk,unk_out hq]
          have hw3:w2.heap[blk]? = some (.cells ((unk ns (l.take j)).map strV++strV x :: (M'.map strV++strV u :: ((l.drop (j + 1)).map strV++rest))).toArray 9 (0,0)):=by
            rw [hw,List.map_cons,List.map_cons]; simp only [List.append_assoc,List.cons_append]
          obtain ⟨h1,c1,f1,k1⟩:=cells_set (v:=strV u) (n:=i) (by rw [List.length_map]; exact hi) hw3
          have hD:Aside (DelAt ns l rest blk (w2.setCell ⟨blk,i,none⟩ (strV u)) (i + 1) (j + 1)):=⟨M'++[u],by rw [hun,List.length_append,← hi]; rfl,by rw [List.length_append,List.length_singleton]; omega,by simp,by omega,by rw [h1,hun]; simp⟩
          have hk3:=kept_same hk2 k1
          clear hw hw2 hw3 h1 k1 hi
          go_wp2_with fail
          refine ⟨⟨i + 1,j + 1,congrArg (Value.int .i64) (by omega),congrArg (Value.int .i64) (by omega),hD.out,hk3⟩,?_⟩
          show l.length - ((j:Int) + 1).toNat < l.length - (j:Int).toNat
          omega
      · obtain rfl:j = l.length:=by omega
        rw [List.take_length,List.drop_length] at hw
        rw [List.take_length] at hi
        have hcut:l.length - i = M.length:=by omega
        have hMp:0 < M.length:=List.length_pos_iff.2 hM
        have hw2:wr.heap[blk]? = some (.cells ((unk ns l).map strV++M.map strV++rest).toArray 9 (0,0)):=by rw [hw]; simp
        obtain ⟨h1,k1⟩:=cells_fill (strV []) (M.map strV) (n:=i) (by rw [List.length_map]; exact hi) hw2
        rw [List.length_map] at h1 k1
        have hcells:∀ t,t < M.length→wr.cell? ⟨blk,i + t,none⟩ = some (strV (M.getD t []))∧wr.frozen? ⟨blk,i + t,none⟩ = false:=fun t ht=>by
          have hp:i + t = ((unk ns l).map strV).length + t:=by rw [List.length_map,hi]
          simp [World.cell?,World.frozen?,hw2,hp,List.getElem?_append_right,List.getElem?_append_left,ht,List.getD_eq_getElem?_getD]
        have hclr:∀ ty,(Builtin.clear_ #[67] ty #[.slice (some ⟨blk,i,none⟩) M.length (cap - i)]).run Tryz.prog wr = .ok (.tuple #[]) (wr.setCells blk i (List.replicate M.length (strV []))):=fun ty=>by
          exact Lib.run_clear_slice wr _ _ ty _ Tryz.underlying67 (fun w=>Tryz.zeroValue9 w) rfl rfl blk i _ _ hMp (fun t ht=>by rw [(hcells t ht).1]; rfl) (fun t ht=>(hcells t ht).2)
        have hk3:=kept_same hkw k1
        have hi3:Aside (i = (unk ns l).length):=hi
        have hile:i≤l.length:=by omega
        clear hw hw2 k1 hcells hi
        go_wp2_with fail
        trace_state
        simp [bodyPost,results,Tryz.results283,go_sem]
        have hi4:=hi3.out
        subst hi4
        rw [hcut]
        exact ⟨rfl,by simpa using h1,hk3⟩
end Go.Proofs.YtiomojlcnemnhaaGreatDoor

namespace Go.Proofs
def Tryz.lays216_ren:Go.Shelf.Ren:=⟨fun | 41=>284 | n=>n,fun | 22=>67 | 23=>9 | 4=>4 | n=>n,fun | n=>n⟩
theorem Tryz.lays216:Go.Proofs.SlLaysE0.n41 Tryz.prog Tryz.lays216_ren:={
  mixed:=by kernel_rfl
  f41:=⟨Tryz.f284.name,by decide,Tryz.func284.trans (congrArg some (by kernel_rfl))⟩
  t4:=Tryz.underlying4
  a4:=Tryz.isAgg4
  z4:=Tryz.sizeOf4
  v4:=Tryz.zeroValue4
  t22:=Tryz.underlying67
  a22:=Tryz.isAgg67
  z22:=Tryz.sizeOf67
  v22:=Tryz.zeroValue67 }
end Go.Proofs
namespace Go.Proofs.YtiomojlcnemnhaaGreatDoor
open Go.Fx Go.RowKit Go.Ped
variable {G:World→Prop}
theorem info9:∃ i0 z,Tryz.prog.info? 9 = some i0∧i0.zero = some z∧i0.size = 1∧i0.bytes = 16∧z.cells.size = 1:=by
  have e1:(Tryz.prog.info? 9).map (·.bytes) = some 16:=by kernel_rfl
  have e2:(Tryz.prog.info? 9).map (·.size) = some 1:=by kernel_rfl
  have e3:((Tryz.prog.info? 9).bind fun i=>i.zero.map fun z=>z.cells.size) = some 1:=by kernel_rfl
  obtain ⟨i0,h,h1⟩:=Option.map_eq_some_iff.1 e1
  rw [h] at e2 e3
  obtain ⟨z,h3,h4⟩:=Option.map_eq_some_iff.1 (show i0.zero.map (fun z=>z.cells.size) = some 1 from e3)
  exact ⟨i0,z,h,h3,by simpa using e2,h1,h4⟩
set_option maxRecDepth 100000 in
set_option maxHeartbeats 1000000 in
theorem delete_none {w:World} {sb mb cap:Nat} {ns:List Name} {ad:Option Addr} (hk:KnownAt w mb ns) (hsb:sb < w.heap.size) (hc:w.cell? ⟨sb,1,none⟩ = some (.map (some mb))) :
    Calls Tryz.prog 283 #[.slice ad 0 cap,fvHas sb] w fun e w'=>e = .returned (.slice ad 0 cap)∧Below w.heap.size w w':=by
  have hidx:=index_calls (w:=w) (sb:=sb) (blk:=0) (cap:=cap) (l:=[]) (ad:=ad) hk hsb hc (fun h=>absurd rfl h) (fun h=>absurd rfl h) (fun j hj=>absurd hj (Nat.not_lt_zero _)) (by simp [maxLen]) (Nat.zero_le _)
  rw [first_none (fun v hv=>by cases hv)] at hidx
  simp only [List.length_nil] at hidx
  go_enter Tryz.func283,Tryz.ntmps283
  go_wp2_with fail
  refine hidx.mono ?_
  rintro e w1 ⟨rfl,hb1⟩
  go_wp2_with fail
  simp [bodyPost,results,Tryz.results283,go_sem]
  exact hb1
theorem names_of {V:Nat→Nat→Prop} {w:World}:∀ {l:List Name} {xs:List Value},All2 (RepC V w) (l.map nmRow).flatten xs→xs = l.map strV
  | [],xs,h=>h.nil_left
  | v :: l,xs,h=>by
    have h':All2 (RepC V w) (cS (bs v) :: (l.map nmRow).flatten) xs:=h
    obtain ⟨u,xs',rfl,hu,h''⟩:=h'.head
    rw [names_of h'']
    cases hu
    rfl
theorem names_flat:∀ m:List Name,(m.map nmRow).flatten = m.map fun v=>cS (bs v)
  | []=>rfl
  | v :: m=>by rw [List.map_cons,List.flatten_cons,names_flat m]; rfl
theorem kept_belowU {N b:Nat} {w w1 w2:World} (h:Below N w w1) (hN:N≤b) (hN2:N≤w1.heap.size) (k:KeptBut (fun c=>c = b) w1 w2):Below N w w2 :=
  ⟨by rw [k.os,h.os],by rw [k.tape,h.tape],by rw [k.output,h.output],Nat.le_trans h.size k.size,fun i hi=>by rw [k.block i (by omega) (by omega),h.block i hi]⟩
theorem names_rep {V:Nat→Nat→Prop} {w:World} {g cap:Nat} {m:List Name} {rest:List Value} (hg:w.heap[g]? = some (.cells (m.map strV++rest).toArray 9 (0,0))) (hc:m.length≤cap) (hm:cap≤maxLen) (hV:∀ o,V g o) :
    RepC V w (.sl (m.map nmRow) []) (.slice (some ⟨g,0,none⟩) m.length cap):=by
  have hfl:(m.map nmRow++[]).flatten = m.map fun v=>cS (bs v):=by
    rw [List.append_nil,names_flat]
  refine .sl _ _ 1 g 0 m.length cap (m.map strV) (by rw [List.length_map]) (by simpa using hc) hm ?_ ?_ (fun j u hj=>⟨?_,hV _⟩) (fun j c u hj hu=>?_)
  · intro e he
    rw [List.append_nil] at he
    obtain ⟨v,_,rfl⟩:=List.mem_map.1 he
    rfl
  · rw [hfl,List.length_map,List.length_map]
  · have hlt:j < m.length:=by have:=(List.getElem?_eq_some_iff.1 hj).1; rwa [List.length_map] at this
    simp only [World.cell?,hg,Nat.zero_add]
    simp only [List.getElem?_toArray]
    rw [List.getElem?_append_left (by rwa [List.length_map])]
    exact hj
  · rw [hfl,List.getElem?_map] at hj
    rw [List.getElem?_map] at hu
    cases h:m[j]? with
    | none=>rw [h] at hj; cases hj
    | some v =>
      rw [h] at hj hu
      cases hj
      cases hu
      exact .v _ rfl
set_option maxRecDepth 100000 in
set_option maxHeartbeats 2000000 in
theorem unknown_calls {w:World} {V:Nat→Nat→Prop} {sb mb:Nat} {ns l:List Name} {sp:Sp} {v:Value} (hk:KnownAt w mb ns) (hsb:sb < w.heap.size) (hc:w.cell? ⟨sb,1,none⟩ = some (.map (some mb))) (hl:l.length≤1048576) (hv:RepC V w (.sl (l.map nmRow) sp) v) :
    Calls Tryz.prog 228 #[.pointer (some ⟨sb,0,none⟩),v] w fun e w'=>∃ v',e = .returned v'∧RepC (fun b o=>V b o∨w.heap.size≤b) w' (.sl ((unk ns l).map nmRow) []) v'∧Below w.heap.size w w':=by
  obtain ⟨i0,z,hi,hz0,hz1,hz2,hzs⟩:=info9
  have hcl:=clone_any Tryz.lays216 i0 z 1 16 hi hz0 hz1 hz2 hzs (by decide) (fun w=>Tryz.sizeOf9 w) (l.map nmRow) sp (fun r hr=>by obtain ⟨v,_,rfl⟩:=List.mem_map.1 hr; rfl) (by rw [List.length_map]; omega) hv
  have hone:=hv.oneCell
  go_enter Tryz.func228,Tryz.ntmps228
  go_wp2_with fail
  refine hcl.mono ?_
  rintro e w1 ⟨v1,xs,rfl,hown,hxs,hb1⟩
  rw [names_of hxs,List.length_map] at hown
  have hk1:=hk.frame (hb1.block mb hk.lt)
  have hc1:w1.cell? ⟨sb,1,none⟩ = some (.map (some mb)):=(hb1.cell (p:=⟨sb,1,none⟩) hsb).trans hc
  have hsb1:sb < w1.heap.size:=Nat.lt_of_lt_of_le hsb hb1.size
  obtain ⟨_,⟨rfl,hn0⟩ | ⟨g,cap,cur,rfl,hbase,hg,hnc,hm,hsz,htk⟩⟩:=hown
  · have hd:=delete_none (cap:=0) (ad:=none) hk1 hsb1 hc1
    have hl0:l = []:=List.length_eq_zero_iff.1 hn0
    subst hl0
    go_wp2_with fail
    refine hd.mono ?_
    rintro e w2 ⟨rfl,hb2⟩
    go_wp2_with fail
    simp [bodyPost,results,Tryz.results228,go_sem]
    exact ⟨.nil 0,hb1.trans (hb2.mono hb1.size)⟩
  · rw [Nat.mul_one] at htk
    have hcur:cur = (l.map strV++cur.toList.drop l.length).toArray:=by
      rw [← htk,List.take_append_drop,Array.toArray_toList]
    rw [hcur] at hg
    have hd:=delete_calls hk1 hsb1 hc1 (blk:=g) (by omega) (by have:=hk.lt; omega) hg hnc hm
    clear hg htk hcur
    go_wp2_with fail
    refine hd.mono ?_
    rintro e w2 ⟨rfl,hg2,hk2⟩
    have hrep:RepC (fun b o=>V b o∨w.heap.size≤b) w2 (.sl ((unk ns l).map nmRow) []) (.slice (some ⟨g,0,none⟩) (unk ns l).length cap) :=
      names_rep (rest:=List.replicate (l.length - (unk ns l).length) (strV [])++cur.toList.drop l.length) (by rw [hg2,List.append_assoc]) (Nat.le_trans (List.length_filter_le _ _) hnc) hm (fun o=>.inr hbase)
    have hbw:=kept_belowU hb1 hbase hb1.size hk2
    clear hg2
    go_wp2_with fail
    simp [bodyPost,results,Tryz.results228,go_sem]
    exact ⟨by simpa using hrep,hbw⟩
theorem m194 (body:C) (ns l:List Name) (sp:Sp) (hl:l.length≤1048576):MeetsH Tryz.prog G 228 [.one (.ref 10009 0 0),.one (.c (.sl (l.map nmRow) sp))] (hp (OS 10009 10007 body ns) [] F0) (.x (.one (.c (.sl ((unk ns l).map nmRow) [])))) (hp (OS 10009 10007 body ns) [] F0):=by
  refine MeetsH.of_reader (res:=.x (.one (.sl ((unk ns l).map nmRow) []))) (by kernel_rfl) ?_ ?_ ?_
  · intro x hx
    simp only [List.mem_cons,List.not_mem_nil,or_false] at hx
    rcases hx with rfl | rfl <;> trivial
  · intro k b hb rr hrr
    rw [hp_objs0] at hb
    simp only [OS,lookO_cons,lookO_nil] at hb
    split at hb
    · injection hb with hb
      subst hb
      simp only [List.mem_singleton] at hrr
      subst hrr
      exact ⟨trivial,trivial,trivial⟩
    · split at hb
      · injection hb with hb
        subst hb
        obtain ⟨v,_,rfl⟩:=List.mem_map.1 hrr
        exact ⟨trivial,trivial⟩
      · cases hb
  · intro w env F vs hG hmem ha
    obtain ⟨v0,vs',rfl,hv0,ha⟩:=ha.head
    obtain ⟨v1,vs'',rfl,hv1,ha⟩:=ha.head
    obtain rfl:=ha.nil_left
    obtain ⟨b,us',g1,g2,g3,g4,g5⟩:=hmem.objs 10007 ⟨0,1,ns.map knRow,some (.string,false)⟩ (by rw [hp_objs0]; simp)
    obtain ⟨sb,su,h1,h2,h3,h4,h5⟩:=hmem.objs 10009 ⟨263,2,[[.c body,.mapr 10007]],none⟩ (by rw [hp_objs0]; simp)
    have hkn:=known_of g2 g3
    obtain ⟨b0,s0,q1,rfl⟩:=(show ∃ b s,env.ρ 10009 = some (b,s)∧v0 = .pointer (some ⟨b,0 * s + 0,none⟩) from hv0)
    rw [h1] at q1
    injection q1 with q1
    injection q1 with e1 e2
    subst e1
    obtain ⟨ob,hob,hol⟩:=h2
    obtain ⟨x0,su',rfl,_,h3'⟩:=(show All2 (RepA env (hp (OS 10009 10007 body ns) [] F0).toks w) [.c body,.mapr 10007] su from h3).head
    obtain ⟨x1,su'',rfl,hx1,h3''⟩:=h3'.head
    obtain rfl:=h3''.nil_left
    obtain ⟨b1,s1,q2,rfl⟩:=(show ∃ b s,env.ρ 10007 = some (b,s)∧x1 = .map (some b) from hx1)
    rw [g1] at q2
    injection q2 with q2
    injection q2 with e3 e4
    subst e3
    have hcell:w.cell? ⟨sb,1,none⟩ = some (.map (some b)):=by
      rw [World.cell?]
      simp only [hob]
      obtain ⟨ex,rfl⟩:=(show ∃ ex:List Value,ob = .cells ([x0,.map (some b)]++ex).toArray 263 (0,0) from hol)
      rfl
    rw [Nat.zero_mul]
    exact (unknown_calls hkn (hmem.ρlt _ _ _ h1) hcell hl hv1).mono fun e w' h=>h
end Go.Proofs.YtiomojlcnemnhaaGreatDoor

namespace Go.Proofs.YtiomojlcnemnhaaGreatDoor
open Go.Fx Go.RowKit Go.Ped
variable {G:World→Prop}
def bitsTo (n:Nat):Int:=2 ^ n - 1
theorem m148 (n:Nat) (hn:n≤24):Meets Tryz.prog G 147 [.one (cI .i64 n)] (.x (.one (cI .u32 (bitsTo n)))):=by
  refine meets Tryz.func147 ie148 ig148 (Nat.le_of_ble_eq_true rfl) ?_
  simp [ic148,ir148]
  have h:∀ m:Fin 25,IntKind.u32.wrap (IntKind.u32.wrap (2 ^ min m.val IntKind.u32.bits) - 1) = 2 ^ m.val - 1:=by decide +kernel
  exact h ⟨n,by omega⟩
theorem m214 (l:List Name) (v:Name) (sp:Sp) (hl:l.length≤maxLen):Meets Tryz.prog G 282 [.one (.sl (l.map nmRow) sp),.one (cS (bs v))] (.x (.one (cI .i64 (if l.contains v then (l.idxOf v:Int) else -1)))):=by
  unfold maxLen at hl
  refine meets Tryz.func282 ie214 ig214 (Nat.le_of_ble_eq_true rfl) ?_
  generalize hR:(if l.contains v then (l.idxOf v:Int) else -1) = R
  simp [ic214,ir214]
  refine w_loopA [] [] [0,1,4,7,8] (by simp [ownKey])
    (fun i:Nat=>st [(0,.k true (.x (.one (.c (.sl (l.map nmRow) sp))))),(1,.k true (.x (.one (.c (cS (bs v)))))),(4,tI .i64 0),(7,tI .i64 l.length),(8,tI .i64 i)] [] [] F0) (fun i=>l.length - i)
    (fun i=>i≤l.length∧v ∉ l.take i) 0 (by simp) (by simp) ?_
  rintro i K hK ⟨hi,hd⟩
  obtain hlt | hge:=Nat.lt_or_ge i l.length
  · by_cases hv:v = l[i]
    · have hc:l.contains v = true:=by rw [List.contains_iff_mem]; rw [hv]; exact List.getElem_mem hlt
      have hx:l.idxOf v = i:=by
        have hsp:l = l.take i++l[i] :: l.drop (i + 1):=by rw [← List.drop_eq_getElem_cons hlt,List.take_append_drop]
        rw [hsp,List.idxOf_append,if_neg hd,← hv,List.idxOf_cons_self,List.length_take]
        omega
      rw [if_pos hc,hx] at hR
      subst hR
      simp [ic214l0,hlt,← hv]
    · simp [ic214l0,hlt,hv]
      simp (disch:=omega) only [wrap64]
      refine hK (i + 1) _ (by simp) ⟨by omega,?_⟩ (by omega)
      intro h
      rw [List.take_succ_eq_append_getElem hlt,List.mem_append,List.mem_singleton] at h
      exact h.elim hd hv
  · rw [List.take_of_length_le hge] at hd
    rw [if_neg (by simpa using hd)] at hR
    subst hR
    simp [ic214l0,Nat.not_lt.mpr hge]
theorem m192 (l:List Name) (v:Name) (sp:Sp) (hl:l.length≤maxLen):Meets Tryz.prog G 226 [.one (.sl (l.map nmRow) sp),.one (cS (bs v))] (.x (.one (cB (l.contains v)))):=by
  have h:=m214 (G:=G) l v sp hl
  refine meets Tryz.func226 ie192 ig192 (Nat.le_of_ble_eq_true rfl) ?_
  simp [ic192,ir192]
  refine call_of h ?_
  by_cases hc:l.contains v = true
  · simp only [hc,if_true]
    simp
    simpa using hc
  · simp only [Bool.not_eq_true] at hc
    simp only [hc]
    simp
    simpa using hc
theorem m150 (l m:List Name) (sp sq:Sp) (hl:l.length≤maxLen):Meets Tryz.prog G 149 [.one (.sl (l.map nmRow) sp),.one (.sl (m.map nmRow) sq)] (.x (.one (cB (decide (l = m))))):=by
  unfold maxLen at hl
  refine meets Tryz.func149 ie150 ig150 (Nat.le_of_ble_eq_true rfl) ?_
  by_cases hlen:l.length = m.length
  · generalize hR:decide (l = m) = R
    simp [ic150,ir150,hlen]
    refine w_loopA [] [] [0,1,4,12,13] (by simp [ownKey])
      (fun i:Nat=>st [(0,.k true (.x (.one (.c (.sl (l.map nmRow) sp))))),(1,.k true (.x (.one (.c (.sl (m.map nmRow) sq))))),(4,tB false),(12,tI .i64 l.length),(13,tI .i64 i)] [] [] F0) (fun i=>l.length - i)
      (fun i=>i≤l.length∧l.take i = m.take i) 0 (by simp [hlen]) (by simp) ?_
    rintro i K hK ⟨hi,hd⟩
    obtain hlt | hge:=Nat.lt_or_ge i l.length
    · have hlt':i < m.length:=by omega
      by_cases hv:l[i] = m[i]
      · simp [ic150l0,hlt,hlt',hv]
        simp (disch:=omega) only [wrap64]
        refine hK (i + 1) _ (by simp) ⟨by omega,?_⟩ (by omega)
        rw [List.take_succ_eq_append_getElem hlt,List.take_succ_eq_append_getElem hlt',hd,hv]
      · have hne:l≠m:=fun e=>hv (by subst e; rfl)
        rw [decide_eq_false hne] at hR
        subst hR
        simp [ic150l0,hlt,hlt',hv]
    · rw [List.take_of_length_le hge,List.take_of_length_le (by omega)] at hd
      rw [decide_eq_true hd] at hR
      subst hR
      simp [ic150l0,Nat.not_lt.mpr hge]
  · have hne:l≠m:=fun e=>hlen (by rw [e])
    rw [decide_eq_false hne]
    have hb:((l.length:Int) == (m.length:Int)) = false:=by rw [beq_eq_false_iff_ne]; omega
    simp [ic150,ir150,hb]
end Go.Proofs.YtiomojlcnemnhaaGreatDoor

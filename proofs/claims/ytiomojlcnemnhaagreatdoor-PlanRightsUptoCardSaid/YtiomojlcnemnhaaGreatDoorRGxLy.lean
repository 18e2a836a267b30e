import Derived.Test.YtiomojlcnemnhaaGreatDoorRGxB1
namespace Go.Proofs
def Tryz.lays219_ren:Go.Shelf.Ren:=⟨fun | 41=>327 | n=>n,fun | 22=>103 | 23=>105 | 4=>4 | n=>n,fun | n=>n⟩
theorem Tryz.lays219:Go.Proofs.SlLaysE0.n41 Tryz.prog Tryz.lays219_ren:={
  mixed:=by kernel_rfl
  f41:=⟨Tryz.f327.name,by decide,Tryz.func327.trans (congrArg some (by kernel_rfl))⟩
  t4:=Tryz.underlying4
  a4:=Tryz.isAgg4
  z4:=Tryz.sizeOf4
  v4:=Tryz.zeroValue4
  t22:=Tryz.underlying103
  a22:=Tryz.isAgg103
  z22:=Tryz.sizeOf103
  v22:=Tryz.zeroValue103 }
end Go.Proofs
namespace Go.Proofs.YtiomojlcnemnhaaGreatDoor
open Go.Fx Go.RowKit Go.Ped
theorem clone219 (l:List Ex) (sp:Sp) (hl:l.length≤1048576) {V:Nat→Nat→Prop} {w:World} {v:Value} (hv:RepC V w (.sl (l.map Ex.row) sp) v) :
    Calls Tryz.prog 327 #[v] w fun e w'=>∃ v' xs,e = .returned v'∧w'.ownsRow w.heap.size 105 6 v' l.length xs∧All2 (RepC V w) (l.map Ex.row).flatten xs∧Below w.heap.size w w':=by
  obtain ⟨i0,z,hi,hz0,hz1,hz2,hzs⟩:=info_of 105 6 80 (by kernel_rfl) (by kernel_rfl) (by kernel_rfl)
  have h:=clone_any Tryz.lays219 i0 z 6 80 hi hz0 hz1 hz2 hzs (by decide) (fun w=>Tryz.sizeOf105 w) (l.map Ex.row) sp (fun r hr=>by obtain ⟨t,_,rfl⟩:=List.mem_map.1 hr; exact Ex.row_length _) (by rw [List.length_map]; omega) hv
  rw [List.length_map] at h
  exact h
def NewV (N:Nat) (v:Value) (w:World):Nat→Nat→Prop:=fun b _=>N≤b∧b ∉ svB v∧b < w.heap.size
structure OwnAt (X0 X1:Obj) (kids:List Ex) (xs:List Value) (kv:Value) (w0 w:World) (N i:Nat) (ys:List Value):Prop where
  le:i≤kids.length
  n0:w.heap[N]? = some X0
  n1:w.heap[N + 1]? = some X1
  row:w.ownsRow (N + 2) 105 6 kv kids.length (ys++xs.drop (i * 6))
  rep:All2 (RepC (NewV (N + 2) kv w) w) ((kids.take i).map fun k=>k.bare.row).flatten ys
  below:Below N w0 w
theorem OwnAt.len {X0 X1:Obj} {kids:List Ex} {xs:List Value} {kv:Value} {w0 w:World} {N i:Nat} {ys:List Value} (h:OwnAt X0 X1 kids xs kv w0 w N i ys):ys.length = i * 6:=by
  rw [← h.rep.1,length_flatten (s:=6) _ (fun q hq=>by obtain ⟨y,_,rfl⟩:=List.mem_map.1 hq; exact Ex.row_length _),List.length_map,List.length_take,Nat.min_eq_left h.le]
theorem own_step {X0 X1:Obj} {kids:List Ex} {xs:List Value} {kv:Value} {w0 wr w4 w5:World} {N i:Nat} {ys us:List Value} {g:Nat} (h:OwnAt X0 X1 kids xs kv w0 wr N i ys) (hlt:i < kids.length) (hg:g∈svB kv) (hg2:∀ c∈svB kv,c = g)
    (h4:Below wr.heap.size wr w4) (hu:All2 (RepC (fun b _=>wr.heap.size≤b∧b < w4.heap.size) w4) kids[i].bare.row us) (h5:KeptBut (fun c=>c = g) w4 w5) (hrow:w5.ownsRow (N + 2) 105 6 kv kids.length (ys++us++xs.drop ((i + 1) * 6))):OwnAt X0 X1 kids xs kv w0 w5 N (i + 1) (ys++us):=by
  have hgb:N + 2≤g∧g < wr.heap.size:=ownsRow_block h.row g (svB_mem.1 hg)
  have s4:=h4.size
  have s5:=h5.size
  have hk:∀ b,b < wr.heap.size→b≠g→w5.heap[b]? = wr.heap[b]?:=fun b hb hne=>by rw [h5.block b (by omega) hne,h4.block b hb]
  refine ⟨hlt,?_,?_,hrow,?_,?_⟩
  · rw [hk N (by omega) (by omega)]; exact h.n0
  · rw [hk (N + 1) (by omega) (by omega)]; exact h.n1
  · rw [List.take_succ_eq_append_getElem hlt,List.map_append,List.flatten_append]
    refine All2.append (h.rep.imp fun c u _ hc=>RepC.mono (fun b o hb=>⟨hb.1,hb.2.1,by have:=hb.2.2; omega⟩) (fun b o hb=>?_) hc) ?_
    · simp only [World.cell?,hk b hb.2.2 (fun e=>hb.2.1 (e ▸ hg))]
    · rw [List.map_singleton,List.flatten_singleton]
      refine hu.imp fun c u _ hc=>RepC.mono (fun b o hb=>⟨by omega,fun hm=>?_,by omega⟩) (fun b o hb=>?_) hc
      · simp only [World.cell?,h5.block b hb.2 (by omega)]
      · have:=hg2 b hm; omega
  · exact ⟨by rw [h5.os,h4.os,h.below.os],by rw [h5.tape,h4.tape,h.below.tape],by rw [h5.output,h4.output,h.below.output],by have:=h.below.size; omega,fun b hb=>by rw [hk b (by omega) (by omega),h.below.block b hb]⟩
theorem svB_sl {ad:Option Addr} {n c g:Nat} (h:g∈svB (.slice ad n c)):∀ b∈svB (.slice ad n c),b = g:=by
  intro b hb
  have h1:=svB_mem.1 h
  have h2:=svB_mem.1 hb
  rw [h1] at h2
  exact (Option.some.inj h2).symm
theorem ex_cells_of {V:Nat→Nat→Prop} {w:World} {e:Ex} {us:List Value} (h:All2 (RepC V w) e.row us):∃ v,us = exCells e v∧KidsRep V w e v:=by
  rw [Ex.row_eq] at h
  obtain ⟨_,_,rfl,b1,h⟩:=h.head
  obtain ⟨_,_,rfl,b2,h⟩:=h.head
  obtain ⟨_,_,rfl,b3,h⟩:=h.head
  obtain ⟨_,_,rfl,b4,h⟩:=h.head
  obtain ⟨_,_,rfl,b5,h⟩:=h.head
  obtain ⟨v,_,rfl,b6,h⟩:=h.head
  obtain rfl:=h.nil_left
  cases b1; cases b2; cases b3; cases b4; cases b5
  exact ⟨v,rfl,b6⟩
theorem ex_cells_rep {V:Nat→Nat→Prop} {w:World} {e:Ex} {v:Value} (h:KidsRep V w e v):All2 (RepC V w) e.row (exCells e v):=by
  rw [Ex.row_eq]
  exact .cons (.v _ rfl) (.cons (.v _ rfl) (.cons (.v _ rfl) (.cons (.v _ rfl) (.cons (.v _ rfl) (.cons h .nil)))))
theorem bare_op (e:Ex):e.bare.op = e.op:=by cases e; rw [Ex.bare_mk]; rfl
theorem bare_t (e:Ex):e.bare.t = e.t:=by cases e; rw [Ex.bare_mk]; rfl
theorem bare_kids (e:Ex):e.bare.kids = e.kids.map Ex.bare:=by cases e; rw [Ex.bare_mk]; rfl
theorem bare_sp (e:Ex):e.bare.sp = []:=by cases e; rw [Ex.bare_mk]; rfl
theorem exCells_bare (e:Ex) (v:Value):exCells e.bare v = exCells e v:=by unfold exCells; rw [bare_op,bare_t]
def OwnAns (w:World) (e:Ex) (r:Ending) (w':World):Prop:=∃ ad k c,r = .returned (.agg #[.int .i8 e.op,.string (bs e.t.v),.int .i8 e.t.x.k,.int .i64 e.t.x.n,.string (bs e.t.x.s),.slice ad k c])∧KidsRep (fun b _=>w.heap.size≤b∧b < w'.heap.size) w' e.bare (.slice ad k c)∧Below w.heap.size w w'
set_option maxRecDepth 100000 in
set_option maxHeartbeats 4000000 in
theorem own_calls:∀ (e:Ex),e.small 1048576→∀ (w:World) (V:Nat→Nat→Prop) (ad:Option Addr) (k c:Nat),(∀ b o,V b o→b < w.heap.size)→KidsRep V w e (.slice ad k c) →
    Calls Tryz.prog 289 #[.agg #[.int .i8 e.op,.string (bs e.t.v),.int .i8 e.t.x.k,.int .i64 e.t.x.n,.string (bs e.t.x.s),.slice ad k c]] w (OwnAns w e):=by
  refine Ex.ind fun op t kids sp ih hsm w V ad k cap hV hrep=>?_
  obtain ⟨hkl,hks⟩:=Ex.small_mk.1 hsm
  obtain rfl:k = kids.length:=by
    obtain ⟨_,_,he⟩:=kids_slice hrep
    injection he
  have o1:(Value.slice ad kids.length cap).oneCell' = true:=rfl
  have k2:Below w.heap.size w ((w.alloc (.cells #[.int .i8 op,.string (bs t.v),.int .i8 t.x.k,.int .i64 t.x.n,.string (bs t.x.s),.slice ad kids.length cap] 105)).alloc (.cells #[Value.int IntKind.i8 0,Value.string { data:=#[] },Value.int IntKind.i8 0,Value.int IntKind.i64 0,Value.string { data:=#[] },Value.slice none 0 0] 105)):=Below.alloc (Below.alloc (Below.refl _ _) (Nat.le_refl _) _) (by rw [alloc_size]; omega) _
  show Calls Tryz.prog 289 #[.agg #[.int .i8 op,.string (bs t.v),.int .i8 t.x.k,.int .i64 t.x.n,.string (bs t.x.s),.slice ad kids.length cap]] w _
  go_enter Tryz.func289,Tryz.ntmps289
  go_wp2_with fail
  have hN0:((w.alloc (.cells #[.int .i8 op,.string (bs t.v),.int .i8 t.x.k,.int .i64 t.x.n,.string (bs t.x.s),.slice ad kids.length cap] 105)).alloc (.cells #[Value.int IntKind.i8 0,Value.string { data:=#[] },Value.int IntKind.i8 0,Value.int IntKind.i64 0,Value.string { data:=#[] },Value.slice none 0 0] 105)).heap[w.heap.size]? = some (.cells #[.int .i8 op,.string (bs t.v),.int .i8 t.x.k,.int .i64 t.x.n,.string (bs t.x.s),.slice ad kids.length cap] 105 (0,0)):=by
    rw [alloc_heap,if_neg (by rw [alloc_size]; omega),alloc_heap,if_pos rfl]
  have hN1:((w.alloc (.cells #[.int .i8 op,.string (bs t.v),.int .i8 t.x.k,.int .i64 t.x.n,.string (bs t.x.s),.slice ad kids.length cap] 105)).alloc (.cells #[Value.int IntKind.i8 0,Value.string { data:=#[] },Value.int IntKind.i8 0,Value.int IntKind.i64 0,Value.string { data:=#[] },Value.slice none 0 0] 105)).heap[w.heap.size + 1]? = some (.cells #[Value.int IntKind.i8 0,Value.string { data:=#[] },Value.int IntKind.i8 0,Value.int IntKind.i64 0,Value.string { data:=#[] },Value.slice none 0 0] 105 (0,0)):=by
    rw [alloc_heap,if_pos (by rw [alloc_size])]
  have hNs:((w.alloc (.cells #[.int .i8 op,.string (bs t.v),.int .i8 t.x.k,.int .i64 t.x.n,.string (bs t.x.s),.slice ad kids.length cap] 105)).alloc (.cells #[Value.int IntKind.i8 0,Value.string { data:=#[] },Value.int IntKind.i8 0,Value.int IntKind.i64 0,Value.string { data:=#[] },Value.slice none 0 0] 105)).heap.size = w.heap.size + 2:=by
    rw [alloc_size,alloc_size]
  generalize (w.alloc (.cells #[.int .i8 op,.string (bs t.v),.int .i8 t.x.k,.int .i64 t.x.n,.string (bs t.x.s),.slice ad kids.length cap] 105)).alloc (.cells #[Value.int IntKind.i8 0,Value.string { data:=#[] },Value.int IntKind.i8 0,Value.int IntKind.i64 0,Value.string { data:=#[] },Value.slice none 0 0] 105) = wa at *
  have hrep':RepC V w (.sl (kids.map Ex.row) sp) (.slice ad kids.length cap):=hrep
  refine (clone219 kids sp hkl (RepC.mono (fun _ _ h=>h) (fun b o h=>below_cell k2 (hV b o h) o) hrep')).mono ?_
  rintro e wb ⟨kv,xs,rfl,hrow,hxs,kb⟩
  rw [hNs] at hrow kb
  obtain ⟨kva,kvc,rfl,_⟩:=ownsRow_len hrow
  have hbN:wb.heap[w.heap.size]? = some (.cells ([Value.int .i8 op,.string (bs t.v),.int .i8 t.x.k,.int .i64 t.x.n,.string (bs t.x.s)]++Value.slice ad kids.length cap :: []).toArray 105 (0,0)):=by rw [kb.block _ (by omega),hN0]; rfl
  obtain ⟨g1,g2,g3,g4⟩:=cells_set (n:=5) (v:=.slice kva kids.length kvc) rfl hbN
  obtain ⟨wd,hWd⟩:∃ x,wb.setCell ⟨w.heap.size,5,none⟩ (.slice kva kids.length kvc) = x:=⟨_,rfl⟩
  rw [hWd] at g1 g4
  have hc5:∀ w':World,w'.heap[w.heap.size]? = wd.heap[w.heap.size]?→w'.cell? ⟨w.heap.size,5,none⟩ = some (.slice kva kids.length kvc):=fun w' h=>by simp [World.cell?,h,g1]
  have hc5d:=hc5 wd rfl
  have hxs0:All2 (RepC V w) (kids.map Ex.row).flatten xs:=hxs.imp fun c u _ h=>RepC.mono (fun _ _ h=>h) (fun b o h=>(below_cell k2 (hV b o h) o).symm) h
  have hoffd:∀ i,i < wb.heap.size→i≠w.heap.size→wd.heap[i]? = wb.heap[i]?:=fun i hi hne=>g4.block i hi hne
  obtain ⟨X0,hX0⟩:∃ X,Obj.cells ([Value.int .i8 op,.string (bs t.v),.int .i8 t.x.k,.int .i64 t.x.n,.string (bs t.x.s)]++Value.slice kva kids.length kvc :: []).toArray 105 (0,0) = X:=⟨_,rfl⟩
  rw [hX0] at g1
  obtain ⟨X1,hX1⟩:∃ X,Obj.cells #[Value.int IntKind.i8 0,Value.string { data:=#[] },Value.int IntKind.i8 0,Value.int IntKind.i64 0,Value.string { data:=#[] },Value.slice none 0 0] 105 (0,0) = X:=⟨_,rfl⟩
  rw [hX1] at hN1
  have hrel0:OwnAt X0 X1 kids xs (.slice kva kids.length kvc) w wd w.heap.size 0 []:=by
    refine ⟨Nat.zero_le _,g1,?_,?_,.nil,?_⟩
    · rw [hoffd _ (by have:=kb.size; omega) (by omega),kb.block _ (by omega),hN1]
    · simp only [List.nil_append,Nat.zero_mul,List.drop_zero]
      exact ownsRow_frame' hrow (by omega) fun g hg=>by
        have:=ownsRow_block hrow g (svB_mem.1 hg)
        exact hoffd g this.2 (by omega)
    · exact ⟨by rw [g4.os,kb.os,k2.os],by rw [g4.tape,kb.tape,k2.tape],by rw [g4.output,kb.output,k2.output],by have:=kb.size; have:=g4.size; omega,fun i hi=>by rw [hoffd i (by have:=kb.size; omega) (by omega),kb.block i (by omega),k2.block i hi]⟩
  go_wp2_with fail
  clear hWd g2 g3 g4 hbN hrow kb hxs hN0 k2 hrep hrep'
  go_loopw [11] (fun n w'=>∃ (i:Nat) (ys:List Value),n = .int .i64 (i:Int)∧OwnAt X0 X1 kids xs (.slice kva kids.length kvc) w w' w.heap.size i ys) (fun n _=>match n with | .int _ k=>kids.length - k.toNat | _=>0)
  case atStart=>exact ⟨0,[],rfl,hrel0⟩
  case round =>
    obtain ⟨i,ys,rfl,hrel⟩:=hrel
    have hc5r:=hc5 wr (by rw [hrel.n0,g1])
    by_cases hlt:i < kids.length
    · have hlt':(i:Int) < (kids.length:Int):=by omega
      have hsp:(kids.map Ex.row).flatten = ((kids.take i).map Ex.row).flatten++(kids[i].row++((kids.drop (i + 1)).map Ex.row).flatten):=by
        conv=>lhs; rw [← List.take_append_drop i kids,List.drop_eq_getElem_cons hlt,List.map_append,List.map_cons,List.flatten_append,List.flatten_cons]
      obtain ⟨m3,vk,hdrop,hdrop2,hrk⟩:∃ m3 vk,xs.drop (i * 6) = exCells kids[i] vk++m3∧xs.drop ((i + 1) * 6) = m3∧KidsRep V w kids[i] vk:=by
        rw [hsp] at hxs0
        obtain ⟨m1,m23,rfl,a1,a2⟩:=all2_split hxs0
        obtain ⟨m2,m3,rfl,a3,_⟩:=all2_split a2
        have hl1:m1.length = i * 6:=by
          rw [← a1.1,length_flatten (s:=6) _ (fun q hq=>by obtain ⟨y,_,rfl⟩:=List.mem_map.1 hq; exact Ex.row_length _),List.length_map,List.length_take,Nat.min_eq_left (Nat.le_of_lt hlt)]
        have hl2:m2.length = 6:=by rw [← a3.1,Ex.row_length]
        obtain ⟨vk,rfl,b1⟩:=ex_cells_of a3
        refine ⟨m3,vk,?_,?_,b1⟩
        · rw [List.drop_left' hl1]
        · rw [Nat.add_mul,Nat.one_mul,← List.append_assoc,List.drop_left' (by rw [List.length_append,hl1,hl2])]
      have hkm:kids[i]∈kids:=List.getElem_mem hlt
      have hks':=hks _ hkm
      have ihk:=ih _ hkm hks'
      generalize hx:kids[i] = x at *
      obtain ⟨vad,vk1,vcp,rfl⟩:∃ a k c,vk = .slice a k c:=by obtain ⟨a,c,h⟩:=kids_slice hrk; exact ⟨a,_,c,h⟩
      have hylen:=hrel.len
      have hrow:=hrel.row
      rw [hdrop,← List.append_assoc] at hrow
      obtain ⟨g,cp,room,hkv,hcap1,hcap2,hg1,hg2,hgw,hback⟩:=ownsRow_mid (by simp [exCells]) hrow
      injection hkv with e1 e2 e3
      subst e1 e3
      have hglt:g < wr.heap.size:=(Array.getElem?_eq_some_iff.1 hgw).1
      have hgx:wr.heap[g]? = some (.cells (ys++[Value.int .i8 x.op,.string (bs x.t.v),.int .i8 x.t.x.k,.int .i64 x.t.x.n,.string (bs x.t.x.s),.slice vad vk1 vcp]++(m3++room)).toArray 105 (0,0)):=by
        rw [hgw]; rfl
      have hcells:∀ w',Below wr.heap.size wr w'→w'.cell? ⟨w.heap.size,5,none⟩ = some (.slice (some ⟨g,0,none⟩) kids.length kvc) ∧
          w'.cell? ⟨g,i * 6,none⟩ = some (.int .i8 x.op)∧w'.cell? ⟨g,i * 6 + 1,none⟩ = some (.string (bs x.t.v))∧w'.cell? ⟨g,i * 6 + 2,none⟩ = some (.int .i8 x.t.x.k)∧w'.cell? ⟨g,i * 6 + 3,none⟩ = some (.int .i64 x.t.x.n)∧w'.cell? ⟨g,i * 6 + 4,none⟩ = some (.string (bs x.t.x.s))∧w'.cell? ⟨g,i * 6 + 5,none⟩ = some (.slice vad vk1 vcp):=fun w' hw'=>by
        have hg':w'.heap[g]? = wr.heap[g]?:=hw'.block g hglt
        have hN':w'.heap[w.heap.size]? = wd.heap[w.heap.size]?:=by rw [hw'.block _ (Array.getElem?_eq_some_iff.1 hrel.n0).1,hrel.n0,g1]
        refine ⟨hc5 w' hN',?_,?_,?_,?_,?_,?_⟩ <;> simp [World.cell?,hg',hgx,List.getElem?_append_right,hylen] <;> rfl
      have hVr:∀ b o,V b o→∀ w',Below wr.heap.size wr w'→b < w'.heap.size:=fun b o h w' hw'=>by have:=hV b o h; have:=hrel.below.size; have:=hw'.size; omega
      have hcall:=fun (w':World) (hw':Below wr.heap.size wr w')=>ihk w' V vad vk1 vcp (fun b o h=>hVr b o h w' hw') (RepC.mono (fun _ _ h=>h) (fun b o h=>by
        have hb:=hV b o h
        have:=hrel.below.size
        rw [below_cell hw' (show b < wr.heap.size by omega) o,below_cell hrel.below hb o]) hrk)
      have hset:=fun (w4:World) (h4:Below wr.heap.size wr w4) (a0 a1 a2 a3 a4 a5:Value)=>six_set (W:=w4) a0 a1 a2 a3 a4 a5 (i * 6) hylen.symm ((h4.block g hglt).trans hgx)
      obtain ⟨p5,q0,q1,q2,q3,q4,q5⟩:=hcells wr.drew (below_drew wr)
      go_wp2_with fail
      go_region_with (first
        | (go_at_call_of 289 (Value.int IntKind.i8 x.op); refine (hcall _ ?_).mono ?_; exact below_drew wr; rintro e w4 ⟨nad,nk,nc,rfl,hrk4,hb4⟩; have hB4:Below wr.heap.size wr w4:=(below_drew wr).trans (hb4.mono (Nat.le_refl _)); obtain ⟨p5,q0,q1,q2,q3,q4,q5⟩:=hcells w4 hB4;
            obtain ⟨A1,A2,A3,A4,A5,A6,a1,a2,a3,a4,a5,a6,c1,c2,c3,c4,c5,c6,c7,c8,c9,c10,c11,c12,hfin,hkfin⟩:=hset w4 hB4 (.int .i8 x.op) (.string (bs x.t.v)) (.int .i8 x.t.x.k) (.int .i64 x.t.x.n) (.string (bs x.t.x.s)) (.slice nad nk nc)))
      all_goals
        go_wp2_with fail
        have hstep:=own_step (w4:=w4) (us:=[.int .i8 x.op,.string (bs x.t.v),.int .i8 x.t.x.k,.int .i64 x.t.x.n,.string (bs x.t.x.s),.slice nad nk nc]) hrel hlt hg2 (svB_sl hg2) hB4 (by rw [hx]; have:=ex_cells_rep hrk4; rw [exCells_bare] at this; exact this) hkfin (by rw [hdrop2]; refine hback _ _ rfl ?_; rw [hfin])
        refine ⟨⟨_,_,?_,hstep⟩,?_⟩
        · exact congrArg (Value.int .i64) (by omega)
        · show kids.length - ((i:Int) + 1).toNat < kids.length - (i:Int).toNat
          omega
    · obtain rfl:i = kids.length:=by have:=hrel.le; omega
      have hgt:¬ (kids.length:Int) < (kids.length:Int):=by omega
      have hn0:=hrel.n0
      have hn1:=hrel.n1
      rw [← hX0] at hn0
      rw [← hX1] at hn1
      have q0:wr.cell? ⟨w.heap.size,0,none⟩ = some (.int .i8 op):=by simp [World.cell?,hn0]
      have q1:wr.cell? ⟨w.heap.size,1,none⟩ = some (.string (bs t.v)):=by simp [World.cell?,hn0]
      have q2:wr.cell? ⟨w.heap.size,2,none⟩ = some (.int .i8 t.x.k):=by simp [World.cell?,hn0]
      have q3:wr.cell? ⟨w.heap.size,3,none⟩ = some (.int .i64 t.x.n):=by simp [World.cell?,hn0]
      have q4:wr.cell? ⟨w.heap.size,4,none⟩ = some (.string (bs t.x.s)):=by simp [World.cell?,hn0]
      have q5:wr.cell? ⟨w.heap.size,5,none⟩ = some (.slice kva kids.length kvc):=by simp [World.cell?,hn0]
      obtain ⟨A1,A2,A3,A4,A5,A6,a1,a2,a3,a4,a5,a6,c1,c2,c3,c4,c5,c6,c7,c8,c9,c10,c11,c12,hfin,hkfin⟩:=six_set (W:=wr) (ty:=105) (pre:=[]) (post:=[]) (.int .i8 op) (.string (bs t.v)) (.int .i8 t.x.k) (.int .i64 t.x.n) (.string (bs t.x.s)) (.slice kva kids.length kvc) 0 rfl hn1
      simp only [Nat.zero_add] at a2 a3 a4 a5 a6 c3 c4 c5 c6 c7 c8 c9 c10 c11 c12
      have r0:A6.cell? ⟨w.heap.size + 1,0,none⟩ = some (.int .i8 op):=by simp [World.cell?,hfin]
      have r1:A6.cell? ⟨w.heap.size + 1,1,none⟩ = some (.string (bs t.v)):=by simp [World.cell?,hfin]
      have r2:A6.cell? ⟨w.heap.size + 1,2,none⟩ = some (.int .i8 t.x.k):=by simp [World.cell?,hfin]
      have r3:A6.cell? ⟨w.heap.size + 1,3,none⟩ = some (.int .i64 t.x.n):=by simp [World.cell?,hfin]
      have r4:A6.cell? ⟨w.heap.size + 1,4,none⟩ = some (.string (bs t.x.s)):=by simp [World.cell?,hfin]
      have r5:A6.cell? ⟨w.heap.size + 1,5,none⟩ = some (.slice kva kids.length kvc):=by simp [World.cell?,hfin]
      go_wp2_with fail
      simp [bodyPost,results,Tryz.results289,r0,r1,r2,r3,r4,r5,go_sem]
      have hxl:xs.length = kids.length * 6:=by rw [← hxs0.1,length_flatten (s:=6) _ (fun q hq=>by obtain ⟨y,_,rfl⟩:=List.mem_map.1 hq; exact Ex.row_length _),List.length_map]
      have hrow:=hrel.row
      rw [← hxl,List.drop_length,List.append_nil] at hrow
      have hrep:=hrel.rep
      rw [List.take_length] at hrep
      have hsz:=hkfin.size
      refine ⟨kva,kids.length,kvc,rfl,?_,⟨by rw [hkfin.os,hrel.below.os],by rw [hkfin.tape,hrel.below.tape],by rw [hkfin.output,hrel.below.output],Nat.le_trans hrel.below.size hkfin.size,fun i hi=>by rw [hkfin.block i (by have:=hrel.below.size; omega) (by omega),hrel.below.block i hi]⟩⟩
      show RepC _ A6 (.sl ((Ex.mk op t kids sp).bare.kids.map Ex.row) (Ex.mk op t kids sp).bare.sp) _
      rw [bare_kids,bare_sp,List.map_map]
      have hlen:(kids.map (Ex.row ∘ Ex.bare)).length = kids.length:=List.length_map ..
      refine ownsRow_rep (rows:=kids.map (Ex.row ∘ Ex.bare)) (by rw [hlen]; exact ownsRow_frame' hrow (Nat.le_refl _) fun g hg=>hkfin.block g (ownsRow_block hrow g (svB_mem.1 hg)).2 (by have:=(ownsRow_block hrow g (svB_mem.1 hg)).1; omega)) (fun r hr=>by obtain ⟨y,_,rfl⟩:=List.mem_map.1 hr; exact Ex.row_length _) ?_ (fun b hb o=>?_)
      · refine All2.imp hrep fun c u _ hc=>RepC.mono (fun b o hb=>⟨by have:=hb.1; omega,by have:=hb.2.2; omega⟩) (fun b o hb=>?_) hc
        simp only [World.cell?,hkfin.block b hb.2.2 (by have:=hb.1; omega)]
      · have:=ownsRow_block hrow b hb
        exact ⟨by omega,by omega⟩
end Go.Proofs.YtiomojlcnemnhaaGreatDoor

namespace Go.Proofs.YtiomojlcnemnhaaGreatDoor
open Go.Fx Go.RowKit Go.Ped
theorem two_set {W:World} {b:Nat} {ty:TypeId} {pre post:List Value} {x0 x1:Value} (v0 v1:Value) (n:Nat) (hn:n = pre.length) (hb:W.heap[b]? = some (.cells (pre++[x0,x1]++post).toArray ty (0,0))) :
    ∃ A1 A2,W.setCell ⟨b,n,none⟩ v0 = A1∧A1.setCell ⟨b,n + 1,none⟩ v1 = A2∧W.cell? ⟨b,n,none⟩ = some x0∧W.frozen? ⟨b,n,none⟩ = false∧A1.cell? ⟨b,n + 1,none⟩ = some x1∧A1.frozen? ⟨b,n + 1,none⟩ = false ∧
      A2.heap[b]? = some (.cells (pre++[v0,v1]++post).toArray ty (0,0))∧KeptBut (fun c=>c = b) W A2:=by
  subst hn
  have hb0:W.heap[b]? = some (.cells (pre++x0 :: (x1 :: post)).toArray ty (0,0)):=by rw [hb,List.append_assoc]; rfl
  obtain ⟨h1,c1,f1,k1⟩:=cells_set (v:=v0) rfl hb0
  generalize hA1:W.setCell ⟨b,pre.length,none⟩ v0 = A1 at *
  have hb1:A1.heap[b]? = some (.cells ((pre++[v0])++x1 :: post).toArray ty (0,0)):=by rw [h1]; simp
  obtain ⟨h2,c2,f2,k2⟩:=cells_set (n:=pre.length + 1) (v:=v1) (by simp) hb1
  refine ⟨A1,_,rfl,rfl,c1,f1,c2,f2,?_,kept_same k1 k2⟩
  rw [h2]; simp
structure OwnRAt (r:Rule) (xs:List Value) (hv bv:Value) (w0 w:World) (N i:Nat) (ys:List Value):Prop where
  le:i≤r.body.length
  n0:w.heap[N]? = some (.cells #[.string (bs r.p),hv,bv] 29 (0,0))
  n1:w.heap[N + 1]? = some (.cells #[.string ⟨#[]⟩,.slice none 0 0,.slice none 0 0] 29 (0,0))
  head:w.ownsRow (N + 2) 137 5 hv r.head.length (r.head.flatMap argCells)
  body:w.ownsRow (N + 2) 107 16 bv r.body.length (ys++xs.drop (i * 16))
  rep:All2 (RepC (NewV (N + 2) bv w) w) ((r.body.take i).map fun x=>x.bareL.row).flatten ys
  apart:∀ b∈svB hv,b ∉ svB bv
  below:Below N w0 w
theorem OwnRAt.len {r:Rule} {xs:List Value} {hv bv:Value} {w0 w:World} {N i:Nat} {ys:List Value} (h:OwnRAt r xs hv bv w0 w N i ys):ys.length = i * 16:=by
  rw [← h.rep.1,length_flatten (s:=16) _ (fun q hq=>by obtain ⟨y,_,rfl⟩:=List.mem_map.1 hq; exact Lit.row_length _),List.length_map,List.length_take,Nat.min_eq_left h.le]
theorem ownR_step {r:Rule} {xs:List Value} {hv bv:Value} {w0 wr w5:World} {N i:Nat} {ys us:List Value} {g:Nat} (h:OwnRAt r xs hv bv w0 wr N i ys) (hlt:i < r.body.length) (hg:g∈svB bv) (hg2:∀ c∈svB bv,c = g)
    (h5:KeptBut (fun c=>c = g) wr w5) (hu:All2 (RepC (fun b _=>wr.heap.size≤b∧b < w5.heap.size) w5) r.body[i].bareL.row us) (hrow:w5.ownsRow (N + 2) 107 16 bv r.body.length (ys++us++xs.drop ((i + 1) * 16))):OwnRAt r xs hv bv w0 w5 N (i + 1) (ys++us):=by
  have hgb:N + 2≤g∧g < wr.heap.size:=ownsRow_block h.body g (svB_mem.1 hg)
  have s5:=h5.size
  have hk:∀ b,b < wr.heap.size→b≠g→w5.heap[b]? = wr.heap[b]?:=fun b hb hne=>h5.block b hb hne
  refine ⟨hlt,?_,?_,?_,hrow,?_,h.apart,?_⟩
  · rw [hk N (by omega) (by omega)]; exact h.n0
  · rw [hk (N + 1) (by omega) (by omega)]; exact h.n1
  · exact ownsRow_frame' h.head (Nat.le_refl _) fun b hb=>hk b (ownsRow_block h.head b (svB_mem.1 hb)).2 fun e=>h.apart b hb (e ▸ hg)
  · rw [List.take_succ_eq_append_getElem hlt,List.map_append,List.flatten_append]
    refine All2.append (h.rep.imp fun c u _ hc=>RepC.mono (fun b o hb=>⟨hb.1,hb.2.1,by have:=hb.2.2; omega⟩) (fun b o hb=>?_) hc) ?_
    · simp only [World.cell?,hk b hb.2.2 (fun e=>hb.2.1 (e ▸ hg))]
    · rw [List.map_singleton,List.flatten_singleton]
      refine hu.imp fun c u _ hc=>RepC.mono (fun b o hb=>⟨by omega,fun hm=>?_,by omega⟩) (fun b o hb=>rfl) hc
      have:=hg2 b hm; omega
  · exact ⟨by rw [h5.os,h.below.os],by rw [h5.tape,h.below.tape],by rw [h5.output,h.below.output],by have:=h.below.size; omega,fun b hb=>by rw [hk b (by omega) (by omega),h.below.block b hb]⟩
def OwnRAns (w:World) (r:Rule) (e:Ending) (w':World):Prop:=∃ us,e = .returned (.agg (.string (bs r.p) :: us).toArray)∧All2 (RepC (fun b _=>w.heap.size≤b∧b < w'.heap.size) w') [.sl (r.head.map Arg.row) [],.sl (r.bareR.body.map Lit.row) []] us∧Below w.heap.size w w'
set_option maxRecDepth 100000 in
set_option maxHeartbeats 8000000 in
theorem own_rule (r:Rule) (hs:r.small 1048576) (w:World) (V:Nat→Nat→Prop) (v1 v2:Value) (hV:∀ b o,V b o→b < w.heap.size) (h1:RepC V w (.sl (r.head.map Arg.row) r.hsp) v1) (h2:RepC V w (.sl (r.body.map Lit.row) r.bsp) v2) :
    Calls Tryz.prog 241 #[.agg #[.string (bs r.p),v1,v2]] w (OwnRAns w r):=by
  obtain ⟨hs1,hs2,hs3⟩:=hs
  have o1:=h1.oneCell
  have o2:=h2.oneCell
  have k2:Below w.heap.size w ((w.alloc (.cells #[.string (bs r.p),v1,v2] 29)).alloc (.cells #[.string ⟨#[]⟩,.slice none 0 0,.slice none 0 0] 29)):=Below.alloc (Below.alloc (Below.refl _ _) (Nat.le_refl _) _) (by rw [alloc_size]; omega) _
  go_enter Tryz.func241,Tryz.ntmps241
  go_wp2_with fail
  have hN0:((w.alloc (.cells #[.string (bs r.p),v1,v2] 29)).alloc (.cells #[.string ⟨#[]⟩,.slice none 0 0,.slice none 0 0] 29)).heap[w.heap.size]? = some (.cells #[.string (bs r.p),v1,v2] 29 (0,0)):=by
    rw [alloc_heap,if_neg (by rw [alloc_size]; omega),alloc_heap,if_pos rfl]
  have hN1:((w.alloc (.cells #[.string (bs r.p),v1,v2] 29)).alloc (.cells #[.string ⟨#[]⟩,.slice none 0 0,.slice none 0 0] 29)).heap[w.heap.size + 1]? = some (.cells #[.string ⟨#[]⟩,.slice none 0 0,.slice none 0 0] 29 (0,0)):=by
    rw [alloc_heap,if_pos (by rw [alloc_size])]
  have hNs:((w.alloc (.cells #[.string (bs r.p),v1,v2] 29)).alloc (.cells #[.string ⟨#[]⟩,.slice none 0 0,.slice none 0 0] 29)).heap.size = w.heap.size + 2:=by
    rw [alloc_size,alloc_size]
  generalize (w.alloc (.cells #[.string (bs r.p),v1,v2] 29)).alloc (.cells #[.string ⟨#[]⟩,.slice none 0 0,.slice none 0 0] 29) = wa at *
  have hca:∀ w',Below wa.heap.size wa w'→w'.heap[w.heap.size]? = some (.cells ([Value.string (bs r.p)]++[v1,v2]++[]).toArray 29 (0,0))∧w'.cell? ⟨w.heap.size,1,none⟩ = some v1∧w'.cell? ⟨w.heap.size,2,none⟩ = some v2:=fun w' hw'=>by
    have h:w'.heap[w.heap.size]? = some (.cells ([Value.string (bs r.p)]++[v1,v2]++[]).toArray 29 (0,0)):=by rw [hw'.block _ (by omega),hN0]; rfl
    exact ⟨h,by simp [World.cell?,h],by simp [World.cell?,h]⟩
  have hk2:∀ w',Below wa.heap.size wa w'→Below w.heap.size w w':=fun w' hw'=>k2.trans (hw'.mono (by omega))
  have hcallH:=fun (w':World) (hw':Below wa.heap.size wa w')=>clone197 r.head r.hsp hs1 (RepC.mono (fun _ _ h=>h) (fun b o h=>below_cell (hk2 w' hw') (hV b o h) o) h1)
  have hcallB:=fun (w':World) (hw':Below wa.heap.size wa w')=>clone193 r.body r.bsp hs2 (RepC.mono (fun _ _ h=>h) (fun b o h=>below_cell (hk2 w' hw') (hV b o h) o) h2)
  have hset:=fun (w':World) (hw':Below wa.heap.size wa w') (a0 a1:Value)=>two_set (W:=w') a0 a1 1 rfl (hca w' hw').1
  obtain ⟨_,p1,p2⟩:=hca wa.drew (below_drew wa)
  go_region_with (first
    | (go_at_call_of 255 v1; refine (hcallH _ ?_).mono ?_; exact below_drew wa; rintro e wb ⟨hv,xh,rfl,hhead,hxh,kb⟩; obtain rfl:=args_cells_of hxh; obtain ⟨hva,hvc,rfl,_⟩:=ownsRow_len hhead; have kB:Below wa.heap.size wa wb:=(below_drew wa).trans (kb.mono (Nat.le_refl _)); obtain ⟨_,p1,p2⟩:=hca wb kB)
    | (go_at_call_of 227 v2; refine (hcallB _ ?_).mono ?_; exact kB; rintro e wc ⟨bv,xs,rfl,hbody,hxs,kc⟩; obtain ⟨bva,bvc,rfl,_⟩:=ownsRow_len hbody; have kC:Below wa.heap.size wa wc:=kB.trans (kc.mono kB.size); obtain ⟨B1,wd,b1,b2,c1,c2,c3,c4,hwd,kd⟩:=hset wc kC (.slice hva r.head.length hvc) (.slice bva r.body.length bvc)))
  all_goals
    have hdr:wa.drew.heap.size = wa.heap.size:=rfl
    have sB:=kB.size
    have sC:=kc.size
    have sD:=kd.size
    have hd0:Below w.heap.size w wd:=⟨by rw [kd.os,kC.os,k2.os],by rw [kd.tape,kC.tape,k2.tape],by rw [kd.output,kC.output,k2.output],by omega,fun i hi=>by rw [kd.block i (by omega) (by omega),kC.block i (by omega),k2.block i hi]⟩
    have hxs0:All2 (RepC V w) (r.body.map Lit.row).flatten xs:=hxs.imp fun c u _ h=>RepC.mono (fun _ _ h=>h) (fun b o h=>(below_cell (hk2 wb kB) (hV b o h) o).symm) h
    have hrel0:OwnRAt r xs (.slice hva r.head.length hvc) (.slice bva r.body.length bvc) w wd w.heap.size 0 []:=by
      refine ⟨Nat.zero_le _,by rw [hwd]; rfl,?_,?_,?_,.nil,?_,hd0⟩
      · rw [kd.block _ (by omega) (by omega),kC.block _ (by omega),hN1]
      · exact ownsRow_frame' hhead (by omega) fun g hg=>by
          have:=ownsRow_block hhead g (svB_mem.1 hg)
          rw [kd.block g (by omega) (by omega),kc.block g this.2]
      · simp only [List.nil_append,Nat.zero_mul,List.drop_zero]
        exact ownsRow_frame' hbody (by omega) fun g hg=>by
          have:=ownsRow_block hbody g (svB_mem.1 hg)
          exact kd.block g this.2 (by omega)
      · intro b hb hb2
        have e1:=ownsRow_block hhead b (svB_mem.1 hb)
        have e2:=ownsRow_block hbody b (svB_mem.1 hb2)
        omega
    have hcd:=hwd
    have hc3:∀ w':World,w'.heap[w.heap.size]? = wd.heap[w.heap.size]?→w'.cell? ⟨w.heap.size,2,none⟩ = some (.slice bva r.body.length bvc):=fun w' h=>by simp [World.cell?,h,hcd]
    have hc3d:=hc3 wd rfl
    clear hcallH hcallB hset hca hk2 hbody hxs hhead hxh kb kc kB kC kd hwd p1 p2 b1 b2 c1 c2 c3 c4 hN0 hN1 hNs sB sC sD hdr k2
    go_wp2_with fail
    go_loopw [16] (fun n w'=>∃ (i:Nat) (ys:List Value),n = .int .i64 (i:Int)∧OwnRAt r xs (.slice hva r.head.length hvc) (.slice bva r.body.length bvc) w w' w.heap.size i ys) (fun n _=>match n with | .int _ k=>r.body.length - k.toNat | _=>0)
    case atStart=>exact ⟨0,[],rfl,hrel0⟩
    case round =>
      obtain ⟨i,ys,rfl,hrel⟩:=hrel
      have hc3r:=hc3 wr (by rw [hrel.n0,hcd]; rfl)
      by_cases hlt:i < r.body.length
      · have hlt':(i:Int) < (r.body.length:Int):=by omega
        have hxm:r.body[i]∈r.body:=List.getElem_mem hlt
        obtain ⟨hsl,hsleft,hsright⟩:=hs3 _ hxm
        have hsp:(r.body.map Lit.row).flatten = ((r.body.take i).map Lit.row).flatten++(r.body[i].row++((r.body.drop (i + 1)).map Lit.row).flatten):=by
          conv=>lhs; rw [← List.take_append_drop i r.body,List.drop_eq_getElem_cons hlt,List.map_append,List.map_cons,List.flatten_append,List.flatten_cons]
        generalize hx:r.body[i] = x at *
        have hszr:w.heap.size + 2≤wr.heap.size:=by
          have:=(Array.getElem?_eq_some_iff.1 hrel.n1).1
          omega
        obtain ⟨m3,u,vl,vr,hdrop,hdrop2,hru,hrl,hrr⟩:∃ m3 u vl vr,xs.drop (i * 16) = (.int .i8 x.kind :: .string (bs x.p) :: u :: .int .i8 x.rel :: (exCells x.left vl++exCells x.right vr))++m3∧xs.drop ((i + 1) * 16) = m3∧RepC V w (.sl (x.l.map Tm.row) x.sp) u∧KidsRep V w x.left vl∧KidsRep V w x.right vr:=by
          rw [hsp] at hxs0
          obtain ⟨m1,m23,rfl,a1,a2⟩:=all2_split hxs0
          obtain ⟨m2,m3,rfl,a3,_⟩:=all2_split a2
          have hl1:m1.length = i * 16:=by
            rw [← a1.1,length_flatten (s:=16) _ (fun q hq=>by obtain ⟨y,_,rfl⟩:=List.mem_map.1 hq; exact Lit.row_length _),List.length_map,List.length_take,Nat.min_eq_left (Nat.le_of_lt hlt)]
          have hl2:m2.length = 16:=by rw [← a3.1,Lit.row_length]
          obtain ⟨u,vl,vr,rfl,b1,b2,b3⟩:=lit_cells_of a3
          refine ⟨m3,u,vl,vr,?_,?_,b1,b2,b3⟩
          · rw [List.drop_left' hl1]
          · rw [Nat.add_mul,Nat.one_mul,← List.append_assoc,List.drop_left' (by rw [List.length_append,hl1,hl2])]
        obtain ⟨lad,lk,lc,rfl⟩:∃ a k c,vl = .slice a k c:=by obtain ⟨a,c,h⟩:=kids_slice hrl; exact ⟨a,_,c,h⟩
        obtain ⟨rad,rk,rc,rfl⟩:∃ a k c,vr = .slice a k c:=by obtain ⟨a,c,h⟩:=kids_slice hrr; exact ⟨a,_,c,h⟩
        have hpre:=hrel.len
        have hbody:=hrel.body
        rw [hdrop,← List.append_assoc] at hbody
        obtain ⟨g,cap,room,hbv,hcap1,hcap2,hg1,hg2,hgw,hback⟩:=ownsRow_mid (by simp) hbody
        injection hbv with e1 e2 e3
        subst e1 e3
        have hglt:g < wr.heap.size:=(Array.getElem?_eq_some_iff.1 hgw).1
        have hcu:wr.cell? ⟨g,i * 16 + 2,none⟩ = some u:=by
          simp [World.cell?,hgw,hpre]
        have hou:=hru.oneCell
        go_wp2_with fail
        refine (clone125 x.l x.sp hsl (RepC.mono (fun _ _ h=>h) (fun b o h=>below_cell hrel.below (hV b o h) o) hru)).mono ?_
        rintro e we ⟨sv,ts,rfl,hrow,hts,ke⟩
        obtain rfl:=tms_cells_of hts
        obtain ⟨sva,svc,rfl,_⟩:=ownsRow_len hrow
        have hge:we.heap[g]? = some (.cells ((ys++[Value.int .i8 x.kind,.string (bs x.p)])++u :: (Value.int .i8 x.rel :: (exCells x.left (.slice lad lk lc)++exCells x.right (.slice rad rk rc))++(m3++room))).toArray 107 (0,0)):=by
          rw [ke.block g hglt,hgw]; simp
        obtain ⟨g1,g2,g3,g4⟩:=cells_set (n:=i * 16 + 2) (v:=.slice sva x.l.length svc) (by rw [List.length_append,hpre]; rfl) hge
        obtain ⟨wf,hWf⟩:∃ y,we.setCell ⟨g,i * 16 + 2,none⟩ (.slice sva x.l.length svc) = y:=⟨_,rfl⟩
        rw [hWf] at g1 g4
        have hgf:g < wf.heap.size:=(Array.getElem?_eq_some_iff.1 g1).1
        have hVf:∀ b o,V b o→b < wf.heap.size:=fun b o h=>by have:=hV b o h; have:=ke.size; have:=g4.size; omega
        have hfcell:∀ b o,V b o→∀ w',Below wf.heap.size wf w'→w'.cell? ⟨b,o,none⟩ = w.cell? ⟨b,o,none⟩:=fun b o h w' hw'=>by
          have hb:=hV b o h
          have e1:=below_cell hw' (hVf b o h) o
          have e2:wf.cell? ⟨b,o,none⟩ = we.cell? ⟨b,o,none⟩:=by
            simp only [World.cell?,g4.block b (by have:=ke.size; omega) (by omega)]
          have e3:=below_cell ke (show b < wr.heap.size by omega) o
          have e4:=below_cell hrel.below hb o
          rw [e1,e2,e3,e4]
        have hcallL:=fun (w':World) (hw':Below wf.heap.size wf w')=>own_calls x.left hsleft w' V lad lk lc (fun b o h=>Nat.lt_of_lt_of_le (hVf b o h) hw'.size) (RepC.mono (fun _ _ h=>h) (fun b o h=>hfcell b o h w' hw') hrl)
        have hcallR:=fun (w':World) (hw':Below wf.heap.size wf w')=>own_calls x.right hsright w' V rad rk rc (fun b o h=>Nat.lt_of_lt_of_le (hVf b o h) hw'.size) (RepC.mono (fun _ _ h=>h) (fun b o h=>hfcell b o h w' hw') hrr)
        have hgx:wf.heap[g]? = some (.cells ((ys++[Value.int .i8 x.kind,.string (bs x.p),.slice sva x.l.length svc,.int .i8 x.rel])++[Value.int .i8 x.left.op,.string (bs x.left.t.v),.int .i8 x.left.t.x.k,.int .i64 x.left.t.x.n,.string (bs x.left.t.x.s),.slice lad lk lc]++([Value.int .i8 x.right.op,.string (bs x.right.t.v),.int .i8 x.right.t.x.k,.int .i64 x.right.t.x.n,.string (bs x.right.t.x.s),.slice rad rk rc]++(m3++room))).toArray 107 (0,0)):=by
          rw [g1]; simp [exCells,tmCells]
        have hcells:∀ w',Below wf.heap.size wf w' →
            w'.cell? ⟨g,i * 16 + 4,none⟩ = some (.int .i8 x.left.op)∧w'.cell? ⟨g,i * 16 + 4 + 1,none⟩ = some (.string (bs x.left.t.v))∧w'.cell? ⟨g,i * 16 + 4 + 2,none⟩ = some (.int .i8 x.left.t.x.k)∧w'.cell? ⟨g,i * 16 + 4 + 3,none⟩ = some (.int .i64 x.left.t.x.n)∧w'.cell? ⟨g,i * 16 + 4 + 4,none⟩ = some (.string (bs x.left.t.x.s))∧w'.cell? ⟨g,i * 16 + 4 + 5,none⟩ = some (.slice lad lk lc) ∧
            w'.cell? ⟨g,i * 16 + 10,none⟩ = some (.int .i8 x.right.op)∧w'.cell? ⟨g,i * 16 + 10 + 1,none⟩ = some (.string (bs x.right.t.v))∧w'.cell? ⟨g,i * 16 + 10 + 2,none⟩ = some (.int .i8 x.right.t.x.k)∧w'.cell? ⟨g,i * 16 + 10 + 3,none⟩ = some (.int .i64 x.right.t.x.n)∧w'.cell? ⟨g,i * 16 + 10 + 4,none⟩ = some (.string (bs x.right.t.x.s))∧w'.cell? ⟨g,i * 16 + 10 + 5,none⟩ = some (.slice rad rk rc):=fun w' hw'=>by
          have hg':w'.heap[g]? = wf.heap[g]?:=hw'.block g hgf
          refine ⟨?_,?_,?_,?_,?_,?_,?_,?_,?_,?_,?_,?_⟩ <;> simp [World.cell?,hg',hgx,List.getElem?_append_right,hpre,Nat.add_assoc] <;> rfl
        obtain ⟨p4,p5,p6,p7,p8,p9,p10,p11,p12,p13,p14,p15⟩:=hcells wf.drew (below_drew wf)
        have hset:=fun (w4:World) (h4:Below wf.heap.size wf w4) (a0 a1 a2 a3 a4 a5 b0 b1 b2 b3 b4 b5:Value)=>twelve_set (W:=w4) a0 a1 a2 a3 a4 a5 b0 b1 b2 b3 b4 b5 (i * 16 + 4) (i * 16 + 10) (by simp [hpre]) (by simp [hpre]) ((h4.block g hgf).trans hgx)
        have hend:∀ (w3 w4 w5:World) (la:Option Addr) (lk lc:Nat) (ra:Option Addr) (rk rc:Nat),Below wf.heap.size wf w3→Below w3.heap.size w3 w4→KidsRep (fun b _=>wf.heap.size≤b∧b < w3.heap.size) w3 x.left.bare (.slice la lk lc)→KidsRep (fun b _=>w3.heap.size≤b∧b < w4.heap.size) w4 x.right.bare (.slice ra rk rc) →
            w5.heap[g]? = some (.cells ((ys++[Value.int .i8 x.kind,.string (bs x.p),.slice sva x.l.length svc,.int .i8 x.rel])++[Value.int .i8 x.left.op,.string (bs x.left.t.v),.int .i8 x.left.t.x.k,.int .i64 x.left.t.x.n,.string (bs x.left.t.x.s),.slice la lk lc]++([Value.int .i8 x.right.op,.string (bs x.right.t.v),.int .i8 x.right.t.x.k,.int .i64 x.right.t.x.n,.string (bs x.right.t.x.s),.slice ra rk rc]++(m3++room))).toArray 107 (0,0))→KeptBut (fun c=>c = g) w4 w5 →
            OwnRAt r xs (.slice hva r.head.length hvc) (.slice (some ⟨g,0,none⟩) r.body.length bvc) w w5 w.heap.size (i + 1) (ys++([Value.int .i8 x.kind,.string (bs x.p),.slice sva x.l.length svc,.int .i8 x.rel]++exCells x.left (.slice la lk lc)++exCells x.right (.slice ra rk rc))):=by
          intro w3 w4 w5 la lk lc ra rk rc hB3 hB4 i1 i2 hfin hkfin
          have s1:=ke.size
          have s2:=g4.size
          have s3:=hB3.size
          have s4:=hB4.size
          have s5:=hkfin.size
          have hall:KeptBut (fun c=>c = g) wr w5:=by
            refine ⟨by rw [hkfin.os,hB4.os,hB3.os,g4.os,ke.os],by rw [hkfin.tape,hB4.tape,hB3.tape,g4.tape,ke.tape],by rw [hkfin.output,hB4.output,hB3.output,g4.output,ke.output],by omega,fun i hi hig=>?_⟩
            rw [hkfin.block i (by omega) hig,hB4.block i (by omega),hB3.block i (by omega),g4.block i (by omega) hig,ke.block i hi]
          refine ownR_step hrel hlt hg2 (svB_sl hg2) hall ?_ ?_
          · rw [hx]
            have hrow5:w5.ownsRow wr.heap.size 73 4 (.slice sva x.l.length svc) x.l.length (x.l.flatMap tmCells):=ownsRow_frame' hrow (Nat.le_refl _) fun c hc=>by
              have h1:=ownsRow_block hrow c (svB_mem.1 hc)
              rw [hkfin.block c (by omega) (by omega),hB4.block c (by omega),hB3.block c (by omega),g4.block c (by omega) (by omega)]
            have j1:RepC (fun b _=>wr.heap.size≤b∧b < w5.heap.size) w5 (.sl (x.l.map Tm.row) []) (.slice sva x.l.length svc):=by
              refine ownsRow_rep (rows:=x.l.map Tm.row) (by rw [List.length_map]; exact hrow5) (fun r hr=>by obtain ⟨t,_,rfl⟩:=List.mem_map.1 hr; rfl) (tms_cells_rep _) fun b hb o=>?_
              have:=ownsRow_block hrow5 b hb
              exact ⟨by omega,by omega⟩
            have j2:KidsRep (fun b _=>wr.heap.size≤b∧b < w5.heap.size) w5 x.left.bare (.slice la lk lc):=RepC.mono (fun b o hb=>⟨by have:=hb.1; omega,by have:=hb.2; omega⟩) (fun b o hb=>by
              have h1:=hb.1
              have h2:=hb.2
              simp only [World.cell?,hkfin.block b (by omega) (by omega),hB4.block b (by omega)]) i1
            have j3:KidsRep (fun b _=>wr.heap.size≤b∧b < w5.heap.size) w5 x.right.bare (.slice ra rk rc):=RepC.mono (fun b o hb=>⟨by have:=hb.1; omega,by have:=hb.2; omega⟩) (fun b o hb=>by
              have h1:=hb.1
              have h2:=hb.2
              simp only [World.cell?,hkfin.block b (by omega) (by omega)]) i2
            have j4:=ex_cells_rep j2
            have j5:=ex_cells_rep j3
            rw [exCells_bare] at j4 j5
            show All2 _ ([cI .i8 x.kind,cS (bs x.p),.sl (x.l.map Tm.row) [],cI .i8 x.rel]++x.left.bare.row++x.right.bare.row) _
            exact (All2.append (.cons (.v _ rfl) (.cons (.v _ rfl) (.cons j1 (.cons (.v _ rfl) .nil)))) j4).append j5
          · rw [hdrop2]
            refine hback w5 _ rfl ?_
            rw [hfin]
            simp [exCells,tmCells]
        go_wp2_with fail
        go_region_with (first
          | (go_at_call_of 289 (Value.int IntKind.i8 x.left.op); refine (hcallL _ ?_).mono ?_; exact below_drew wf; rintro e w3 ⟨nla,nlk,nlc,rfl,hnl,hb3⟩; have hB3:Below wf.heap.size wf w3:=(below_drew wf).trans (hb3.mono (Nat.le_refl _)); obtain ⟨p4,p5,p6,p7,p8,p9,p10,p11,p12,p13,p14,p15⟩:=hcells w3 hB3)
          | (go_at_call_of 289 (Value.int IntKind.i8 x.right.op); refine (hcallR _ ?_).mono ?_; exact hB3; rintro e w4 ⟨nra,nrk,nrc,rfl,hnr,hb4⟩; have hB4:Below wf.heap.size wf w4:=hB3.trans (hb4.mono hB3.size);
              obtain ⟨A1,A2,A3,A4,A5,A6,B1,B2,B3,B4,B5,B6,a1,a2,a3,a4,a5,a6,b1,b2,b3,b4,b5,b6,c1,c2,c3,c4,c5,c6,c7,c8,c9,c10,c11,c12,d1,d2,d3,d4,d5,d6,d7,d8,d9,d10,d11,d12,hfin,hkfin⟩:=hset w4 hB4 (.int .i8 x.left.op) (.string (bs x.left.t.v)) (.int .i8 x.left.t.x.k) (.int .i64 x.left.t.x.n) (.string (bs x.left.t.x.s)) (.slice nla nlk nlc) (.int .i8 x.right.op) (.string (bs x.right.t.v)) (.int .i8 x.right.t.x.k) (.int .i64 x.right.t.x.n) (.string (bs x.right.t.x.s)) (.slice nra nrk nrc)))
        all_goals
          go_wp2_with fail
          have hfin2:=hend w3 w4 _ nla nlk nlc nra nrk nrc hB3 hb4 hnl hnr hfin hkfin
          refine ⟨⟨_,_,?_,hfin2⟩,?_⟩
          · exact congrArg (Value.int .i64) (by omega)
          · show r.body.length - ((i:Int) + 1).toNat < r.body.length - (i:Int).toNat
            omega
      · obtain rfl:i = r.body.length:=by have:=hrel.le; omega
        have hgt:¬ (r.body.length:Int) < (r.body.length:Int):=by omega
        have hn0:=hrel.n0
        have hn1:=hrel.n1
        have q0:wr.cell? ⟨w.heap.size,0,none⟩ = some (.string (bs r.p)):=by simp [World.cell?,hn0]
        have q1:wr.cell? ⟨w.heap.size,1,none⟩ = some (.slice hva r.head.length hvc):=by simp [World.cell?,hn0]
        have q2:wr.cell? ⟨w.heap.size,2,none⟩ = some (.slice bva r.body.length bvc):=by simp [World.cell?,hn0]
        obtain ⟨s1,t1,t2,t3⟩:=cells_set (n:=0) (pre:=[]) (post:=[.slice none 0 0,.slice none 0 0]) (v:=.string (bs r.p)) rfl hn1
        obtain ⟨wx,hWx⟩:∃ y,wr.setCell ⟨w.heap.size + 1,0,none⟩ (.string (bs r.p)) = y:=⟨_,rfl⟩
        rw [hWx] at s1 t3
        obtain ⟨s2,t4,t5,t6⟩:=cells_set (W:=wx) (n:=1) (pre:=[.string (bs r.p)]) (post:=[.slice none 0 0]) (v:=.slice hva r.head.length hvc) rfl s1
        obtain ⟨wy,hWy⟩:∃ y,wx.setCell ⟨w.heap.size + 1,1,none⟩ (.slice hva r.head.length hvc) = y:=⟨_,rfl⟩
        rw [hWy] at s2 t6
        obtain ⟨s3,t7,t8,t9⟩:=cells_set (W:=wy) (n:=2) (pre:=[.string (bs r.p),.slice hva r.head.length hvc]) (post:=[]) (v:=.slice bva r.body.length bvc) rfl s2
        obtain ⟨wz,hWz⟩:∃ y,wy.setCell ⟨w.heap.size + 1,2,none⟩ (.slice bva r.body.length bvc) = y:=⟨_,rfl⟩
        rw [hWz] at s3 t9
        have q3:wz.cell? ⟨w.heap.size + 1,0,none⟩ = some (.string (bs r.p)):=by simp [World.cell?,s3]
        have q4:wz.cell? ⟨w.heap.size + 1,1,none⟩ = some (.slice hva r.head.length hvc):=by simp [World.cell?,s3]
        have q5:wz.cell? ⟨w.heap.size + 1,2,none⟩ = some (.slice bva r.body.length bvc):=by simp [World.cell?,s3]
        go_wp2_with fail
        have hkz:KeptBut (fun c=>c = w.heap.size + 1) wr wz:=kept_same (kept_same t3 t6) t9
        have hszr:w.heap.size + 2≤wr.heap.size:=by
          have:=(Array.getElem?_eq_some_iff.1 hn1).1
          omega
        have hszz:=hkz.size
        have hxl:xs.length = r.body.length * 16:=by rw [← hxs0.1,length_flatten (s:=16) _ (fun q hq=>by obtain ⟨y,_,rfl⟩:=List.mem_map.1 hq; exact Lit.row_length _),List.length_map]
        have hbody:=hrel.body
        rw [← hxl,List.drop_length,List.append_nil] at hbody
        have hrep:=hrel.rep
        rw [List.take_length] at hrep
        simp [bodyPost,results,Tryz.results241,go_sem,q3,q4,q5]
        have j1:RepC (fun b _=>w.heap.size≤b∧b < wz.heap.size) wz (.sl (r.head.map Arg.row) []) (.slice hva r.head.length hvc):=by
          have hrow5:wz.ownsRow (w.heap.size + 2) 137 5 (.slice hva r.head.length hvc) r.head.length (r.head.flatMap argCells):=ownsRow_frame' hrel.head (Nat.le_refl _) fun c hc=>by
            have h1:=ownsRow_block hrel.head c (svB_mem.1 hc)
            exact hkz.block c (by omega) (by omega)
          refine ownsRow_rep (rows:=r.head.map Arg.row) (by rw [List.length_map]; exact hrow5) (fun r hr=>by obtain ⟨t,_,rfl⟩:=List.mem_map.1 hr; rfl) (args_cells_rep _) fun b hb o=>?_
          have:=ownsRow_block hrow5 b hb
          exact ⟨by omega,by omega⟩
        have j2:RepC (fun b _=>w.heap.size≤b∧b < wz.heap.size) wz (.sl (r.bareR.body.map Lit.row) []) (.slice bva r.body.length bvc):=by
          show RepC _ wz (.sl ((r.body.map Lit.bareL).map Lit.row) []) _
          rw [List.map_map]
          have hlen:(r.body.map (Lit.row ∘ Lit.bareL)).length = r.body.length:=List.length_map ..
          have hrow5:wz.ownsRow (w.heap.size + 2) 107 16 (.slice bva r.body.length bvc) r.body.length ys:=ownsRow_frame' hbody (Nat.le_refl _) fun c hc=>by
            have h1:=ownsRow_block hbody c (svB_mem.1 hc)
            exact hkz.block c (by omega) (by omega)
          refine ownsRow_rep (rows:=r.body.map (Lit.row ∘ Lit.bareL)) (by rw [hlen]; exact hrow5) (fun r hr=>by obtain ⟨t,_,rfl⟩:=List.mem_map.1 hr; exact Lit.row_length _) ?_ fun b hb o=>?_
          · refine All2.imp hrep fun c u _ hc=>RepC.mono (fun b o hb=>⟨by have:=hb.1; omega,by have:=hb.2.2; omega⟩) (fun b o hb=>?_) hc
            simp only [World.cell?,hkz.block b hb.2.2 (by have:=hb.1; omega)]
          · have:=ownsRow_block hrow5 b hb
            exact ⟨by omega,by omega⟩
        exact ⟨[_,_],rfl,.cons j1 (.cons j2 .nil),⟨by rw [hkz.os,hrel.below.os],by rw [hkz.tape,hrel.below.tape],by rw [hkz.output,hrel.below.output],Nat.le_trans hrel.below.size hkz.size,fun i hi=>by rw [hkz.block i (by omega) (by omega),hrel.below.block i hi]⟩⟩
variable {G:World→Prop}
theorem m153 (r:Rule) (hs:r.small 1048576):Meets Tryz.prog G 241 [.agg r.row] (.x (.agg r.bareR.row)):=by
  refine ⟨by kernel_rfl,fun w V vs _ hV ha=>?_⟩
  obtain ⟨v,vs',rfl,hv,ha⟩:=ha.head
  obtain rfl:=ha.nil_left
  obtain ⟨us,rfl,hus⟩:=hv
  obtain ⟨u0,us,rfl,q0,hus⟩:=hus.head
  obtain ⟨u1,us,rfl,q1,hus⟩:=hus.head
  obtain ⟨u2,us,rfl,q2,hus⟩:=hus.head
  obtain rfl:=hus.nil_left
  cases q0
  refine (own_rule r hs w V u1 u2 hV q1 q2).mono ?_
  rintro e w' ⟨us,rfl,hr,hb⟩
  refine ⟨_,rfl,⟨_,rfl,.cons (.v _ rfl) ?_⟩,hb⟩
  exact hr.imp fun c u _ h=>RepC.mono (fun b o hb=>.inr hb.1) (fun _ _ _=>rfl) h
end Go.Proofs.YtiomojlcnemnhaaGreatDoor

import Derived.Test.YtiomojlcnemnhaaGreatDoorRGxLb
namespace Go.Fx
open Go.RowKit
section
variable {P:Program} {G:World→Prop}
theorem onlyL_cs {p q:Nat→Prop} {a:List A} (h:onlyL p q a):∀ l:List C,onlyL p q (l.map A.c++a)
  | []=>h
  | _ :: l=>⟨trivial,onlyL_cs h l⟩
theorem MeetsH.of_lend {f:FuncId} {cs:List C} {k ty size:Nat} {rows sp:List (List C)} {rest:List CX} {x:Value} (h:Meets P G f (.agg (cs++[.sl rows sp]) :: rest) (.x (.one (.v x))))
    (hw:∀ e∈rows++sp,e.length = size) :
    MeetsH P G f (.agg (cs.map A.c++[.arr k 0 rows.length (rows.length + sp.length)]) :: rest.map CX.open) (hp [(k,⟨ty,size,(rows++sp).map (fun r=>r.map A.c),none⟩)] [] F0) (.x (.one (.c (.v x)))) (hp [(k,⟨ty,size,(rows++sp).map (fun r=>r.map A.c),none⟩)] [] F0):=by
  have ho:∀ j,(hp [(k,(⟨ty,size,(rows++sp).map (fun r=>r.map A.c),none⟩:Box))] [] F0).objs j = if j = k then some ⟨ty,size,(rows++sp).map (fun r=>r.map A.c),none⟩ else none:=fun j=>by
    rw [hp_objs0,lookO_cons]; rfl
  have hk:=ho k
  rw [if_pos rfl] at hk
  refine MeetsH.of_reader (res:=.x (.one (.v x))) h.1 ?_ ?_ ?_
  · intro y hy
    rcases List.mem_cons.1 hy with rfl | hy
    · have h0:onlyL (fun _=>True) (fun j=>(hp [(k,(⟨ty,size,(rows++sp).map (fun r=>r.map A.c),none⟩:Box))] [] F0).toks j≠none) [.arr k 0 rows.length (rows.length + sp.length)]:=by
        simp [onlyL,A.only]
      exact onlyL_cs h0 cs
    · obtain ⟨c,_,rfl⟩:=List.mem_map.1 hy
      exact CX.only_open c
  · intro j b hj r hr
    rw [ho] at hj
    split at hj
    · injection hj with hj
      subst hj
      obtain ⟨l,_,rfl⟩:=List.mem_map.1 hr
      have:=onlyL_cs (p:=fun _=>True) (q:=fun j=>(hp [(k,(⟨ty,size,(rows++sp).map (fun r=>r.map A.c),none⟩:Box))] [] F0).toks j≠none) (a:=[]) trivial l
      rwa [List.append_nil] at this
    · cases hj
  · intro w env F vs hG hmem ha
    obtain ⟨bk,us,g1,⟨ob,g2,hh⟩,g3,g4,g5⟩:=hmem.objs k _ hk
    obtain ⟨ex,rfl⟩:∃ ex:List Value,ob = .cells (us++ex).toArray ty (0,0):=hh
    have hflat:((rows++sp).map (fun r=>r.map A.c)).flatten = (rows++sp).flatten.map A.c:=by rw [List.map_flatten]
    rw [hflat] at g3
    let V':Nat→Nat→Prop:=fun b o=>env.V b o∨(b = bk∧o < us.length)
    have hc:∀ j u,us[j]? = some u→w.cell? ⟨bk,j,none⟩ = some u:=fun j u hj=>by
      simp only [World.cell?,g2]
      rw [List.getElem?_toArray,List.getElem?_append_left (List.getElem?_eq_some_iff.1 hj).1]
      exact hj
    have hmono:∀ {c:C} {v:Value},RepC env.V w c v→RepC V' w c v:=fun hr=>RepC.mono (fun _ _ h=>.inl h) (fun _ _ _=>rfl) hr
    have hmonoX:∀ {c:CX} {v:Value},RepCX env.V w c v→RepCX V' w c v:=fun {c v} hr=>by
      cases c with
      | one c=>exact hmono hr
      | agg l=>obtain ⟨us,e,h⟩:=hr; exact ⟨us,e,h.imp fun _ _ _ hq=>hmono hq⟩
    obtain ⟨v0,vs',rfl,⟨u0,rfl,hu0⟩,hrest⟩:=ha.head
    have hlen0:u0.length = cs.length + 1:=by rw [← hu0.1]; simp
    have hA:All2 (RepC env.V w) cs (u0.take cs.length):=by
      have:=hu0.take cs.length
      rw [List.take_left' (by simp)] at this
      exact this.of_map_left
    obtain ⟨ua,hua,hrep⟩:=hu0.get (j:=cs.length) (x:=.arr k 0 rows.length (rows.length + sp.length)) (by rw [List.getElem?_append_right (by simp)]; simp)
    obtain ⟨b,s,cap',e1,e2,e3,e4⟩:=hrep
    rw [g1] at e1
    injection e1 with e1
    injection e1 with e1 e1'
    subst e1
    rw [Nat.zero_mul] at e2
    subst e2
    have hsl:RepC V' w (.sl rows sp) (.slice (some ⟨bk,0,none⟩) rows.length cap'):=by
      refine .sl rows sp size bk 0 rows.length cap' us rfl e3 e4 hw (by rw [← g3.1,List.length_map]) (fun j u hj=>?_) (fun j c u h1 h2=>?_)
      · rw [Nat.zero_add]
        exact ⟨hc j u hj,.inr ⟨rfl,(List.getElem?_eq_some_iff.1 hj).1⟩⟩
      · exact hmono (g3.of_map_left.2 j c u h1 h2)
    have hu:u0 = u0.take cs.length++[.slice (some ⟨bk,0,none⟩) rows.length cap']:=by
      have h1:=(List.getElem?_eq_some_iff.1 hua).2
      have h2:u0.take (cs.length + 1) = u0:=List.take_of_length_le (by omega)
      rw [← h1,← List.take_succ_eq_append_getElem (by omega),h2]
    have hargs:All2 (RepCX V' w) (.agg (cs++[.sl rows sp]) :: rest) (.agg u0.toArray :: vs'):=by
      refine All2.cons ⟨u0,rfl,?_⟩ ?_
      · rw [hu]
        exact (hA.imp fun _ _ _ hq=>hmono hq).append (All2.cons hsl All2.nil)
      · refine hrest.of_map_left.imp fun c v _ hq=>?_
        exact hmonoX (open_close hq)
    refine (h.2 w V' _ (fun w' hb=>hG w' (KeptBut.of_below hb)) (fun b o hv=>hv.elim (hmem.vlt b o) fun hb=>by rw [hb.1]; exact hmem.ρlt k _ _ g1) hargs).mono ?_
    rintro e w' ⟨v,rfl,hr,hb⟩
    refine ⟨v,rfl,?_,hb⟩
    have hr':RepC _ w' (.v x) v:=hr
    cases hr' with
    | v _ h1=>exact RepC.v x h1
end
end Go.Fx

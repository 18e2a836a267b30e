import Derived.Test.YtiomojlcnemnhaaGreatDoorRGxCardP
import Derived.Test.YtiomojlcnemnhaaGreatDoorRGxF9
namespace Go.Proofs.YtiomojlcnemnhaaGreatDoor
open Go.Fx Go.RowKit Go.Ped
theorem met9 (os:Os):laidMet Tryz.prog laidList ((wit os).forCall (fun _ _=>0) ⟨#[],#[.agg #[.string ByteArray.empty,.slice none 0 0,.slice none 0 0,.slice none 0 0],.slice none 0 0],[]⟩).memory:=laidMet_of_run' 8 (by kernel_rfl) (by kernel_rfl)
theorem reads9 (os:Os) {H:Type} (enc:TypeId × Value→H):∃ places,DataW.whole enc Tryz.prog ((wit os).forCall (fun _ _=>0) ⟨#[],#[.agg #[.string ByteArray.empty,.slice none 0 0,.slice none 0 0,.slice none 0 0],.slice none 0 0],[]⟩).memory Tryz.f9.params.toList Rows.planRightsSpec.vars false (#[.agg #[.string ByteArray.empty,.slice none 0 0,.slice none 0 0,.slice none 0 0],.slice none 0 0]:Array Value).toList 16 = some ([.agg [.agg [.lit (.string []),.nil,.nil],.nil],.nil],[],places):=⟨[],by kernel_rfl⟩
set_option maxRecDepth 100000 in
theorem lifted9 (os:Os) (started:os.Started) (H:Type) (enc:TypeId × Value→H) (F:Stop.Interp) :
    ReturnsInHanded {} Tryz.checked os 9 .any ((Rows.OpenSpec.upto Rows.planRightsSpec).preRow enc Tryz.prog Tryz.f9 Rows.planRightsUptoRow.domain false Rows.planRightsUptoRow.laid) (((Rows.OpenSpec.upto Rows.planRightsSpec).at F).post enc Tryz.prog Tryz.f9 false true false false):=by
  obtain ⟨places,hx⟩:=reads9 os enc
  refine returnsInHanded_of_row (C:=Tryz.checked) (s:=Rows.OpenSpec.upto Rows.planRightsSpec) own started (by kernel_rfl) Tryz.func9
    (witness_row_at (enc:=enc) (C:=Tryz.checked) false (wit os) #[.agg #[.string ByteArray.empty,.slice none 0 0,.slice none 0 0,.slice none 0 0],.slice none 0 0] rfl (by kernel_rfl) (by kernel_rfl) (by kernel_rfl)
      (OpenSpec.preRow_of_cond 16 hx (by kernel_rfl) (fun k hk=>by cases hk; kernel_rfl) (by kernel_rfl) (met9 os))) ?_
  intro W base args ds gs before hval hW _ hcond _ hL _ _
  have hk:=hcond _ rfl
  refine law_calls (P:=Tryz.prog) (G:=GS) (N:=1048576) (fn:=Tryz.f9) (s:=Rows.planRightsSpec) (ts:=[80,29,9,26,137,135,73,71,69,2,27,107,100,25,23,101,105,102,103,78,90,86,3,88,67]) (tb:=4) laidOut (by kernel_rfl) (by kernel_rfl) (by kernel_rfl) rfl Tryz.underlying4 rfl ?_ hval hW (held_rights hL) (upto_bound hk) ?_
  · intro ds hd
    match ds,hd with
    | [_,_],_=>rfl
  · intro cs hc hb
    obtain ⟨x,cs,rfl,hx,hc⟩:=hc.head
    obtain ⟨y,cs,rfl,hy,hc⟩:=hc.head
    obtain rfl:=hc.nil_left
    obtain ⟨a,rfl,ha⟩:=hx.asAgg Tryz.underlying80
    obtain ⟨r,steps,ssp,rfl,hst⟩:=ty_plan ha
    obtain ⟨c2,e0,hy2⟩:=hy.asOne not_agg52
    subst e0
    obtain ⟨ks,sp,h0,hsp⟩:=ty_names hy2
    injection h0 with h0
    subst h0
    have h1:=plan_bulk r steps ssp
    have h2:=body_bulk r
    have h3:=rule_terms_bulk r
    have h4:=rows_len nm_bulk ks
    have h5:=rows_len step_bulk steps
    simp only [List.map_cons,List.map_nil,List.sum_cons,List.sum_nil,CX.bulk,C.bulk] at hb
    exact m2009 r steps ssp ks sp (rule_small r (by omega)) (by omega) (by omega) hsp (by omega) fun s hs=>by have:=rows_mem (row:=srow) hs; have:=step_gives_bulk s; omega
theorem row9:Rows.PlanRightsUptoSaid :=
  OpenClaim.holds_of_cond 9 Tryz.f9 rfl rfl rfl rfl rfl rfl rfl ⟨rfl,rfl,rfl,rfl,rfl⟩ rfl rfl rfl rfl rfl f9_n Tryz.func9 j9 f9_i f9_w
    (fun os started H enc _ F=>by rw [OpenClaim.pre_eq_preRow]; exact lifted9 os started H enc F)
theorem plain9 (f:FuncId) (fn:Func) (hf:Tryz.pinned.checked.prog.funcNamed "pedigree/pedigreelaw12.PlanRights" = some f) (hfn:Tryz.pinned.checked.prog.funcs[f]? = some fn) :
    true = Tryz.pinned.checked.prog.looks []∧∀ (j:Nat) t,fn.params[j]? = some t→Tryz.pinned.checked.prog.wantsStandIn t = false:=by
  obtain rfl:f = 9:=Option.some.inj ((show Tryz.prog.funcNamed "pedigree/pedigreelaw12.PlanRights" = some 9 from f9_n).symm.trans hf) |>.symm
  obtain rfl:fn = Tryz.f9:=(Option.some.inj (Tryz.func9.symm.trans hfn)).symm
  refine ⟨by kernel_rfl,fun j t ht=>?_⟩
  rw [Tryz.params9] at ht
  have hm:t∈[80,67]:=by simpa using Array.mem_of_getElem? ht
  have hall:([80,67].all fun u=>!Tryz.prog.wantsStandIn u) = true:=by kernel_rfl
  exact (show Tryz.prog.wantsStandIn t = false by simpa using List.all_eq_true.1 hall t hm)
theorem planRightsUpto_card:Rows.PlanRightsUptoCardSaid :=
  by refine Claim7.holds_tied_plain_at .later [] _ _ _ _ row9 (fun _ h=>by cases h) ?_ (fun _ h=>by cases h) planRightsUpto_row_tie rfl ⟨rfl,rfl⟩ ?_ rfl plain9 ?_ <;> (as_aux_lemma=>kernel_rfl)
end Go.Proofs.YtiomojlcnemnhaaGreatDoor

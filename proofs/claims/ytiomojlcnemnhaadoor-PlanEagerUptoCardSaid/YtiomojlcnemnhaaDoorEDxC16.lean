import Derived.Test.YtiomojlcnemnhaaDoorEDxBb
import Derived.Test.YtiomojlcnemnhaaDoorEDxF16
import Derived.Test.YtiomojlcnemnhaaDoorEDxCardP
namespace Go.Proofs.YtiomojlcnemnhaaDoor
open Go.Fx Go.RowKit Go.Ped
theorem met16 (os : Os) : laidMet Tryd.prog laidBits ((wit os).forCall (fun _ _ => 0) ⟨#[], #[.agg #[.string ByteArray.empty, .slice none 0 0, .slice none 0 0], .slice none 0 0, .int .i64 0], []⟩).memory := laidMet_of_run' 8 (by kernel_rfl) (by kernel_rfl)
theorem reads16 (os : Os) {H : Type} (enc : TypeId × Value → H) : ∃ places, DataW.whole enc Tryd.prog ((wit os).forCall (fun _ _ => 0) ⟨#[], #[.agg #[.string ByteArray.empty, .slice none 0 0, .slice none 0 0], .slice none 0 0, .int .i64 0], []⟩).memory Tryd.f16.params.toList Rows.planEagerSpec.vars false (#[.agg #[.string ByteArray.empty, .slice none 0 0, .slice none 0 0], .slice none 0 0, .int .i64 0] : Array Value).toList 16 = some ([.agg [.lit (.string []), .nil, .nil], .nil, .lit (.int .i64 0)], [], places) := ⟨[], by kernel_rfl⟩
set_option maxRecDepth 100000 in
theorem lifted16 (os : Os) (started : os.Started) (H : Type) (enc : TypeId × Value → H) (F : Stop.Interp) :
    ReturnsInHanded {} Tryd.checked os 16 .any ((Rows.OpenSpec.upto Rows.planEagerSpec).preRow enc Tryd.prog Tryd.f16 Rows.planEagerUptoRow.domain false Rows.planEagerUptoRow.laid) (((Rows.OpenSpec.upto Rows.planEagerSpec).at F).post enc Tryd.prog Tryd.f16 false true false false) := by
  obtain ⟨places, hx⟩ := reads16 os enc
  refine returnsInHanded_of_row (C := Tryd.checked) (s := Rows.OpenSpec.upto Rows.planEagerSpec) own started (by kernel_rfl) Tryd.func16
    (witness_row_at (enc := enc) (C := Tryd.checked) false (wit os) #[.agg #[.string ByteArray.empty, .slice none 0 0, .slice none 0 0], .slice none 0 0, .int .i64 0] rfl (by kernel_rfl) (by kernel_rfl) (by kernel_rfl)
      (OpenSpec.preRow_of_cond 16 hx (by kernel_rfl) (fun k hk => by cases hk; kernel_rfl) (by kernel_rfl) (met16 os))) ?_
  intro W base args ds gs before hval hW _ hcond _ hL _ _
  have hk := hcond _ rfl
  refine law_calls (P := Tryd.prog) (G := GB) (N := 1048576) (fn := Tryd.f16) (s := Rows.planEagerSpec) (ts := [96, 9, 94, 189, 187, 41, 39, 37, 2, 78, 88, 85, 24, 22, 86, 47, 44, 45, 52, 3]) (tb := 4) laidOut (by kernel_rfl) (by kernel_rfl) (by kernel_rfl) rfl Tryd.underlying4 rfl ?_ hval hW (held_bits hL) (upto_bound hk) ?_
  · intro ds hd
    match ds, hd with
    | [_, _, _], _ => rfl
  · intro cs hc hb
    obtain ⟨x, cs, rfl, hx, hc⟩ := hc.head
    obtain ⟨y, cs, rfl, hy, hc⟩ := hc.head
    obtain ⟨z, cs, rfl, hz, hc⟩ := hc.head
    obtain rfl := hc.nil_left
    obtain ⟨a, rfl, ha⟩ := hx.asAgg Tryd.underlying96
    obtain ⟨r, rfl⟩ := ty_rule ha
    obtain ⟨c2, e0, hy2⟩ := hy.asOne not_agg52
    subst e0
    obtain ⟨ks, sp, h0, hsp⟩ := ty_names hy2
    injection h0 with h0
    subst h0
    obtain ⟨c3, e0, hz2⟩ := hz.asOne not_agg3
    subst e0
    obtain ⟨n, h0, hn⟩ := hz2.asInt Tryd.underlying3
    injection h0 with h0
    subst h0
    have h2 := body_bulk r
    have h3 := rule_terms_bulk r
    have h4 := rows_len nm_bulk ks
    simp only [List.map_cons, List.map_nil, List.sum_cons, List.sum_nil, CX.bulk, C.bulk] at hb
    exact m16 r ks sp n (rule_small r (by omega)) (by omega) (by omega) hsp
theorem row16 : Rows.PlanEagerUptoSaid :=
  OpenClaim.holds_of_cond 16 Tryd.f16 rfl rfl rfl rfl rfl rfl rfl ⟨rfl, rfl, rfl, rfl, rfl⟩ rfl rfl rfl rfl rfl f16_n Tryd.func16 j16 f16_i f16_w
    (fun os started H enc _ F => by rw [OpenClaim.pre_eq_preRow]; exact lifted16 os started H enc F)
theorem plain16 (f : FuncId) (fn : Func) (hf : Tryd.pinned.checked.prog.funcNamed "pedigree/pedigreelaw12.PlanEager" = some f) (hfn : Tryd.pinned.checked.prog.funcs[f]? = some fn) :
    true = Tryd.pinned.checked.prog.looks [] ∧ ∀ (j : Nat) t, fn.params[j]? = some t → Tryd.pinned.checked.prog.wantsStandIn t = false := by
  obtain rfl : f = 16 := Option.some.inj ((show Tryd.prog.funcNamed "pedigree/pedigreelaw12.PlanEager" = some 16 from f16_n).symm.trans hf) |>.symm
  obtain rfl : fn = Tryd.f16 := (Option.some.inj (Tryd.func16.symm.trans hfn)).symm
  refine ⟨by kernel_rfl, fun j t ht => ?_⟩
  rw [Tryd.params16] at ht
  have hm : t ∈ [96, 52, 3] := by simpa using Array.mem_of_getElem? ht
  have hall : ([96, 52, 3].all fun u => !Tryd.prog.wantsStandIn u) = true := by kernel_rfl
  exact (show Tryd.prog.wantsStandIn t = false by simpa using List.all_eq_true.1 hall t hm)
theorem planEagerUpto_card : Rows.PlanEagerUptoCardSaid :=
  by refine Claim7.holds_tied_plain_at .later [] _ _ _ _ row16 (fun _ h => by cases h) ?_ (fun _ h => by cases h) planEagerUpto_row_tie rfl ⟨rfl, rfl⟩ ?_ rfl plain16 ?_ <;> (as_aux_lemma => kernel_rfl)
end Go.Proofs.YtiomojlcnemnhaaDoor

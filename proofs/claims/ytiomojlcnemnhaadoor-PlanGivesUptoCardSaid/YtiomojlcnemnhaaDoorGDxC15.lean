import Derived.Test.YtiomojlcnemnhaaDoorGDxLw
import Derived.Test.YtiomojlcnemnhaaDoorGDxF15
import Derived.Test.YtiomojlcnemnhaaDoorGDxCardP
namespace Go.Proofs.YtiomojlcnemnhaaDoor
open Go.Fx Go.RowKit Go.Ped
theorem met15 (os : Os) : laidMet Tryd.prog laidBits ((wit os).forCall (fun _ _ => 0) ⟨#[], #[.agg #[.string ByteArray.empty, .slice none 0 0, .slice none 0 0, .slice none 0 0], .slice none 0 0], []⟩).memory := laidMet_of_run' 8 (by kernel_rfl) (by kernel_rfl)
theorem reads15 (os : Os) {H : Type} (enc : TypeId × Value → H) : ∃ places, DataW.whole enc Tryd.prog ((wit os).forCall (fun _ _ => 0) ⟨#[], #[.agg #[.string ByteArray.empty, .slice none 0 0, .slice none 0 0, .slice none 0 0], .slice none 0 0], []⟩).memory Tryd.f15.params.toList Rows.planGivesSpec.vars false (#[.agg #[.string ByteArray.empty, .slice none 0 0, .slice none 0 0, .slice none 0 0], .slice none 0 0] : Array Value).toList 16 = some ([.agg [.agg [.lit (.string []), .nil, .nil], .nil], .nil], [], places) := ⟨[], by kernel_rfl⟩
set_option maxRecDepth 100000 in
theorem lifted15 (os : Os) (started : os.Started) (H : Type) (enc : TypeId × Value → H) (F : Stop.Interp) :
    ReturnsInHanded {} Tryd.checked os 15 .any ((Rows.OpenSpec.upto Rows.planGivesSpec).preRow enc Tryd.prog Tryd.f15 Rows.planGivesUptoRow.domain false Rows.planGivesUptoRow.laid) (((Rows.OpenSpec.upto Rows.planGivesSpec).at F).post enc Tryd.prog Tryd.f15 false true false false) := by
  obtain ⟨places, hx⟩ := reads15 os enc
  refine returnsInHanded_of_row (C := Tryd.checked) (s := Rows.OpenSpec.upto Rows.planGivesSpec) own started (by kernel_rfl) Tryd.func15
    (witness_row_at (enc := enc) (C := Tryd.checked) false (wit os) #[.agg #[.string ByteArray.empty, .slice none 0 0, .slice none 0 0, .slice none 0 0], .slice none 0 0] rfl (by kernel_rfl) (by kernel_rfl) (by kernel_rfl)
      (OpenSpec.preRow_of_cond 16 hx (by kernel_rfl) (fun k hk => by cases hk; kernel_rfl) (by kernel_rfl) (met15 os))) ?_
  intro W base args ds gs before hval hW _ hcond _ hL _ _
  have hk := hcond _ rfl
  refine law_calls (P := Tryd.prog) (G := GB) (N := 1048576) (fn := Tryd.f15) (s := Rows.planGivesSpec) (ts := [115, 96, 9, 94, 189, 187, 41, 39, 37, 2, 78, 88, 85, 24, 22, 86, 47, 44, 45, 113, 121, 117, 3, 119, 52]) (tb := 4) laidOut (by kernel_rfl) (by kernel_rfl) (by kernel_rfl) rfl Tryd.underlying4 rfl ?_ hval hW (held_bits hL) (upto_bound hk) ?_
  · intro ds hd
    match ds, hd with
    | [_, _], _ => rfl
  · intro cs hc hb
    obtain ⟨x, cs, rfl, hx, hc⟩ := hc.head
    obtain ⟨y, cs, rfl, hy, hc⟩ := hc.head
    obtain rfl := hc.nil_left
    obtain ⟨a, rfl, ha⟩ := hx.asAgg Tryd.underlying115
    obtain ⟨r, steps, ssp, rfl, hst⟩ := ty_plan ha
    obtain ⟨c2, e0, hy2⟩ := hy.asOne not_agg52
    subst e0
    obtain ⟨ks, sp, h0, hsp⟩ := ty_names hy2
    injection h0 with h0
    subst h0
    have h1 := plan_bulk r steps ssp
    have h2 := body_bulk r
    have h3 := rule_terms_bulk r
    have h4 := rows_len nm_bulk ks
    have h5 := rows_len step_bulk steps
    simp only [List.map_cons, List.map_nil, List.sum_cons, List.sum_nil, CX.bulk, C.bulk] at hb
    exact m15_of m79 r steps ssp ks sp (rule_small r (by omega)) (by omega) (by omega) hsp (by omega) fun s hs => ⟨by have := rows_mem (row := srow) hs; have := step_gives_bulk s; omega, (hst s hs).1, (hst s hs).2.1, (hst s hs).2.2⟩
theorem row15 : Rows.PlanGivesUptoSaid :=
  OpenClaim.holds_of_cond 15 Tryd.f15 rfl rfl rfl rfl rfl rfl rfl ⟨rfl, rfl, rfl, rfl, rfl⟩ rfl rfl rfl rfl rfl f15_n Tryd.func15 j15 f15_i f15_w
    (fun os started H enc _ F => by rw [OpenClaim.pre_eq_preRow]; exact lifted15 os started H enc F)
theorem plain15 (f : FuncId) (fn : Func) (hf : Tryd.pinned.checked.prog.funcNamed "pedigree/pedigreelaw12.PlanGives" = some f) (hfn : Tryd.pinned.checked.prog.funcs[f]? = some fn) :
    true = Tryd.pinned.checked.prog.looks [] ∧ ∀ (j : Nat) t, fn.params[j]? = some t → Tryd.pinned.checked.prog.wantsStandIn t = false := by
  obtain rfl : f = 15 := Option.some.inj ((show Tryd.prog.funcNamed "pedigree/pedigreelaw12.PlanGives" = some 15 from f15_n).symm.trans hf) |>.symm
  obtain rfl : fn = Tryd.f15 := (Option.some.inj (Tryd.func15.symm.trans hfn)).symm
  refine ⟨by kernel_rfl, fun j t ht => ?_⟩
  rw [Tryd.params15] at ht
  have hm : t ∈ [115, 52] := by simpa using Array.mem_of_getElem? ht
  have hall : ([115, 52].all fun u => !Tryd.prog.wantsStandIn u) = true := by kernel_rfl
  exact (show Tryd.prog.wantsStandIn t = false by simpa using List.all_eq_true.1 hall t hm)
theorem planGivesUpto_card : Rows.PlanGivesUptoCardSaid :=
  by refine Claim7.holds_tied_plain_at .later [] _ _ _ _ row15 (fun _ h => by cases h) ?_ (fun _ h => by cases h) planGivesUpto_row_tie rfl ⟨rfl, rfl⟩ ?_ rfl plain15 ?_ <;> (as_aux_lemma => kernel_rfl)
end Go.Proofs.YtiomojlcnemnhaaDoor

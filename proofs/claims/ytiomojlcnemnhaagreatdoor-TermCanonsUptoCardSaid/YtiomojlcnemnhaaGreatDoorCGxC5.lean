import Derived.Test.YtiomojlcnemnhaaGreatDoorCPedF
import Derived.Test.YtiomojlcnemnhaaGreatDoorCGxRb
import Derived.Test.YtiomojlcnemnhaaGreatDoorCGxF5
namespace Go.Proofs.YtiomojlcnemnhaaGreatDoor
open Go.Fx Go.RowKit Go.Ped
theorem met5 (os : Os) : laidMet Tryz.prog laidList ((wit os).forCall (fun _ _ => 0) ⟨#[], #[.agg #[.string ByteArray.empty, .slice none 0 0, .slice none 0 0], .agg #[.string ByteArray.empty, .slice none 0 0, .slice none 0 0]], []⟩).memory := laidMet_of_run' 8 (by kernel_rfl) (by kernel_rfl)
theorem reads5 (os : Os) {H : Type} (enc : TypeId × Value → H) : ∃ places, DataW.whole enc Tryz.prog ((wit os).forCall (fun _ _ => 0) ⟨#[], #[.agg #[.string ByteArray.empty, .slice none 0 0, .slice none 0 0], .agg #[.string ByteArray.empty, .slice none 0 0, .slice none 0 0]], []⟩).memory Tryz.f5.params.toList Rows.termCanonsSpec.vars false (#[.agg #[.string ByteArray.empty, .slice none 0 0, .slice none 0 0], .agg #[.string ByteArray.empty, .slice none 0 0, .slice none 0 0]] : Array Value).toList 16 = some ([.agg [.lit (.string []), .nil, .nil], .agg [.lit (.string []), .nil, .nil]], [], places) := ⟨[], by kernel_rfl⟩
set_option maxRecDepth 100000 in
theorem lifted5 (os : Os) (started : os.Started) (H : Type) (enc : TypeId × Value → H) (F : Stop.Interp) :
    ReturnsInHanded {} Tryz.checked os 5 .any ((Rows.OpenSpec.upto Rows.termCanonsSpec).preRow enc Tryz.prog Tryz.f5 Rows.termCanonsUptoRow.domain false Rows.termCanonsUptoRow.laid) (((Rows.OpenSpec.upto Rows.termCanonsSpec).at F).post enc Tryz.prog Tryz.f5 false true false false) := by
  obtain ⟨places, hx⟩ := reads5 os enc
  refine returnsInHanded_of_row (C := Tryz.checked) (s := Rows.OpenSpec.upto Rows.termCanonsSpec) own started (by kernel_rfl) Tryz.func5
    (witness_row_at (enc := enc) (C := Tryz.checked) false (wit os) #[.agg #[.string ByteArray.empty, .slice none 0 0, .slice none 0 0], .agg #[.string ByteArray.empty, .slice none 0 0, .slice none 0 0]] rfl (by kernel_rfl) (by kernel_rfl) (by kernel_rfl)
      (OpenSpec.preRow_of_cond 16 hx (by kernel_rfl) (fun k hk => by cases hk; kernel_rfl) (by kernel_rfl) (met5 os))) ?_
  intro W base args ds gs before hval hW _ hcond _ hL _ _
  have hk := hcond _ rfl
  refine law_calls (P := Tryz.prog) (G := tab10 Tryz.prog) (N := 1048576) (fn := Tryz.f5) (s := Rows.termCanonsSpec) (ts := [29, 9, 26, 137, 135, 73, 71, 69, 2, 27, 107, 100, 25, 23, 101, 105, 102, 103]) (tb := 4) laidOut (by kernel_rfl) (by kernel_rfl) (by kernel_rfl) rfl Tryz.underlying4 rfl ?_ hval hW (held_list hL) (upto_bound hk) ?_
  · intro ds hd
    match ds, hd with
    | [_, _], _ => rfl
  · intro cs hc hb
    obtain ⟨x, cs, rfl, hx, hc⟩ := hc.head
    obtain ⟨y, cs, rfl, hy, hc⟩ := hc.head
    obtain rfl := hc.nil_left
    obtain ⟨u, rfl, hu⟩ := hx.asAgg Tryz.underlying29
    obtain ⟨a, rfl⟩ := ty_rule hu
    obtain ⟨v, rfl, hv⟩ := hy.asAgg Tryz.underlying29
    obtain ⟨b, rfl⟩ := ty_rule hv
    have h3 := rule_terms_bulk a
    have h4 := rule_terms_bulk b
    simp only [List.map_cons, List.map_nil, List.sum_cons, List.sum_nil, CX.bulk] at hb
    exact m2005 a b (rule_small a (by omega)) (rule_small b (by omega)) (by omega) (by omega)
theorem row5 : Rows.TermCanonsUptoSaid :=
  OpenClaim.holds_of_cond 5 Tryz.f5 rfl rfl rfl rfl rfl rfl rfl ⟨rfl, rfl, rfl, rfl, rfl⟩ rfl rfl rfl rfl rfl f5_n Tryz.func5 j5 f5_i f5_w
    (fun os started H enc _ F => by rw [OpenClaim.pre_eq_preRow]; exact lifted5 os started H enc F)
theorem plain5 (f : FuncId) (fn : Func) (hf : Tryz.pinned.checked.prog.funcNamed "pedigree/pedigreelaw04.TermCanons" = some f) (hfn : Tryz.pinned.checked.prog.funcs[f]? = some fn) :
    true = Tryz.pinned.checked.prog.looks [] ∧ ∀ (j : Nat) t, fn.params[j]? = some t → Tryz.pinned.checked.prog.wantsStandIn t = false := by
  obtain rfl : f = 5 := Option.some.inj ((show Tryz.prog.funcNamed "pedigree/pedigreelaw04.TermCanons" = some 5 from f5_n).symm.trans hf) |>.symm
  obtain rfl : fn = Tryz.f5 := (Option.some.inj (Tryz.func5.symm.trans hfn)).symm
  refine ⟨by kernel_rfl, fun j t ht => ?_⟩
  rw [Tryz.params5] at ht
  have hm : t ∈ [29, 29] := by simpa using Array.mem_of_getElem? ht
  have hall : ([29, 29].all fun u => !Tryz.prog.wantsStandIn u) = true := by kernel_rfl
  exact (show Tryz.prog.wantsStandIn t = false by simpa using List.all_eq_true.1 hall t hm)
theorem termCanonsUpto_card : Rows.TermCanonsUptoCardSaid :=
  by refine Claim7.holds_tied_plain_at .later [] _ _ _ _ row5 (fun _ h => by cases h) ?_ (fun _ h => by cases h) termCanonsUpto_row_tie rfl ⟨rfl, rfl⟩ ?_ rfl plain5 ?_ <;> (as_aux_lemma => kernel_rfl)
end Go.Proofs.YtiomojlcnemnhaaGreatDoor

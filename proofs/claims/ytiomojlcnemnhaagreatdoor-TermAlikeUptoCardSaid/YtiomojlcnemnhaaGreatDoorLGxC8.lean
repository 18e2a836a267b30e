import Derived.Test.YtiomojlcnemnhaaGreatDoorLGxCardE
import Derived.Test.YtiomojlcnemnhaaGreatDoorLGxF8
namespace Go.Proofs.YtiomojlcnemnhaaGreatDoor
open Go.Fx Go.RowKit Go.Ped
theorem met8 (os : Os) : laidMet Tryz.prog laidBoth ((wit os).forCall (fun _ _ => 0) ⟨#[], #[.agg #[.string ByteArray.empty, .slice none 0 0, .slice none 0 0], .int .i64 0], []⟩).memory := laidMet_of_run' 8 (by kernel_rfl) (by kernel_rfl)
theorem reads8 (os : Os) {H : Type} (enc : TypeId × Value → H) : ∃ places, DataW.whole enc Tryz.prog ((wit os).forCall (fun _ _ => 0) ⟨#[], #[.agg #[.string ByteArray.empty, .slice none 0 0, .slice none 0 0], .int .i64 0], []⟩).memory Tryz.f8.params.toList Rows.termAlikeSpec.vars false (#[.agg #[.string ByteArray.empty, .slice none 0 0, .slice none 0 0], .int .i64 0] : Array Value).toList 16 = some ([.agg [.lit (.string []), .nil, .nil], .lit (.int .i64 0)], [], places) := ⟨[], by kernel_rfl⟩
set_option maxRecDepth 100000 in
theorem lifted8 (os : Os) (started : os.Started) (H : Type) (enc : TypeId × Value → H) (F : Stop.Interp) :
    ReturnsInHanded {} Tryz.checked os 8 .any ((Rows.OpenSpec.upto Rows.termAlikeSpec).preRow enc Tryz.prog Tryz.f8 Rows.termAlikeUptoRow.domain false Rows.termAlikeUptoRow.laid) (((Rows.OpenSpec.upto Rows.termAlikeSpec).at F).post enc Tryz.prog Tryz.f8 false true false false) := by
  obtain ⟨places, hx⟩ := reads8 os enc
  refine returnsInHanded_of_row (C := Tryz.checked) (s := Rows.OpenSpec.upto Rows.termAlikeSpec) own started (by kernel_rfl) Tryz.func8
    (witness_row_at (enc := enc) (C := Tryz.checked) false (wit os) #[.agg #[.string ByteArray.empty, .slice none 0 0, .slice none 0 0], .int .i64 0] rfl (by kernel_rfl) (by kernel_rfl) (by kernel_rfl)
      (OpenSpec.preRow_of_cond 16 hx (by kernel_rfl) (fun k hk => by cases hk; kernel_rfl) (by kernel_rfl) (met8 os))) ?_
  intro W base args ds gs before hval hW _ hcond _ hL _ _
  have hk := hcond _ rfl
  refine law_calls (P := Tryz.prog) (G := GE) (N := 1048576) (fn := Tryz.f8) (s := Rows.termAlikeSpec) (ts := [29, 3, 9, 26, 137, 135, 73, 71, 69, 2, 27, 107, 100, 25, 23, 101, 105, 102, 103]) (tb := 4) laidOut (by kernel_rfl) (by kernel_rfl) (by kernel_rfl) rfl Tryz.underlying4 rfl ?_ hval hW (held_both hL) (upto_bound hk) ?_
  · intro ds hd
    match ds, hd with
    | [_, _], _ => rfl
  · intro cs hc hb
    obtain ⟨x, cs, rfl, hx, hc⟩ := hc.head
    obtain ⟨y, cs, rfl, hy, hc⟩ := hc.head
    obtain rfl := hc.nil_left
    obtain ⟨u, rfl, hu⟩ := hx.asAgg Tryz.underlying29
    obtain ⟨a, rfl⟩ := ty_rule hu
    have ha3 : ¬ isAggTy Tryz.prog 3 := by
      rintro (⟨fs, h⟩ | ⟨n, e, h⟩) <;> rw [Tryz.underlying3] at h <;> cases h
    obtain ⟨c, e0, hy2⟩ := hy.asOne ha3
    subst e0
    obtain ⟨b, h0, _⟩ := hy2.asInt Tryz.underlying3
    injection h0 with h0
    subst h0
    have h3 := rule_terms_bulk a
    simp only [List.map_cons, List.map_nil, List.sum_cons, List.sum_nil, CX.bulk] at hb
    exact m2008 a b (rule_small a (by omega)) (by omega)
theorem row8 : Rows.TermAlikeUptoSaid :=
  OpenClaim.holds_of_cond 8 Tryz.f8 rfl rfl rfl rfl rfl rfl rfl ⟨rfl, rfl, rfl, rfl, rfl⟩ rfl rfl rfl rfl rfl f8_n Tryz.func8 j8 f8_i f8_w
    (fun os started H enc _ F => by rw [OpenClaim.pre_eq_preRow]; exact lifted8 os started H enc F)
theorem plain8 (f : FuncId) (fn : Func) (hf : Tryz.pinned.checked.prog.funcNamed "pedigree/pedigreelaw04.TermAlike" = some f) (hfn : Tryz.pinned.checked.prog.funcs[f]? = some fn) :
    true = Tryz.pinned.checked.prog.looks [] ∧ ∀ (j : Nat) t, fn.params[j]? = some t → Tryz.pinned.checked.prog.wantsStandIn t = false := by
  obtain rfl : f = 8 := Option.some.inj ((show Tryz.prog.funcNamed "pedigree/pedigreelaw04.TermAlike" = some 8 from f8_n).symm.trans hf) |>.symm
  obtain rfl : fn = Tryz.f8 := (Option.some.inj (Tryz.func8.symm.trans hfn)).symm
  refine ⟨by kernel_rfl, fun j t ht => ?_⟩
  rw [Tryz.params8] at ht
  have hm : t ∈ [29, 3] := by simpa using Array.mem_of_getElem? ht
  have hall : ([29, 3].all fun u => !Tryz.prog.wantsStandIn u) = true := by kernel_rfl
  exact (show Tryz.prog.wantsStandIn t = false by simpa using List.all_eq_true.1 hall t hm)
theorem termAlikeUpto_card : Rows.TermAlikeUptoCardSaid :=
  by refine Claim7.holds_tied_plain_at .later [] _ _ _ _ row8 (fun _ h => by cases h) ?_ (fun _ h => by cases h) termAlikeUpto_row_tie rfl ⟨rfl, rfl⟩ ?_ rfl plain8 ?_ <;> (as_aux_lemma => kernel_rfl)
end Go.Proofs.YtiomojlcnemnhaaGreatDoor

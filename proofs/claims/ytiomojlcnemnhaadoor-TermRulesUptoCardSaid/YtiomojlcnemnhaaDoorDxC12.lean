/- TermRules is proved, where what it reads is of bulk at most 1048576 (the second form; as a card, tied to the program's text): whatever input the law is given, it answers true and leaves its arguments as they were. -/
import Derived.Test.YtiomojlcnemnhaaDoorDxY3
import Derived.Test.YtiomojlcnemnhaaDoorDxF12
namespace Go.Proofs.YtiomojlcnemnhaaDoor
open Go.Fx Go.RowKit Go.Ped

theorem met12 (os : Os) : laidMet Tryd.prog laidList ((wit os).forCall (fun _ _ => 0) ⟨#[], #[.agg #[.string ByteArray.empty, .slice none 0 0, .slice none 0 0]], []⟩).memory := laidMet_of_run' 8 (by kernel_rfl) (by kernel_rfl)
theorem reads12 (os : Os) {H : Type} (enc : TypeId × Value → H) : ∃ places, DataW.whole enc Tryd.prog ((wit os).forCall (fun _ _ => 0) ⟨#[], #[.agg #[.string ByteArray.empty, .slice none 0 0, .slice none 0 0]], []⟩).memory Tryd.f12.params.toList Rows.termRulesSpec.vars false (#[.agg #[.string ByteArray.empty, .slice none 0 0, .slice none 0 0]] : Array Value).toList 16 = some ([.agg [.lit (.string []), .nil, .nil]], [], places) := ⟨[], by kernel_rfl⟩

set_option maxRecDepth 100000 in
theorem lifted12 (os : Os) (started : os.Started) (H : Type) (enc : TypeId × Value → H) (F : Stop.Interp) :
    ReturnsInHanded {} Tryd.checked os 12 .any ((Rows.OpenSpec.upto Rows.termRulesSpec).preRow enc Tryd.prog Tryd.f12 Rows.termRulesUptoRow.domain false Rows.termRulesUptoRow.laid) (((Rows.OpenSpec.upto Rows.termRulesSpec).at F).post enc Tryd.prog Tryd.f12 false true false false) := by
  obtain ⟨places, hx⟩ := reads12 os enc
  refine returnsInHanded_of_row (C := Tryd.checked) (s := Rows.OpenSpec.upto Rows.termRulesSpec) own started (by kernel_rfl) Tryd.func12
    (witness_row_at (enc := enc) (C := Tryd.checked) false (wit os) #[.agg #[.string ByteArray.empty, .slice none 0 0, .slice none 0 0]] rfl (by kernel_rfl) (by kernel_rfl) (by kernel_rfl)
      (OpenSpec.preRow_of_cond 16 hx (by kernel_rfl) (fun k hk => by cases hk; kernel_rfl) (by kernel_rfl) (met12 os))) ?_
  intro W base args ds gs before hval hW _ hcond _ hL _ _
  have hk := hcond _ rfl
  refine law_calls (P := Tryd.prog) (G := tab10 Tryd.prog) (N := 1048576) (fn := Tryd.f12) (s := Rows.termRulesSpec) (ts := [96, 9, 94, 189, 187, 41, 39, 37, 2, 78, 88, 85, 24, 22, 86, 47, 44, 45]) (tb := 4) laidOut (by kernel_rfl) (by kernel_rfl) (by kernel_rfl) rfl Tryd.underlying4 rfl ?_ hval hW (held_list hL) (upto_bound hk) ?_
  · intro ds hd
    match ds, hd with
    | [_], _ => rfl
  · intro cs hc hb
    obtain ⟨x, cs, rfl, hx, hc⟩ := hc.head
    obtain rfl := hc.nil_left
    obtain ⟨a, rfl, ha⟩ := hx.asAgg Tryd.underlying96
    obtain ⟨y, rfl⟩ := ty_rule ha
    have h1 := rule_terms_bulk y
    simp only [List.map_cons, List.map_nil, List.sum_cons, List.sum_nil, CX.bulk] at hb
    exact m12 y (rule_small y (by omega)) (by omega)

theorem row12 : Rows.TermRulesUptoSaid :=
  OpenClaim.holds_of_cond 12 Tryd.f12 rfl rfl rfl rfl rfl rfl rfl ⟨rfl, rfl, rfl, rfl, rfl⟩ rfl rfl rfl rfl rfl f12_n Tryd.func12 j12 f12_i f12_w
    (fun os started H enc _ F => by rw [OpenClaim.pre_eq_preRow]; exact lifted12 os started H enc F)

theorem plain12 (f : FuncId) (fn : Func) (hf : Tryd.pinned.checked.prog.funcNamed "pedigree/pedigreelaw04.TermRules" = some f) (hfn : Tryd.pinned.checked.prog.funcs[f]? = some fn) :
    true = Tryd.pinned.checked.prog.looks [] ∧ ∀ (j : Nat) t, fn.params[j]? = some t → Tryd.pinned.checked.prog.wantsStandIn t = false := by
  obtain rfl : f = 12 := Option.some.inj ((show Tryd.prog.funcNamed "pedigree/pedigreelaw04.TermRules" = some 12 from f12_n).symm.trans hf) |>.symm
  obtain rfl : fn = Tryd.f12 := (Option.some.inj (Tryd.func12.symm.trans hfn)).symm
  refine ⟨by kernel_rfl, fun j t ht => ?_⟩
  rw [Tryd.params12] at ht
  have hm : t ∈ [96] := by simpa using Array.mem_of_getElem? ht
  have hall : ([96].all fun u => !Tryd.prog.wantsStandIn u) = true := by kernel_rfl
  exact (show Tryd.prog.wantsStandIn t = false by simpa using List.all_eq_true.1 hall t hm)

/-- THE CARD. -/
theorem termRulesUpto_card : Rows.TermRulesUptoCardSaid :=
  Claim7.holds_tied_plain_at .later [] _ _ _ _ row12 (fun _ h => by cases h) (by kernel_rfl) (fun _ h => by cases h) termRulesUpto_row_tie rfl ⟨rfl, rfl⟩ (by kernel_rfl) rfl plain12 (by kernel_rfl)
end Go.Proofs.YtiomojlcnemnhaaDoor

import Derived.Test.YtiomojlcnemnhaaDoorWDxBf
import Derived.Test.YtiomojlcnemnhaaDoorWDxF17
import Derived.Test.YtiomojlcnemnhaaDoorWDxB5
namespace Go.Proofs.YtiomojlcnemnhaaDoor
open Go.Fx Go.RowKit Go.Ped
theorem met17 (os : Os) : laidMet Tryd.prog laidBits ((wit os).forCall (fun _ _ => 0) ⟨#[], #[.agg #[.string ByteArray.empty, .slice none 0 0, .slice none 0 0, .slice none 0 0, .string ByteArray.empty, .int .i64 0]], []⟩).memory := laidMet_of_run' 8 (by kernel_rfl) (by kernel_rfl)
theorem reads17 (os : Os) {H : Type} (enc : TypeId × Value → H) : ∃ places, DataW.whole enc Tryd.prog ((wit os).forCall (fun _ _ => 0) ⟨#[], #[.agg #[.string ByteArray.empty, .slice none 0 0, .slice none 0 0, .slice none 0 0, .string ByteArray.empty, .int .i64 0]], []⟩).memory Tryd.f17.params.toList Rows.planWiderSpec.vars false (#[.agg #[.string ByteArray.empty, .slice none 0 0, .slice none 0 0, .slice none 0 0, .string ByteArray.empty, .int .i64 0]] : Array Value).toList 16 = some ([.agg [.agg [.lit (.string []), .nil, .nil], .nil, .lit (.string []), .lit (.int .i64 0)]], [], places) := ⟨[], by kernel_rfl⟩
set_option maxRecDepth 100000 in
theorem lifted17 (os : Os) (started : os.Started) (H : Type) (enc : TypeId × Value → H) (F : Stop.Interp) :
    ReturnsInHanded {} Tryd.checked os 17 .any ((Rows.OpenSpec.upto Rows.planWiderSpec).preRow enc Tryd.prog Tryd.f17 Rows.planWiderUptoRow.domain false Rows.planWiderUptoRow.laid) (((Rows.OpenSpec.upto Rows.planWiderSpec).at F).post enc Tryd.prog Tryd.f17 false true false false) := by
  obtain ⟨places, hx⟩ := reads17 os enc
  refine returnsInHanded_of_row (C := Tryd.checked) (s := Rows.OpenSpec.upto Rows.planWiderSpec) own started (by kernel_rfl) Tryd.func17
    (witness_row_at (enc := enc) (C := Tryd.checked) false (wit os) #[.agg #[.string ByteArray.empty, .slice none 0 0, .slice none 0 0, .slice none 0 0, .string ByteArray.empty, .int .i64 0]] rfl (by kernel_rfl) (by kernel_rfl) (by kernel_rfl)
      (OpenSpec.preRow_of_cond 16 hx (by kernel_rfl) (fun k hk => by cases hk; kernel_rfl) (by kernel_rfl) (met17 os))) ?_
  intro W base args ds gs before hval hW _ hcond _ hL _ _
  have hk := hcond _ rfl
  refine law_calls (P := Tryd.prog) (G := GB) (N := 1048576) (fn := Tryd.f17) (s := Rows.planWiderSpec) (ts := [129, 96, 9, 94, 189, 187, 41, 39, 37, 2, 78, 88, 85, 24, 22, 86, 47, 44, 45, 52, 3]) (tb := 4) laidOut (by kernel_rfl) (by kernel_rfl) (by kernel_rfl) rfl Tryd.underlying4 rfl ?_ hval hW (held_bits hL) (upto_bound hk) ?_
  · intro ds hd
    match ds, hd with
    | [_], _ => rfl
  · intro cs hc hb
    obtain ⟨x, cs, rfl, hx, hc⟩ := hc.head
    obtain rfl := hc.nil_left
    obtain ⟨a, rfl, ha⟩ := hx.asAgg Tryd.underlying129
    obtain ⟨r, ks, sp, more, n, rfl, hsp⟩ := ty_wider ha
    have h1 := wider_bulk r ks sp more n
    have h2 := body_bulk r
    have h3 := rule_terms_bulk r
    have h4 := rows_len nm_bulk ks
    simp only [List.map_cons, List.map_nil, List.sum_cons, List.sum_nil, CX.bulk] at hb
    exact m17 r ks sp more n (rule_small r (by omega)) (by omega) (by omega) hsp
theorem row17 : Rows.PlanWiderUptoSaid :=
  OpenClaim.holds_of_cond 17 Tryd.f17 rfl rfl rfl rfl rfl rfl rfl ⟨rfl, rfl, rfl, rfl, rfl⟩ rfl rfl rfl rfl rfl f17_n Tryd.func17 j17 f17_i f17_w
    (fun os started H enc _ F => by rw [OpenClaim.pre_eq_preRow]; exact lifted17 os started H enc F)
theorem plain17 (f : FuncId) (fn : Func) (hf : Tryd.pinned.checked.prog.funcNamed "pedigree/pedigreelaw12.PlanWider" = some f) (hfn : Tryd.pinned.checked.prog.funcs[f]? = some fn) :
    true = Tryd.pinned.checked.prog.looks [] ∧ ∀ (j : Nat) t, fn.params[j]? = some t → Tryd.pinned.checked.prog.wantsStandIn t = false := by
  obtain rfl : f = 17 := Option.some.inj ((show Tryd.prog.funcNamed "pedigree/pedigreelaw12.PlanWider" = some 17 from f17_n).symm.trans hf) |>.symm
  obtain rfl : fn = Tryd.f17 := (Option.some.inj (Tryd.func17.symm.trans hfn)).symm
  refine ⟨by kernel_rfl, fun j t ht => ?_⟩
  rw [Tryd.params17] at ht
  have hm : t ∈ [129] := by simpa using Array.mem_of_getElem? ht
  have hall : ([129].all fun u => !Tryd.prog.wantsStandIn u) = true := by kernel_rfl
  exact (show Tryd.prog.wantsStandIn t = false by simpa using List.all_eq_true.1 hall t hm)
theorem planWiderUpto_card : Rows.PlanWiderUptoCardSaid :=
  by refine Claim7.holds_tied_plain_at .later [] _ _ _ _ row17 (fun _ h => by cases h) ?_ (fun _ h => by cases h) planWiderUpto_row_tie rfl ⟨rfl, rfl⟩ ?_ rfl plain17 ?_ <;> (as_aux_lemma => kernel_rfl)
end Go.Proofs.YtiomojlcnemnhaaDoor

/- TermApplies is proved, where what it reads is of bulk at most 1048576 (the second form; as a card, tied to the program's text): whatever input the law is given, it answers true and leaves its arguments as they were. -/
import Derived.Test.YtiomojlcnemnhaaGreatDoorAGxCardC
import Derived.Test.YtiomojlcnemnhaaGreatDoorAGxF3
namespace Go.Proofs.YtiomojlcnemnhaaGreatDoor
open Go.Fx Go.RowKit Go.Ped

theorem met3 (os : Os) : laidMet Tryz.prog laidList ((wit os).forCall (fun _ _ => 0) ⟨#[], #[.slice none 0 0, .agg #[.string ByteArray.empty, .slice none 0 0], .agg #[.string ByteArray.empty, .slice none 0 0, .slice none 0 0]], []⟩).memory := laidMet_of_run' 8 (by kernel_rfl) (by kernel_rfl)
theorem reads3 (os : Os) {H : Type} (enc : TypeId × Value → H) : ∃ places, DataW.whole enc Tryz.prog ((wit os).forCall (fun _ _ => 0) ⟨#[], #[.slice none 0 0, .agg #[.string ByteArray.empty, .slice none 0 0], .agg #[.string ByteArray.empty, .slice none 0 0, .slice none 0 0]], []⟩).memory Tryz.f3.params.toList Rows.termAppliesSpec.vars false (#[.slice none 0 0, .agg #[.string ByteArray.empty, .slice none 0 0], .agg #[.string ByteArray.empty, .slice none 0 0, .slice none 0 0]] : Array Value).toList 16 = some ([.nil, .agg [.lit (.string []), .nil], .agg [.lit (.string []), .nil, .nil]], [], places) := ⟨[], by kernel_rfl⟩

set_option maxRecDepth 100000 in
theorem lifted3 (os : Os) (started : os.Started) (H : Type) (enc : TypeId × Value → H) (F : Stop.Interp) :
    ReturnsInHanded {} Tryz.checked os 3 .any ((Rows.OpenSpec.upto Rows.termAppliesSpec).preRow enc Tryz.prog Tryz.f3 Rows.termAppliesUptoRow.domain false Rows.termAppliesUptoRow.laid) (((Rows.OpenSpec.upto Rows.termAppliesSpec).at F).post enc Tryz.prog Tryz.f3 false true false false) := by
  obtain ⟨places, hx⟩ := reads3 os enc
  refine returnsInHanded_of_row (C := Tryz.checked) (s := Rows.OpenSpec.upto Rows.termAppliesSpec) own started (by kernel_rfl) Tryz.func3
    (witness_row_at (enc := enc) (C := Tryz.checked) false (wit os) #[.slice none 0 0, .agg #[.string ByteArray.empty, .slice none 0 0], .agg #[.string ByteArray.empty, .slice none 0 0, .slice none 0 0]] rfl (by kernel_rfl) (by kernel_rfl) (by kernel_rfl)
      (OpenSpec.preRow_of_cond 16 hx (by kernel_rfl) (fun k hk => by cases hk; kernel_rfl) (by kernel_rfl) (met3 os))) ?_
  intro W base args ds gs before hval hW _ hcond _ hL _ _
  have hk := hcond _ rfl
  refine law_calls (P := Tryz.prog) (G := tab10 Tryz.prog) (N := 1048576) (fn := Tryz.f3) (s := Rows.termAppliesSpec) (ts := [22, 76, 25, 23, 73, 71, 69, 9, 2, 29, 26, 137, 135, 27, 107, 100, 101, 105, 102, 103]) (tb := 4) laidOut (by kernel_rfl) (by kernel_rfl) (by kernel_rfl) rfl Tryz.underlying4 rfl ?_ hval hW (held_list hL) (upto_bound hk) ?_
  · intro ds hd
    match ds, hd with
    | [_, _, _], _ => rfl
  · intro cs hc hb
    obtain ⟨x, cs, rfl, hx, hc⟩ := hc.head
    obtain ⟨y, cs, rfl, hy, hc⟩ := hc.head
    obtain ⟨z, cs, rfl, hz, hc⟩ := hc.head
    obtain rfl := hc.nil_left
    obtain ⟨c, e0, hx2⟩ := hx.asOne not_aggPrs
    subst e0
    obtain ⟨s, ss, h0⟩ := ty_prs hx2
    injection h0 with h0
    subst h0
    obtain ⟨a, rfl, ha⟩ := hy.asAgg Tryz.underlying25
    obtain ⟨p, l, sp, rfl⟩ := ty_atom ha
    obtain ⟨b, rfl, hb2⟩ := hz.asAgg Tryz.underlying29
    obtain ⟨r, rfl⟩ := ty_rule hb2
    have h1 := rows_len pr_bulk s
    have h2 := rows_len tm_bulk l
    have h3 := rule_terms_bulk r
    simp only [List.map_cons, List.map_nil, List.sum_cons, List.sum_nil, CX.bulk, rowBulk, C.bulk] at hb
    exact m2003 s ss p l sp r (by omega) (by omega) (rule_small r (by omega)) (by omega)

theorem row3 : Rows.TermAppliesUptoSaid :=
  OpenClaim.holds_of_cond 3 Tryz.f3 rfl rfl rfl rfl rfl rfl rfl ⟨rfl, rfl, rfl, rfl, rfl⟩ rfl rfl rfl rfl rfl f3_n Tryz.func3 j3 f3_i f3_w
    (fun os started H enc _ F => by rw [OpenClaim.pre_eq_preRow]; exact lifted3 os started H enc F)

theorem plain3 (f : FuncId) (fn : Func) (hf : Tryz.pinned.checked.prog.funcNamed "pedigree/pedigreelaw04.TermApplies" = some f) (hfn : Tryz.pinned.checked.prog.funcs[f]? = some fn) :
    true = Tryz.pinned.checked.prog.looks [] ∧ ∀ (j : Nat) t, fn.params[j]? = some t → Tryz.pinned.checked.prog.wantsStandIn t = false := by
  obtain rfl : f = 3 := Option.some.inj ((show Tryz.prog.funcNamed "pedigree/pedigreelaw04.TermApplies" = some 3 from f3_n).symm.trans hf) |>.symm
  obtain rfl : fn = Tryz.f3 := (Option.some.inj (Tryz.func3.symm.trans hfn)).symm
  refine ⟨by kernel_rfl, fun j t ht => ?_⟩
  rw [Tryz.params3] at ht
  have hm : t ∈ [22, 25, 29] := by simpa using Array.mem_of_getElem? ht
  have hall : ([22, 25, 29].all fun u => !Tryz.prog.wantsStandIn u) = true := by kernel_rfl
  exact (show Tryz.prog.wantsStandIn t = false by simpa using List.all_eq_true.1 hall t hm)

/-- THE CARD. -/
theorem termAppliesUpto_card : Rows.TermAppliesUptoCardSaid :=
  by refine Claim7.holds_tied_plain_at .later [] _ _ _ _ row3 (fun _ h => by cases h) ?_ (fun _ h => by cases h) termAppliesUpto_row_tie rfl ⟨rfl, rfl⟩ ?_ rfl plain3 ?_ <;> (as_aux_lemma => kernel_rfl)
end Go.Proofs.YtiomojlcnemnhaaGreatDoor

/- CheckOneWay is proved, where what it reads is of bulk at most 1048576 (the second form; as a card, tied to the program's text): whatever input the law is given, it answers true and leaves its arguments as they were. -/
import Derived.Test.YtiomojlcnemnhaaGreatDoorWGxP3
import Derived.Test.YtiomojlcnemnhaaGreatDoorWGxF12
import Derived.Test.YtiomojlcnemnhaaGreatDoorWGxCardK
import Derived.Test.YtiomojlcnemnhaaGreatDoorWGxQ3
namespace Go.Proofs.YtiomojlcnemnhaaGreatDoor
open Go.Fx Go.RowKit Go.Ped

theorem met12 (os : Os) : laidMet Tryz.prog laidTakes ((wit os).forCall (fun _ _ => 0) ⟨#[], #[.agg #[.string ByteArray.empty, .slice none 0 0, .slice none 0 0], .slice none 0 0], []⟩).memory := laidMet_of_run' 8 (by kernel_rfl) (by kernel_rfl)
theorem reads12 (os : Os) {H : Type} (enc : TypeId × Value → H) : ∃ places, DataW.whole enc Tryz.prog ((wit os).forCall (fun _ _ => 0) ⟨#[], #[.agg #[.string ByteArray.empty, .slice none 0 0, .slice none 0 0], .slice none 0 0], []⟩).memory Tryz.f12.params.toList Rows.checkOneWaySpec.vars false (#[.agg #[.string ByteArray.empty, .slice none 0 0, .slice none 0 0], .slice none 0 0] : Array Value).toList 16 = some ([.agg [.lit (.string []), .nil, .nil], .nil], [], places) := ⟨[], by kernel_rfl⟩

set_option maxRecDepth 100000 in
theorem lifted12 (os : Os) (started : os.Started) (H : Type) (enc : TypeId × Value → H) (F : Stop.Interp) :
    ReturnsInHanded {} Tryz.checked os 12 .any ((Rows.OpenSpec.upto Rows.checkOneWaySpec).preRow enc Tryz.prog Tryz.f12 Rows.checkOneWayUptoRow.domain false Rows.checkOneWayUptoRow.laid) (((Rows.OpenSpec.upto Rows.checkOneWaySpec).at F).post enc Tryz.prog Tryz.f12 false true false false) := by
  obtain ⟨places, hx⟩ := reads12 os enc
  refine returnsInHanded_of_row (C := Tryz.checked) (s := Rows.OpenSpec.upto Rows.checkOneWaySpec) own started (by kernel_rfl) Tryz.func12
    (witness_row_at (enc := enc) (C := Tryz.checked) false (wit os) #[.agg #[.string ByteArray.empty, .slice none 0 0, .slice none 0 0], .slice none 0 0] rfl (by kernel_rfl) (by kernel_rfl) (by kernel_rfl)
      (OpenSpec.preRow_of_cond 16 hx (by kernel_rfl) (fun k hk => by cases hk; kernel_rfl) (by kernel_rfl) (met12 os))) ?_
  intro W base args ds gs before hval hW _ hcond _ hL _ _
  have hk := hcond _ rfl
  refine law_calls (P := Tryz.prog) (G := GK) (N := 1048576) (fn := Tryz.f12) (s := Rows.checkOneWaySpec) (ts := [29, 9, 26, 137, 135, 73, 71, 69, 2, 27, 107, 100, 25, 23, 101, 105, 102, 103, 108, 210]) (tb := 4) laidOut (by kernel_rfl) (by kernel_rfl) (by kernel_rfl) rfl Tryz.underlying4 rfl ?_ hval hW (held_takes hL) (upto_bound hk) ?_
  · intro ds hd
    match ds, hd with
    | [_, _], _ => rfl
  · intro cs hc hb
    obtain ⟨x, cs, rfl, hx, hc⟩ := hc.head
    obtain ⟨y, cs, rfl, hy, hc⟩ := hc.head
    obtain rfl := hc.nil_left
    obtain ⟨a, rfl, ha⟩ := hx.asAgg Tryz.underlying29
    obtain ⟨r, rfl⟩ := ty_rule ha
    obtain ⟨c2, e0, hy2⟩ := hy.asOne not_agg25
    subst e0
    obtain ⟨bl, sb, h0⟩ := ty_binds hy2
    injection h0 with h0
    subst h0
    have h1 := rows_len tm_bulk bl
    simp only [List.map_cons, List.map_nil, List.sum_cons, List.sum_nil, CX.bulk, C.bulk] at hb
    exact m2012 r bl sb (rule_fit r (by omega)) (by omega)

theorem row12 : Rows.CheckOneWayUptoSaid :=
  OpenClaim.holds_of_cond 12 Tryz.f12 rfl rfl rfl rfl rfl rfl rfl ⟨rfl, rfl, rfl, rfl, rfl⟩ rfl rfl rfl rfl rfl f12_n Tryz.func12 j12 f12_i f12_w
    (fun os started H enc _ F => by rw [OpenClaim.pre_eq_preRow]; exact lifted12 os started H enc F)

theorem plain12 (f : FuncId) (fn : Func) (hf : Tryz.pinned.checked.prog.funcNamed "pedigree/pedigreelaw07.CheckOneWay" = some f) (hfn : Tryz.pinned.checked.prog.funcs[f]? = some fn) :
    true = Tryz.pinned.checked.prog.looks [] ∧ ∀ (j : Nat) t, fn.params[j]? = some t → Tryz.pinned.checked.prog.wantsStandIn t = false := by
  obtain rfl : f = 12 := Option.some.inj ((show Tryz.prog.funcNamed "pedigree/pedigreelaw07.CheckOneWay" = some 12 from f12_n).symm.trans hf) |>.symm
  obtain rfl : fn = Tryz.f12 := (Option.some.inj (Tryz.func12.symm.trans hfn)).symm
  refine ⟨by kernel_rfl, fun j t ht => ?_⟩
  rw [Tryz.params12] at ht
  have hm : t ∈ [29, 108] := by simpa using Array.mem_of_getElem? ht
  have hall : ([29, 108].all fun u => !Tryz.prog.wantsStandIn u) = true := by kernel_rfl
  exact (show Tryz.prog.wantsStandIn t = false by simpa using List.all_eq_true.1 hall t hm)

/-- THE CARD. -/
theorem checkOneWayUpto_card : Rows.CheckOneWayUptoCardSaid :=
  Claim7.holds_tied_plain_at .later [] _ _ _ _ row12 (fun _ h => by cases h) (by kernel_rfl) (fun _ h => by cases h) checkOneWayUpto_row_tie rfl ⟨rfl, rfl⟩ (by kernel_rfl) rfl plain12 (by kernel_rfl)
end Go.Proofs.YtiomojlcnemnhaaGreatDoor

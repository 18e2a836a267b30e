/- CheckFixed is proved, where what it reads is of bulk at most 1048576 (the second form; as a card, tied to the program's text): whatever input the law is given, it answers true and leaves its arguments as they were. -/
import Derived.Test.YtiomojlcnemnhaaGreatDoorGxQ4
import Derived.Test.YtiomojlcnemnhaaGreatDoorGxF11
namespace Go.Proofs.YtiomojlcnemnhaaGreatDoor
open Go.Fx Go.RowKit Go.Ped

theorem met11 (os : Os) : laidMet Tryz.prog laidList ((wit os).forCall (fun _ _ => 0) ⟨#[], #[.slice none 0 0], []⟩).memory := laidMet_of_run' 8 (by kernel_rfl) (by kernel_rfl)
theorem reads11 (os : Os) {H : Type} (enc : TypeId × Value → H) : ∃ places, DataW.whole enc Tryz.prog ((wit os).forCall (fun _ _ => 0) ⟨#[], #[.slice none 0 0], []⟩).memory Tryz.f11.params.toList Rows.checkFixedSpec.vars false (#[.slice none 0 0] : Array Value).toList 16 = some ([.nil], [], places) := ⟨[], by kernel_rfl⟩

set_option maxRecDepth 100000 in
theorem lifted11 (os : Os) (started : os.Started) (H : Type) (enc : TypeId × Value → H) (F : Stop.Interp) :
    ReturnsInHanded {} Tryz.checked os 11 .any ((Rows.OpenSpec.upto Rows.checkFixedSpec).preRow enc Tryz.prog Tryz.f11 Rows.checkFixedUptoRow.domain false Rows.checkFixedUptoRow.laid) (((Rows.OpenSpec.upto Rows.checkFixedSpec).at F).post enc Tryz.prog Tryz.f11 false true false false) := by
  obtain ⟨places, hx⟩ := reads11 os enc
  refine returnsInHanded_of_row (C := Tryz.checked) (s := Rows.OpenSpec.upto Rows.checkFixedSpec) own started (by kernel_rfl) Tryz.func11
    (witness_row_at (enc := enc) (C := Tryz.checked) false (wit os) #[.slice none 0 0] rfl (by kernel_rfl) (by kernel_rfl) (by kernel_rfl)
      (OpenSpec.preRow_of_cond 16 hx (by kernel_rfl) (fun k hk => by cases hk; kernel_rfl) (by kernel_rfl) (met11 os))) ?_
  intro W base args ds gs before hval hW _ hcond _ hL _ _
  have hk := hcond _ rfl
  refine law_calls (P := Tryz.prog) (G := tab10 Tryz.prog) (N := 1048576) (fn := Tryz.f11) (s := Rows.checkFixedSpec) (ts := [27, 107, 100, 25, 9, 23, 73, 71, 69, 2, 101, 105, 102, 103]) (tb := 4) laidOut (by kernel_rfl) (by kernel_rfl) (by kernel_rfl) rfl Tryz.underlying4 rfl ?_ hval hW (held_list hL) (upto_bound hk) ?_
  · intro ds hd
    match ds, hd with
    | [_], _ => rfl
  · intro cs hc hb
    obtain ⟨x, cs, rfl, hx, hc⟩ := hc.head
    obtain rfl := hc.nil_left
    obtain ⟨c, e0, hy⟩ := hx.asOne not_agg78
    subst e0
    obtain ⟨es, sp, he, hes, _⟩ := hy.asSlice Tryz.underlying27
    injection he with he
    subst he
    obtain ⟨l, rfl⟩ := list_of (row := Lit.row) (es := es) fun x hx => ty_lit (hes x (List.mem_append_left _ hx))
    simp only [List.map_cons, List.map_nil, List.sum_cons, List.sum_nil, CX.bulk, C.bulk] at hb
    exact m2011b l sp (by omega)

theorem row11 : Rows.CheckFixedUptoSaid :=
  OpenClaim.holds_of_cond 11 Tryz.f11 rfl rfl rfl rfl rfl rfl rfl ⟨rfl, rfl, rfl, rfl, rfl⟩ rfl rfl rfl rfl rfl f11_n Tryz.func11 j11 f11_i f11_w
    (fun os started H enc _ F => by rw [OpenClaim.pre_eq_preRow]; exact lifted11 os started H enc F)

theorem plain11 (f : FuncId) (fn : Func) (hf : Tryz.pinned.checked.prog.funcNamed "pedigree/pedigreelaw07.CheckFixed" = some f) (hfn : Tryz.pinned.checked.prog.funcs[f]? = some fn) :
    true = Tryz.pinned.checked.prog.looks [] ∧ ∀ (j : Nat) t, fn.params[j]? = some t → Tryz.pinned.checked.prog.wantsStandIn t = false := by
  obtain rfl : f = 11 := Option.some.inj ((show Tryz.prog.funcNamed "pedigree/pedigreelaw07.CheckFixed" = some 11 from f11_n).symm.trans hf) |>.symm
  obtain rfl : fn = Tryz.f11 := (Option.some.inj (Tryz.func11.symm.trans hfn)).symm
  refine ⟨by kernel_rfl, fun j t ht => ?_⟩
  rw [Tryz.params11] at ht
  have hm : t ∈ [27] := by simpa using Array.mem_of_getElem? ht
  have hall : ([27].all fun u => !Tryz.prog.wantsStandIn u) = true := by kernel_rfl
  exact (show Tryz.prog.wantsStandIn t = false by simpa using List.all_eq_true.1 hall t hm)

/-- THE CARD. -/
theorem checkFixedUpto_card : Rows.CheckFixedUptoCardSaid :=
  Claim7.holds_tied_plain_at .later [] _ _ _ _ row11 (fun _ h => by cases h) (by kernel_rfl) (fun _ h => by cases h) checkFixedUpto_row_tie rfl ⟨rfl, rfl⟩ (by kernel_rfl) rfl plain11 (by kernel_rfl)
end Go.Proofs.YtiomojlcnemnhaaGreatDoor

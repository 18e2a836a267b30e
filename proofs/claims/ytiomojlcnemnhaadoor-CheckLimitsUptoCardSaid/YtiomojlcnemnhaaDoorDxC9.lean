/- CheckLimits is proved, where what it reads is of bulk at most 1048576 (the second form; as a card, tied to the program's text): whatever input the law is given, it answers true and leaves its arguments as they were. -/
import Derived.Test.YtiomojlcnemnhaaDoorDxZ5
import Derived.Test.YtiomojlcnemnhaaDoorDxF9
namespace Go.Proofs.YtiomojlcnemnhaaDoor
open Go.Fx Go.RowKit Go.Ped

theorem met9 (os : Os) : laidMet Tryd.prog laidList ((wit os).forCall (fun _ _ => 0) ⟨#[], #[.slice none 0 0], []⟩).memory := laidMet_of_run' 8 (by kernel_rfl) (by kernel_rfl)
theorem reads9 (os : Os) {H : Type} (enc : TypeId × Value → H) : ∃ places, DataW.whole enc Tryd.prog ((wit os).forCall (fun _ _ => 0) ⟨#[], #[.slice none 0 0], []⟩).memory Tryd.f9.params.toList Rows.checkLimitsSpec.vars false (#[.slice none 0 0] : Array Value).toList 16 = some ([.nil], [], places) := ⟨[], by kernel_rfl⟩

set_option maxRecDepth 100000 in
theorem lifted9 (os : Os) (started : os.Started) (H : Type) (enc : TypeId × Value → H) (F : Stop.Interp) :
    ReturnsInHanded {} Tryd.checked os 9 .any ((Rows.OpenSpec.upto Rows.checkLimitsSpec).preRow enc Tryd.prog Tryd.f9 Rows.checkLimitsUptoRow.domain false Rows.checkLimitsUptoRow.laid) (((Rows.OpenSpec.upto Rows.checkLimitsSpec).at F).post enc Tryd.prog Tryd.f9 false true false false) := by
  obtain ⟨places, hx⟩ := reads9 os enc
  refine returnsInHanded_of_row (C := Tryd.checked) (s := Rows.OpenSpec.upto Rows.checkLimitsSpec) own started (by kernel_rfl) Tryd.func9
    (witness_row_at (enc := enc) (C := Tryd.checked) false (wit os) #[.slice none 0 0] rfl (by kernel_rfl) (by kernel_rfl) (by kernel_rfl)
      (OpenSpec.preRow_of_cond 16 hx (by kernel_rfl) (fun k hk => by cases hk; kernel_rfl) (by kernel_rfl) (met9 os))) ?_
  intro W base args ds gs before hval hW _ hcond _ hL _ _
  have hk := hcond _ rfl
  refine law_calls (P := Tryd.prog) (G := tab10 Tryd.prog) (N := 1048576) (fn := Tryd.f9) (s := Rows.checkLimitsSpec) (ts := [78, 88, 85, 24, 9, 22, 41, 39, 37, 2, 86, 47, 44, 45]) (tb := 4) laidOut (by kernel_rfl) (by kernel_rfl) (by kernel_rfl) rfl Tryd.underlying4 rfl ?_ hval hW (held_list hL) (upto_bound hk) ?_
  · intro ds hd
    match ds, hd with
    | [_], _ => rfl
  · intro cs hc hb
    obtain ⟨x, cs, rfl, hx, hc⟩ := hc.head
    obtain rfl := hc.nil_left
    obtain ⟨c, e0, hy⟩ := hx.asOne not_agg78
    subst e0
    obtain ⟨es, sp, he, hes, _⟩ := hy.asSlice Tryd.underlying78
    injection he with he
    subst he
    obtain ⟨l, rfl⟩ := list_of (row := Lit.row) (es := es) fun x hx => ty_lit (hes x (List.mem_append_left _ hx))
    simp only [List.map_cons, List.map_nil, List.sum_cons, List.sum_nil, CX.bulk, C.bulk] at hb
    exact m9b l sp (by omega)

theorem row9 : Rows.CheckLimitsUptoSaid :=
  OpenClaim.holds_of_cond 9 Tryd.f9 rfl rfl rfl rfl rfl rfl rfl ⟨rfl, rfl, rfl, rfl, rfl⟩ rfl rfl rfl rfl rfl f9_n Tryd.func9 j9 f9_i f9_w
    (fun os started H enc _ F => by rw [OpenClaim.pre_eq_preRow]; exact lifted9 os started H enc F)

theorem plain9 (f : FuncId) (fn : Func) (hf : Tryd.pinned.checked.prog.funcNamed "pedigree/pedigreelaw07.CheckLimits" = some f) (hfn : Tryd.pinned.checked.prog.funcs[f]? = some fn) :
    true = Tryd.pinned.checked.prog.looks [] ∧ ∀ (j : Nat) t, fn.params[j]? = some t → Tryd.pinned.checked.prog.wantsStandIn t = false := by
  obtain rfl : f = 9 := Option.some.inj ((show Tryd.prog.funcNamed "pedigree/pedigreelaw07.CheckLimits" = some 9 from f9_n).symm.trans hf) |>.symm
  obtain rfl : fn = Tryd.f9 := (Option.some.inj (Tryd.func9.symm.trans hfn)).symm
  refine ⟨by kernel_rfl, fun j t ht => ?_⟩
  rw [Tryd.params9] at ht
  have hm : t ∈ [78] := by simpa using Array.mem_of_getElem? ht
  have hall : ([78].all fun u => !Tryd.prog.wantsStandIn u) = true := by kernel_rfl
  exact (show Tryd.prog.wantsStandIn t = false by simpa using List.all_eq_true.1 hall t hm)

/-- THE CARD. -/
theorem checkLimitsUpto_card : Rows.CheckLimitsUptoCardSaid :=
  Claim7.holds_tied_plain_at .later [] _ _ _ _ row9 (fun _ h => by cases h) (by kernel_rfl) (fun _ h => by cases h) checkLimitsUpto_row_tie rfl ⟨rfl, rfl⟩ (by kernel_rfl) rfl plain9 (by kernel_rfl)
end Go.Proofs.YtiomojlcnemnhaaDoor

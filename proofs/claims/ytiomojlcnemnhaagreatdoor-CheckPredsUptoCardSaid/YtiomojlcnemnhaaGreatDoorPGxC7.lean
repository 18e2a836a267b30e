/- CheckPreds is proved, where what it reads is of bulk at most 1048576 (the second form; as a card, tied to the program's text): whatever input the law is given, it answers true and leaves its arguments as they were. -/
import Derived.Test.YtiomojlcnemnhaaGreatDoorPGxF7
namespace Go.Proofs.YtiomojlcnemnhaaGreatDoor
open Go.Fx Go.RowKit Go.Ped

theorem met7 (os : Os) : laidMet Tryz.prog laidList ((wit os).forCall (fun _ _ => 0) ⟨#[], #[.agg #[.slice none 0 0], .slice none 0 0], []⟩).memory := laidMet_of_run' 8 (by kernel_rfl) (by kernel_rfl)
theorem reads7 (os : Os) {H : Type} (enc : TypeId × Value → H) : ∃ places, DataW.whole enc Tryz.prog ((wit os).forCall (fun _ _ => 0) ⟨#[], #[.agg #[.slice none 0 0], .slice none 0 0], []⟩).memory Tryz.f7.params.toList Rows.checkPredsSpec.vars false (#[.agg #[.slice none 0 0], .slice none 0 0] : Array Value).toList 16 = some ([.agg [.nil], .nil], [], places) := ⟨[], by kernel_rfl⟩

set_option maxRecDepth 100000 in
theorem lifted7 (os : Os) (started : os.Started) (H : Type) (enc : TypeId × Value → H) (F : Stop.Interp) :
    ReturnsInHanded {} Tryz.checked os 7 .any ((Rows.OpenSpec.upto Rows.checkPredsSpec).preRow enc Tryz.prog Tryz.f7 Rows.checkPredsUptoRow.domain false Rows.checkPredsUptoRow.laid) (((Rows.OpenSpec.upto Rows.checkPredsSpec).at F).post enc Tryz.prog Tryz.f7 false true false false) := by
  obtain ⟨places, hx⟩ := reads7 os enc
  refine returnsInHanded_of_row (C := Tryz.checked) (s := Rows.OpenSpec.upto Rows.checkPredsSpec) own started (by kernel_rfl) Tryz.func7
    (witness_row_at (enc := enc) (C := Tryz.checked) false (wit os) #[.agg #[.slice none 0 0], .slice none 0 0] rfl (by kernel_rfl) (by kernel_rfl) (by kernel_rfl)
      (OpenSpec.preRow_of_cond 16 hx (by kernel_rfl) (fun k hk => by cases hk; kernel_rfl) (by kernel_rfl) (met7 os))) ?_
  intro W base args ds gs before hval hW _ hcond _ hL _ _
  have hk := hcond _ rfl
  refine law_calls (P := Tryz.prog) (G := tab10 Tryz.prog) (N := 1048576) (fn := Tryz.f7) (s := Rows.checkPredsSpec) (ts := [47, 44, 29, 9, 26, 137, 135, 73, 71, 69, 2, 27, 107, 100, 25, 23, 101, 105, 102, 103, 48, 147, 145]) (tb := 4) laidOut (by kernel_rfl) (by kernel_rfl) (by kernel_rfl) rfl Tryz.underlying4 rfl ?_ hval hW (held_list hL) (upto_bound hk) ?_
  · intro ds hd
    match ds, hd with
    | [_, _], _ => rfl
  · intro cs hc hb
    obtain ⟨x, cs, rfl, hx, hc⟩ := hc.head
    obtain ⟨y, cs, rfl, hy, hc⟩ := hc.head
    obtain rfl := hc.nil_left
    obtain ⟨a, rfl, ha⟩ := hx.asAgg Tryz.underlying47
    obtain ⟨rules, sp, rfl, hr⟩ := ty_prog' ha
    obtain ⟨c2, e0, hy2⟩ := hy.asOne not_agg2048
    subst e0
    obtain ⟨facts, sq, he, hf⟩ := ty_fcs' hy2
    injection he with he
    subst he
    simp only [List.map_cons, List.map_nil, List.sum_cons, List.sum_nil, CX.bulk, rowBulk, C.bulk] at hb
    exact m2007 rules sp facts sq (job_fit (by omega) (by omega) hr hf)

theorem row7 : Rows.CheckPredsUptoSaid :=
  OpenClaim.holds_of_cond 7 Tryz.f7 rfl rfl rfl rfl rfl rfl rfl ⟨rfl, rfl, rfl, rfl, rfl⟩ rfl rfl rfl rfl rfl f7_n Tryz.func7 j7 f7_i f7_w
    (fun os started H enc _ F => by rw [OpenClaim.pre_eq_preRow]; exact lifted7 os started H enc F)

theorem plain7 (f : FuncId) (fn : Func) (hf : Tryz.pinned.checked.prog.funcNamed "pedigree/pedigreelaw07.CheckPreds" = some f) (hfn : Tryz.pinned.checked.prog.funcs[f]? = some fn) :
    true = Tryz.pinned.checked.prog.looks [] ∧ ∀ (j : Nat) t, fn.params[j]? = some t → Tryz.pinned.checked.prog.wantsStandIn t = false := by
  obtain rfl : f = 7 := Option.some.inj ((show Tryz.prog.funcNamed "pedigree/pedigreelaw07.CheckPreds" = some 7 from f7_n).symm.trans hf) |>.symm
  obtain rfl : fn = Tryz.f7 := (Option.some.inj (Tryz.func7.symm.trans hfn)).symm
  refine ⟨by kernel_rfl, fun j t ht => ?_⟩
  rw [Tryz.params7] at ht
  have hm : t ∈ [47, 48] := by simpa using Array.mem_of_getElem? ht
  have hall : ([47, 48].all fun u => !Tryz.prog.wantsStandIn u) = true := by kernel_rfl
  exact (show Tryz.prog.wantsStandIn t = false by simpa using List.all_eq_true.1 hall t hm)

/-- THE CARD. -/
theorem checkPredsUpto_card : Rows.CheckPredsUptoCardSaid :=
  Claim7.holds_tied_plain_at .later [] _ _ _ _ row7 (fun _ h => by cases h) (by kernel_rfl) (fun _ h => by cases h) checkPredsUpto_row_tie rfl ⟨rfl, rfl⟩ (by kernel_rfl) rfl plain7 (by kernel_rfl)
end Go.Proofs.YtiomojlcnemnhaaGreatDoor

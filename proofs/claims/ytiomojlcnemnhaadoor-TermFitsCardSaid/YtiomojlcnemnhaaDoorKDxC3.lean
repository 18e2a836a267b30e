/- TermFits is proved (as a card, tied to the program's text): whatever input the law is given, it answers true and leaves its arguments as they were. -/
import Derived.Test.YtiomojlcnemnhaaDoorKDxW8
import Derived.Test.YtiomojlcnemnhaaDoorKDxF3
import Derived.Test.YtiomojlcnemnhaaDoorKDxCardK
namespace Go.Proofs.YtiomojlcnemnhaaDoor
open Go.Fx Go.RowKit Go.Ped

theorem met3 (os : Os) : laidMet Tryd.prog laidTakes ((wit os).forCall (fun _ _ => 0) ⟨#[], #[.agg #[.string ByteArray.empty, .slice none 0 0], .slice none 0 0, .agg #[.string ByteArray.empty, .slice none 0 0]], []⟩).memory := laidMet_of_run' 8 (by kernel_rfl) (by kernel_rfl)
theorem reads3 (os : Os) {H : Type} (enc : TypeId × Value → H) : ∃ places, DataW.whole enc Tryd.prog ((wit os).forCall (fun _ _ => 0) ⟨#[], #[.agg #[.string ByteArray.empty, .slice none 0 0], .slice none 0 0, .agg #[.string ByteArray.empty, .slice none 0 0]], []⟩).memory Tryd.f3.params.toList Rows.termFitsSpec.vars false (#[.agg #[.string ByteArray.empty, .slice none 0 0], .slice none 0 0, .agg #[.string ByteArray.empty, .slice none 0 0]] : Array Value).toList 16 = some ([.agg [.lit (.string []), .nil], .nil, .agg [.lit (.string []), .nil]], [], places) := ⟨[], by kernel_rfl⟩

set_option maxRecDepth 100000 in
theorem lifted3 (os : Os) (started : os.Started) (H : Type) (enc : TypeId × Value → H) (F : Stop.Interp) :
    ReturnsInHanded {} Tryd.checked os 3 .any ((OpenSpec.ofChange Rows.termFitsSpec).preRow enc Tryd.prog Tryd.f3 Rows.termFitsRow.domain false Rows.termFitsRow.laid) (((OpenSpec.ofChange Rows.termFitsSpec).at F).post enc Tryd.prog Tryd.f3 false true false false) := by
  obtain ⟨places, hx⟩ := reads3 os enc
  refine returnsInHanded_of_row (C := Tryd.checked) (s := OpenSpec.ofChange Rows.termFitsSpec) own started (by kernel_rfl) Tryd.func3
    (witness_row_at (enc := enc) (C := Tryd.checked) false (wit os) #[.agg #[.string ByteArray.empty, .slice none 0 0], .slice none 0 0, .agg #[.string ByteArray.empty, .slice none 0 0]] rfl (by kernel_rfl) (by kernel_rfl) (by kernel_rfl)
      (OpenSpec.preRow_of_cond 16 hx (by kernel_rfl) (fun k hk => by cases hk) (by kernel_rfl) (met3 os))) ?_
  intro W base args ds gs before hval hW _ _ _ hL _ _
  refine law_calls (P := Tryd.prog) (G := GK) (N := bulkDs ds) (fn := Tryd.f3) (s := Rows.termFitsSpec) (ts := [24, 22, 41, 39, 37, 9, 2, 25, 54, 28, 26]) (tb := 4) laidOut (by kernel_rfl) (by kernel_rfl) (by kernel_rfl) rfl Tryd.underlying4 rfl ?_ hval hW (held_takes hL) (Nat.le_refl _) ?_
  · intro ds hd
    match ds, hd with
    | [_, _, _], _ => rfl
  · intro cs hc _
    obtain ⟨x, cs, rfl, hx, hc⟩ := hc.head
    obtain ⟨y, cs, rfl, hy, hc⟩ := hc.head
    obtain ⟨z, cs, rfl, hz, hc⟩ := hc.head
    obtain rfl := hc.nil_left
    obtain ⟨a, rfl, ha⟩ := hx.asAgg Tryd.underlying24
    obtain ⟨b, rfl, hb2⟩ := hz.asAgg Tryd.underlying28
    obtain ⟨p, l, sp, rfl, h1⟩ := ty_atomN ha
    obtain ⟨q, m, sq, rfl⟩ := ty_fact hb2
    obtain ⟨c3, e0, hy2⟩ := hy.asOne not_agg25
    subst e0
    obtain ⟨bl, sb, he, h3⟩ := ty_bindsN hy2
    injection he with he
    subst he
    exact m3 p q l sp bl sb m sq h1 h3

theorem row3 : Rows.TermFitsSaid :=
  OpenClaim.holds_of_cond 3 Tryd.f3 rfl rfl rfl rfl rfl rfl rfl ⟨rfl, rfl, rfl, rfl, rfl⟩ rfl rfl rfl rfl rfl f3_n Tryd.func3 j3 f3_i f3_w
    (fun os started H enc _ F => by rw [OpenClaim.pre_eq_preRow]; exact lifted3 os started H enc F)

theorem plain3 (f : FuncId) (fn : Func) (hf : Tryd.pinned.checked.prog.funcNamed "pedigree/pedigreelaw04.TermFits" = some f) (hfn : Tryd.pinned.checked.prog.funcs[f]? = some fn) :
    true = Tryd.pinned.checked.prog.looks [] ∧ ∀ (j : Nat) t, fn.params[j]? = some t → Tryd.pinned.checked.prog.wantsStandIn t = false := by
  obtain rfl : f = 3 := Option.some.inj ((show Tryd.prog.funcNamed "pedigree/pedigreelaw04.TermFits" = some 3 from f3_n).symm.trans hf) |>.symm
  obtain rfl : fn = Tryd.f3 := (Option.some.inj (Tryd.func3.symm.trans hfn)).symm
  refine ⟨by kernel_rfl, fun j t ht => ?_⟩
  rw [Tryd.params3] at ht
  have hm : t ∈ [24, 25, 28] := by simpa using Array.mem_of_getElem? ht
  have hall : ([24, 25, 28].all fun u => !Tryd.prog.wantsStandIn u) = true := by kernel_rfl
  exact (show Tryd.prog.wantsStandIn t = false by simpa using List.all_eq_true.1 hall t hm)

/-- THE CARD. -/
theorem termFits_card : Rows.TermFitsCardSaid :=
  Claim7.holds_tied_plain_at .later [] _ _ _ _ row3 (fun _ h => by cases h) (by kernel_rfl) (fun _ h => by cases h) termFits_row_tie rfl ⟨rfl, rfl⟩ (by kernel_rfl) rfl plain3 (by kernel_rfl)
end Go.Proofs.YtiomojlcnemnhaaDoor

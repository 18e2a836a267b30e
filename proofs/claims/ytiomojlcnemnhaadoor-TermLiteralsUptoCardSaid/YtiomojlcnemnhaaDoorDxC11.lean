/- TermLiterals is proved, where what it reads is of bulk at most 1048576 (the second form; as a card, tied to the program's text): whatever input the law is given, it answers true and leaves its arguments as they were. -/
import Derived.Test.YtiomojlcnemnhaaDoorDxX13
import Derived.Test.YtiomojlcnemnhaaDoorDxF11
namespace Go.Proofs.YtiomojlcnemnhaaDoor
open Go.Fx Go.RowKit Go.Ped

theorem met11 (os : Os) : laidMet Tryd.prog laidList ((wit os).forCall (fun _ _ => 0) ⟨#[], #[.agg #[.int .i8 0, .string ByteArray.empty, .slice none 0 0, .int .i8 0, .int .i8 0, .string ByteArray.empty, .int .i8 0, .int .i64 0, .string ByteArray.empty, .slice none 0 0, .int .i8 0, .string ByteArray.empty, .int .i8 0, .int .i64 0, .string ByteArray.empty, .slice none 0 0]], []⟩).memory := laidMet_of_run' 8 (by kernel_rfl) (by kernel_rfl)
theorem reads11 (os : Os) {H : Type} (enc : TypeId × Value → H) : ∃ places, DataW.whole enc Tryd.prog ((wit os).forCall (fun _ _ => 0) ⟨#[], #[.agg #[.int .i8 0, .string ByteArray.empty, .slice none 0 0, .int .i8 0, .int .i8 0, .string ByteArray.empty, .int .i8 0, .int .i64 0, .string ByteArray.empty, .slice none 0 0, .int .i8 0, .string ByteArray.empty, .int .i8 0, .int .i64 0, .string ByteArray.empty, .slice none 0 0]], []⟩).memory Tryd.f11.params.toList Rows.termLiteralsSpec.vars false (#[.agg #[.int .i8 0, .string ByteArray.empty, .slice none 0 0, .int .i8 0, .int .i8 0, .string ByteArray.empty, .int .i8 0, .int .i64 0, .string ByteArray.empty, .slice none 0 0, .int .i8 0, .string ByteArray.empty, .int .i8 0, .int .i64 0, .string ByteArray.empty, .slice none 0 0]] : Array Value).toList 16 = some ([.agg [.lit (.int .i8 0), .agg [.lit (.string []), .nil], .lit (.int .i8 0), .agg [.lit (.int .i8 0), .agg [.lit (.string []), .agg [.lit (.int .i8 0), .lit (.int .i64 0), .lit (.string [])]], .nil], .agg [.lit (.int .i8 0), .agg [.lit (.string []), .agg [.lit (.int .i8 0), .lit (.int .i64 0), .lit (.string [])]], .nil]]], [], places) := ⟨[], by kernel_rfl⟩

set_option maxRecDepth 100000 in
theorem lifted11 (os : Os) (started : os.Started) (H : Type) (enc : TypeId × Value → H) (F : Stop.Interp) :
    ReturnsInHanded {} Tryd.checked os 11 .any ((Rows.OpenSpec.upto Rows.termLiteralsSpec).preRow enc Tryd.prog Tryd.f11 Rows.termLiteralsUptoRow.domain false Rows.termLiteralsUptoRow.laid) (((Rows.OpenSpec.upto Rows.termLiteralsSpec).at F).post enc Tryd.prog Tryd.f11 false true false false) := by
  obtain ⟨places, hx⟩ := reads11 os enc
  refine returnsInHanded_of_row (C := Tryd.checked) (s := Rows.OpenSpec.upto Rows.termLiteralsSpec) own started (by kernel_rfl) Tryd.func11
    (witness_row_at (enc := enc) (C := Tryd.checked) false (wit os) #[.agg #[.int .i8 0, .string ByteArray.empty, .slice none 0 0, .int .i8 0, .int .i8 0, .string ByteArray.empty, .int .i8 0, .int .i64 0, .string ByteArray.empty, .slice none 0 0, .int .i8 0, .string ByteArray.empty, .int .i8 0, .int .i64 0, .string ByteArray.empty, .slice none 0 0]] rfl (by kernel_rfl) (by kernel_rfl) (by kernel_rfl)
      (OpenSpec.preRow_of_cond 16 hx (by kernel_rfl) (fun k hk => by cases hk; kernel_rfl) (by kernel_rfl) (met11 os))) ?_
  intro W base args ds gs before hval hW _ hcond _ hL _ _
  have hk := hcond _ rfl
  refine law_calls (P := Tryd.prog) (G := tab10 Tryd.prog) (N := 1048576) (fn := Tryd.f11) (s := Rows.termLiteralsSpec) (ts := [88, 85, 24, 9, 22, 41, 39, 37, 2, 86, 47, 44, 45]) (tb := 4) laidOut (by kernel_rfl) (by kernel_rfl) (by kernel_rfl) rfl Tryd.underlying4 rfl ?_ hval hW (held_list hL) (upto_bound hk) ?_
  · intro ds hd
    match ds, hd with
    | [_], _ => rfl
  · intro cs hc hb
    obtain ⟨x, cs, rfl, hx, hc⟩ := hc.head
    obtain rfl := hc.nil_left
    obtain ⟨a, rfl, ha⟩ := hx.asAgg Tryd.underlying88
    obtain ⟨y, rfl⟩ := ty_lit ha
    have h1 := lit_terms_bulk y
    simp only [List.map_cons, List.map_nil, List.sum_cons, List.sum_nil, CX.bulk] at hb
    exact m11 y (lit_small y (by omega)) (by omega)

theorem row11 : Rows.TermLiteralsUptoSaid :=
  OpenClaim.holds_of_cond 11 Tryd.f11 rfl rfl rfl rfl rfl rfl rfl ⟨rfl, rfl, rfl, rfl, rfl⟩ rfl rfl rfl rfl rfl f11_n Tryd.func11 j11 f11_i f11_w
    (fun os started H enc _ F => by rw [OpenClaim.pre_eq_preRow]; exact lifted11 os started H enc F)

theorem plain11 (f : FuncId) (fn : Func) (hf : Tryd.pinned.checked.prog.funcNamed "pedigree/pedigreelaw04.TermLiterals" = some f) (hfn : Tryd.pinned.checked.prog.funcs[f]? = some fn) :
    true = Tryd.pinned.checked.prog.looks [] ∧ ∀ (j : Nat) t, fn.params[j]? = some t → Tryd.pinned.checked.prog.wantsStandIn t = false := by
  obtain rfl : f = 11 := Option.some.inj ((show Tryd.prog.funcNamed "pedigree/pedigreelaw04.TermLiterals" = some 11 from f11_n).symm.trans hf) |>.symm
  obtain rfl : fn = Tryd.f11 := (Option.some.inj (Tryd.func11.symm.trans hfn)).symm
  refine ⟨by kernel_rfl, fun j t ht => ?_⟩
  rw [Tryd.params11] at ht
  have hm : t ∈ [88] := by simpa using Array.mem_of_getElem? ht
  have hall : ([88].all fun u => !Tryd.prog.wantsStandIn u) = true := by kernel_rfl
  exact (show Tryd.prog.wantsStandIn t = false by simpa using List.all_eq_true.1 hall t hm)

/-- THE CARD. -/
theorem termLiteralsUpto_card : Rows.TermLiteralsUptoCardSaid :=
  Claim7.holds_tied_plain_at .later [] _ _ _ _ row11 (fun _ h => by cases h) (by kernel_rfl) (fun _ h => by cases h) termLiteralsUpto_row_tie rfl ⟨rfl, rfl⟩ (by kernel_rfl) rfl plain11 (by kernel_rfl)
end Go.Proofs.YtiomojlcnemnhaaDoor

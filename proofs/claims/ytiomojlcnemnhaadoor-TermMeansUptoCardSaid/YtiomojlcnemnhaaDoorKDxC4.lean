/- TermMeans is proved, where what it reads is of bulk at most 1048576 (the second form; as a card, tied to the program's text): whatever input the law is given, it answers true and leaves its arguments as they were. -/
import Derived.Test.YtiomojlcnemnhaaDoorKDxHg
import Derived.Test.YtiomojlcnemnhaaDoorKDxF4
import Derived.Test.YtiomojlcnemnhaaDoorKDxCardK
namespace Go.Proofs.YtiomojlcnemnhaaDoor
open Go.Fx Go.RowKit Go.Ped

theorem met4 (os : Os) : laidMet Tryd.prog laidTakes ((wit os).forCall (fun _ _ => 0) ⟨#[], #[.agg #[.int .i8 0, .string ByteArray.empty, .int .i8 0, .int .i64 0, .string ByteArray.empty, .slice none 0 0], .slice none 0 0, .slice none 0 0], []⟩).memory := laidMet_of_run' 8 (by kernel_rfl) (by kernel_rfl)
theorem reads4 (os : Os) {H : Type} (enc : TypeId × Value → H) : ∃ places, DataW.whole enc Tryd.prog ((wit os).forCall (fun _ _ => 0) ⟨#[], #[.agg #[.int .i8 0, .string ByteArray.empty, .int .i8 0, .int .i64 0, .string ByteArray.empty, .slice none 0 0], .slice none 0 0, .slice none 0 0], []⟩).memory Tryd.f4.params.toList Rows.termMeansSpec.vars false (#[.agg #[.int .i8 0, .string ByteArray.empty, .int .i8 0, .int .i64 0, .string ByteArray.empty, .slice none 0 0], .slice none 0 0, .slice none 0 0] : Array Value).toList 16 = some ([.agg [.lit (.int .i8 0), .agg [.lit (.string []), .agg [.lit (.int .i8 0), .lit (.int .i64 0), .lit (.string [])]], .nil], .nil, .nil], [], places) := ⟨[], by kernel_rfl⟩

set_option maxRecDepth 100000 in
theorem lifted4 (os : Os) (started : os.Started) (H : Type) (enc : TypeId × Value → H) (F : Stop.Interp) :
    ReturnsInHanded {} Tryd.checked os 4 .any ((Rows.OpenSpec.upto Rows.termMeansSpec).preRow enc Tryd.prog Tryd.f4 Rows.termMeansUptoRow.domain false Rows.termMeansUptoRow.laid) (((Rows.OpenSpec.upto Rows.termMeansSpec).at F).post enc Tryd.prog Tryd.f4 false true false false) := by
  obtain ⟨places, hx⟩ := reads4 os enc
  refine returnsInHanded_of_row (C := Tryd.checked) (s := Rows.OpenSpec.upto Rows.termMeansSpec) own started (by kernel_rfl) Tryd.func4
    (witness_row_at (enc := enc) (C := Tryd.checked) false (wit os) #[.agg #[.int .i8 0, .string ByteArray.empty, .int .i8 0, .int .i64 0, .string ByteArray.empty, .slice none 0 0], .slice none 0 0, .slice none 0 0] rfl (by kernel_rfl) (by kernel_rfl) (by kernel_rfl)
      (OpenSpec.preRow_of_cond 16 hx (by kernel_rfl) (fun k hk => by cases hk; kernel_rfl) (by kernel_rfl) (met4 os))) ?_
  intro W base args ds gs before hval hW _ hcond _ hL _ _
  have hk := hcond _ rfl
  refine law_calls (P := Tryd.prog) (G := GK) (N := 1048576) (fn := Tryd.f4) (s := Rows.termMeansSpec) (ts := [47, 44, 41, 9, 39, 37, 2, 45, 25, 54]) (tb := 4) laidOut (by kernel_rfl) (by kernel_rfl) (by kernel_rfl) rfl Tryd.underlying4 rfl ?_ hval hW (held_takes hL) (upto_bound hk) ?_
  · intro ds hd
    match ds, hd with
    | [_, _, _], _ => rfl
  · intro cs hc hb
    obtain ⟨x, cs, rfl, hx, hc⟩ := hc.head
    obtain ⟨y, cs, rfl, hy, hc⟩ := hc.head
    obtain ⟨z, cs, rfl, hz, hc⟩ := hc.head
    obtain rfl := hc.nil_left
    obtain ⟨a, rfl, ha⟩ := hx.asAgg Tryd.underlying47
    obtain ⟨e, rfl⟩ := ty_ex ha
    obtain ⟨c2, e0, hy2⟩ := hy.asOne not_agg25
    subst e0
    obtain ⟨bl, sb, h0⟩ := ty_binds hy2
    injection h0 with h0
    subst h0
    obtain ⟨c3, e0, hz2⟩ := hz.asOne not_agg25
    subst e0
    obtain ⟨ml, sm, h0⟩ := ty_binds hz2
    injection h0 with h0
    subst h0
    have h1 := rows_len tm_bulk bl
    have h2 := rows_len tm_bulk ml
    have h3 := ex_terms_bulk e
    simp only [List.map_cons, List.map_nil, List.sum_cons, List.sum_nil, CX.bulk, C.bulk] at hb
    exact m4 e bl sb ml sm (ex_small e (by omega)) (by omega) (by omega)

theorem row4 : Rows.TermMeansUptoSaid :=
  OpenClaim.holds_of_cond 4 Tryd.f4 rfl rfl rfl rfl rfl rfl rfl ⟨rfl, rfl, rfl, rfl, rfl⟩ rfl rfl rfl rfl rfl f4_n Tryd.func4 j4 f4_i f4_w
    (fun os started H enc _ F => by rw [OpenClaim.pre_eq_preRow]; exact lifted4 os started H enc F)

theorem plain4 (f : FuncId) (fn : Func) (hf : Tryd.pinned.checked.prog.funcNamed "pedigree/pedigreelaw04.TermMeans" = some f) (hfn : Tryd.pinned.checked.prog.funcs[f]? = some fn) :
    true = Tryd.pinned.checked.prog.looks [] ∧ ∀ (j : Nat) t, fn.params[j]? = some t → Tryd.pinned.checked.prog.wantsStandIn t = false := by
  obtain rfl : f = 4 := Option.some.inj ((show Tryd.prog.funcNamed "pedigree/pedigreelaw04.TermMeans" = some 4 from f4_n).symm.trans hf) |>.symm
  obtain rfl : fn = Tryd.f4 := (Option.some.inj (Tryd.func4.symm.trans hfn)).symm
  refine ⟨by kernel_rfl, fun j t ht => ?_⟩
  rw [Tryd.params4] at ht
  have hm : t ∈ [47, 25, 25] := by simpa using Array.mem_of_getElem? ht
  have hall : ([47, 25, 25].all fun u => !Tryd.prog.wantsStandIn u) = true := by kernel_rfl
  exact (show Tryd.prog.wantsStandIn t = false by simpa using List.all_eq_true.1 hall t hm)

/-- THE CARD. -/
theorem termMeansUpto_card : Rows.TermMeansUptoCardSaid :=
  Claim7.holds_tied_plain_at .later [] _ _ _ _ row4 (fun _ h => by cases h) (by kernel_rfl) (fun _ h => by cases h) termMeansUpto_row_tie rfl ⟨rfl, rfl⟩ (by kernel_rfl) rfl plain4 (by kernel_rfl)
end Go.Proofs.YtiomojlcnemnhaaDoor

/- CheckLess is proved, where what it reads is of bulk at most 1048576 (the second form): whatever input the law is given, it answers true and leaves its arguments as they were. -/
import Derived.Test.YtiomojlcnemnhaaLHxF8
namespace Go.Proofs.Ytiomojlcnemnhaa
open Go.Fx Go.RowKit Go.Ped

theorem met8 (os : Os) : laidMet Try.prog [] ((wit os).forCall (fun _ _ => 0) ⟨#[], #[.agg #[.slice none 0 0, .slice none 0 0, .string ByteArray.empty, .slice none 0 0, .int .i64 0]], []⟩).memory := laidMet_of_run' 8 (by kernel_rfl) (by kernel_rfl)
theorem reads8 (os : Os) {H : Type} (enc : TypeId × Value → H) : ∃ places, DataW.whole enc Try.prog ((wit os).forCall (fun _ _ => 0) ⟨#[], #[.agg #[.slice none 0 0, .slice none 0 0, .string ByteArray.empty, .slice none 0 0, .int .i64 0]], []⟩).memory Try.f8.params.toList Rows.checkLessSpec.vars false (#[.agg #[.slice none 0 0, .slice none 0 0, .string ByteArray.empty, .slice none 0 0, .int .i64 0]] : Array Value).toList 16 = some ([.agg [.nil, .nil, .agg [.lit (.string []), .nil], .lit (.int .i64 0)]], [], places) := ⟨[], by kernel_rfl⟩

set_option maxRecDepth 100000 in
theorem lifted8 (os : Os) (started : os.Started) (H : Type) (enc : TypeId × Value → H) (F : Stop.Interp) :
    ReturnsInHanded {} Try.checked os 8 .any ((Rows.OpenSpec.upto Rows.checkLessSpec).preRow enc Try.prog Try.f8 Rows.checkLessUptoRow.domain false Rows.checkLessUptoRow.laid) (((Rows.OpenSpec.upto Rows.checkLessSpec).at F).post enc Try.prog Try.f8 false true false false) := by
  obtain ⟨places, hx⟩ := reads8 os enc
  refine returnsInHanded_of_row (C := Try.checked) (s := Rows.OpenSpec.upto Rows.checkLessSpec) own started (by kernel_rfl) Try.func8
    (witness_row_at (enc := enc) (C := Try.checked) false (wit os) #[.agg #[.slice none 0 0, .slice none 0 0, .string ByteArray.empty, .slice none 0 0, .int .i64 0]] rfl (by kernel_rfl) (by kernel_rfl) (by kernel_rfl)
      (OpenSpec.preRow_of_cond 16 hx (by kernel_rfl) (fun k hk => by cases hk; kernel_rfl) (by kernel_rfl) (met8 os))) ?_
  intro W base args ds gs before hval hW _ hcond _ hL _ _
  have hk := hcond _ rfl
  refine law_calls (P := Try.prog) (G := tab10 Try.prog) (N := 1048576) (fn := Try.f8) (s := Rows.checkLessSpec) (ts := [135, 3, 132, 186, 9, 184, 189, 187, 27, 25, 23, 2, 115, 129, 119, 122, 120, 123, 127, 124, 125, 133, 201, 199]) (tb := 4) laidOut (by kernel_rfl) (by kernel_rfl) (by kernel_rfl) rfl Try.underlying4 rfl ?_ hval hW held_list (upto_bound hk) ?_
  · intro ds hd
    match ds, hd with
    | [_], _ => rfl
  · intro cs hc hb
    obtain ⟨x, cs, rfl, hx, hc⟩ := hc.head
    obtain rfl := hc.nil_left
    obtain ⟨b, rfl, hb2⟩ := hx.asAgg Try.underlying135
    obtain ⟨rules, sp, facts, sq, p, l, qs, k, rfl, hrn, hfn, hk1, hk2⟩ := ty_case hb2
    simp only [List.map_cons, List.map_nil, List.sum_cons, List.sum_nil, CX.bulk, rowBulk, C.bulk] at hb
    exact m3008b rules sp facts sq p l qs k hk1 hk2 hrn hfn (by omega) (by omega) (by omega)

theorem checkLessUpto_holds : Rows.CheckLessUptoSaid :=
  OpenClaim.holds_of_cond 8 Try.f8 rfl rfl rfl rfl rfl rfl rfl ⟨rfl, rfl, rfl, rfl, rfl⟩ rfl rfl rfl rfl rfl f8_n Try.func8 j8 f8_i f8_w
    (fun os started H enc _ F => by rw [OpenClaim.pre_eq_preRow]; exact lifted8 os started H enc F)
end Go.Proofs.Ytiomojlcnemnhaa

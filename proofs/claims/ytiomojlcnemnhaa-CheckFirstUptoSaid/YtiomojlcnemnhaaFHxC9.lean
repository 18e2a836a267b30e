/- CheckFirst is proved, where what it reads is of bulk at most 1048576 (the second form): whatever input the law is given, it answers true and leaves its arguments as they were. -/
import Derived.Test.YtiomojlcnemnhaaFHxF9
namespace Go.Proofs.Ytiomojlcnemnhaa
open Go.Fx Go.RowKit Go.Ped

theorem met9 (os : Os) : laidMet Try.prog [] ((wit os).forCall (fun _ _ => 0) ⟨#[], #[.slice none 0 0, .slice none 0 0, .agg #[.string ByteArray.empty, .slice none 0 0]], []⟩).memory := laidMet_of_run' 8 (by kernel_rfl) (by kernel_rfl)
theorem reads9 (os : Os) {H : Type} (enc : TypeId × Value → H) : ∃ places, DataW.whole enc Try.prog ((wit os).forCall (fun _ _ => 0) ⟨#[], #[.slice none 0 0, .slice none 0 0, .agg #[.string ByteArray.empty, .slice none 0 0]], []⟩).memory Try.f9.params.toList Rows.checkFirstSpec.vars false (#[.slice none 0 0, .slice none 0 0, .agg #[.string ByteArray.empty, .slice none 0 0]] : Array Value).toList 16 = some ([.nil, .nil, .agg [.lit (.string []), .nil]], [], places) := ⟨[], by kernel_rfl⟩

set_option maxRecDepth 100000 in
theorem lifted9 (os : Os) (started : os.Started) (H : Type) (enc : TypeId × Value → H) (F : Stop.Interp) :
    ReturnsInHanded {} Try.checked os 9 .any ((Rows.OpenSpec.upto Rows.checkFirstSpec).preRow enc Try.prog Try.f9 Rows.checkFirstUptoRow.domain false Rows.checkFirstUptoRow.laid) (((Rows.OpenSpec.upto Rows.checkFirstSpec).at F).post enc Try.prog Try.f9 false true false false) := by
  obtain ⟨places, hx⟩ := reads9 os enc
  refine returnsInHanded_of_row (C := Try.checked) (s := Rows.OpenSpec.upto Rows.checkFirstSpec) own started (by kernel_rfl) Try.func9
    (witness_row_at (enc := enc) (C := Try.checked) false (wit os) #[.slice none 0 0, .slice none 0 0, .agg #[.string ByteArray.empty, .slice none 0 0]] rfl (by kernel_rfl) (by kernel_rfl) (by kernel_rfl)
      (OpenSpec.preRow_of_cond 16 hx (by kernel_rfl) (fun k hk => by cases hk; kernel_rfl) (by kernel_rfl) (met9 os))) ?_
  intro W base args ds gs before hval hW _ hcond _ hL _ _
  have hk := hcond _ rfl
  refine law_calls (P := Try.prog) (G := tab10 Try.prog) (N := 1048576) (fn := Try.f9) (s := Rows.checkFirstSpec) (ts := [132, 186, 9, 184, 189, 187, 27, 25, 23, 2, 115, 129, 119, 122, 120, 123, 127, 124, 125, 133, 201, 199]) (tb := 4) laidOut (by kernel_rfl) (by kernel_rfl) (by kernel_rfl) rfl Try.underlying4 rfl ?_ hval hW held_list (upto_bound hk) ?_
  · intro ds hd
    match ds, hd with
    | [_, _, _], _ => rfl
  · intro cs hc hb
    obtain ⟨x, cs, rfl, hx, hc⟩ := hc.head
    obtain ⟨y, cs, rfl, hy, hc⟩ := hc.head
    obtain ⟨z, cs, rfl, hz, hc⟩ := hc.head
    obtain rfl := hc.nil_left
    obtain ⟨c1, e0, hx2⟩ := hx.asOne not_agg2044
    subst e0
    obtain ⟨rules, sp, he, hrn, hsp⟩ := ty_rules3 hx2
    injection he with he
    subst he
    obtain ⟨c2, e0, hy2⟩ := hy.asOne not_agg2048'
    subst e0
    obtain ⟨facts, sq, he, hfn, hsq⟩ := ty_fcs3 hy2
    injection he with he
    subst he
    obtain ⟨b, rfl, hb2⟩ := hz.asAgg Try.underlying122
    obtain ⟨p, l, qs, rfl, _⟩ := ty_atom' hb2
    simp only [List.map_cons, List.map_nil, List.sum_cons, List.sum_nil, CX.bulk, rowBulk, C.bulk] at hb
    exact m3009b rules sp facts sq p l qs hrn hfn hsp hsq (by omega) (by omega) (by omega)

theorem checkFirstUpto_holds : Rows.CheckFirstUptoSaid :=
  OpenClaim.holds_of_cond 9 Try.f9 rfl rfl rfl rfl rfl rfl rfl ⟨rfl, rfl, rfl, rfl, rfl⟩ rfl rfl rfl rfl rfl f9_n Try.func9 j9 f9_i f9_w
    (fun os started H enc _ F => by rw [OpenClaim.pre_eq_preRow]; exact lifted9 os started H enc F)
end Go.Proofs.Ytiomojlcnemnhaa

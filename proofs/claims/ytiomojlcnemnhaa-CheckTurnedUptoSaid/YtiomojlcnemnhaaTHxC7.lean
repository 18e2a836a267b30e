/- CheckTurned is proved, where what it reads is of bulk at most 1048576 (the second form): whatever input the law is given, it answers true and leaves its arguments as they were. -/
import Derived.Test.YtiomojlcnemnhaaTHxF7
namespace Go.Proofs.Ytiomojlcnemnhaa
open Go.Fx Go.RowKit Go.Ped

theorem met7 (os : Os) : laidMet Try.prog [] ((wit os).forCall (fun _ _ => 0) ⟨#[], #[.slice none 0 0, .slice none 0 0, .int .i64 0], []⟩).memory := laidMet_of_run' 8 (by kernel_rfl) (by kernel_rfl)
theorem reads7 (os : Os) {H : Type} (enc : TypeId × Value → H) : ∃ places, DataW.whole enc Try.prog ((wit os).forCall (fun _ _ => 0) ⟨#[], #[.slice none 0 0, .slice none 0 0, .int .i64 0], []⟩).memory Try.f7.params.toList Rows.checkTurnedSpec.vars false (#[.slice none 0 0, .slice none 0 0, .int .i64 0] : Array Value).toList 16 = some ([.nil, .nil, .lit (.int .i64 0)], [], places) := ⟨[], by kernel_rfl⟩

set_option maxRecDepth 100000 in
theorem lifted7 (os : Os) (started : os.Started) (H : Type) (enc : TypeId × Value → H) (F : Stop.Interp) :
    ReturnsInHanded {} Try.checked os 7 .any ((Rows.OpenSpec.upto Rows.checkTurnedSpec).preRow enc Try.prog Try.f7 Rows.checkTurnedUptoRow.domain false Rows.checkTurnedUptoRow.laid) (((Rows.OpenSpec.upto Rows.checkTurnedSpec).at F).post enc Try.prog Try.f7 false true false false) := by
  obtain ⟨places, hx⟩ := reads7 os enc
  refine returnsInHanded_of_row (C := Try.checked) (s := Rows.OpenSpec.upto Rows.checkTurnedSpec) own started (by kernel_rfl) Try.func7
    (witness_row_at (enc := enc) (C := Try.checked) false (wit os) #[.slice none 0 0, .slice none 0 0, .int .i64 0] rfl (by kernel_rfl) (by kernel_rfl) (by kernel_rfl)
      (OpenSpec.preRow_of_cond 16 hx (by kernel_rfl) (fun k hk => by cases hk; kernel_rfl) (by kernel_rfl) (met7 os))) ?_
  intro W base args ds gs before hval hW _ hcond _ _ _ _
  have hk := hcond _ rfl
  refine law_calls (P := Try.prog) (G := tab10 Try.prog) (N := 1048576) (fn := Try.f7) (s := Rows.checkTurnedSpec) (ts := [115, 129, 119, 122, 9, 120, 27, 25, 23, 2, 123, 127, 124, 125, 3]) (tb := 4) laidOut (by kernel_rfl) (by kernel_rfl) (by kernel_rfl) rfl Try.underlying4 rfl ?_ hval hW held_list (upto_bound hk) ?_
  · intro ds hd
    match ds, hd with
    | [_, _, _], _ => rfl
  · intro cs hc hb
    obtain ⟨x, cs, rfl, hx, hc⟩ := hc.head
    obtain ⟨y, cs, rfl, hy, hc⟩ := hc.head
    obtain ⟨z, cs, rfl, hz, hc⟩ := hc.head
    obtain rfl := hc.nil_left
    obtain ⟨c1, e0, hx2⟩ := hx.asOne not_agg78'
    subst e0
    obtain ⟨l, sp, he⟩ := ty_lits hx2
    subst he
    obtain ⟨c2, e0, hy2⟩ := hy.asOne not_agg78'
    subst e0
    obtain ⟨m, sq, he⟩ := ty_lits hy2
    subst he
    obtain ⟨c3, e0, hz2⟩ := hz.asOne not_agg3
    subst e0
    obtain ⟨n, he, hn1, hn2⟩ := ty_int hz2
    subst he
    simp only [List.map_cons, List.map_nil, List.sum_cons, List.sum_nil, CX.bulk, C.bulk] at hb
    exact m3007b l m sp sq n hn1 hn2 (by omega)

theorem checkTurnedUpto_holds : Rows.CheckTurnedUptoSaid :=
  OpenClaim.holds_of_cond 7 Try.f7 rfl rfl rfl rfl rfl rfl rfl ⟨rfl, rfl, rfl, rfl, rfl⟩ rfl rfl rfl rfl rfl f7_n Try.func7 j7 f7_i f7_w
    (fun os started H enc _ F => by rw [OpenClaim.pre_eq_preRow]; exact lifted7 os started H enc F)
end Go.Proofs.Ytiomojlcnemnhaa

/- TermTerms is proved: whatever term the law is given, it answers true and leaves its argument as it was. There is no condition. -/
import Derived.Test.YtjijjadddeeekaaRows
import Derived.Test.YtjijjadddeeekaaM2
import Derived.Test.YtjijjadddeeekaaFxZ
import Derived.ProofKit
namespace Go.Proofs.Ytjijjadddeeekaa
open Go.Fx Go.ChangeShapes Go.WideShapes Go.RowKit

theorem Try.own : ownKnob Try.prog.godebug = none := by kernel_rfl
theorem Try.laidOut : laidOutB Try.prog = true := by kernel_rfl

theorem typed_term {x : CX} (h : TypedX Try.prog 27 x) : ∃ v k n s, x = .agg [cS (bs v), cI .i8 k, cI .i64 n, cS (bs s)] := by
  obtain ⟨cs, rfl, h2⟩ := h.asAgg Try.underlying27
  obtain ⟨a, b, rfl, ha, hb⟩ := h2.asStruct Try.underlying27
  obtain ⟨c, d, rfl, hc, hd⟩ := hb
  cases hd
  obtain ⟨v, rfl, _⟩ := ha.asStr Try.underlying9
  obtain ⟨k, r, rfl, hk, hr⟩ := hc.asStruct Try.underlying25
  obtain ⟨n, r, rfl, hn, hr⟩ := hr
  obtain ⟨s, r, rfl, hs, hr⟩ := hr
  cases hr
  obtain ⟨k, rfl, _⟩ := hk.asInt Try.underlying23
  obtain ⟨n, rfl, _⟩ := hn.asInt Try.underlying2
  obtain ⟨s, rfl, _⟩ := hs.asStr Try.underlying9
  exact ⟨v, k, n, s, rfl⟩

set_option maxRecDepth 100000 in
theorem termTerms_lifted (os : Os) (started : os.Started) (H : Type) (enc : TypeId × Value → H) :
    ReturnsInHanded {} Try.checked os 3 .any (Rows.termTermsSpec.pre6 enc Try.prog Try.f3 Rows.termTermsRow.domain false) (Rows.termTermsSpec.post enc Try.prog Try.f3 false true false false) := by
  refine returnsInHanded_of_change (C := Try.checked) Try.own started (by kernel_rfl) Try.func3
    (ChangeSpec.witness6 (enc := enc) (C := Try.checked) false ⟨#[], #[.agg #[.string ByteArray.empty, .int .i8 0, .int .i64 0, .string ByteArray.empty]], []⟩ 8 (by kernel_rfl) (by kernel_rfl) (by kernel_rfl) (by kernel_rfl)) ?_
  intro W base args ds gs before hval hW _ _
  refine law_calls (P := Try.prog) (fn := Try.f3) (ts := [27, 25, 23, 9, 2]) (tb := 4) Try.laidOut (by kernel_rfl) (by kernel_rfl) (by kernel_rfl) rfl Try.underlying4 rfl ?_ hval hW ?_
  · intro ds hd
    match ds, hd with
    | [d], _ => rfl
  · intro cs hc
    obtain ⟨x, cs, rfl, hx, hc⟩ := hc.head
    obtain rfl := hc.nil_left
    obtain ⟨v, k, n, s, rfl⟩ := typed_term hx
    exact m3 v k n s

theorem termTerms_holds : Rows.TermTermsSaid :=
  OpenClaim.holds_of_wide 3 Try.f3 rfl rfl rfl rfl rfl rfl rfl ⟨rfl, rfl, rfl, rfl, rfl⟩ rfl rfl rfl rfl rfl (by kernel_rfl) Try.func3 (by kernel_rfl)
    (of_decide_eq_true (by kernel_rfl)) (by unfold Func.isWrapper; first | (rw [if_pos (by decide +kernel)]; kernel_rfl) | (rw [if_neg (by decide +kernel)]; exact ⟨rfl, rfl⟩))
    (fun os started H enc _ => termTerms_lifted os started H enc)

end Go.Proofs.Ytjijjadddeeekaa

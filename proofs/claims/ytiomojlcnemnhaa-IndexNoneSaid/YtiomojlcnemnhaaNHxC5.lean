import Derived.Test.YtiomojlcnemnhaaNHxEb
import Derived.Test.YtiomojlcnemnhaaNHxF5
namespace Go.Proofs.Ytiomojlcnemnhaa
open Go.Fx Go.RowKit Go.Ped
def rowC (x : List Int) : List C := x.map fun n => cI .i32 n
theorem typed_row {e : List C} (h : Typed Try.prog 43 e) : ∃ x, e = rowC x ∧ RowOk x := by
  obtain ⟨css, rfl, hl, hc⟩ := h.asArr Try.underlying43
  have : ∀ css : List (List C), (∀ c ∈ css, Typed Try.prog 41 c) → ∃ x : List Int, css.flatten = rowC x ∧ x.length = css.length ∧ ∀ n ∈ x, (Lit.int .i32 n).wf = true := by
    intro css
    induction css with
    | nil => intro _; exact ⟨[], rfl, rfl, fun _ h => by cases h⟩
    | cons c css ih =>
      intro h
      obtain ⟨x, h1, h2, h3⟩ := ih fun c hc => h c (List.mem_cons_of_mem _ hc)
      obtain ⟨n, rfl, hw⟩ := (h c (List.mem_cons_self ..)).asInt Try.underlying41
      refine ⟨n :: x, ?_, by simp [h2], fun k hk => ?_⟩
      · rw [List.flatten_cons, h1]; rfl
      · rcases List.mem_cons.1 hk with rfl | hk
        · exact hw
        · exact h3 k hk
  obtain ⟨x, h1, h2, h3⟩ := this css hc
  exact ⟨x, h1, h2.trans hl, h3⟩
theorem ty_i64 {c : List C} (h : Typed Try.prog 3 c) : ∃ n : Int, c = [cI .i64 n] := by
  obtain ⟨n, rfl, _⟩ := h.asInt Try.underlying3
  exact ⟨n, rfl⟩
theorem ty_u32l {c : List C} (h : Typed Try.prog 33 c) : ∃ n : Nat, c = [cI .u32 n] ∧ MskOk n := by
  obtain ⟨n, rfl, hw⟩ := h.asInt Try.underlying33
  simp [Lit.wf] at hw
  have h1 : IntKind.u32.min = 0 := by decide
  have h2 : IntKind.u32.max = 4294967295 := by decide
  rw [h1, h2] at hw
  exact ⟨n.toNat, by unfold cI; congr 3; omega, by show n.toNat < 4294967296; omega⟩
theorem ty_op {cs : List C} (h : Typed Try.prog 55 cs) : ∃ (kind on book : Int) (m : Nat) (row : List Int), cs = cI .i64 kind :: cI .i64 on :: cI .i64 book :: cI .u32 m :: rowC row ∧ RowOk row ∧ MskOk m := by
  obtain ⟨a, r, rfl, ha, b, r', rfl, hb, c, r2, rfl, hc, d, r3, rfl, hd, e, r4, rfl, he, hr⟩ := h.asStruct Try.underlying55
  cases hr
  obtain ⟨kind, rfl⟩ := ty_i64 ha
  obtain ⟨on, rfl⟩ := ty_i64 hb
  obtain ⟨book, rfl⟩ := ty_i64 hc
  obtain ⟨m, rfl, hm⟩ := ty_u32l hd
  obtain ⟨row, rfl, hrow⟩ := typed_row he
  exact ⟨kind, on, book, m, row, by simp, hrow, hm⟩
theorem rowC_vals {V : Nat → Nat → Prop} {w : World} : ∀ {x : List Int} {us : List Value}, All2 (RepC V w) (rowC x) us → us = x.map symV
  | [], us, h => by obtain rfl := h.nil_left; rfl
  | n :: x, us, h => by
    obtain ⟨u, us', rfl, h1, h2⟩ := h.head
    cases h1
    rw [rowC_vals h2]
    rfl
theorem m3005 (kind on book : Int) (m : Nat) (row : List Int) (hrow : RowOk row) (hm : MskOk m) :
    Meets Try.prog (tab10 Try.prog) 5 [.agg (cI .i64 kind :: cI .i64 on :: cI .i64 book :: cI .u32 m :: rowC row)] (.x (.one (cB true))) := by
  refine ⟨by kernel_rfl, fun w V vs _ _ h => ?_⟩
  obtain ⟨v1, vs, rfl, h1, h⟩ := h.head
  obtain rfl := h.nil_left
  obtain ⟨us, rfl, h1⟩ := h1
  obtain ⟨u1, us, rfl, g1, h2⟩ := h1.head
  obtain ⟨u2, us, rfl, g2, h3⟩ := h2.head
  obtain ⟨u3, us, rfl, g3, h4⟩ := h3.head
  obtain ⟨u4, us, rfl, g4, h5⟩ := h4.head
  cases g1
  cases g2
  cases g3
  cases g4
  obtain rfl := rowC_vals h5
  refine (none_calls (kind := kind) (on := on) (book := book) hrow hm).mono ?_
  rintro e w' ⟨rfl, hb⟩
  exact ⟨_, rfl, RepC.v _ rfl, hb⟩
theorem met5 (os : Os) : laidMet Try.prog [] ((wit os).forCall (fun _ _ => 0) ⟨#[], #[.agg #[.int .i64 0, .int .i64 0, .int .i64 0, .int .u32 0, .int .i32 0, .int .i32 0, .int .i32 0, .int .i32 0, .int .i32 0, .int .i32 0, .int .i32 0, .int .i32 0, .int .i32 0, .int .i32 0, .int .i32 0, .int .i32 0, .int .i32 0, .int .i32 0, .int .i32 0, .int .i32 0, .int .i32 0, .int .i32 0, .int .i32 0, .int .i32 0, .int .i32 0, .int .i32 0, .int .i32 0, .int .i32 0]], []⟩).memory := laidMet_of_run' 8 (by kernel_rfl) (by kernel_rfl)
theorem reads5 (os : Os) {H : Type} (enc : TypeId × Value → H) : ∃ places, DataW.whole enc Try.prog ((wit os).forCall (fun _ _ => 0) ⟨#[], #[.agg #[.int .i64 0, .int .i64 0, .int .i64 0, .int .u32 0, .int .i32 0, .int .i32 0, .int .i32 0, .int .i32 0, .int .i32 0, .int .i32 0, .int .i32 0, .int .i32 0, .int .i32 0, .int .i32 0, .int .i32 0, .int .i32 0, .int .i32 0, .int .i32 0, .int .i32 0, .int .i32 0, .int .i32 0, .int .i32 0, .int .i32 0, .int .i32 0, .int .i32 0, .int .i32 0, .int .i32 0, .int .i32 0]], []⟩).memory Try.f5.params.toList Rows.indexNoneSpec.vars false (#[.agg #[.int .i64 0, .int .i64 0, .int .i64 0, .int .u32 0, .int .i32 0, .int .i32 0, .int .i32 0, .int .i32 0, .int .i32 0, .int .i32 0, .int .i32 0, .int .i32 0, .int .i32 0, .int .i32 0, .int .i32 0, .int .i32 0, .int .i32 0, .int .i32 0, .int .i32 0, .int .i32 0, .int .i32 0, .int .i32 0, .int .i32 0, .int .i32 0, .int .i32 0, .int .i32 0, .int .i32 0, .int .i32 0]] : Array Value).toList 16 = some ([.agg [.lit (.int .i64 0), .lit (.int .i64 0), .lit (.int .i64 0), .lit (.int .u32 0), .agg [.lit (.int .i32 0), .lit (.int .i32 0), .lit (.int .i32 0), .lit (.int .i32 0), .lit (.int .i32 0), .lit (.int .i32 0), .lit (.int .i32 0), .lit (.int .i32 0), .lit (.int .i32 0), .lit (.int .i32 0), .lit (.int .i32 0), .lit (.int .i32 0), .lit (.int .i32 0), .lit (.int .i32 0), .lit (.int .i32 0), .lit (.int .i32 0), .lit (.int .i32 0), .lit (.int .i32 0), .lit (.int .i32 0), .lit (.int .i32 0), .lit (.int .i32 0), .lit (.int .i32 0), .lit (.int .i32 0), .lit (.int .i32 0)]]], [], places) := ⟨[], by kernel_rfl⟩
set_option maxRecDepth 100000 in
theorem lifted5 (os : Os) (started : os.Started) (H : Type) (enc : TypeId × Value → H) (F : Stop.Interp) :
    ReturnsInHanded {} Try.checked os 5 .any ((OpenSpec.ofChange Rows.indexNoneSpec).preRow enc Try.prog Try.f5 Rows.indexNoneRow.domain false Rows.indexNoneRow.laid) (((OpenSpec.ofChange Rows.indexNoneSpec).at F).post enc Try.prog Try.f5 false true false false) := by
  obtain ⟨places, hx⟩ := reads5 os enc
  refine returnsInHanded_of_row (C := Try.checked) (s := OpenSpec.ofChange Rows.indexNoneSpec) own started (by kernel_rfl) Try.func5
    (witness_row_at (enc := enc) (C := Try.checked) false (wit os) #[.agg #[.int .i64 0, .int .i64 0, .int .i64 0, .int .u32 0, .int .i32 0, .int .i32 0, .int .i32 0, .int .i32 0, .int .i32 0, .int .i32 0, .int .i32 0, .int .i32 0, .int .i32 0, .int .i32 0, .int .i32 0, .int .i32 0, .int .i32 0, .int .i32 0, .int .i32 0, .int .i32 0, .int .i32 0, .int .i32 0, .int .i32 0, .int .i32 0, .int .i32 0, .int .i32 0, .int .i32 0, .int .i32 0]] rfl (by kernel_rfl) (by kernel_rfl) (by kernel_rfl)
      (OpenSpec.preRow_of_cond 16 hx (by kernel_rfl) (fun k hk => by cases hk) (by kernel_rfl) (met5 os))) ?_
  intro W base args ds gs before hval hW _ _ _ _ _ _
  refine law_calls (P := Try.prog) (G := tab10 Try.prog) (N := bulkDs ds) (fn := Try.f5) (s := Rows.indexNoneSpec) (ts := [55, 3, 33, 43, 41]) (tb := 4) laidOut (by kernel_rfl) (by kernel_rfl) (by kernel_rfl) rfl Try.underlying4 rfl ?_ hval hW held_list (Nat.le_refl _) ?_
  · intro ds hd
    match ds, hd with
    | [_], _ => rfl
  · intro cs hc _
    obtain ⟨x, cs, rfl, hx, hc⟩ := hc.head
    obtain rfl := hc.nil_left
    obtain ⟨a, rfl, ha⟩ := hx.asAgg Try.underlying55
    obtain ⟨kind, on, book, m, row, rfl, hrow, hm⟩ := ty_op ha
    exact m3005 kind on book m row hrow hm
theorem indexNone_holds : Rows.IndexNoneSaid :=
  OpenClaim.holds_of_cond 5 Try.f5 rfl rfl rfl rfl rfl rfl rfl ⟨rfl, rfl, rfl, rfl, rfl⟩ rfl rfl rfl rfl rfl f5_n Try.func5 j5 f5_i f5_w
    (fun os started H enc _ F => by rw [OpenClaim.pre_eq_preRow]; exact lifted5 os started H enc F)
end Go.Proofs.Ytiomojlcnemnhaa

import Derived.Test.YtiomojlcnemnhaaAHxG4
import Derived.Test.YtiomojlcnemnhaaAHxF6
namespace Go.Proofs.Ytiomojlcnemnhaa
open Go.Fx Go.RowKit Go.Ped
theorem getD_eq {α : Type} {l : List α} {k : Nat} {d : α} (h : k < l.length) : l.getD k d = l[k] := by rw [List.getD_eq_getElem?_getD, List.getElem?_eq_getElem h, Option.getD_some]
def rowC (x : List Int) : List C := x.map fun n => cI .i32 n
theorem typed_row {e : List C} (h : Typed Try.prog 43 e) : ∃ x, e = rowC x ∧ RowOk x := by
  obtain ⟨css, rfl, hl, hc⟩ := h.asArr Try.underlying43
  have : ∀ css : List (List C), (∀ c ∈ css, Typed Try.prog 41 c) → ∃ x : List Int, css.flatten = rowC x ∧ x.length = css.length ∧ ∀ n ∈ x, (Lit.int .i32 n).wf = true := by
    intro css
    induction css with
    | nil => intro _; exact ⟨[], rfl, rfl, fun _ h => by cases h⟩
    | cons c css ih =>
      intro h
      obtain ⟨x, h1, h2, h3⟩ := ih fun c hc => h c (List.mem_cons_of_mem _ hc)
      obtain ⟨n, rfl, hw⟩ := (h c (List.mem_cons_self ..)).asInt Try.underlying41
      refine ⟨n :: x, ?_, by simp [h2], fun k hk => ?_⟩
      · rw [List.flatten_cons, h1]; rfl
      · rcases List.mem_cons.1 hk with rfl | hk
        · exact hw
        · exact h3 k hk
  obtain ⟨x, h1, h2, h3⟩ := this css hc
  exact ⟨x, h1, h2.trans hl, h3⟩
theorem typed_rows : ∀ {es : List (List C)}, (∀ e ∈ es, Typed Try.prog 43 e) → ∃ L : List (List Int), es = L.map rowC ∧ ∀ x ∈ L, RowOk x
  | [], _ => ⟨[], rfl, fun _ h => by cases h⟩
  | e :: es, h => by
    obtain ⟨L, rfl, hL⟩ := typed_rows fun e he => h e (List.mem_cons_of_mem _ he)
    obtain ⟨x, rfl, hx⟩ := typed_row (h e (List.mem_cons_self ..))
    exact ⟨x :: L, rfl, fun y hy => (List.mem_cons.1 hy).elim (fun e => e ▸ hx) (hL y)⟩
theorem rows_bulk : ∀ {L : List (List Int)}, (∀ x ∈ L, RowOk x) → L.length ≤ rowsBulk (L.map rowC)
  | [], _ => Nat.zero_le _
  | x :: L, h => by
    have h1 := rows_bulk (L := L) fun y hy => h y (List.mem_cons_of_mem _ hy)
    have h2 := (h x (List.mem_cons_self ..)).1
    have h3 : 1 ≤ rowBulk (rowC x) := by
      match x, h2 with
      | n :: x, _ => show 1 ≤ C.bulk (cI .i32 n) + rowBulk (rowC x); have : C.bulk (cI .i32 n) = 1 := rfl; omega
    show L.length + 1 ≤ rowBulk (rowC x) + rowsBulk (L.map rowC)
    omega
theorem flat_at {rest : List C} : ∀ {es : List (List Int)}, (∀ x ∈ es, x.length = 24) → ∀ (i q : Nat), i < es.length → q < 24 → ((es.map rowC).flatten ++ rest)[i * 24 + q]? = some (cI .i32 ((es.getD i []).getD q 0))
  | [], _, i, q, hi, _ => absurd hi (Nat.not_lt_zero _)
  | x :: es, h, i, q, hi, hq => by
    have hx := h x (List.mem_cons_self ..)
    have hl : (rowC x).length = 24 := by simp [rowC, hx]
    rw [List.map_cons, List.flatten_cons, List.append_assoc]
    cases i with
    | zero =>
      rw [Nat.zero_mul, Nat.zero_add, List.getElem?_append_left (by omega), List.getD_cons_zero, getD_eq (by omega : q < x.length), List.getElem?_eq_getElem (by omega : q < (rowC x).length)]
      simp [rowC]
    | succ i =>
      rw [List.getElem?_append_right (by omega), hl, show (i + 1) * 24 + q - 24 = i * 24 + q by omega, flat_at (fun y hy => h y (List.mem_cons_of_mem _ hy)) i q (by simpa using hi) hq, List.getD_cons_succ]
theorem rows_at {V : Nat → Nat → Prop} {w : World} {L : List (List Int)} {sp : List (List C)} {v : Value} (hL : ∀ x ∈ L, RowOk x) (h : RepC V w (.sl (L.map rowC) sp) v) : SlRows w v L := by
  generalize hes : L.map rowC = es at h
  generalize hc : C.sl es sp = c at h
  cases h with
  | v x h => cases hc
  | nil c =>
    cases hc
    have : L = [] := List.map_eq_nil_iff.1 hes
    subst this
    exact ⟨none, 0, rfl, fun i hi => absurd hi (Nat.not_lt_zero _), hL⟩
  | emp a =>
    cases hc
    have : L = [] := List.map_eq_nil_iff.1 hes
    subst this
    exact ⟨some a, 0, rfl, fun i hi => absurd hi (Nat.not_lt_zero _), hL⟩
  | sl es' sp' s b o n cap us hn hcc hm hw hl hu hr =>
    cases hc
    subst hes
    refine ⟨some ⟨b, o, none⟩, cap, by rw [hn, List.length_map], fun i hi => ?_, hL⟩
    have hcell : ∀ q, q < 24 → w.cell? ⟨b, o + i * 24 + q, none⟩ = some (.int .i32 ((L.getD i []).getD q 0)) := fun q hq => by
      have h1 := flat_at (rest := sp.flatten) (fun x hx => (hL x hx).1) i q hi hq
      rw [← List.flatten_append] at h1
      have hlt : i * 24 + q < us.length := by rw [hl]; exact (List.getElem?_eq_some_iff.1 h1).1
      have h2 := hr (i * 24 + q) _ us[i * 24 + q] h1 (List.getElem?_eq_getElem hlt)
      have h3 := (hu (i * 24 + q) us[i * 24 + q] (List.getElem?_eq_getElem hlt)).1
      rw [Nat.add_assoc, h3]
      generalize us[i * 24 + q] = u at h2
      cases h2
      rfl
    refine ⟨b, o, rfl, World.block_lt_of_cell? w _ (hcell 0 (by omega)), fun q v hq => ?_⟩
    have hx : (L.getD i []).length = 24 := by
      rw [getD_eq hi]
      exact (hL _ (List.getElem_mem hi)).1
    rw [List.getElem?_map] at hq
    cases hg : (L.getD i [])[q]? with
    | none => rw [hg] at hq; cases hq
    | some z =>
      rw [hg] at hq
      have hq24 : q < 24 := by rw [← hx]; exact (List.getElem?_eq_some_iff.1 hg).1
      rw [hcell q hq24, ← Option.some.inj hq, List.getD_eq_getElem?_getD, hg]
      rfl
theorem typed_ints : ∀ {es : List (List C)}, (∀ e ∈ es, Typed Try.prog 3 e) → ∃ A : List Int, es = A.map fun n => [cI .i64 n]
  | [], _ => ⟨[], rfl⟩
  | e :: es, h => by
    obtain ⟨A, rfl⟩ := typed_ints fun e he => h e (List.mem_cons_of_mem _ he)
    obtain ⟨n, rfl, _⟩ := (h e (List.mem_cons_self ..)).asInt Try.underlying3
    exact ⟨n :: A, rfl⟩
theorem ints_bulk : ∀ (A : List Int), A.length ≤ rowsBulk (A.map fun n => [cI .i64 n])
  | [] => Nat.zero_le _
  | n :: A => by
    have h1 := ints_bulk A
    have h3 : 1 ≤ rowBulk [cI .i64 n] := by
      show 1 ≤ C.bulk (cI .i64 n) + 0
      have : C.bulk (cI .i64 n) = 1 := rfl
      omega
    show A.length + 1 ≤ rowBulk [cI .i64 n] + rowsBulk (A.map fun n => [cI .i64 n])
    omega
theorem flat_int {rest : List C} : ∀ {A : List Int} (i : Nat), i < A.length → ((A.map fun n => [cI .i64 n]).flatten ++ rest)[i]? = some (cI .i64 (A.getD i 0))
  | [], i, hi => absurd hi (Nat.not_lt_zero _)
  | n :: A, i, hi => by
    cases i with
    | zero => rfl
    | succ i =>
      rw [List.map_cons, List.flatten_cons, List.append_assoc, List.singleton_append, List.getElem?_cons_succ, flat_int i (by simpa using hi), List.getD_cons_succ]
theorem ints_at {V : Nat → Nat → Prop} {w : World} {A : List Int} {sp : List (List C)} {v : Value} (h : RepC V w (.sl (A.map fun n => [cI .i64 n]) sp) v) : SlInts w v A := by
  generalize hes : (A.map fun n => [cI .i64 n]) = es at h
  generalize hc : C.sl es sp = c at h
  cases h with
  | v x h => cases hc
  | nil c =>
    cases hc
    have : A = [] := List.map_eq_nil_iff.1 hes
    subst this
    exact ⟨none, 0, rfl, fun i hi => absurd hi (Nat.not_lt_zero _)⟩
  | emp a =>
    cases hc
    have : A = [] := List.map_eq_nil_iff.1 hes
    subst this
    exact ⟨some a, 0, rfl, fun i hi => absurd hi (Nat.not_lt_zero _)⟩
  | sl es' sp' s b o n cap us hn hcc hm hw hl hu hr =>
    cases hc
    subst hes
    refine ⟨some ⟨b, o, none⟩, cap, by rw [hn, List.length_map], fun i hi => ?_⟩
    have h1 := flat_int (rest := sp.flatten) (A := A) i hi
    rw [← List.flatten_append] at h1
    have hlt : i < us.length := by rw [hl]; exact (List.getElem?_eq_some_iff.1 h1).1
    have h2 := hr i _ us[i] h1 (List.getElem?_eq_getElem hlt)
    have h3 := (hu i us[i] (List.getElem?_eq_getElem hlt)).1
    generalize us[i] = u at h2 h3
    cases h2
    exact ⟨b, o, rfl, World.block_lt_of_cell? w _ h3, h3⟩
theorem rowC_vals {V : Nat → Nat → Prop} {w : World} : ∀ {x : List Int} {us : List Value}, All2 (RepC V w) (rowC x) us → us = x.map symV
  | [], us, h => by obtain rfl := h.nil_left; rfl
  | n :: x, us, h => by
    obtain ⟨u, us', rfl, h1, h2⟩ := h.head
    cases h1
    rw [rowC_vals h2]
    rfl
theorem m3006 (L : List (List Int)) (sp : List (List C)) (A : List Int) (sq : List (List C)) (x : List Int) (a m : Nat) (hL : ∀ x ∈ L, RowOk x) (hx : RowOk x) (ha : a < 256) (hm : m < 4294967296) (hl : L.length ≤ 1048576) (hA : A.length ≤ 1048576) :
    Meets Try.prog (tab10 Try.prog) 6 [.one (cI .u8 a), .one (.sl (L.map rowC) sp), .one (.sl (A.map fun n => [cI .i64 n]) sq), .one (cI .u32 m), .agg (rowC x)] (.x (.one (cB true))) := by
  refine ⟨by kernel_rfl, fun w V vs _ _ h => ?_⟩
  obtain ⟨v1, vs1, rfl, h1, g1⟩ := h.head
  obtain ⟨v2, vs2, rfl, h2, g2⟩ := g1.head
  obtain ⟨v3, vs3, rfl, h3, g3⟩ := g2.head
  obtain ⟨v4, vs4, rfl, h4, g4⟩ := g3.head
  obtain ⟨v5, vs5, rfl, h5, g5⟩ := g4.head
  obtain rfl := g5.nil_left
  cases h1
  cases h4
  obtain ⟨us, rfl, h5⟩ := h5
  obtain rfl := rowC_vals h5
  refine (anew_calls (x := x) ha hm (rows_at hL h2) hl (ints_at h3) hA hx).mono ?_
  rintro e w' ⟨rfl, hb⟩
  exact ⟨_, rfl, RepC.v _ rfl, hb⟩
theorem met6 (os : Os) : laidMet Try.prog [] ((wit os).forCall (fun _ _ => 0) ⟨#[], #[.int .u8 0, .slice none 0 0, .slice none 0 0, .int .u32 0, .agg #[.int .i32 0, .int .i32 0, .int .i32 0, .int .i32 0, .int .i32 0, .int .i32 0, .int .i32 0, .int .i32 0, .int .i32 0, .int .i32 0, .int .i32 0, .int .i32 0, .int .i32 0, .int .i32 0, .int .i32 0, .int .i32 0, .int .i32 0, .int .i32 0, .int .i32 0, .int .i32 0, .int .i32 0, .int .i32 0, .int .i32 0, .int .i32 0]], []⟩).memory := laidMet_of_run' 8 (by kernel_rfl) (by kernel_rfl)
theorem reads6 (os : Os) {H : Type} (enc : TypeId × Value → H) : ∃ places, DataW.whole enc Try.prog ((wit os).forCall (fun _ _ => 0) ⟨#[], #[.int .u8 0, .slice none 0 0, .slice none 0 0, .int .u32 0, .agg #[.int .i32 0, .int .i32 0, .int .i32 0, .int .i32 0, .int .i32 0, .int .i32 0, .int .i32 0, .int .i32 0, .int .i32 0, .int .i32 0, .int .i32 0, .int .i32 0, .int .i32 0, .int .i32 0, .int .i32 0, .int .i32 0, .int .i32 0, .int .i32 0, .int .i32 0, .int .i32 0, .int .i32 0, .int .i32 0, .int .i32 0, .int .i32 0]], []⟩).memory Try.f6.params.toList Rows.indexAnewSpec.vars false (#[.int .u8 0, .slice none 0 0, .slice none 0 0, .int .u32 0, .agg #[.int .i32 0, .int .i32 0, .int .i32 0, .int .i32 0, .int .i32 0, .int .i32 0, .int .i32 0, .int .i32 0, .int .i32 0, .int .i32 0, .int .i32 0, .int .i32 0, .int .i32 0, .int .i32 0, .int .i32 0, .int .i32 0, .int .i32 0, .int .i32 0, .int .i32 0, .int .i32 0, .int .i32 0, .int .i32 0, .int .i32 0, .int .i32 0]] : Array Value).toList 16 = some ([.lit (.int .u8 0), .nil, .nil, .lit (.int .u32 0), .agg [.lit (.int .i32 0), .lit (.int .i32 0), .lit (.int .i32 0), .lit (.int .i32 0), .lit (.int .i32 0), .lit (.int .i32 0), .lit (.int .i32 0), .lit (.int .i32 0), .lit (.int .i32 0), .lit (.int .i32 0), .lit (.int .i32 0), .lit (.int .i32 0), .lit (.int .i32 0), .lit (.int .i32 0), .lit (.int .i32 0), .lit (.int .i32 0), .lit (.int .i32 0), .lit (.int .i32 0), .lit (.int .i32 0), .lit (.int .i32 0), .lit (.int .i32 0), .lit (.int .i32 0), .lit (.int .i32 0), .lit (.int .i32 0)]], [], places) := ⟨[], by kernel_rfl⟩
theorem not_agg5 : ¬ isAggTy Try.prog 5 := by
  rintro (⟨fs, h⟩ | ⟨n, e, h⟩) <;> rw [Try.underlying5] at h <;> cases h
theorem not_agg31 : ¬ isAggTy Try.prog 31 := by
  rintro (⟨fs, h⟩ | ⟨n, e, h⟩) <;> rw [Try.underlying31] at h <;> cases h
theorem not_agg33 : ¬ isAggTy Try.prog 33 := by
  rintro (⟨fs, h⟩ | ⟨n, e, h⟩) <;> rw [Try.underlying33] at h <;> cases h
theorem ty_u8 {c : C} (h : Typed Try.prog 5 [c]) : ∃ n : Nat, c = cI .u8 n ∧ n < 256 := by
  obtain ⟨n, he, hw⟩ := h.asInt Try.underlying5
  injection he with he
  simp [Lit.wf] at hw
  have h1 : IntKind.u8.min = 0 := by decide
  have h2 : IntKind.u8.max = 255 := by decide
  rw [h1, h2] at hw
  exact ⟨n.toNat, by rw [he]; unfold cI; congr 2; omega, by omega⟩
theorem ty_u32 {c : C} (h : Typed Try.prog 33 [c]) : ∃ n : Nat, c = cI .u32 n ∧ n < 4294967296 := by
  obtain ⟨n, he, hw⟩ := h.asInt Try.underlying33
  injection he with he
  simp [Lit.wf] at hw
  have h1 : IntKind.u32.min = 0 := by decide
  have h2 : IntKind.u32.max = 4294967295 := by decide
  rw [h1, h2] at hw
  exact ⟨n.toNat, by rw [he]; unfold cI; congr 2; omega, by omega⟩
theorem not_agg46 : ¬ isAggTy Try.prog 46 := by
  rintro (⟨fs, h⟩ | ⟨n, e, h⟩) <;> rw [Try.underlying46] at h <;> cases h
set_option maxRecDepth 100000 in
theorem lifted6 (os : Os) (started : os.Started) (H : Type) (enc : TypeId × Value → H) (F : Stop.Interp) :
    ReturnsInHanded {} Try.checked os 6 .any ((Rows.OpenSpec.upto Rows.indexAnewSpec).preRow enc Try.prog Try.f6 Rows.indexAnewUptoRow.domain false Rows.indexAnewUptoRow.laid) (((Rows.OpenSpec.upto Rows.indexAnewSpec).at F).post enc Try.prog Try.f6 false true false false) := by
  obtain ⟨places, hx⟩ := reads6 os enc
  refine returnsInHanded_of_row (C := Try.checked) (s := Rows.OpenSpec.upto Rows.indexAnewSpec) own started (by kernel_rfl) Try.func6
    (witness_row_at (enc := enc) (C := Try.checked) false (wit os) #[.int .u8 0, .slice none 0 0, .slice none 0 0, .int .u32 0, .agg #[.int .i32 0, .int .i32 0, .int .i32 0, .int .i32 0, .int .i32 0, .int .i32 0, .int .i32 0, .int .i32 0, .int .i32 0, .int .i32 0, .int .i32 0, .int .i32 0, .int .i32 0, .int .i32 0, .int .i32 0, .int .i32 0, .int .i32 0, .int .i32 0, .int .i32 0, .int .i32 0, .int .i32 0, .int .i32 0, .int .i32 0, .int .i32 0]] rfl (by kernel_rfl) (by kernel_rfl) (by kernel_rfl)
      (OpenSpec.preRow_of_cond 16 hx (by kernel_rfl) (fun k hk => by cases hk; kernel_rfl) (by kernel_rfl) (met6 os))) ?_
  intro W base args ds gs before hval hW _ hcond _ _ _ _
  have hk := hcond _ rfl
  refine law_calls (P := Try.prog) (G := tab10 Try.prog) (N := 1048576) (fn := Try.f6) (s := Rows.indexAnewSpec) (ts := [5, 31, 46, 33, 43, 41, 3]) (tb := 4) laidOut (by kernel_rfl) (by kernel_rfl) (by kernel_rfl) rfl Try.underlying4 rfl ?_ hval hW held_list (upto_bound hk) ?_
  · intro ds hd
    match ds, hd with
    | [_, _, _, _, _], _ => rfl
  · intro cs hc hb
    obtain ⟨x, cs, rfl, hx, hc⟩ := hc.head
    obtain ⟨y, cs, rfl, hy, hc⟩ := hc.head
    obtain ⟨z, cs, rfl, hz, hc⟩ := hc.head
    obtain ⟨u, cs, rfl, hu, hc⟩ := hc.head
    obtain ⟨t, cs, rfl, ht, hc⟩ := hc.head
    obtain rfl := hc.nil_left
    obtain ⟨c1, e0, hx2⟩ := hx.asOne not_agg5
    subst e0
    obtain ⟨a, rfl, ha⟩ := ty_u8 hx2
    obtain ⟨c2, e0, hy2⟩ := hy.asOne not_agg31
    subst e0
    obtain ⟨es, sp, he, hes, _⟩ := hy2.asSlice Try.underlying31
    injection he with he
    subst he
    obtain ⟨L, rfl, hL⟩ := typed_rows (es := es) fun e he => hes e (List.mem_append_left _ he)
    obtain ⟨c3, e0, hz2⟩ := hz.asOne not_agg46
    subst e0
    obtain ⟨es3, sq, he, hes3, _⟩ := hz2.asSlice Try.underlying46
    injection he with he
    subst he
    obtain ⟨A, rfl⟩ := typed_ints (es := es3) fun e he => hes3 e (List.mem_append_left _ he)
    obtain ⟨c4, e0, hu2⟩ := hu.asOne not_agg33
    subst e0
    obtain ⟨m, rfl, hm⟩ := ty_u32 hu2
    obtain ⟨c5, rfl, ht2⟩ := ht.asArr Try.underlying43
    obtain ⟨r, rfl, hr⟩ := typed_row ht2
    simp only [List.map_cons, List.map_nil, List.sum_cons, List.sum_nil, CX.bulk, C.bulk] at hb
    have h1 := rows_bulk hL
    have h2 := ints_bulk A
    exact m3006 L sp A sq r a m hL hr ha hm (by omega) (by omega)
theorem indexAnewUpto_holds : Rows.IndexAnewUptoSaid :=
  OpenClaim.holds_of_cond 6 Try.f6 rfl rfl rfl rfl rfl rfl rfl ⟨rfl, rfl, rfl, rfl, rfl⟩ rfl rfl rfl rfl rfl f6_n Try.func6 j6 f6_i f6_w
    (fun os started H enc _ F => by rw [OpenClaim.pre_eq_preRow]; exact lifted6 os started H enc F)
end Go.Proofs.Ytiomojlcnemnhaa

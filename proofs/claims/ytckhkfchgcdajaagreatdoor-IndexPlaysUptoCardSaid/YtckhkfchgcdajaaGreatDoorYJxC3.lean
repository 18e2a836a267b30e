import Derived.Test.YtckhkfchgcdajaaGreatDoorYJxI8
import Derived.Test.YtckhkfchgcdajaaGreatDoorYJxF3
namespace Go.Proofs.YtckhkfchgcdajaaGreatDoor
open Go.Fx Go.RowKit
def rowC (x : List Int) : List C := x.map fun n => cI .i32 n
theorem typed_row {e : List C} (h : Typed Tryz.prog 64 e) : ∃ x, e = rowC x ∧ RowOk x := by
  obtain ⟨css, rfl, hl, hc⟩ := h.asArr Tryz.underlying64
  have : ∀ css : List (List C), (∀ c ∈ css, Typed Tryz.prog 62 c) → ∃ x : List Int, css.flatten = rowC x ∧ x.length = css.length ∧ ∀ n ∈ x, (Lit.int .i32 n).wf = true := by
    intro css
    induction css with
    | nil => intro _; exact ⟨[], rfl, rfl, fun _ h => by cases h⟩
    | cons c css ih =>
      intro h
      obtain ⟨x, h1, h2, h3⟩ := ih fun c hc => h c (List.mem_cons_of_mem _ hc)
      obtain ⟨n, rfl, hw⟩ := (h c (List.mem_cons_self ..)).asInt Tryz.underlying62
      refine ⟨n :: x, ?_, by simp [h2], fun k hk => ?_⟩
      · rw [List.flatten_cons, h1]; rfl
      · rcases List.mem_cons.1 hk with rfl | hk
        · exact hw
        · exact h3 k hk
  obtain ⟨x, h1, h2, h3⟩ := this css hc
  exact ⟨x, h1, h2.trans hl, h3⟩
theorem ty_i64 {c : List C} (h : Typed Tryz.prog 3 c) : ∃ n : Int, c = [cI .i64 n] := by
  obtain ⟨n, rfl, _⟩ := h.asInt Tryz.underlying3
  exact ⟨n, rfl⟩
theorem ty_u32l {c : List C} (h : Typed Tryz.prog 61 c) : ∃ n : Nat, c = [cI .u32 n] ∧ MskOk n := by
  obtain ⟨n, rfl, hw⟩ := h.asInt Tryz.underlying61
  simp [Lit.wf] at hw
  have h1 : IntKind.u32.min = 0 := by decide
  have h2 : IntKind.u32.max = 4294967295 := by decide
  rw [h1, h2] at hw
  exact ⟨n.toNat, by unfold cI; congr 3; omega, by show n.toNat < 4294967296; omega⟩
theorem ty_op {cs : List C} (h : Typed Tryz.prog 66 cs) : ∃ (kind on book : Int) (m : Nat) (row : List Int), cs = cI .i64 kind :: cI .i64 on :: cI .i64 book :: cI .u32 m :: rowC row ∧ RowOk row ∧ MskOk m := by
  obtain ⟨a, r, rfl, ha, b, r', rfl, hb, c, r2, rfl, hc, d, r3, rfl, hd, e, r4, rfl, he, hr⟩ := h.asStruct Tryz.underlying66
  cases hr
  obtain ⟨kind, rfl⟩ := ty_i64 ha
  obtain ⟨on, rfl⟩ := ty_i64 hb
  obtain ⟨book, rfl⟩ := ty_i64 hc
  obtain ⟨m, rfl, hm⟩ := ty_u32l hd
  obtain ⟨row, rfl, hrow⟩ := typed_row he
  exact ⟨kind, on, book, m, row, by simp, hrow, hm⟩
theorem ty_u8 {c : C} (h : Typed Tryz.prog 5 [c]) : ∃ n : Nat, c = cI .u8 n ∧ n < 256 := by
  obtain ⟨n, he, hw⟩ := h.asInt Tryz.underlying5
  injection he with he
  simp [Lit.wf] at hw
  have h1 : IntKind.u8.min = 0 := by decide
  have h2 : IntKind.u8.max = 255 := by decide
  rw [h1, h2] at hw
  exact ⟨n.toNat, by rw [he]; unfold cI; congr 2; omega, by omega⟩
def opC (o : OpR) : List C := cI .i64 o.kind :: cI .i64 o.on :: cI .i64 o.book :: cI .u32 o.m :: rowC o.row
theorem typed_ops : ∀ {es : List (List C)}, (∀ e ∈ es, Typed Tryz.prog 66 e) → ∃ L : List OpR, es = L.map opC ∧ ∀ x ∈ L, x.ok
  | [], _ => ⟨[], rfl, fun _ h => by cases h⟩
  | e :: es, h => by
    obtain ⟨L, rfl, hL⟩ := typed_ops fun e he => h e (List.mem_cons_of_mem _ he)
    obtain ⟨kind, on, book, m, row, rfl, hrow, hm⟩ := ty_op (h e (List.mem_cons_self ..))
    refine ⟨⟨kind, on, book, m, row⟩ :: L, rfl, fun y hy => ?_⟩
    rcases List.mem_cons.1 hy with rfl | hy
    · exact ⟨hrow, hm⟩
    · exact hL y hy
theorem ops_bulk : ∀ L : List OpR, L.length ≤ rowsBulk (L.map opC)
  | [] => Nat.zero_le _
  | o :: L => by
    have h1 := ops_bulk L
    have h3 : 1 ≤ rowBulk (opC o) := by
      show 1 ≤ C.bulk (cI .i64 o.kind) + rowBulk _
      have : C.bulk (cI .i64 o.kind) = 1 := rfl
      omega
    show L.length + 1 ≤ rowBulk (opC o) + rowsBulk (L.map opC)
    omega
theorem flat_get {α : Type} {rest : List α} {n : Nat} : ∀ {es : List (List α)}, (∀ x ∈ es, x.length = n) → ∀ (i q : Nat), i < es.length → q < n → (es.flatten ++ rest)[i * n + q]? = (es.getD i [])[q]?
  | [], _, i, q, hi, _ => absurd hi (Nat.not_lt_zero _)
  | x :: es, h, i, q, hi, hq => by
    have hx := h x (List.mem_cons_self ..)
    rw [List.flatten_cons, List.append_assoc]
    cases i with
    | zero => rw [Nat.zero_mul, Nat.zero_add, List.getElem?_append_left (by omega), List.getD_cons_zero]
    | succ i =>
      rw [List.getElem?_append_right (by rw [hx, Nat.add_mul]; omega), hx, show (i + 1) * n + q - n = i * n + q by rw [Nat.add_mul]; omega, flat_get (fun y hy => h y (List.mem_cons_of_mem _ hy)) i q (by simpa using hi) hq, List.getD_cons_succ]
theorem opC_len {o : OpR} (h : o.ok) : (opC o).length = 28 := by simp [opC, rowC, h.1.1]
theorem op_cell {o : OpR} (h : o.ok) {q : Nat} (hq : q < 28) : ∃ k n, (opC o)[q]? = some (cI k n) ∧ o.vs[q]? = some (.int k n) := by
  match q, hq with
  | 0, _ => exact ⟨_, _, rfl, rfl⟩
  | 1, _ => exact ⟨_, _, rfl, rfl⟩
  | 2, _ => exact ⟨_, _, rfl, rfl⟩
  | 3, _ => exact ⟨_, _, rfl, rfl⟩
  | q + 4, hq =>
    have hl := h.1.1
    refine ⟨.i32, o.row.getD q 0, ?_, ?_⟩
    · show (rowC o.row)[q]? = _
      unfold rowC
      rw [List.getElem?_map, List.getD_eq_getElem?_getD, List.getElem?_eq_getElem (by omega)]
      rfl
    · show (o.row.map symV)[q]? = _
      rw [List.getElem?_map, List.getD_eq_getElem?_getD, List.getElem?_eq_getElem (by omega)]
      rfl
theorem ops_at {V : Nat → Nat → Prop} {w : World} {L : List OpR} {sp : List (List C)} {v : Value} (hL : ∀ x ∈ L, x.ok) (h : RepC V w (.sl (L.map opC) sp) v) : SlOps w v L := by
  generalize hes : L.map opC = es at h
  generalize hc : C.sl es sp = c at h
  cases h with
  | v x h => cases hc
  | nil c =>
    cases hc
    have : L = [] := List.map_eq_nil_iff.1 hes
    subst this
    exact ⟨none, 0, rfl, fun i hi => absurd hi (Nat.not_lt_zero _), hL⟩
  | emp a =>
    cases hc
    have : L = [] := List.map_eq_nil_iff.1 hes
    subst this
    exact ⟨some a, 0, rfl, fun i hi => absurd hi (Nat.not_lt_zero _), hL⟩
  | sl es' sp' s b o n cap us hn hcc hm hw hl hu hr =>
    cases hc
    subst hes
    refine ⟨some ⟨b, o, none⟩, cap, by rw [hn, List.length_map], fun i hi => ?_, hL⟩
    have hoi : (L.getD i ⟨0, 0, 0, 0, []⟩).ok := by
      rw [List.getD_eq_getElem?_getD, List.getElem?_eq_getElem hi]
      exact hL _ (List.getElem_mem hi)
    have hget : (L.map opC).getD i [] = opC (L.getD i ⟨0, 0, 0, 0, []⟩) := by
      rw [List.getD_eq_getElem?_getD, List.getElem?_map, List.getD_eq_getElem?_getD, List.getElem?_eq_getElem hi]
      rfl
    have hcell : ∀ q, q < 28 → ∀ v, (L.getD i ⟨0, 0, 0, 0, []⟩).vs[q]? = some v → w.cell? ⟨b, o + i * 28 + q, none⟩ = some v := fun q hq v hv => by
      obtain ⟨k, n, g1, g2⟩ := op_cell hoi hq
      have h1 := flat_get (rest := sp.flatten) (n := 28) (es := L.map opC) (fun x hx => by obtain ⟨y, hy, rfl⟩ := List.mem_map.1 hx; exact opC_len (hL y hy)) i q (by rw [List.length_map]; exact hi) hq
      rw [hget, g1, ← List.flatten_append] at h1
      have hlt : i * 28 + q < us.length := by rw [hl]; exact (List.getElem?_eq_some_iff.1 h1).1
      have h2 := hr (i * 28 + q) _ us[i * 28 + q] h1 (List.getElem?_eq_getElem hlt)
      have h3 := (hu (i * 28 + q) us[i * 28 + q] (List.getElem?_eq_getElem hlt)).1
      rw [g2] at hv
      rw [Nat.add_assoc, h3]
      generalize us[i * 28 + q] = u at h2
      cases h2
      exact hv
    have hvl : (L.getD i ⟨0, 0, 0, 0, []⟩).vs.length = 28 := by
      have h24 := hoi.1.1
      generalize L.getD i ⟨0, 0, 0, 0, []⟩ = x at h24
      simp [OpR.vs, opV, h24]
    refine ⟨b, o, rfl, World.block_lt_of_cell? w _ (hcell 0 (by omega) _ rfl), fun q v hq => ?_⟩
    exact hcell q (by rw [← hvl]; exact (List.getElem?_eq_some_iff.1 hq).1) v hq
theorem m3003 (L : List OpR) (sp : List (List C)) (a b : Nat) (hL : ∀ x ∈ L, x.ok) (ha : a < 256) (hb : b < 256) (hl : L.length ≤ 1048576) :
    Meets Tryz.prog (tab10 Tryz.prog) 3 [.one (cI .u8 a), .one (cI .u8 b), .one (.sl (L.map opC) sp)] (.x (.one (cB true))) := by
  refine ⟨by kernel_rfl, fun w V vs _ _ h => ?_⟩
  obtain ⟨v1, vs, rfl, h1, h⟩ := h.head
  obtain ⟨v2, vs, rfl, h2, h⟩ := h.head
  obtain ⟨v3, vs, rfl, h3, h⟩ := h.head
  obtain rfl := h.nil_left
  cases h1
  cases h2
  refine (plays_calls ha hb (ops_at hL h3) hl).mono ?_
  rintro e w' ⟨rfl, hb⟩
  exact ⟨_, rfl, RepC.v _ rfl, hb⟩
theorem not_agg5 : ¬ isAggTy Tryz.prog 5 := by
  rintro (⟨fs, h⟩ | ⟨n, e, h⟩) <;> rw [Tryz.underlying5] at h <;> cases h
theorem not_agg22 : ¬ isAggTy Tryz.prog 22 := by
  rintro (⟨fs, h⟩ | ⟨n, e, h⟩) <;> rw [Tryz.underlying22] at h <;> cases h
theorem met3 (os : Os) : laidMet Tryz.prog laidList ((wit os).forCall (fun _ _ => 0) ⟨#[], #[.int .u8 0, .int .u8 0, .slice none 0 0], []⟩).memory := laidMet_of_run' 8 (by kernel_rfl) (by kernel_rfl)
theorem reads3 (os : Os) {H : Type} (enc : TypeId × Value → H) : ∃ places, DataW.whole enc Tryz.prog ((wit os).forCall (fun _ _ => 0) ⟨#[], #[.int .u8 0, .int .u8 0, .slice none 0 0], []⟩).memory Tryz.f3.params.toList Rows.indexPlaysSpec.vars false (#[.int .u8 0, .int .u8 0, .slice none 0 0] : Array Value).toList 16 = some ([.lit (.int .u8 0), .lit (.int .u8 0), .nil], [], places) := ⟨[], by kernel_rfl⟩
set_option maxRecDepth 100000 in
theorem lifted3 (os : Os) (started : os.Started) (H : Type) (enc : TypeId × Value → H) (F : Stop.Interp) :
    ReturnsInHanded {} Tryz.checked os 3 .any ((Rows.OpenSpec.upto Rows.indexPlaysSpec).preRow enc Tryz.prog Tryz.f3 Rows.indexPlaysUptoRow.domain false Rows.indexPlaysUptoRow.laid) (((Rows.OpenSpec.upto Rows.indexPlaysSpec).at F).post enc Tryz.prog Tryz.f3 false true false false) := by
  obtain ⟨places, hx⟩ := reads3 os enc
  refine returnsInHanded_of_row (C := Tryz.checked) (s := Rows.OpenSpec.upto Rows.indexPlaysSpec) own started (by kernel_rfl) Tryz.func3
    (witness_row_at (enc := enc) (C := Tryz.checked) false (wit os) #[.int .u8 0, .int .u8 0, .slice none 0 0] rfl (by kernel_rfl) (by kernel_rfl) (by kernel_rfl)
      (OpenSpec.preRow_of_cond 16 hx (by kernel_rfl) (fun k hk => by cases hk; kernel_rfl) (by kernel_rfl) (met3 os))) ?_
  intro W base args ds gs before hval hW _ hcond _ _ _ _
  have hk := hcond _ rfl
  refine law_calls (P := Tryz.prog) (G := tab10 Tryz.prog) (N := 1048576) (fn := Tryz.f3) (s := Rows.indexPlaysSpec) (ts := [5, 22, 66, 3, 61, 64, 62]) (tb := 4) laidOut (by kernel_rfl) (by kernel_rfl) (by kernel_rfl) rfl Tryz.underlying4 rfl ?_ hval hW held_list (upto_bound hk) ?_
  · intro ds hd
    match ds, hd with
    | [_, _, _], _ => rfl
  · intro cs hc hb
    obtain ⟨x, cs, rfl, hx, hc⟩ := hc.head
    obtain ⟨y, cs, rfl, hy, hc⟩ := hc.head
    obtain ⟨z, cs, rfl, hz, hc⟩ := hc.head
    obtain rfl := hc.nil_left
    obtain ⟨c1, e0, hx2⟩ := hx.asOne not_agg5
    subst e0
    obtain ⟨a, rfl, ha⟩ := ty_u8 hx2
    obtain ⟨c2, e0, hy2⟩ := hy.asOne not_agg5
    subst e0
    obtain ⟨b, rfl, hb2⟩ := ty_u8 hy2
    obtain ⟨c3, e0, hz2⟩ := hz.asOne not_agg22
    subst e0
    obtain ⟨es, sp, he, hes, _⟩ := hz2.asSlice Tryz.underlying22
    injection he with he
    subst he
    obtain ⟨L, rfl, hL⟩ := typed_ops (es := es) fun e he => hes e (List.mem_append_left _ he)
    simp only [List.map_cons, List.map_nil, List.sum_cons, List.sum_nil, CX.bulk, C.bulk] at hb
    have := ops_bulk L
    exact m3003 L sp a b hL ha hb2 (by omega)
theorem row3 : Rows.IndexPlaysUptoSaid :=
  OpenClaim.holds_of_cond 3 Tryz.f3 rfl rfl rfl rfl rfl rfl rfl ⟨rfl, rfl, rfl, rfl, rfl⟩ rfl rfl rfl rfl rfl f3_n Tryz.func3 j3 f3_i f3_w
    (fun os started H enc _ F => by rw [OpenClaim.pre_eq_preRow]; exact lifted3 os started H enc F)
theorem plain3 (f : FuncId) (fn : Func) (hf : Tryz.pinned.checked.prog.funcNamed "pedigree/pedigreelaw11.IndexPlays" = some f) (hfn : Tryz.pinned.checked.prog.funcs[f]? = some fn) :
    false = Tryz.pinned.checked.prog.looks [] ∧ ∀ (j : Nat) t, fn.params[j]? = some t → Tryz.pinned.checked.prog.wantsStandIn t = false := by
  obtain rfl : f = 3 := Option.some.inj ((show Tryz.prog.funcNamed "pedigree/pedigreelaw11.IndexPlays" = some 3 from f3_n).symm.trans hf) |>.symm
  obtain rfl : fn = Tryz.f3 := (Option.some.inj (Tryz.func3.symm.trans hfn)).symm
  refine ⟨by kernel_rfl, fun j t ht => ?_⟩
  rw [Tryz.params3] at ht
  have hm : t ∈ [5, 5, 22] := by simpa using Array.mem_of_getElem? ht
  have hall : ([5, 5, 22].all fun u => !Tryz.prog.wantsStandIn u) = true := by kernel_rfl
  exact (show Tryz.prog.wantsStandIn t = false by simpa using List.all_eq_true.1 hall t hm)
theorem indexPlaysUpto_card : Rows.IndexPlaysUptoCardSaid :=
  by refine Claim7.holds_tied_plain_at .later [] _ _ _ _ row3 (fun _ h => by cases h) ?_ (fun _ h => by cases h) indexPlaysUpto_row_tie rfl ⟨rfl, rfl⟩ ?_ rfl plain3 ?_ <;> (as_aux_lemma => kernel_rfl)
end Go.Proofs.YtckhkfchgcdajaaGreatDoor

import Derived.Test.YtiomojlcnemnhaaFHxV7
import Derived.Test.YtiomojlcnemnhaaFHxM3
import Derived.Test.YtiomojlcnemnhaaFHxQ2
import Derived.Test.YtiomojlcnemnhaaFHxX2
/- Contracts, on: the law CheckLess. (Labels of 3000 and more: the plain seat.) -/
namespace Go.Proofs.Ytiomojlcnemnhaa
open Go.Fx Go.RowKit Go.Ped
variable {G : World → Prop}

theorem fewN_flat {α β : Type} {k : Int} {l : List α} (f : α → List β) : ∀ n : Nat, ((fewN k l n).flatMap f).length ≤ ((l.take n).flatMap f).length
  | 0 => by simp [fewN]
  | n + 1 => by
    have ih := fewN_flat (k := k) (l := l) f n
    rw [fewN, List.flatMap_append, List.length_append]
    by_cases hn : n < l.length
    · rw [List.take_succ_eq_append_getElem hn, List.flatMap_append, List.length_append, List.getElem?_eq_getElem hn]
      simp only
      split
      · omega
      · simp only [List.flatMap_nil, List.length_nil]; omega
    · rw [List.getElem?_eq_none (by omega), List.take_of_length_le (by omega : l.length ≤ n + 1)]
      rw [List.take_of_length_le (by omega : l.length ≤ n)] at ih
      simpa using ih
theorem few_flat {α β : Type} {k : Int} {l : List α} (f : α → List β) : ((few k l).flatMap f).length ≤ (l.flatMap f).length := by
  have := fewN_flat (k := k) (l := l) f l.length
  rwa [List.take_length] at this
theorem few_mem {α : Type} {k : Int} {l : List α} : ∀ x ∈ few k l, x ∈ l := fun _ h => fewN_mem h
theorem few_len {α : Type} {k : Int} {l : List α} : (few k l).length ≤ l.length := fewN_len _
theorem JobFit.few {rules : List Rule} {facts : List Fc} (h : JobFit rules facts) (k : Int) : JobFit (few k rules) (few k facts) := by
  have h1 := few_len (k := k) (l := rules)
  have h2 := few_len (k := k) (l := facts)
  have h3 := few_flat (k := k) (l := rules) standOf
  have h4 := h.rlen
  have h5 := h.flen
  have h6 := h.stand
  refine ⟨fun r hr => h.rfit r (few_mem r hr), by omega, fun f hf => h.ffit f (few_mem f hf), by omega, by omega, fun p hp => h.names p ?_⟩
  rcases List.mem_append.1 hp with hp | hp
  · obtain ⟨r, hr, hp⟩ := List.mem_flatMap.1 hp
    exact List.mem_append_left _ (List.mem_flatMap.2 ⟨r, few_mem r hr, hp⟩)
  · obtain ⟨f, hf, rfl⟩ := List.mem_map.1 hp
    exact List.mem_append_right _ (List.mem_map.2 ⟨f, few_mem f hf, rfl⟩)
theorem JobFit.more {rules : List Rule} {facts : List Fc} (h : JobFit rules facts) (h1 : rules.length ≤ 524288) (h2 : facts.length ≤ 524288) (h3 : (rules.flatMap standOf).length ≤ 2500000) (k : Int) : JobFit (Go.Proofs.Ytiomojlcnemnhaa.few k rules ++ rules) (Go.Proofs.Ytiomojlcnemnhaa.few k facts ++ facts) := by
  have a1 := few_len (k := k) (l := rules)
  have a2 := few_len (k := k) (l := facts)
  have a3 := few_flat (k := k) (l := rules) standOf
  refine ⟨fun r hr => h.rfit r ((List.mem_append.1 hr).elim (few_mem r) id), by rw [List.length_append]; omega, fun f hf => h.ffit f ((List.mem_append.1 hf).elim (few_mem f) id), by rw [List.length_append]; omega, by rw [List.flatMap_append, List.length_append]; omega, fun p hp => h.names p ?_⟩
  rcases List.mem_append.1 hp with hp | hp
  · obtain ⟨r, hr, hp⟩ := List.mem_flatMap.1 hp
    exact List.mem_append_left _ (List.mem_flatMap.2 ⟨r, (List.mem_append.1 hr).elim (few_mem r) id, hp⟩)
  · obtain ⟨f, hf, rfl⟩ := List.mem_map.1 hp
    exact List.mem_append_right _ (List.mem_map.2 ⟨f, (List.mem_append.1 hf).elim (few_mem f) id, rfl⟩)
end Go.Proofs.Ytiomojlcnemnhaa

/- Contracts, on: the law CheckTurned. (Labels of 3000 and more: the plain seat.) -/
namespace Go.Proofs.Ytiomojlcnemnhaa
open Go.Fx Go.RowKit Go.Ped
variable {G : World → Prop}

def turned (b : Int) (l : List Lit) : List Lit := l.drop ((Int.tmod b l.length + l.length) % l.length).toNat ++ l.take ((Int.tmod b l.length + l.length) % l.length).toNat
end Go.Proofs.Ytiomojlcnemnhaa

/- The arguments of the laws, opened by their types. -/
namespace Go.Proofs.Ytiomojlcnemnhaa
open Go.Fx Go.RowKit Go.Ped

theorem list_of {α : Type} {row : α → List C} : ∀ {es : List (List C)}, (∀ x ∈ es, ∃ t, x = row t) → ∃ l : List α, es = l.map row
  | [], _ => ⟨[], rfl⟩
  | x :: es, h => by
    obtain ⟨t, rfl⟩ := h x (List.mem_cons_self ..)
    obtain ⟨l, rfl⟩ := list_of (es := es) fun y hy => h y (List.mem_cons_of_mem _ hy)
    exact ⟨t :: l, rfl⟩

theorem ty_str {cs : List C} (h : Typed Try.prog 9 cs) : ∃ s, cs = [cS (bs s)] := by
  obtain ⟨s, rfl, _⟩ := h.asStr Try.underlying9
  exact ⟨s, rfl⟩
theorem ty_val {cs : List C} (h : Typed Try.prog 25 cs) : ∃ x : Val, cs = x.row := by
  obtain ⟨a, r, rfl, ha, b, r', rfl, hb, c, r'', rfl, hc, hr⟩ := h.asStruct Try.underlying25
  cases hr
  obtain ⟨k, rfl, _⟩ := ha.asInt Try.underlying23
  obtain ⟨n, rfl, _⟩ := hb.asInt Try.underlying2
  obtain ⟨s, rfl⟩ := ty_str hc
  exact ⟨⟨k, n, s⟩, rfl⟩
theorem ty_tm {cs : List C} (h : Typed Try.prog 27 cs) : ∃ t : Tm, cs = t.row := by
  obtain ⟨a, r, rfl, ha, b, r', rfl, hb, hr⟩ := h.asStruct Try.underlying27
  cases hr
  obtain ⟨v, rfl⟩ := ty_str ha
  obtain ⟨x, rfl⟩ := ty_val hb
  exact ⟨⟨v, x⟩, rfl⟩
theorem ty_tms {cs : List C} (h : Typed Try.prog 120 cs) : ∃ (l : List Tm) (sp : Sp), cs = [.sl (l.map Tm.row) sp] := by
  obtain ⟨es, sp, rfl, hes, hn⟩ := h.asSlice Try.underlying120
  obtain ⟨l, rfl⟩ := list_of (row := Tm.row) (es := es) fun x hx => ty_tm (hes x (List.mem_append_left _ hx))
  exact ⟨l, sp, rfl⟩
theorem ty_vals {cs : List C} (h : Typed Try.prog 199 cs) : ∃ (l : List Val) (sp : Sp), cs = [.sl (l.map Val.row) sp] := by
  obtain ⟨es, sp, rfl, hes, hn⟩ := h.asSlice Try.underlying199
  obtain ⟨l, rfl⟩ := list_of (row := Val.row) (es := es) fun x hx => ty_val (hes x (List.mem_append_left _ hx))
  exact ⟨l, sp, rfl⟩
theorem ty_arg {cs : List C} (h : Typed Try.prog 189 cs) : ∃ a : Arg, cs = a.row := by
  obtain ⟨a, r, rfl, ha, b, r', rfl, hb, hr⟩ := h.asStruct Try.underlying189
  cases hr
  obtain ⟨k, rfl, _⟩ := ha.asInt Try.underlying187
  obtain ⟨t, rfl⟩ := ty_tm hb
  exact ⟨⟨k, t⟩, by simp [Arg.row]⟩

theorem ty_ex {cs : List C} (h : Typed Try.prog 127 cs) : ∃ e : Ex, cs = e.row := by
  induction hn : rowBulk cs using Nat.strongRecOn generalizing cs with
  | ind n ih =>
    obtain ⟨a, r, rfl, ha, b, r', rfl, hb, c, r'', rfl, hc, hr⟩ := h.asStruct Try.underlying127
    cases hr
    obtain ⟨op, rfl, _⟩ := ha.asInt Try.underlying124
    obtain ⟨t, rfl⟩ := ty_tm hb
    obtain ⟨es, sp, rfl, hes, _⟩ := hc.asSlice Try.underlying125
    obtain ⟨l, rfl⟩ := list_of (row := Ex.row) (es := es) fun x hx => by
      have hle : ∀ (es : List (List C)) (x : List C), x ∈ es → rowBulk x ≤ rowsBulk es := by
        intro es x hx
        induction es with
        | nil => cases hx
        | cons y es ih =>
          simp only [rowsBulk]
          rcases List.mem_cons.1 hx with rfl | hx
          · omega
          · have := ih hx; omega
      have h1 := hle es x hx
      refine ih (rowBulk x) ?_ (hes x (List.mem_append_left _ hx)) rfl
      rw [← hn]
      simp only [rowBulk_append, rowBulk, C.bulk]
      omega
    exact ⟨.mk op t l sp, by rw [Ex.row_mk]; rfl⟩

/- Sizes. -/
theorem rows_len {α : Type} {row : α → List C} (h : ∀ t, 1 ≤ rowBulk (row t)) : ∀ l : List α, l.length ≤ rowsBulk (l.map row)
  | [] => Nat.zero_le _
  | t :: l => by have := rows_len h l; have := h t; simp only [List.map_cons, rowsBulk, List.length_cons]; omega
theorem rows_mem {α : Type} {row : α → List C} {t : α} : ∀ {l : List α}, t ∈ l → rowBulk (row t) ≤ rowsBulk (l.map row)
  | x :: l, h => by
    simp only [List.map_cons, rowsBulk]
    rcases List.mem_cons.1 h with rfl | h
    · omega
    · have := rows_mem (row := row) h; omega
theorem tm_bulk (t : Tm) : 1 ≤ rowBulk t.row := by simp only [Tm.row, rowBulk, C.bulk]; omega
theorem val_bulk (t : Val) : 1 ≤ rowBulk t.row := by simp only [Val.row, rowBulk, C.bulk]; omega
theorem arg_bulk (t : Arg) : 1 ≤ rowBulk t.row := by simp only [Arg.row, rowBulk, C.bulk]; omega
theorem ex_bulk (e : Ex) : 1 ≤ rowBulk e.row := by rw [Ex.row_eq]; simp only [rowBulk, C.bulk]; omega
theorem lit_bulk (x : Lit) : 1 ≤ rowBulk x.row := by simp only [Lit.row, List.cons_append, rowBulk, C.bulk]; omega
theorem ex_small {N : Nat} : ∀ e : Ex, rowBulk e.row ≤ N → e.small N := by
  refine Ex.ind fun op t kids sp ih h => ?_
  rw [Ex.row_mk] at h
  simp only [rowBulk, C.bulk] at h
  refine Ex.small_mk.2 ⟨?_, fun k hk => ih k hk ?_⟩
  · have := rows_len ex_bulk kids; omega
  · have := rows_mem (row := Ex.row) hk; omega
theorem lit_small {N : Nat} (x : Lit) (h : rowBulk x.row ≤ N) : x.small N := by
  simp only [Lit.row, List.cons_append, List.nil_append, rowBulk, rowBulk_append, C.bulk] at h
  have h1 := rows_len tm_bulk x.l
  exact ⟨by omega, ex_small _ (by omega), ex_small _ (by omega)⟩
theorem rule_small {N : Nat} (x : Rule) (h : rowBulk x.row ≤ N) : x.small N := by
  simp only [Rule.row, rowBulk, C.bulk] at h
  have h1 := rows_len arg_bulk x.head
  have h2 := rows_len lit_bulk x.body
  exact ⟨by omega, by omega, fun y hy => lit_small y (by have := rows_mem (row := Lit.row) hy; omega)⟩
theorem flat_bulk {α β : Type} {row : α → List C} {f : α → List β} : ∀ {l : List α}, (∀ k ∈ l, (f k).length ≤ rowBulk (row k)) → (l.flatMap f).length ≤ rowsBulk (l.map row)
  | [], _ => Nat.zero_le _
  | k :: l, h => by
    have h1 := h k (List.mem_cons_self ..)
    have h2 := flat_bulk (row := row) (f := f) fun x hx => h x (List.mem_cons_of_mem k hx)
    simp only [List.flatMap_cons, List.length_append, List.map_cons, rowsBulk]
    omega
theorem ex_terms_bulk : ∀ e : Ex, e.terms.length ≤ rowBulk e.row := by
  refine Ex.ind fun op t kids sp ih => ?_
  have := flat_bulk (row := Ex.row) (f := Ex.terms) ih
  rw [Ex.row_mk, Ex.terms_mk]
  simp only [List.length_cons, rowBulk, C.bulk]
  omega
theorem lit_terms_bulk (x : Lit) : x.terms.length ≤ rowBulk x.row := by
  have h1 := rows_len tm_bulk x.l
  have h2 := ex_terms_bulk x.left
  have h3 := ex_terms_bulk x.right
  simp only [Lit.terms, Lit.row, List.length_append, List.cons_append, List.nil_append, rowBulk, rowBulk_append, C.bulk]
  omega
theorem rule_terms_bulk (r : Rule) : r.terms.length ≤ rowBulk r.row := by
  have h1 := rows_len arg_bulk r.head
  have h2 := flat_bulk (row := Lit.row) (f := Lit.terms) (l := r.body) fun x _ => lit_terms_bulk x
  simp only [Rule.terms, Rule.row, List.length_append, List.length_map, rowBulk, C.bulk]
  omega
end Go.Proofs.Ytiomojlcnemnhaa

/- The arguments of the laws, opened by their types. -/
import Derived.Test.YtiomojlcnemnhaaTHxR
namespace Go.Proofs.Ytiomojlcnemnhaa
open Go.Fx Go.RowKit Go.Ped

theorem list_of {α : Type} {row : α → List C} : ∀ {es : List (List C)}, (∀ x ∈ es, ∃ t, x = row t) → ∃ l : List α, es = l.map row
  | [], _ => ⟨[], rfl⟩
  | x :: es, h => by
    obtain ⟨t, rfl⟩ := h x (List.mem_cons_self ..)
    obtain ⟨l, rfl⟩ := list_of (es := es) fun y hy => h y (List.mem_cons_of_mem _ hy)
    exact ⟨t :: l, rfl⟩

theorem ty_str {cs : List C} (h : Typed Try.prog 9 cs) : ∃ s, cs = [cS (bs s)] := by
  obtain ⟨s, rfl, _⟩ := h.asStr Try.underlying9
  exact ⟨s, rfl⟩
theorem ty_val {cs : List C} (h : Typed Try.prog 25 cs) : ∃ x : Val, cs = x.row := by
  obtain ⟨a, r, rfl, ha, b, r', rfl, hb, c, r'', rfl, hc, hr⟩ := h.asStruct Try.underlying25
  cases hr
  obtain ⟨k, rfl, _⟩ := ha.asInt Try.underlying23
  obtain ⟨n, rfl, _⟩ := hb.asInt Try.underlying2
  obtain ⟨s, rfl⟩ := ty_str hc
  exact ⟨⟨k, n, s⟩, rfl⟩
theorem ty_tm {cs : List C} (h : Typed Try.prog 27 cs) : ∃ t : Tm, cs = t.row := by
  obtain ⟨a, r, rfl, ha, b, r', rfl, hb, hr⟩ := h.asStruct Try.underlying27
  cases hr
  obtain ⟨v, rfl⟩ := ty_str ha
  obtain ⟨x, rfl⟩ := ty_val hb
  exact ⟨⟨v, x⟩, rfl⟩
theorem ty_tms {cs : List C} (h : Typed Try.prog 120 cs) : ∃ (l : List Tm) (sp : Sp), cs = [.sl (l.map Tm.row) sp] := by
  obtain ⟨es, sp, rfl, hes, hn⟩ := h.asSlice Try.underlying120
  obtain ⟨l, rfl⟩ := list_of (row := Tm.row) (es := es) fun x hx => ty_tm (hes x (List.mem_append_left _ hx))
  exact ⟨l, sp, rfl⟩
theorem ty_atom {cs : List C} (h : Typed Try.prog 122 cs) : ∃ (p : Name) (l : List Tm) (sp : Sp), cs = [cS (bs p), .sl (l.map Tm.row) sp] := by
  obtain ⟨a, r, rfl, ha, b, r', rfl, hb, hr⟩ := h.asStruct Try.underlying122
  cases hr
  obtain ⟨p, rfl⟩ := ty_str ha
  obtain ⟨l, sp, rfl⟩ := ty_tms hb
  exact ⟨p, l, sp, rfl⟩
theorem ty_ex {cs : List C} (h : Typed Try.prog 127 cs) : ∃ e : Ex, cs = e.row := by
  induction hn : rowBulk cs using Nat.strongRecOn generalizing cs with
  | ind n ih =>
    obtain ⟨a, r, rfl, ha, b, r', rfl, hb, c, r'', rfl, hc, hr⟩ := h.asStruct Try.underlying127
    cases hr
    obtain ⟨op, rfl, _⟩ := ha.asInt Try.underlying124
    obtain ⟨t, rfl⟩ := ty_tm hb
    obtain ⟨es, sp, rfl, hes, _⟩ := hc.asSlice Try.underlying125
    obtain ⟨l, rfl⟩ := list_of (row := Ex.row) (es := es) fun x hx => by
      have hle : ∀ (es : List (List C)) (x : List C), x ∈ es → rowBulk x ≤ rowsBulk es := by
        intro es x hx
        induction es with
        | nil => cases hx
        | cons y es ih =>
          simp only [rowsBulk]
          rcases List.mem_cons.1 hx with rfl | hx
          · omega
          · have := ih hx; omega
      have h1 := hle es x hx
      refine ih (rowBulk x) ?_ (hes x (List.mem_append_left _ hx)) rfl
      rw [← hn]
      simp only [rowBulk_append, rowBulk, C.bulk]
      omega
    exact ⟨.mk op t l sp, by rw [Ex.row_mk]; rfl⟩

theorem ty_lit {cs : List C} (h : Typed Try.prog 129 cs) : ∃ x : Lit, cs = x.row := by
  obtain ⟨a, r, rfl, ha, b, r', rfl, hb, c, r'', rfl, hc, d, r3, rfl, hd, e, r4, rfl, he, hr⟩ := h.asStruct Try.underlying129
  cases hr
  obtain ⟨k, rfl, _⟩ := ha.asInt Try.underlying119
  obtain ⟨p, l, sp, rfl⟩ := ty_atom hb
  obtain ⟨rel, rfl, _⟩ := hc.asInt Try.underlying123
  obtain ⟨x, rfl⟩ := ty_ex hd
  obtain ⟨y, rfl⟩ := ty_ex he
  exact ⟨⟨k, p, l, sp, rel, x, y⟩, by simp [Lit.row]⟩
/- Sizes. -/
theorem rows_len {α : Type} {row : α → List C} (h : ∀ t, 1 ≤ rowBulk (row t)) : ∀ l : List α, l.length ≤ rowsBulk (l.map row)
  | [] => Nat.zero_le _
  | t :: l => by have := rows_len h l; have := h t; simp only [List.map_cons, rowsBulk, List.length_cons]; omega
theorem rows_mem {α : Type} {row : α → List C} {t : α} : ∀ {l : List α}, t ∈ l → rowBulk (row t) ≤ rowsBulk (l.map row)
  | x :: l, h => by
    simp only [List.map_cons, rowsBulk]
    rcases List.mem_cons.1 h with rfl | h
    · omega
    · have := rows_mem (row := row) h; omega
theorem tm_bulk (t : Tm) : 1 ≤ rowBulk t.row := by simp only [Tm.row, rowBulk, C.bulk]; omega
theorem ex_bulk (e : Ex) : 1 ≤ rowBulk e.row := by rw [Ex.row_eq]; simp only [rowBulk, C.bulk]; omega
theorem lit_bulk (x : Lit) : 1 ≤ rowBulk x.row := by simp only [Lit.row, List.cons_append, rowBulk, C.bulk]; omega
theorem ex_small {N : Nat} : ∀ e : Ex, rowBulk e.row ≤ N → e.small N := by
  refine Ex.ind fun op t kids sp ih h => ?_
  rw [Ex.row_mk] at h
  simp only [rowBulk, C.bulk] at h
  refine Ex.small_mk.2 ⟨?_, fun k hk => ih k hk ?_⟩
  · have := rows_len ex_bulk kids; omega
  · have := rows_mem (row := Ex.row) hk; omega
theorem lit_small {N : Nat} (x : Lit) (h : rowBulk x.row ≤ N) : x.small N := by
  simp only [Lit.row, List.cons_append, List.nil_append, rowBulk, rowBulk_append, C.bulk] at h
  have h1 := rows_len tm_bulk x.l
  exact ⟨by omega, ex_small _ (by omega), ex_small _ (by omega)⟩
theorem flat_bulk {α β : Type} {row : α → List C} {f : α → List β} : ∀ {l : List α}, (∀ k ∈ l, (f k).length ≤ rowBulk (row k)) → (l.flatMap f).length ≤ rowsBulk (l.map row)
  | [], _ => Nat.zero_le _
  | k :: l, h => by
    have h1 := h k (List.mem_cons_self ..)
    have h2 := flat_bulk (row := row) (f := f) fun x hx => h x (List.mem_cons_of_mem k hx)
    simp only [List.flatMap_cons, List.length_append, List.map_cons, rowsBulk]
    omega
theorem ex_terms_bulk : ∀ e : Ex, e.terms.length ≤ rowBulk e.row := by
  refine Ex.ind fun op t kids sp ih => ?_
  have := flat_bulk (row := Ex.row) (f := Ex.terms) ih
  rw [Ex.row_mk, Ex.terms_mk]
  simp only [List.length_cons, rowBulk, C.bulk]
  omega
theorem lit_terms_bulk (x : Lit) : x.terms.length ≤ rowBulk x.row := by
  have h1 := rows_len tm_bulk x.l
  have h2 := ex_terms_bulk x.left
  have h3 := ex_terms_bulk x.right
  simp only [Lit.terms, Lit.row, List.length_append, List.cons_append, List.nil_append, rowBulk, rowBulk_append, C.bulk]
  omega
end Go.Proofs.Ytiomojlcnemnhaa

import Derived.Test.YtiomojlcnemnhaaLHxV7
import Derived.Test.YtiomojlcnemnhaaLHxX2
import Derived.Test.YtiomojlcnemnhaaLHxQ1
import Derived.Test.YtiomojlcnemnhaaLHxIcY
import Derived.Test.YtiomojlcnemnhaaLPedD
/- Contracts, on: the law CheckTurned. (Labels of 3000 and more: the plain seat.) -/
namespace Go.Proofs.Ytiomojlcnemnhaa
open Go.Fx Go.RowKit Go.Ped
variable {G : World → Prop}

def turned (b : Int) (l : List Lit) : List Lit := l.drop ((Int.tmod b l.length + l.length) % l.length).toNat ++ l.take ((Int.tmod b l.length + l.length) % l.length).toNat
end Go.Proofs.Ytiomojlcnemnhaa

/- The arguments of the laws, opened by their types. -/
namespace Go.Proofs.Ytiomojlcnemnhaa
open Go.Fx Go.RowKit Go.Ped

theorem list_of {α : Type} {row : α → List C} : ∀ {es : List (List C)}, (∀ x ∈ es, ∃ t, x = row t) → ∃ l : List α, es = l.map row
  | [], _ => ⟨[], rfl⟩
  | x :: es, h => by
    obtain ⟨t, rfl⟩ := h x (List.mem_cons_self ..)
    obtain ⟨l, rfl⟩ := list_of (es := es) fun y hy => h y (List.mem_cons_of_mem _ hy)
    exact ⟨t :: l, rfl⟩

theorem ty_str {cs : List C} (h : Typed Try.prog 9 cs) : ∃ s, cs = [cS (bs s)] := by
  obtain ⟨s, rfl, _⟩ := h.asStr Try.underlying9
  exact ⟨s, rfl⟩
theorem ty_val {cs : List C} (h : Typed Try.prog 25 cs) : ∃ x : Val, cs = x.row := by
  obtain ⟨a, r, rfl, ha, b, r', rfl, hb, c, r'', rfl, hc, hr⟩ := h.asStruct Try.underlying25
  cases hr
  obtain ⟨k, rfl, _⟩ := ha.asInt Try.underlying23
  obtain ⟨n, rfl, _⟩ := hb.asInt Try.underlying2
  obtain ⟨s, rfl⟩ := ty_str hc
  exact ⟨⟨k, n, s⟩, rfl⟩
theorem ty_tm {cs : List C} (h : Typed Try.prog 27 cs) : ∃ t : Tm, cs = t.row := by
  obtain ⟨a, r, rfl, ha, b, r', rfl, hb, hr⟩ := h.asStruct Try.underlying27
  cases hr
  obtain ⟨v, rfl⟩ := ty_str ha
  obtain ⟨x, rfl⟩ := ty_val hb
  exact ⟨⟨v, x⟩, rfl⟩
theorem ty_tms {cs : List C} (h : Typed Try.prog 120 cs) : ∃ (l : List Tm) (sp : Sp), cs = [.sl (l.map Tm.row) sp] := by
  obtain ⟨es, sp, rfl, hes, hn⟩ := h.asSlice Try.underlying120
  obtain ⟨l, rfl⟩ := list_of (row := Tm.row) (es := es) fun x hx => ty_tm (hes x (List.mem_append_left _ hx))
  exact ⟨l, sp, rfl⟩
theorem ty_vals {cs : List C} (h : Typed Try.prog 199 cs) : ∃ (l : List Val) (sp : Sp), cs = [.sl (l.map Val.row) sp] := by
  obtain ⟨es, sp, rfl, hes, hn⟩ := h.asSlice Try.underlying199
  obtain ⟨l, rfl⟩ := list_of (row := Val.row) (es := es) fun x hx => ty_val (hes x (List.mem_append_left _ hx))
  exact ⟨l, sp, rfl⟩
theorem ty_arg {cs : List C} (h : Typed Try.prog 189 cs) : ∃ a : Arg, cs = a.row := by
  obtain ⟨a, r, rfl, ha, b, r', rfl, hb, hr⟩ := h.asStruct Try.underlying189
  cases hr
  obtain ⟨k, rfl, _⟩ := ha.asInt Try.underlying187
  obtain ⟨t, rfl⟩ := ty_tm hb
  exact ⟨⟨k, t⟩, by simp [Arg.row]⟩

theorem ty_ex {cs : List C} (h : Typed Try.prog 127 cs) : ∃ e : Ex, cs = e.row := by
  induction hn : rowBulk cs using Nat.strongRecOn generalizing cs with
  | ind n ih =>
    obtain ⟨a, r, rfl, ha, b, r', rfl, hb, c, r'', rfl, hc, hr⟩ := h.asStruct Try.underlying127
    cases hr
    obtain ⟨op, rfl, _⟩ := ha.asInt Try.underlying124
    obtain ⟨t, rfl⟩ := ty_tm hb
    obtain ⟨es, sp, rfl, hes, _⟩ := hc.asSlice Try.underlying125
    obtain ⟨l, rfl⟩ := list_of (row := Ex.row) (es := es) fun x hx => by
      have hle : ∀ (es : List (List C)) (x : List C), x ∈ es → rowBulk x ≤ rowsBulk es := by
        intro es x hx
        induction es with
        | nil => cases hx
        | cons y es ih =>
          simp only [rowsBulk]
          rcases List.mem_cons.1 hx with rfl | hx
          · omega
          · have := ih hx; omega
      have h1 := hle es x hx
      refine ih (rowBulk x) ?_ (hes x (List.mem_append_left _ hx)) rfl
      rw [← hn]
      simp only [rowBulk_append, rowBulk, C.bulk]
      omega
    exact ⟨.mk op t l sp, by rw [Ex.row_mk]; rfl⟩

/- Sizes. -/
theorem rows_len {α : Type} {row : α → List C} (h : ∀ t, 1 ≤ rowBulk (row t)) : ∀ l : List α, l.length ≤ rowsBulk (l.map row)
  | [] => Nat.zero_le _
  | t :: l => by have := rows_len h l; have := h t; simp only [List.map_cons, rowsBulk, List.length_cons]; omega
theorem rows_mem {α : Type} {row : α → List C} {t : α} : ∀ {l : List α}, t ∈ l → rowBulk (row t) ≤ rowsBulk (l.map row)
  | x :: l, h => by
    simp only [List.map_cons, rowsBulk]
    rcases List.mem_cons.1 h with rfl | h
    · omega
    · have := rows_mem (row := row) h; omega
theorem tm_bulk (t : Tm) : 1 ≤ rowBulk t.row := by simp only [Tm.row, rowBulk, C.bulk]; omega
theorem val_bulk (t : Val) : 1 ≤ rowBulk t.row := by simp only [Val.row, rowBulk, C.bulk]; omega
theorem arg_bulk (t : Arg) : 1 ≤ rowBulk t.row := by simp only [Arg.row, rowBulk, C.bulk]; omega
theorem ex_bulk (e : Ex) : 1 ≤ rowBulk e.row := by rw [Ex.row_eq]; simp only [rowBulk, C.bulk]; omega
theorem lit_bulk (x : Lit) : 1 ≤ rowBulk x.row := by simp only [Lit.row, List.cons_append, rowBulk, C.bulk]; omega
theorem ex_small {N : Nat} : ∀ e : Ex, rowBulk e.row ≤ N → e.small N := by
  refine Ex.ind fun op t kids sp ih h => ?_
  rw [Ex.row_mk] at h
  simp only [rowBulk, C.bulk] at h
  refine Ex.small_mk.2 ⟨?_, fun k hk => ih k hk ?_⟩
  · have := rows_len ex_bulk kids; omega
  · have := rows_mem (row := Ex.row) hk; omega
theorem lit_small {N : Nat} (x : Lit) (h : rowBulk x.row ≤ N) : x.small N := by
  simp only [Lit.row, List.cons_append, List.nil_append, rowBulk, rowBulk_append, C.bulk] at h
  have h1 := rows_len tm_bulk x.l
  exact ⟨by omega, ex_small _ (by omega), ex_small _ (by omega)⟩
theorem rule_small {N : Nat} (x : Rule) (h : rowBulk x.row ≤ N) : x.small N := by
  simp only [Rule.row, rowBulk, C.bulk] at h
  have h1 := rows_len arg_bulk x.head
  have h2 := rows_len lit_bulk x.body
  exact ⟨by omega, by omega, fun y hy => lit_small y (by have := rows_mem (row := Lit.row) hy; omega)⟩
theorem flat_bulk {α β : Type} {row : α → List C} {f : α → List β} : ∀ {l : List α}, (∀ k ∈ l, (f k).length ≤ rowBulk (row k)) → (l.flatMap f).length ≤ rowsBulk (l.map row)
  | [], _ => Nat.zero_le _
  | k :: l, h => by
    have h1 := h k (List.mem_cons_self ..)
    have h2 := flat_bulk (row := row) (f := f) fun x hx => h x (List.mem_cons_of_mem k hx)
    simp only [List.flatMap_cons, List.length_append, List.map_cons, rowsBulk]
    omega
theorem ex_terms_bulk : ∀ e : Ex, e.terms.length ≤ rowBulk e.row := by
  refine Ex.ind fun op t kids sp ih => ?_
  have := flat_bulk (row := Ex.row) (f := Ex.terms) ih
  rw [Ex.row_mk, Ex.terms_mk]
  simp only [List.length_cons, rowBulk, C.bulk]
  omega
theorem lit_terms_bulk (x : Lit) : x.terms.length ≤ rowBulk x.row := by
  have h1 := rows_len tm_bulk x.l
  have h2 := ex_terms_bulk x.left
  have h3 := ex_terms_bulk x.right
  simp only [Lit.terms, Lit.row, List.length_append, List.cons_append, List.nil_append, rowBulk, rowBulk_append, C.bulk]
  omega
theorem rule_terms_bulk (r : Rule) : r.terms.length ≤ rowBulk r.row := by
  have h1 := rows_len arg_bulk r.head
  have h2 := flat_bulk (row := Lit.row) (f := Lit.terms) (l := r.body) fun x _ => lit_terms_bulk x
  simp only [Rule.terms, Rule.row, List.length_append, List.length_map, rowBulk, C.bulk]
  omega
end Go.Proofs.Ytiomojlcnemnhaa

/- Rules and literals that are small fit. (Seat ZD.) -/
namespace Go.Proofs.Ytiomojlcnemnhaa
open Go.Fx Go.RowKit Go.Ped

theorem lit_fit (x : Lit) (h : rowBulk x.row ≤ 1048576) : x.fit := by
  have h1 := lit_terms_bulk x
  simp only [Lit.terms, List.length_append] at h1
  exact ⟨lit_small x h, by omega, by omega⟩
theorem lits_sum : ∀ l : List Lit, (l.map fun x => x.l.length).sum ≤ rowsBulk (l.map Lit.row)
  | [] => Nat.zero_le _
  | x :: l => by
    have h1 := lit_terms_bulk x
    simp only [Lit.terms, List.length_append] at h1
    have h2 := lits_sum l
    simp only [List.map_cons, List.sum_cons, rowsBulk]
    omega
theorem rule_fit (r : Rule) (h : rowBulk r.row ≤ 1048576) : r.fit := by
  have h1 := rule_terms_bulk r
  have h2 := lits_sum r.body
  have h3 : rowsBulk (r.body.map Lit.row) ≤ rowBulk r.row := by simp only [Rule.row, rowBulk, C.bulk]; omega
  exact ⟨rule_small r h, fun x hx => lit_fit x (by have := rows_mem (row := Lit.row) hx; omega), by omega, by omega⟩
end Go.Proofs.Ytiomojlcnemnhaa

/- The law CheckTurned on what is small. (Labels of 3000 and more: the plain seat.) -/
namespace Go.Proofs.Ytiomojlcnemnhaa
open Go.Fx Go.RowKit Go.Ped

end Go.Proofs.Ytiomojlcnemnhaa

/- Programs and facts, opened by their types; the law CheckInputs on what is small. (Labels of 2000 and more: seat ZD.) -/
namespace Go.Proofs.Ytiomojlcnemnhaa
open Go.Fx Go.RowKit Go.Ped

theorem rule_bulk (r : Rule) : 1 ≤ rowBulk r.row := by simp only [Rule.row, rowBulk, C.bulk]; omega
theorem fc_bulk (f : Fc) : 1 ≤ rowBulk f.row := by simp only [Fc.row, rowBulk, C.bulk]; omega
theorem fc_small (f : Fc) : f.l.length ≤ rowBulk f.row := by
  have := rows_len val_bulk f.l
  simp only [Fc.row, rowBulk, C.bulk]; omega
end Go.Proofs.Ytiomojlcnemnhaa

/- Programs and facts, opened by their types, with their names; the laws CheckJobs and CheckPreds on what is small. (Labels of 2000 and more: seat ZD.) -/
namespace Go.Proofs.Ytiomojlcnemnhaa
open Go.Fx Go.RowKit Go.Ped

theorem list_of' {α : Type} {row : α → List C} {Q : α → Prop} : ∀ {es : List (List C)}, (∀ x ∈ es, ∃ t, x = row t ∧ Q t) → ∃ l : List α, es = l.map row ∧ ∀ t ∈ l, Q t
  | [], _ => ⟨[], rfl, by simp⟩
  | x :: es, h => by
    obtain ⟨t, rfl, ht⟩ := h x (List.mem_cons_self ..)
    obtain ⟨l, rfl, hl⟩ := list_of' (es := es) fun y hy => h y (List.mem_cons_of_mem _ hy)
    exact ⟨t :: l, rfl, fun y hy => (List.mem_cons.1 hy).elim (fun e => e ▸ ht) (hl y)⟩
theorem ty_str' {cs : List C} (h : Typed Try.prog 9 cs) : ∃ s : Name, cs = [cS (bs s)] ∧ s.length ≤ maxLen := by
  obtain ⟨s, rfl, hs⟩ := h.asStr Try.underlying9
  exact ⟨s, rfl, hs⟩
theorem ty_atom' {cs : List C} (h : Typed Try.prog 122 cs) : ∃ (p : Name) (l : List Tm) (sp : Sp), cs = [cS (bs p), .sl (l.map Tm.row) sp] ∧ p.length ≤ maxLen := by
  obtain ⟨a, r, rfl, ha, b, r', rfl, hb, hr⟩ := h.asStruct Try.underlying122
  cases hr
  obtain ⟨p, rfl, hp⟩ := ty_str' ha
  obtain ⟨l, sp, rfl⟩ := ty_tms hb
  exact ⟨p, l, sp, rfl, hp⟩
theorem ty_lit' {cs : List C} (h : Typed Try.prog 129 cs) : ∃ x : Lit, cs = x.row ∧ x.p.length ≤ maxLen := by
  obtain ⟨a, r, rfl, ha, b, r', rfl, hb, c, r'', rfl, hc, d, r3, rfl, hd, e, r4, rfl, he, hr⟩ := h.asStruct Try.underlying129
  cases hr
  obtain ⟨k, rfl, _⟩ := ha.asInt Try.underlying119
  obtain ⟨p, l, sp, rfl, hp⟩ := ty_atom' hb
  obtain ⟨rel, rfl, _⟩ := hc.asInt Try.underlying123
  obtain ⟨x, rfl⟩ := ty_ex hd
  obtain ⟨y, rfl⟩ := ty_ex he
  exact ⟨⟨k, p, l, sp, rel, x, y⟩, by simp [Lit.row], hp⟩
theorem ty_rule' {cs : List C} (h : Typed Try.prog 186 cs) : ∃ x : Rule, cs = x.row ∧ ∀ p ∈ standOf x, p.name.length ≤ maxLen := by
  obtain ⟨a, r, rfl, ha, b, r', rfl, hb, c, r'', rfl, hc, hr⟩ := h.asStruct Try.underlying186
  cases hr
  obtain ⟨p, rfl, hp⟩ := ty_str' ha
  obtain ⟨es, sp, rfl, hes, _⟩ := hb.asSlice Try.underlying184
  obtain ⟨hd, rfl⟩ := list_of (row := Arg.row) (es := es) fun x hx => ty_arg (hes x (List.mem_append_left _ hx))
  obtain ⟨bs', bsp, rfl, hbs, _⟩ := hc.asSlice Try.underlying115
  obtain ⟨bd, rfl, hbd⟩ := list_of' (row := Lit.row) (es := bs') fun x hx => ty_lit' (hbs x (List.mem_append_left _ hx))
  refine ⟨⟨p, hd, sp, bd, bsp⟩, rfl, fun q hq => ?_⟩
  rcases List.mem_cons.1 hq with rfl | hq
  · exact hp
  · obtain ⟨x, hx, rfl⟩ := List.mem_map.1 hq
    exact hbd x (List.mem_filter.1 hx).1
theorem ty_rules' {cs : List C} (h : Typed Try.prog 132 cs) : ∃ (l : List Rule) (sp : Sp), cs = [.sl (l.map Rule.row) sp] ∧ ∀ r ∈ l, ∀ p ∈ standOf r, p.name.length ≤ maxLen := by
  obtain ⟨es, sp, rfl, hes, hn⟩ := h.asSlice Try.underlying132
  obtain ⟨l, rfl, hl⟩ := list_of' (row := Rule.row) (es := es) fun x hx => ty_rule' (hes x (List.mem_append_left _ hx))
  exact ⟨l, sp, rfl, hl⟩
theorem ty_fc' {cs : List C} (h : Typed Try.prog 201 cs) : ∃ f : Fc, cs = f.row ∧ f.p.length ≤ maxLen := by
  obtain ⟨a, r, rfl, ha, b, r', rfl, hb, hr⟩ := h.asStruct Try.underlying201
  cases hr
  obtain ⟨p, rfl, hp⟩ := ty_str' ha
  obtain ⟨l, sp, rfl⟩ := ty_vals hb
  exact ⟨⟨p, l, sp⟩, rfl, hp⟩
theorem ty_fcs' {cs : List C} (h : Typed Try.prog 133 cs) : ∃ (l : List Fc) (sp : Sp), cs = [.sl (l.map Fc.row) sp] ∧ ∀ f ∈ l, f.p.length ≤ maxLen := by
  obtain ⟨es, sp, rfl, hes, hn⟩ := h.asSlice Try.underlying133
  obtain ⟨l, rfl, hl⟩ := list_of' (row := Fc.row) (es := es) fun x hx => ty_fc' (hes x (List.mem_append_left _ hx))
  exact ⟨l, sp, rfl, hl⟩
theorem stand_bulk (r : Rule) : (standOf r).length ≤ rowBulk r.row := by
  have h1 := rows_len lit_bulk r.body
  have h2 := List.length_filter_le isAtom r.body
  simp only [standOf, List.length_cons, List.length_map, Rule.row, rowBulk, C.bulk]
  omega

theorem job_fit {rules : List Rule} {facts : List Fc} (h1 : rowsBulk (rules.map Rule.row) ≤ 1048576) (h2 : rowsBulk (facts.map Fc.row) ≤ 1048576) (hr : ∀ r ∈ rules, ∀ p ∈ standOf r, p.name.length ≤ maxLen) (hf : ∀ f ∈ facts, f.p.length ≤ maxLen) : JobFit rules facts := by
  have a1 := rows_len rule_bulk rules
  have a2 := rows_len fc_bulk facts
  have a3 := flat_bulk (row := Rule.row) (f := standOf) (l := rules) fun r _ => stand_bulk r
  refine ⟨fun r hr => rule_fit r (by have := rows_mem (row := Rule.row) hr; omega), by omega, fun f hf => by have := rows_mem (row := Fc.row) hf; have := fc_small f; omega, by omega, by omega, fun p hp => ?_⟩
  rcases List.mem_append.1 hp with hp | hp
  · obtain ⟨r, hrm, hp⟩ := List.mem_flatMap.1 hp; exact hr r hrm p hp
  · obtain ⟨f, hfm, rfl⟩ := List.mem_map.1 hp; exact hf f hfm
end Go.Proofs.Ytiomojlcnemnhaa

import Derived.Test.YtiomojlcnemnhaaGreatDoorPGxQ1
import Derived.Test.YtiomojlcnemnhaaGreatDoorPGxFacts
import Derived.Test.YtiomojlcnemnhaaGreatDoorPGxQh
import Derived.Test.YtiomojlcnemnhaaGreatDoorPGxQo
/- Rules and literals that are small fit. (Seat ZD.) -/
namespace Go.Proofs.YtiomojlcnemnhaaGreatDoor
open Go.Fx Go.RowKit Go.Ped

theorem lit_fit (x : Lit) (h : rowBulk x.row ≤ 1048576) : x.fit := by
  have h1 := lit_terms_bulk x
  simp only [Lit.terms, List.length_append] at h1
  exact ⟨lit_small x h, by omega, by omega⟩
theorem lits_sum : ∀ l : List Lit, (l.map fun x => x.l.length).sum ≤ rowsBulk (l.map Lit.row)
  | [] => Nat.zero_le _
  | x :: l => by
    have h1 := lit_terms_bulk x
    simp only [Lit.terms, List.length_append] at h1
    have h2 := lits_sum l
    simp only [List.map_cons, List.sum_cons, rowsBulk]
    omega
theorem rule_fit (r : Rule) (h : rowBulk r.row ≤ 1048576) : r.fit := by
  have h1 := rule_terms_bulk r
  have h2 := lits_sum r.body
  have h3 : rowsBulk (r.body.map Lit.row) ≤ rowBulk r.row := by simp only [Rule.row, rowBulk, C.bulk]; omega
  exact ⟨rule_small r h, fun x hx => lit_fit x (by have := rows_mem (row := Lit.row) hx; omega), by omega, by omega⟩
end Go.Proofs.YtiomojlcnemnhaaGreatDoor

/- Programs and facts, opened by their types; the law CheckInputs on what is small. (Labels of 2000 and more: seat ZD.) -/
namespace Go.Proofs.YtiomojlcnemnhaaGreatDoor
open Go.Fx Go.RowKit Go.Ped

theorem not_agg2048 : ¬ isAggTy Tryz.prog 48 := by
  rintro (⟨fs, h⟩ | ⟨n, e, h⟩) <;> rw [Tryz.underlying48] at h <;> cases h
theorem rule_bulk (r : Rule) : 1 ≤ rowBulk r.row := by simp only [Rule.row, rowBulk, C.bulk]; omega
theorem fc_bulk (f : Fc) : 1 ≤ rowBulk f.row := by simp only [Fc.row, rowBulk, C.bulk]; omega
theorem fc_small (f : Fc) : f.l.length ≤ rowBulk f.row := by
  have := rows_len val_bulk f.l
  simp only [Fc.row, rowBulk, C.bulk]; omega
end Go.Proofs.YtiomojlcnemnhaaGreatDoor

/- Programs and facts, opened by their types, with their names; the laws CheckJobs and CheckPreds on what is small. (Labels of 2000 and more: seat ZD.) -/
namespace Go.Proofs.YtiomojlcnemnhaaGreatDoor
open Go.Fx Go.RowKit Go.Ped

theorem list_of' {α : Type} {row : α → List C} {Q : α → Prop} : ∀ {es : List (List C)}, (∀ x ∈ es, ∃ t, x = row t ∧ Q t) → ∃ l : List α, es = l.map row ∧ ∀ t ∈ l, Q t
  | [], _ => ⟨[], rfl, by simp⟩
  | x :: es, h => by
    obtain ⟨t, rfl, ht⟩ := h x (List.mem_cons_self ..)
    obtain ⟨l, rfl, hl⟩ := list_of' (es := es) fun y hy => h y (List.mem_cons_of_mem _ hy)
    exact ⟨t :: l, rfl, fun y hy => (List.mem_cons.1 hy).elim (fun e => e ▸ ht) (hl y)⟩
theorem ty_str' {cs : List C} (h : Typed Tryz.prog 9 cs) : ∃ s : Name, cs = [cS (bs s)] ∧ s.length ≤ maxLen := by
  obtain ⟨s, rfl, hs⟩ := h.asStr Tryz.underlying9
  exact ⟨s, rfl, hs⟩
theorem ty_atom' {cs : List C} (h : Typed Tryz.prog 25 cs) : ∃ (p : Name) (l : List Tm) (sp : Sp), cs = [cS (bs p), .sl (l.map Tm.row) sp] ∧ p.length ≤ maxLen := by
  obtain ⟨a, r, rfl, ha, b, r', rfl, hb, hr⟩ := h.asStruct Tryz.underlying25
  cases hr
  obtain ⟨p, rfl, hp⟩ := ty_str' ha
  obtain ⟨l, sp, rfl⟩ := ty_tms hb
  exact ⟨p, l, sp, rfl, hp⟩
theorem ty_lit' {cs : List C} (h : Typed Tryz.prog 107 cs) : ∃ x : Lit, cs = x.row ∧ x.p.length ≤ maxLen := by
  obtain ⟨a, r, rfl, ha, b, r', rfl, hb, c, r'', rfl, hc, d, r3, rfl, hd, e, r4, rfl, he, hr⟩ := h.asStruct Tryz.underlying107
  cases hr
  obtain ⟨k, rfl, _⟩ := ha.asInt Tryz.underlying100
  obtain ⟨p, l, sp, rfl, hp⟩ := ty_atom' hb
  obtain ⟨rel, rfl, _⟩ := hc.asInt Tryz.underlying101
  obtain ⟨x, rfl⟩ := ty_ex hd
  obtain ⟨y, rfl⟩ := ty_ex he
  exact ⟨⟨k, p, l, sp, rel, x, y⟩, by simp [Lit.row], hp⟩
theorem ty_rule' {cs : List C} (h : Typed Tryz.prog 29 cs) : ∃ x : Rule, cs = x.row ∧ ∀ p ∈ standOf x, p.name.length ≤ maxLen := by
  obtain ⟨a, r, rfl, ha, b, r', rfl, hb, c, r'', rfl, hc, hr⟩ := h.asStruct Tryz.underlying29
  cases hr
  obtain ⟨p, rfl, hp⟩ := ty_str' ha
  obtain ⟨es, sp, rfl, hes, _⟩ := hb.asSlice Tryz.underlying26
  obtain ⟨hd, rfl⟩ := list_of (row := Arg.row) (es := es) fun x hx => ty_arg (hes x (List.mem_append_left _ hx))
  obtain ⟨bs', bsp, rfl, hbs, _⟩ := hc.asSlice Tryz.underlying27
  obtain ⟨bd, rfl, hbd⟩ := list_of' (row := Lit.row) (es := bs') fun x hx => ty_lit' (hbs x (List.mem_append_left _ hx))
  refine ⟨⟨p, hd, sp, bd, bsp⟩, rfl, fun q hq => ?_⟩
  rcases List.mem_cons.1 hq with rfl | hq
  · exact hp
  · obtain ⟨x, hx, rfl⟩ := List.mem_map.1 hq
    exact hbd x (List.mem_filter.1 hx).1
theorem ty_rules' {cs : List C} (h : Typed Tryz.prog 44 cs) : ∃ (l : List Rule) (sp : Sp), cs = [.sl (l.map Rule.row) sp] ∧ ∀ r ∈ l, ∀ p ∈ standOf r, p.name.length ≤ maxLen := by
  obtain ⟨es, sp, rfl, hes, hn⟩ := h.asSlice Tryz.underlying44
  obtain ⟨l, rfl, hl⟩ := list_of' (row := Rule.row) (es := es) fun x hx => ty_rule' (hes x (List.mem_append_left _ hx))
  exact ⟨l, sp, rfl, hl⟩
theorem ty_prog' {cs : List C} (h : Typed Tryz.prog 47 cs) : ∃ (l : List Rule) (sp : Sp), cs = [.sl (l.map Rule.row) sp] ∧ ∀ r ∈ l, ∀ p ∈ standOf r, p.name.length ≤ maxLen := by
  obtain ⟨a, r, rfl, ha, hr⟩ := h.asStruct Tryz.underlying47
  cases hr
  obtain ⟨l, sp, rfl, hl⟩ := ty_rules' ha
  exact ⟨l, sp, rfl, hl⟩
theorem ty_fc' {cs : List C} (h : Typed Tryz.prog 147 cs) : ∃ f : Fc, cs = f.row ∧ f.p.length ≤ maxLen := by
  obtain ⟨a, r, rfl, ha, b, r', rfl, hb, hr⟩ := h.asStruct Tryz.underlying147
  cases hr
  obtain ⟨p, rfl, hp⟩ := ty_str' ha
  obtain ⟨l, sp, rfl⟩ := ty_vals hb
  exact ⟨⟨p, l, sp⟩, rfl, hp⟩
theorem ty_fcs' {cs : List C} (h : Typed Tryz.prog 48 cs) : ∃ (l : List Fc) (sp : Sp), cs = [.sl (l.map Fc.row) sp] ∧ ∀ f ∈ l, f.p.length ≤ maxLen := by
  obtain ⟨es, sp, rfl, hes, hn⟩ := h.asSlice Tryz.underlying48
  obtain ⟨l, rfl, hl⟩ := list_of' (row := Fc.row) (es := es) fun x hx => ty_fc' (hes x (List.mem_append_left _ hx))
  exact ⟨l, sp, rfl, hl⟩
theorem stand_bulk (r : Rule) : (standOf r).length ≤ rowBulk r.row := by
  have h1 := rows_len lit_bulk r.body
  have h2 := List.length_filter_le isAtom r.body
  simp only [standOf, List.length_cons, List.length_map, Rule.row, rowBulk, C.bulk]
  omega

theorem job_fit {rules : List Rule} {facts : List Fc} (h1 : rowsBulk (rules.map Rule.row) ≤ 1048576) (h2 : rowsBulk (facts.map Fc.row) ≤ 1048576) (hr : ∀ r ∈ rules, ∀ p ∈ standOf r, p.name.length ≤ maxLen) (hf : ∀ f ∈ facts, f.p.length ≤ maxLen) : JobFit rules facts := by
  have a1 := rows_len rule_bulk rules
  have a2 := rows_len fc_bulk facts
  have a3 := flat_bulk (row := Rule.row) (f := standOf) (l := rules) fun r _ => stand_bulk r
  refine ⟨fun r hr => rule_fit r (by have := rows_mem (row := Rule.row) hr; omega), by omega, fun f hf => by have := rows_mem (row := Fc.row) hf; have := fc_small f; omega, by omega, by omega, fun p hp => ?_⟩
  rcases List.mem_append.1 hp with hp | hp
  · obtain ⟨r, hrm, hp⟩ := List.mem_flatMap.1 hp; exact hr r hrm p hp
  · obtain ⟨f, hfm, rfl⟩ := List.mem_map.1 hp; exact hf f hfm
end Go.Proofs.YtiomojlcnemnhaaGreatDoor

/- CheckPreds: its row's closed facts. -/
namespace Go.Proofs.YtiomojlcnemnhaaGreatDoor
open Go.Fx Go.RowKit Go.Ped
theorem f7_a : Rows.checkPredsUptoRow.wf (OpenSpec.ofChange (Rows.OpenSpec.upto Rows.checkPredsSpec).bare) = true := by kernel_rfl
theorem f7_b : Tryz.f7.params.all (Tryz.prog.readableRec ·) = true := by kernel_rfl
theorem f7_c : namedTie Tryz.prog Rows.checkPredsUptoRow.named Rows.checkPredsSpec.vars = true := by kernel_rfl
theorem f7_d : (Rows.checkPredsUptoRow.inPlace == Tryz.prog.inPlace 7) = true := by kernel_rfl
theorem f7_e : (Rows.checkPredsUptoRow.unfollowed == Tryz.prog.unfollowed 7) = true := by kernel_rfl
theorem f7_f : (Rows.checkPredsUptoRow.recurses == Tryz.prog.recurses 7) = true := by kernel_rfl
theorem f7_g : (Rows.checkPredsUptoRow.named == Tryz.prog.varsNamed 7) = true := by kernel_rfl
theorem f7_mk : (Tryz.prog.make == some Rows.checkPredsUptoRow.make) = true := makeT
theorem f7_li : (Rows.checkPredsUptoRow.lifted == Tryz.prog.liftsFinal) = true := liftsFinalT
theorem f7_n : Tryz.prog.funcNamed Rows.checkPredsUptoRow.func = some 7 := by kernel_rfl
theorem f7_i : Tryz.f7.isInstance Tryz.prog Rows.checkPredsUptoRow.origin Rows.checkPredsUptoRow.targs := of_decide_eq_true (by kernel_rfl)
theorem f7_w : Tryz.f7.isWrapper Tryz.prog Rows.checkPredsUptoRow.wrapper Rows.checkPredsUptoRow.mainSum := by unfold Func.isWrapper; first | (rw [if_pos (by decide +kernel)]; kernel_rfl) | (rw [if_neg (by decide +kernel)]; exact ⟨rfl, rfl⟩)
theorem j7 : joinedFacts Tryz.prog 7 Tryz.f7 (Rows.OpenSpec.upto Rows.checkPredsSpec).bare Rows.checkPredsUptoRow = true := by
  simp only [joinedFacts, Bool.and_eq_true]
  refine ⟨⟨⟨⟨⟨⟨⟨⟨⟨⟨⟨⟨⟨⟨⟨⟨⟨⟨⟨⟨⟨⟨⟨⟨⟨⟨⟨⟨⟨⟨⟨f7_a, laidOut⟩, mapsRowedT⟩, f7_b⟩, f7_c⟩, rfl⟩, stopsT⟩, rfl⟩, stopKnobsT⟩, f7_d⟩, f7_e⟩, f7_f⟩, f7_g⟩, ?_⟩, ?_⟩, ?_⟩, ?_⟩, ?_⟩, ?_⟩, ?_⟩, ?_⟩, ?_⟩, ?_⟩, rfl⟩, stopsHeardT⟩, mayEnterT⟩, f7_li⟩, f7_mk⟩, ?_⟩, ?_⟩, ?_⟩, ?_⟩
  all_goals (as_aux_lemma => kernel_rfl)
end Go.Proofs.YtiomojlcnemnhaaGreatDoor

import Derived.Test.YtiomojlcnemnhaaFHxQ1
import Derived.Test.YtiomojlcnemnhaaFHxT
import Derived.Test.YtiomojlcnemnhaaFHxIcY
import Derived.Test.YtiomojlcnemnhaaFHxV1
import Derived.Test.YtiomojlcnemnhaaFHxM8
import Derived.Test.YtiomojlcnemnhaaRows
import Derived.Test.YtiomojlcnemnhaaChecked
import Derived.WalkKit
import Derived.ProofKit
import Derived.OpenShut
import Derived.Deep.DeepHandedRow
import Derived.Lib.LaidTab
import Derived.Stop.LaidErr
import Derived.LaidMore
/- Rules and literals that are small fit. (Seat ZD.) -/
namespace Go.Proofs.Ytiomojlcnemnhaa
open Go.Fx Go.RowKit Go.Ped

theorem lit_fit (x : Lit) (h : rowBulk x.row ≤ 1048576) : x.fit := by
  have h1 := lit_terms_bulk x
  simp only [Lit.terms, List.length_append] at h1
  exact ⟨lit_small x h, by omega, by omega⟩
theorem lits_sum : ∀ l : List Lit, (l.map fun x => x.l.length).sum ≤ rowsBulk (l.map Lit.row)
  | [] => Nat.zero_le _
  | x :: l => by
    have h1 := lit_terms_bulk x
    simp only [Lit.terms, List.length_append] at h1
    have h2 := lits_sum l
    simp only [List.map_cons, List.sum_cons, rowsBulk]
    omega
theorem rule_fit (r : Rule) (h : rowBulk r.row ≤ 1048576) : r.fit := by
  have h1 := rule_terms_bulk r
  have h2 := lits_sum r.body
  have h3 : rowsBulk (r.body.map Lit.row) ≤ rowBulk r.row := by simp only [Rule.row, rowBulk, C.bulk]; omega
  exact ⟨rule_small r h, fun x hx => lit_fit x (by have := rows_mem (row := Lit.row) hx; omega), by omega, by omega⟩
end Go.Proofs.Ytiomojlcnemnhaa

/- The law CheckTurned on what is small. (Labels of 3000 and more: the plain seat.) -/
namespace Go.Proofs.Ytiomojlcnemnhaa
open Go.Fx Go.RowKit Go.Ped

end Go.Proofs.Ytiomojlcnemnhaa

/- Programs and facts, opened by their types; the law CheckInputs on what is small. (Labels of 2000 and more: seat ZD.) -/
namespace Go.Proofs.Ytiomojlcnemnhaa
open Go.Fx Go.RowKit Go.Ped

theorem rule_bulk (r : Rule) : 1 ≤ rowBulk r.row := by simp only [Rule.row, rowBulk, C.bulk]; omega
theorem fc_bulk (f : Fc) : 1 ≤ rowBulk f.row := by simp only [Fc.row, rowBulk, C.bulk]; omega
theorem fc_small (f : Fc) : f.l.length ≤ rowBulk f.row := by
  have := rows_len val_bulk f.l
  simp only [Fc.row, rowBulk, C.bulk]; omega
end Go.Proofs.Ytiomojlcnemnhaa

/- Programs and facts, opened by their types, with their names; the laws CheckJobs and CheckPreds on what is small. (Labels of 2000 and more: seat ZD.) -/
namespace Go.Proofs.Ytiomojlcnemnhaa
open Go.Fx Go.RowKit Go.Ped

theorem list_of' {α : Type} {row : α → List C} {Q : α → Prop} : ∀ {es : List (List C)}, (∀ x ∈ es, ∃ t, x = row t ∧ Q t) → ∃ l : List α, es = l.map row ∧ ∀ t ∈ l, Q t
  | [], _ => ⟨[], rfl, by simp⟩
  | x :: es, h => by
    obtain ⟨t, rfl, ht⟩ := h x (List.mem_cons_self ..)
    obtain ⟨l, rfl, hl⟩ := list_of' (es := es) fun y hy => h y (List.mem_cons_of_mem _ hy)
    exact ⟨t :: l, rfl, fun y hy => (List.mem_cons.1 hy).elim (fun e => e ▸ ht) (hl y)⟩
theorem ty_str' {cs : List C} (h : Typed Try.prog 9 cs) : ∃ s : Name, cs = [cS (bs s)] ∧ s.length ≤ maxLen := by
  obtain ⟨s, rfl, hs⟩ := h.asStr Try.underlying9
  exact ⟨s, rfl, hs⟩
theorem ty_atom' {cs : List C} (h : Typed Try.prog 122 cs) : ∃ (p : Name) (l : List Tm) (sp : Sp), cs = [cS (bs p), .sl (l.map Tm.row) sp] ∧ p.length ≤ maxLen := by
  obtain ⟨a, r, rfl, ha, b, r', rfl, hb, hr⟩ := h.asStruct Try.underlying122
  cases hr
  obtain ⟨p, rfl, hp⟩ := ty_str' ha
  obtain ⟨l, sp, rfl⟩ := ty_tms hb
  exact ⟨p, l, sp, rfl, hp⟩
theorem ty_lit' {cs : List C} (h : Typed Try.prog 129 cs) : ∃ x : Lit, cs = x.row ∧ x.p.length ≤ maxLen := by
  obtain ⟨a, r, rfl, ha, b, r', rfl, hb, c, r'', rfl, hc, d, r3, rfl, hd, e, r4, rfl, he, hr⟩ := h.asStruct Try.underlying129
  cases hr
  obtain ⟨k, rfl, _⟩ := ha.asInt Try.underlying119
  obtain ⟨p, l, sp, rfl, hp⟩ := ty_atom' hb
  obtain ⟨rel, rfl, _⟩ := hc.asInt Try.underlying123
  obtain ⟨x, rfl⟩ := ty_ex hd
  obtain ⟨y, rfl⟩ := ty_ex he
  exact ⟨⟨k, p, l, sp, rel, x, y⟩, by simp [Lit.row], hp⟩
theorem ty_rule' {cs : List C} (h : Typed Try.prog 186 cs) : ∃ x : Rule, cs = x.row ∧ ∀ p ∈ standOf x, p.name.length ≤ maxLen := by
  obtain ⟨a, r, rfl, ha, b, r', rfl, hb, c, r'', rfl, hc, hr⟩ := h.asStruct Try.underlying186
  cases hr
  obtain ⟨p, rfl, hp⟩ := ty_str' ha
  obtain ⟨es, sp, rfl, hes, _⟩ := hb.asSlice Try.underlying184
  obtain ⟨hd, rfl⟩ := list_of (row := Arg.row) (es := es) fun x hx => ty_arg (hes x (List.mem_append_left _ hx))
  obtain ⟨bs', bsp, rfl, hbs, _⟩ := hc.asSlice Try.underlying115
  obtain ⟨bd, rfl, hbd⟩ := list_of' (row := Lit.row) (es := bs') fun x hx => ty_lit' (hbs x (List.mem_append_left _ hx))
  refine ⟨⟨p, hd, sp, bd, bsp⟩, rfl, fun q hq => ?_⟩
  rcases List.mem_cons.1 hq with rfl | hq
  · exact hp
  · obtain ⟨x, hx, rfl⟩ := List.mem_map.1 hq
    exact hbd x (List.mem_filter.1 hx).1
theorem ty_fc' {cs : List C} (h : Typed Try.prog 201 cs) : ∃ f : Fc, cs = f.row ∧ f.p.length ≤ maxLen := by
  obtain ⟨a, r, rfl, ha, b, r', rfl, hb, hr⟩ := h.asStruct Try.underlying201
  cases hr
  obtain ⟨p, rfl, hp⟩ := ty_str' ha
  obtain ⟨l, sp, rfl⟩ := ty_vals hb
  exact ⟨⟨p, l, sp⟩, rfl, hp⟩
theorem not_agg2044 : ¬ isAggTy Try.prog 132 := by
  rintro (⟨fs, h⟩ | ⟨n, e, h⟩) <;> rw [Try.underlying132] at h <;> cases h
theorem stand_bulk (r : Rule) : (standOf r).length ≤ rowBulk r.row := by
  have h1 := rows_len lit_bulk r.body
  have h2 := List.length_filter_le isAtom r.body
  simp only [standOf, List.length_cons, List.length_map, Rule.row, rowBulk, C.bulk]
  omega

theorem job_fit {rules : List Rule} {facts : List Fc} (h1 : rowsBulk (rules.map Rule.row) ≤ 1048576) (h2 : rowsBulk (facts.map Fc.row) ≤ 1048576) (hr : ∀ r ∈ rules, ∀ p ∈ standOf r, p.name.length ≤ maxLen) (hf : ∀ f ∈ facts, f.p.length ≤ maxLen) : JobFit rules facts := by
  have a1 := rows_len rule_bulk rules
  have a2 := rows_len fc_bulk facts
  have a3 := flat_bulk (row := Rule.row) (f := standOf) (l := rules) fun r _ => stand_bulk r
  refine ⟨fun r hr => rule_fit r (by have := rows_mem (row := Rule.row) hr; omega), by omega, fun f hf => by have := rows_mem (row := Fc.row) hf; have := fc_small f; omega, by omega, by omega, fun p hp => ?_⟩
  rcases List.mem_append.1 hp with hp | hp
  · obtain ⟨r, hrm, hp⟩ := List.mem_flatMap.1 hp; exact hr r hrm p hp
  · obtain ⟨f, hfm, rfl⟩ := List.mem_map.1 hp; exact hf f hfm
end Go.Proofs.Ytiomojlcnemnhaa

/- The laws CheckLess and CheckFirst on what is small. (Labels of 3000 and more: the plain seat.) -/
namespace Go.Proofs.Ytiomojlcnemnhaa
open Go.Fx Go.RowKit Go.Ped

theorem ty_rules3 {cs : List C} (h : Typed Try.prog 132 cs) : ∃ (l : List Rule) (sp : Sp), cs = [.sl (l.map Rule.row) sp] ∧ (∀ r ∈ l, ∀ p ∈ standOf r, p.name.length ≤ maxLen) ∧ ∀ e ∈ sp, e.length = 3 := by
  obtain ⟨es, sp, rfl, hes, hn⟩ := h.asSlice Try.underlying132
  obtain ⟨l, rfl, hl⟩ := list_of' (row := Rule.row) (es := es) fun x hx => ty_rule' (hes x (List.mem_append_left _ hx))
  refine ⟨l, sp, rfl, hl, fun e he => ?_⟩
  obtain ⟨x, rfl, _⟩ := ty_rule' (hes e (List.mem_append_right _ he))
  rfl
theorem ty_fcs3 {cs : List C} (h : Typed Try.prog 133 cs) : ∃ (l : List Fc) (sp : Sp), cs = [.sl (l.map Fc.row) sp] ∧ (∀ f ∈ l, f.p.length ≤ maxLen) ∧ ∀ e ∈ sp, e.length = 2 := by
  obtain ⟨es, sp, rfl, hes, hn⟩ := h.asSlice Try.underlying133
  obtain ⟨l, rfl, hl⟩ := list_of' (row := Fc.row) (es := es) fun x hx => ty_fc' (hes x (List.mem_append_left _ hx))
  refine ⟨l, sp, rfl, hl, fun e he => ?_⟩
  obtain ⟨x, rfl, _⟩ := ty_fc' (hes e (List.mem_append_right _ he))
  rfl
theorem not_agg2048' : ¬ isAggTy Try.prog 133 := by
  rintro (⟨fs, h⟩ | ⟨n, e, h⟩) <;> rw [Try.underlying133] at h <;> cases h

theorem m3009b (rules : List Rule) (sp : Sp) (facts : List Fc) (sq : Sp) (p : Name) (l : List Tm) (qs : Sp) (hr : ∀ r ∈ rules, ∀ p ∈ standOf r, p.name.length ≤ maxLen) (hf : ∀ f ∈ facts, f.p.length ≤ maxLen) (hsp : ∀ e ∈ sp, e.length = 3) (hsq : ∀ e ∈ sq, e.length = 2)
    (h1 : rowsBulk (rules.map Rule.row) ≤ 1048576) (h2 : rowsBulk (facts.map Fc.row) ≤ 1048576) (h3 : rowsBulk (l.map Tm.row) ≤ 1048576) :
    Meets Try.prog GT 9 [.one (.sl (rules.map Rule.row) sp), .one (.sl (facts.map Fc.row) sq), .agg [cS (bs p), .sl (l.map Tm.row) qs]] (.x (.one (cB true))) := by
  have h4 := rows_len tm_bulk l
  exact m3009 rules sp facts sq p l qs (job_fit h1 h2 hr hf) hsp hsq (by omega)
end Go.Proofs.Ytiomojlcnemnhaa

/- What the laws' rows share: the bound on what is read, the witness' world. (The plain seat; not reseated.) -/
namespace Go.Proofs.Ytiomojlcnemnhaa
open Go.Fx Go.RowKit Go.Ped

theorem own : ownKnob Try.prog.godebug = none := by kernel_rfl
theorem laidOut : laidOutB Try.prog = true := by kernel_rfl

/- The bound. -/
mutual
theorem bulk_le {H : Type} : ∀ d : DataW H, bulkD d ≤ Rows.uptoBulk d
  | .lit l => by cases l <;> simp [bulkD, Rows.uptoBulk]
  | .nil => by simp [bulkD, Rows.uptoBulk]
  | .ptr d => by simp [bulkD]
  | .slice a b => by have := bulks_le a; have := bulks_le b; simp only [bulkD, Rows.uptoBulk]; omega
  | .agg a => by have := bulks_le a; simp only [bulkD, Rows.uptoBulk]; omega
  | .iface t d => by simp [bulkD]
  | .map e => by simp [bulkD]
  | .held h => by simp [bulkD]
theorem bulks_le {H : Type} : ∀ l : List (DataW H), bulkDs l ≤ Rows.uptoBulkAll l
  | [] => by simp [bulkDs]
  | d :: l => by have := bulk_le d; have := bulks_le l; simp only [bulkDs, Rows.uptoBulkAll]; omega
end
theorem upto_bound {H : Type} {ds gs : List (DataW H)} (hk : Rows.uptoSmall H (ds ++ gs) = true) : bulkDs ds ≤ 1048576 := by
  have h : Rows.uptoBulkAll (ds ++ gs) ≤ 1048576 := of_decide_eq_true hk
  have h2 := bulks_le (ds ++ gs)
  have h3 : ∀ a b : List (DataW H), bulkDs a ≤ bulkDs (a ++ b) := by
    intro a b
    induction a with
    | nil => simp [bulkDs]
    | cons x a ih => simp only [List.cons_append, bulkDs]; omega
  have := h3 ds gs
  omega


theorem held_list {W : World} : Held (tab10 Try.prog) W := fun _ _ => trivial
/-- A world for the witness. -/
noncomputable abbrev wit (os : Os) : World := { (begin Try.prog (fun _ _ => 0) default).world with os := os }
end Go.Proofs.Ytiomojlcnemnhaa

/- What the rows' closed facts say of the program alone. -/
namespace Go.Proofs.Ytiomojlcnemnhaa
open Go.Fx Go.RowKit Go.Ped

theorem mapsRowedT : mapsRowed Try.prog = true := by kernel_rfl
theorem stopsT : (Try.prog.stops == []) = true := by kernel_rfl
theorem stopKnobsT : (Try.prog.stopKnobs == []) = true := by kernel_rfl
theorem stopsHeardT : Try.prog.stopsHeard = true := by kernel_rfl
theorem mayEnterT : Try.prog.mayEnter = true := by kernel_rfl
theorem liftsFinalT : (Rows.checkTurnedUptoRow.lifted == Try.prog.liftsFinal) = true := by kernel_rfl
theorem makeT : (Try.prog.make == some Rows.checkTurnedUptoRow.make) = true := by kernel_rfl
end Go.Proofs.Ytiomojlcnemnhaa

/- CheckFirst: its row's closed facts. -/
namespace Go.Proofs.Ytiomojlcnemnhaa
open Go.Fx Go.RowKit Go.Ped
theorem f9_a : Rows.checkFirstUptoRow.wf (OpenSpec.ofChange (Rows.OpenSpec.upto Rows.checkFirstSpec).bare) = true := by kernel_rfl
theorem f9_b : Try.f9.params.all (Try.prog.readableRec ·) = true := by kernel_rfl
theorem f9_c : namedTie Try.prog Rows.checkFirstUptoRow.named Rows.checkFirstSpec.vars = true := by kernel_rfl
theorem f9_d : (Rows.checkFirstUptoRow.inPlace == Try.prog.inPlace 9) = true := by kernel_rfl
theorem f9_e : (Rows.checkFirstUptoRow.unfollowed == Try.prog.unfollowed 9) = true := by kernel_rfl
theorem f9_f : (Rows.checkFirstUptoRow.recurses == Try.prog.recurses 9) = true := by kernel_rfl
theorem f9_g : (Rows.checkFirstUptoRow.named == Try.prog.varsNamed 9) = true := by kernel_rfl
theorem f9_mk : (Try.prog.make == some Rows.checkFirstUptoRow.make) = true := makeT
theorem f9_li : (Rows.checkFirstUptoRow.lifted == Try.prog.liftsFinal) = true := liftsFinalT
theorem f9_n : Try.prog.funcNamed Rows.checkFirstUptoRow.func = some 9 := by kernel_rfl
theorem f9_i : Try.f9.isInstance Try.prog Rows.checkFirstUptoRow.origin Rows.checkFirstUptoRow.targs := of_decide_eq_true (by kernel_rfl)
theorem f9_w : Try.f9.isWrapper Try.prog Rows.checkFirstUptoRow.wrapper Rows.checkFirstUptoRow.mainSum := by unfold Func.isWrapper; first | (rw [if_pos (by decide +kernel)]; kernel_rfl) | (rw [if_neg (by decide +kernel)]; exact ⟨rfl, rfl⟩)
theorem j9 : joinedFacts Try.prog 9 Try.f9 (Rows.OpenSpec.upto Rows.checkFirstSpec).bare Rows.checkFirstUptoRow = true := by
  simp only [joinedFacts, Bool.and_eq_true]
  refine ⟨⟨⟨⟨⟨⟨⟨⟨⟨⟨⟨⟨⟨⟨⟨⟨⟨⟨⟨⟨⟨⟨⟨⟨⟨⟨⟨⟨⟨⟨⟨f9_a, laidOut⟩, mapsRowedT⟩, f9_b⟩, f9_c⟩, rfl⟩, stopsT⟩, rfl⟩, stopKnobsT⟩, f9_d⟩, f9_e⟩, f9_f⟩, f9_g⟩, ?_⟩, ?_⟩, ?_⟩, ?_⟩, ?_⟩, ?_⟩, ?_⟩, ?_⟩, ?_⟩, ?_⟩, rfl⟩, stopsHeardT⟩, mayEnterT⟩, f9_li⟩, f9_mk⟩, ?_⟩, ?_⟩, ?_⟩, ?_⟩
  all_goals (as_aux_lemma => kernel_rfl)
end Go.Proofs.Ytiomojlcnemnhaa

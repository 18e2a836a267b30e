import Derived.Test.YtiomojlcnemnhaaDoorEDxX2
import Derived.Test.YtiomojlcnemnhaaDoorEPedF
import Derived.Test.YtiomojlcnemnhaaDoorCards
import Derived.Test.YtiomojlcnemnhaaDoorTie
import Derived.WalkKit
import Derived.ProofKit
import Derived.OpenShut
import Derived.Deep.DeepHandedRow
import Derived.Lib.LaidTab
import Derived.Lib.AppendIntMem
import Derived.Stop.LaidErr
import Derived.LaidMore
namespace Go.Proofs.YtiomojlcnemnhaaDoor
open Go.Fx Go.RowKit Go.Ped
theorem list_of {α : Type} {row : α → List C} : ∀ {es : List (List C)}, (∀ x ∈ es, ∃ t, x = row t) → ∃ l : List α, es = l.map row
  | [], _ => ⟨[], rfl⟩
  | x :: es, h => by
    obtain ⟨t, rfl⟩ := h x (List.mem_cons_self ..)
    obtain ⟨l, rfl⟩ := list_of (es := es) fun y hy => h y (List.mem_cons_of_mem _ hy)
    exact ⟨t :: l, rfl⟩
theorem ty_str {cs : List C} (h : Typed Tryd.prog 9 cs) : ∃ s, cs = [cS (bs s)] := by
  obtain ⟨s, rfl, _⟩ := h.asStr Tryd.underlying9
  exact ⟨s, rfl⟩
theorem ty_val {cs : List C} (h : Typed Tryd.prog 39 cs) : ∃ x : Val, cs = x.row := by
  obtain ⟨a, r, rfl, ha, b, r', rfl, hb, c, r'', rfl, hc, hr⟩ := h.asStruct Tryd.underlying39
  cases hr
  obtain ⟨k, rfl, _⟩ := ha.asInt Tryd.underlying37
  obtain ⟨n, rfl, _⟩ := hb.asInt Tryd.underlying2
  obtain ⟨s, rfl⟩ := ty_str hc
  exact ⟨⟨k, n, s⟩, rfl⟩
theorem ty_tm {cs : List C} (h : Typed Tryd.prog 41 cs) : ∃ t : Tm, cs = t.row := by
  obtain ⟨a, r, rfl, ha, b, r', rfl, hb, hr⟩ := h.asStruct Tryd.underlying41
  cases hr
  obtain ⟨v, rfl⟩ := ty_str ha
  obtain ⟨x, rfl⟩ := ty_val hb
  exact ⟨⟨v, x⟩, rfl⟩
theorem ty_tms {cs : List C} (h : Typed Tryd.prog 22 cs) : ∃ (l : List Tm) (sp : Sp), cs = [.sl (l.map Tm.row) sp] := by
  obtain ⟨es, sp, rfl, hes, hn⟩ := h.asSlice Tryd.underlying22
  obtain ⟨l, rfl⟩ := list_of (row := Tm.row) (es := es) fun x hx => ty_tm (hes x (List.mem_append_left _ hx))
  exact ⟨l, sp, rfl⟩
theorem ty_atom {cs : List C} (h : Typed Tryd.prog 24 cs) : ∃ (p : Name) (l : List Tm) (sp : Sp), cs = [cS (bs p), .sl (l.map Tm.row) sp] := by
  obtain ⟨a, r, rfl, ha, b, r', rfl, hb, hr⟩ := h.asStruct Tryd.underlying24
  cases hr
  obtain ⟨p, rfl⟩ := ty_str ha
  obtain ⟨l, sp, rfl⟩ := ty_tms hb
  exact ⟨p, l, sp, rfl⟩
theorem ty_arg {cs : List C} (h : Typed Tryd.prog 189 cs) : ∃ a : Arg, cs = a.row := by
  obtain ⟨a, r, rfl, ha, b, r', rfl, hb, hr⟩ := h.asStruct Tryd.underlying189
  cases hr
  obtain ⟨k, rfl, _⟩ := ha.asInt Tryd.underlying187
  obtain ⟨t, rfl⟩ := ty_tm hb
  exact ⟨⟨k, t⟩, by simp [Arg.row]⟩
theorem ty_ex {cs : List C} (h : Typed Tryd.prog 47 cs) : ∃ e : Ex, cs = e.row := by
  induction hn : rowBulk cs using Nat.strongRecOn generalizing cs with
  | ind n ih =>
    obtain ⟨a, r, rfl, ha, b, r', rfl, hb, c, r'', rfl, hc, hr⟩ := h.asStruct Tryd.underlying47
    cases hr
    obtain ⟨op, rfl, _⟩ := ha.asInt Tryd.underlying44
    obtain ⟨t, rfl⟩ := ty_tm hb
    obtain ⟨es, sp, rfl, hes, _⟩ := hc.asSlice Tryd.underlying45
    obtain ⟨l, rfl⟩ := list_of (row := Ex.row) (es := es) fun x hx => by
      have hle : ∀ (es : List (List C)) (x : List C), x ∈ es → rowBulk x ≤ rowsBulk es := by
        intro es x hx
        induction es with
        | nil => cases hx
        | cons y es ih =>
          simp only [rowsBulk]
          rcases List.mem_cons.1 hx with rfl | hx
          · omega
          · have := ih hx; omega
      have h1 := hle es x hx
      refine ih (rowBulk x) ?_ (hes x (List.mem_append_left _ hx)) rfl
      rw [← hn]
      simp only [rowBulk_append, rowBulk, C.bulk]
      omega
    exact ⟨.mk op t l sp, by rw [Ex.row_mk]; rfl⟩
theorem ty_lit {cs : List C} (h : Typed Tryd.prog 88 cs) : ∃ x : Lit, cs = x.row := by
  obtain ⟨a, r, rfl, ha, b, r', rfl, hb, c, r'', rfl, hc, d, r3, rfl, hd, e, r4, rfl, he, hr⟩ := h.asStruct Tryd.underlying88
  cases hr
  obtain ⟨k, rfl, _⟩ := ha.asInt Tryd.underlying85
  obtain ⟨p, l, sp, rfl⟩ := ty_atom hb
  obtain ⟨rel, rfl, _⟩ := hc.asInt Tryd.underlying86
  obtain ⟨x, rfl⟩ := ty_ex hd
  obtain ⟨y, rfl⟩ := ty_ex he
  exact ⟨⟨k, p, l, sp, rel, x, y⟩, by simp [Lit.row]⟩
theorem ty_rule {cs : List C} (h : Typed Tryd.prog 96 cs) : ∃ x : Rule, cs = x.row := by
  obtain ⟨a, r, rfl, ha, b, r', rfl, hb, c, r'', rfl, hc, hr⟩ := h.asStruct Tryd.underlying96
  cases hr
  obtain ⟨p, rfl⟩ := ty_str ha
  obtain ⟨es, sp, rfl, hes, _⟩ := hb.asSlice Tryd.underlying94
  obtain ⟨hd, rfl⟩ := list_of (row := Arg.row) (es := es) fun x hx => ty_arg (hes x (List.mem_append_left _ hx))
  obtain ⟨bs', bsp, rfl, hbs, _⟩ := hc.asSlice Tryd.underlying78
  obtain ⟨bd, rfl⟩ := list_of (row := Lit.row) (es := bs') fun x hx => ty_lit (hbs x (List.mem_append_left _ hx))
  exact ⟨⟨p, hd, sp, bd, bsp⟩, rfl⟩
theorem rows_len {α : Type} {row : α → List C} (h : ∀ t, 1 ≤ rowBulk (row t)) : ∀ l : List α, l.length ≤ rowsBulk (l.map row)
  | [] => Nat.zero_le _
  | t :: l => by have := rows_len h l; have := h t; simp only [List.map_cons, rowsBulk, List.length_cons]; omega
theorem rows_mem {α : Type} {row : α → List C} {t : α} : ∀ {l : List α}, t ∈ l → rowBulk (row t) ≤ rowsBulk (l.map row)
  | x :: l, h => by
    simp only [List.map_cons, rowsBulk]
    rcases List.mem_cons.1 h with rfl | h
    · omega
    · have := rows_mem (row := row) h; omega
theorem tm_bulk (t : Tm) : 1 ≤ rowBulk t.row := by simp only [Tm.row, rowBulk, C.bulk]; omega
theorem arg_bulk (t : Arg) : 1 ≤ rowBulk t.row := by simp only [Arg.row, rowBulk, C.bulk]; omega
theorem ex_bulk (e : Ex) : 1 ≤ rowBulk e.row := by rw [Ex.row_eq]; simp only [rowBulk, C.bulk]; omega
theorem lit_bulk (x : Lit) : 1 ≤ rowBulk x.row := by simp only [Lit.row, List.cons_append, rowBulk, C.bulk]; omega
theorem ex_small {N : Nat} : ∀ e : Ex, rowBulk e.row ≤ N → e.small N := by
  refine Ex.ind fun op t kids sp ih h => ?_
  rw [Ex.row_mk] at h
  simp only [rowBulk, C.bulk] at h
  refine Ex.small_mk.2 ⟨?_, fun k hk => ih k hk ?_⟩
  · have := rows_len ex_bulk kids; omega
  · have := rows_mem (row := Ex.row) hk; omega
theorem lit_small {N : Nat} (x : Lit) (h : rowBulk x.row ≤ N) : x.small N := by
  simp only [Lit.row, List.cons_append, List.nil_append, rowBulk, rowBulk_append, C.bulk] at h
  have h1 := rows_len tm_bulk x.l
  exact ⟨by omega, ex_small _ (by omega), ex_small _ (by omega)⟩
theorem rule_small {N : Nat} (x : Rule) (h : rowBulk x.row ≤ N) : x.small N := by
  simp only [Rule.row, rowBulk, C.bulk] at h
  have h1 := rows_len arg_bulk x.head
  have h2 := rows_len lit_bulk x.body
  exact ⟨by omega, by omega, fun y hy => lit_small y (by have := rows_mem (row := Lit.row) hy; omega)⟩
theorem flat_bulk {α β : Type} {row : α → List C} {f : α → List β} : ∀ {l : List α}, (∀ k ∈ l, (f k).length ≤ rowBulk (row k)) → (l.flatMap f).length ≤ rowsBulk (l.map row)
  | [], _ => Nat.zero_le _
  | k :: l, h => by
    have h1 := h k (List.mem_cons_self ..)
    have h2 := flat_bulk (row := row) (f := f) fun x hx => h x (List.mem_cons_of_mem k hx)
    simp only [List.flatMap_cons, List.length_append, List.map_cons, rowsBulk]
    omega
theorem ex_terms_bulk : ∀ e : Ex, e.terms.length ≤ rowBulk e.row := by
  refine Ex.ind fun op t kids sp ih => ?_
  have := flat_bulk (row := Ex.row) (f := Ex.terms) ih
  rw [Ex.row_mk, Ex.terms_mk]
  simp only [List.length_cons, rowBulk, C.bulk]
  omega
theorem lit_terms_bulk (x : Lit) : x.terms.length ≤ rowBulk x.row := by
  have h1 := rows_len tm_bulk x.l
  have h2 := ex_terms_bulk x.left
  have h3 := ex_terms_bulk x.right
  simp only [Lit.terms, Lit.row, List.length_append, List.cons_append, List.nil_append, rowBulk, rowBulk_append, C.bulk]
  omega
theorem rule_terms_bulk (r : Rule) : r.terms.length ≤ rowBulk r.row := by
  have h1 := rows_len arg_bulk r.head
  have h2 := flat_bulk (row := Lit.row) (f := Lit.terms) (l := r.body) fun x _ => lit_terms_bulk x
  simp only [Rule.terms, Rule.row, List.length_append, List.length_map, rowBulk, C.bulk]
  omega
end Go.Proofs.YtiomojlcnemnhaaDoor

namespace Go.Proofs.YtiomojlcnemnhaaDoor
open Go.Fx Go.RowKit Go.Ped
theorem own : ownKnob Tryd.prog.godebug = none := by kernel_rfl
theorem laidOut : laidOutB Tryd.prog = true := by kernel_rfl
mutual
theorem bulk_le {H : Type} : ∀ d : DataW H, bulkD d ≤ Rows.uptoBulk d
  | .lit l => by cases l <;> simp [bulkD, Rows.uptoBulk]
  | .nil => by simp [bulkD, Rows.uptoBulk]
  | .ptr d => by simp [bulkD]
  | .slice a b => by have := bulks_le a; have := bulks_le b; simp only [bulkD, Rows.uptoBulk]; omega
  | .agg a => by have := bulks_le a; simp only [bulkD, Rows.uptoBulk]; omega
  | .iface t d => by simp [bulkD]
  | .map e => by simp [bulkD]
  | .held h => by simp [bulkD]
theorem bulks_le {H : Type} : ∀ l : List (DataW H), bulkDs l ≤ Rows.uptoBulkAll l
  | [] => by simp [bulkDs]
  | d :: l => by have := bulk_le d; have := bulks_le l; simp only [bulkDs, Rows.uptoBulkAll]; omega
end
theorem upto_bound {H : Type} {ds gs : List (DataW H)} (hk : Rows.uptoSmall H (ds ++ gs) = true) : bulkDs ds ≤ 1048576 := by
  have h : Rows.uptoBulkAll (ds ++ gs) ≤ 1048576 := of_decide_eq_true hk
  have h2 := bulks_le (ds ++ gs)
  have h3 : ∀ a b : List (DataW H), bulkDs a ≤ bulkDs (a ++ b) := by
    intro a b
    induction a with
    | nil => simp [bulkDs]
    | cons x a ih => simp only [List.cons_append, bulkDs]; omega
  have := h3 ds gs
  omega
theorem plain_laid {l : List (String × DataW Unit)} {W : World} (hp : (l.all fun x => x.2.handleName?.isNone) = true) (h : laidMetH Tryd.prog l W) : laidMet Tryd.prog l W := by
  rw [MakeChecks.laidMetH_plain _ _ _ hp] at h
  exact h
noncomputable abbrev wit (os : Os) : World := World.doorLaid Tryd.prog 29 os
end Go.Proofs.YtiomojlcnemnhaaDoor

namespace Go.Proofs.YtiomojlcnemnhaaDoor
open Go.Fx Go.RowKit Go.Ped
theorem mapsRowedT : mapsRowed Tryd.prog = true := by kernel_rfl
theorem stopsT : (Tryd.prog.stops == []) = true := by kernel_rfl
theorem stopKnobsT : (Tryd.prog.stopKnobs == []) = true := by kernel_rfl
theorem stopsHeardT : Tryd.prog.stopsHeard = true := by kernel_rfl
theorem mayEnterT : Tryd.prog.mayEnter = true := by kernel_rfl
theorem liftsFinalT : (Rows.termMatchesUptoRow.lifted == Tryd.prog.liftsFinal) = true := by kernel_rfl
theorem makeT : (Tryd.prog.make == some Rows.termMatchesUptoRow.make) = true := by kernel_rfl
end Go.Proofs.YtiomojlcnemnhaaDoor

namespace Go.Proofs.YtiomojlcnemnhaaDoor
open Go.Fx Go.RowKit Go.Ped
theorem f16_a : Rows.planEagerUptoRow.wf (OpenSpec.ofChange (Rows.OpenSpec.upto Rows.planEagerSpec).bare) = true := by kernel_rfl
theorem f16_b : Tryd.f16.params.all (Tryd.prog.readableRec ·) = true := by kernel_rfl
theorem f16_c : namedTie Tryd.prog Rows.planEagerUptoRow.named Rows.planEagerSpec.vars = true := by kernel_rfl
theorem f16_d : (Rows.planEagerUptoRow.inPlace == Tryd.prog.inPlace 16) = true := by kernel_rfl
theorem f16_e : (Rows.planEagerUptoRow.unfollowed == Tryd.prog.unfollowed 16) = true := by kernel_rfl
theorem f16_f : (Rows.planEagerUptoRow.recurses == Tryd.prog.recurses 16) = true := by kernel_rfl
theorem f16_g : (Rows.planEagerUptoRow.named == Tryd.prog.varsNamed 16) = true := by kernel_rfl
theorem f16_mk : (Tryd.prog.make == some Rows.planEagerUptoRow.make) = true := makeT
theorem f16_li : (Rows.planEagerUptoRow.lifted == Tryd.prog.liftsFinal) = true := liftsFinalT
theorem f16_n : Tryd.prog.funcNamed Rows.planEagerUptoRow.func = some 16 := by kernel_rfl
theorem f16_i : Tryd.f16.isInstance Tryd.prog Rows.planEagerUptoRow.origin Rows.planEagerUptoRow.targs := of_decide_eq_true (by kernel_rfl)
theorem f16_w : Tryd.f16.isWrapper Tryd.prog Rows.planEagerUptoRow.wrapper Rows.planEagerUptoRow.mainSum := by unfold Func.isWrapper; first | (rw [if_pos (by decide +kernel)]; kernel_rfl) | (rw [if_neg (by decide +kernel)]; exact ⟨rfl, rfl⟩)
theorem j16 : joinedFacts Tryd.prog 16 Tryd.f16 (Rows.OpenSpec.upto Rows.planEagerSpec).bare Rows.planEagerUptoRow = true := by
  simp only [joinedFacts, Bool.and_eq_true]
  refine ⟨⟨⟨⟨⟨⟨⟨⟨⟨⟨⟨⟨⟨⟨⟨⟨⟨⟨⟨⟨⟨⟨⟨⟨⟨⟨⟨⟨⟨⟨⟨f16_a, laidOut⟩, mapsRowedT⟩, f16_b⟩, f16_c⟩, rfl⟩, stopsT⟩, rfl⟩, stopKnobsT⟩, f16_d⟩, f16_e⟩, f16_f⟩, f16_g⟩, ?_⟩, ?_⟩, ?_⟩, ?_⟩, ?_⟩, ?_⟩, ?_⟩, ?_⟩, ?_⟩, ?_⟩, rfl⟩, stopsHeardT⟩, mayEnterT⟩, f16_li⟩, f16_mk⟩, ?_⟩, ?_⟩, ?_⟩, ?_⟩
  all_goals (as_aux_lemma => kernel_rfl)
end Go.Proofs.YtiomojlcnemnhaaDoor

import Derived.Test.YtiomojlcnemnhaaDoorTDxX2
import Derived.Test.YtiomojlcnemnhaaDoorTDxItoa
import Derived.Test.YtiomojlcnemnhaaDoorCards
import Derived.Test.YtiomojlcnemnhaaDoorTie
import Derived.WalkKit
import Derived.ProofKit
import Derived.OpenShut
import Derived.Deep.DeepHandedRow
import Derived.Lib.LaidTab
import Derived.Lib.AppendIntMem
import Derived.Stop.LaidErr
import Derived.LaidMore
import Derived.Test.YtiomojlcnemnhaaDoorTDxM8
/- The arguments of the laws, opened by their types. -/
namespace Go.Proofs.YtiomojlcnemnhaaDoor
open Go.Fx Go.RowKit Go.Ped

theorem list_of {α : Type} {row : α → List C} : ∀ {es : List (List C)}, (∀ x ∈ es, ∃ t, x = row t) → ∃ l : List α, es = l.map row
  | [], _ => ⟨[], rfl⟩
  | x :: es, h => by
    obtain ⟨t, rfl⟩ := h x (List.mem_cons_self ..)
    obtain ⟨l, rfl⟩ := list_of (es := es) fun y hy => h y (List.mem_cons_of_mem _ hy)
    exact ⟨t :: l, rfl⟩

theorem ty_str {cs : List C} (h : Typed Tryd.prog 9 cs) : ∃ s, cs = [cS (bs s)] := by
  obtain ⟨s, rfl, _⟩ := h.asStr Tryd.underlying9
  exact ⟨s, rfl⟩
theorem ty_val {cs : List C} (h : Typed Tryd.prog 39 cs) : ∃ x : Val, cs = x.row := by
  obtain ⟨a, r, rfl, ha, b, r', rfl, hb, c, r'', rfl, hc, hr⟩ := h.asStruct Tryd.underlying39
  cases hr
  obtain ⟨k, rfl, _⟩ := ha.asInt Tryd.underlying37
  obtain ⟨n, rfl, _⟩ := hb.asInt Tryd.underlying2
  obtain ⟨s, rfl⟩ := ty_str hc
  exact ⟨⟨k, n, s⟩, rfl⟩
theorem ty_tm {cs : List C} (h : Typed Tryd.prog 41 cs) : ∃ t : Tm, cs = t.row := by
  obtain ⟨a, r, rfl, ha, b, r', rfl, hb, hr⟩ := h.asStruct Tryd.underlying41
  cases hr
  obtain ⟨v, rfl⟩ := ty_str ha
  obtain ⟨x, rfl⟩ := ty_val hb
  exact ⟨⟨v, x⟩, rfl⟩
theorem ty_tms {cs : List C} (h : Typed Tryd.prog 22 cs) : ∃ (l : List Tm) (sp : Sp), cs = [.sl (l.map Tm.row) sp] := by
  obtain ⟨es, sp, rfl, hes, hn⟩ := h.asSlice Tryd.underlying22
  obtain ⟨l, rfl⟩ := list_of (row := Tm.row) (es := es) fun x hx => ty_tm (hes x (List.mem_append_left _ hx))
  exact ⟨l, sp, rfl⟩
theorem ty_vals {cs : List C} (h : Typed Tryd.prog 26 cs) : ∃ (l : List Val) (sp : Sp), cs = [.sl (l.map Val.row) sp] := by
  obtain ⟨es, sp, rfl, hes, hn⟩ := h.asSlice Tryd.underlying26
  obtain ⟨l, rfl⟩ := list_of (row := Val.row) (es := es) fun x hx => ty_val (hes x (List.mem_append_left _ hx))
  exact ⟨l, sp, rfl⟩
theorem ty_atom {cs : List C} (h : Typed Tryd.prog 24 cs) : ∃ (p : Name) (l : List Tm) (sp : Sp), cs = [cS (bs p), .sl (l.map Tm.row) sp] := by
  obtain ⟨a, r, rfl, ha, b, r', rfl, hb, hr⟩ := h.asStruct Tryd.underlying24
  cases hr
  obtain ⟨p, rfl⟩ := ty_str ha
  obtain ⟨l, sp, rfl⟩ := ty_tms hb
  exact ⟨p, l, sp, rfl⟩
theorem ty_fact {cs : List C} (h : Typed Tryd.prog 28 cs) : ∃ (p : Name) (l : List Val) (sp : Sp), cs = [cS (bs p), .sl (l.map Val.row) sp] := by
  obtain ⟨a, r, rfl, ha, b, r', rfl, hb, hr⟩ := h.asStruct Tryd.underlying28
  cases hr
  obtain ⟨p, rfl⟩ := ty_str ha
  obtain ⟨l, sp, rfl⟩ := ty_vals hb
  exact ⟨p, l, sp, rfl⟩
theorem ty_arg {cs : List C} (h : Typed Tryd.prog 189 cs) : ∃ a : Arg, cs = a.row := by
  obtain ⟨a, r, rfl, ha, b, r', rfl, hb, hr⟩ := h.asStruct Tryd.underlying189
  cases hr
  obtain ⟨k, rfl, _⟩ := ha.asInt Tryd.underlying187
  obtain ⟨t, rfl⟩ := ty_tm hb
  exact ⟨⟨k, t⟩, by simp [Arg.row]⟩

theorem ty_ex {cs : List C} (h : Typed Tryd.prog 47 cs) : ∃ e : Ex, cs = e.row := by
  induction hn : rowBulk cs using Nat.strongRecOn generalizing cs with
  | ind n ih =>
    obtain ⟨a, r, rfl, ha, b, r', rfl, hb, c, r'', rfl, hc, hr⟩ := h.asStruct Tryd.underlying47
    cases hr
    obtain ⟨op, rfl, _⟩ := ha.asInt Tryd.underlying44
    obtain ⟨t, rfl⟩ := ty_tm hb
    obtain ⟨es, sp, rfl, hes, _⟩ := hc.asSlice Tryd.underlying45
    obtain ⟨l, rfl⟩ := list_of (row := Ex.row) (es := es) fun x hx => by
      have hle : ∀ (es : List (List C)) (x : List C), x ∈ es → rowBulk x ≤ rowsBulk es := by
        intro es x hx
        induction es with
        | nil => cases hx
        | cons y es ih =>
          simp only [rowsBulk]
          rcases List.mem_cons.1 hx with rfl | hx
          · omega
          · have := ih hx; omega
      have h1 := hle es x hx
      refine ih (rowBulk x) ?_ (hes x (List.mem_append_left _ hx)) rfl
      rw [← hn]
      simp only [rowBulk_append, rowBulk, C.bulk]
      omega
    exact ⟨.mk op t l sp, by rw [Ex.row_mk]; rfl⟩

theorem ty_lit {cs : List C} (h : Typed Tryd.prog 88 cs) : ∃ x : Lit, cs = x.row := by
  obtain ⟨a, r, rfl, ha, b, r', rfl, hb, c, r'', rfl, hc, d, r3, rfl, hd, e, r4, rfl, he, hr⟩ := h.asStruct Tryd.underlying88
  cases hr
  obtain ⟨k, rfl, _⟩ := ha.asInt Tryd.underlying85
  obtain ⟨p, l, sp, rfl⟩ := ty_atom hb
  obtain ⟨rel, rfl, _⟩ := hc.asInt Tryd.underlying86
  obtain ⟨x, rfl⟩ := ty_ex hd
  obtain ⟨y, rfl⟩ := ty_ex he
  exact ⟨⟨k, p, l, sp, rel, x, y⟩, by simp [Lit.row]⟩
theorem ty_rule {cs : List C} (h : Typed Tryd.prog 96 cs) : ∃ x : Rule, cs = x.row := by
  obtain ⟨a, r, rfl, ha, b, r', rfl, hb, c, r'', rfl, hc, hr⟩ := h.asStruct Tryd.underlying96
  cases hr
  obtain ⟨p, rfl⟩ := ty_str ha
  obtain ⟨es, sp, rfl, hes, _⟩ := hb.asSlice Tryd.underlying94
  obtain ⟨hd, rfl⟩ := list_of (row := Arg.row) (es := es) fun x hx => ty_arg (hes x (List.mem_append_left _ hx))
  obtain ⟨bs', bsp, rfl, hbs, _⟩ := hc.asSlice Tryd.underlying78
  obtain ⟨bd, rfl⟩ := list_of (row := Lit.row) (es := bs') fun x hx => ty_lit (hbs x (List.mem_append_left _ hx))
  exact ⟨⟨p, hd, sp, bd, bsp⟩, rfl⟩

/- Sizes. -/
theorem rows_len {α : Type} {row : α → List C} (h : ∀ t, 1 ≤ rowBulk (row t)) : ∀ l : List α, l.length ≤ rowsBulk (l.map row)
  | [] => Nat.zero_le _
  | t :: l => by have := rows_len h l; have := h t; simp only [List.map_cons, rowsBulk, List.length_cons]; omega
theorem rows_mem {α : Type} {row : α → List C} {t : α} : ∀ {l : List α}, t ∈ l → rowBulk (row t) ≤ rowsBulk (l.map row)
  | x :: l, h => by
    simp only [List.map_cons, rowsBulk]
    rcases List.mem_cons.1 h with rfl | h
    · omega
    · have := rows_mem (row := row) h; omega
theorem tm_bulk (t : Tm) : 1 ≤ rowBulk t.row := by simp only [Tm.row, rowBulk, C.bulk]; omega
theorem arg_bulk (t : Arg) : 1 ≤ rowBulk t.row := by simp only [Arg.row, rowBulk, C.bulk]; omega
theorem ex_bulk (e : Ex) : 1 ≤ rowBulk e.row := by rw [Ex.row_eq]; simp only [rowBulk, C.bulk]; omega
theorem lit_bulk (x : Lit) : 1 ≤ rowBulk x.row := by simp only [Lit.row, List.cons_append, rowBulk, C.bulk]; omega
theorem ex_small {N : Nat} : ∀ e : Ex, rowBulk e.row ≤ N → e.small N := by
  refine Ex.ind fun op t kids sp ih h => ?_
  rw [Ex.row_mk] at h
  simp only [rowBulk, C.bulk] at h
  refine Ex.small_mk.2 ⟨?_, fun k hk => ih k hk ?_⟩
  · have := rows_len ex_bulk kids; omega
  · have := rows_mem (row := Ex.row) hk; omega
theorem lit_small {N : Nat} (x : Lit) (h : rowBulk x.row ≤ N) : x.small N := by
  simp only [Lit.row, List.cons_append, List.nil_append, rowBulk, rowBulk_append, C.bulk] at h
  have h1 := rows_len tm_bulk x.l
  exact ⟨by omega, ex_small _ (by omega), ex_small _ (by omega)⟩
theorem rule_small {N : Nat} (x : Rule) (h : rowBulk x.row ≤ N) : x.small N := by
  simp only [Rule.row, rowBulk, C.bulk] at h
  have h1 := rows_len arg_bulk x.head
  have h2 := rows_len lit_bulk x.body
  exact ⟨by omega, by omega, fun y hy => lit_small y (by have := rows_mem (row := Lit.row) hy; omega)⟩
theorem flat_bulk {α β : Type} {row : α → List C} {f : α → List β} : ∀ {l : List α}, (∀ k ∈ l, (f k).length ≤ rowBulk (row k)) → (l.flatMap f).length ≤ rowsBulk (l.map row)
  | [], _ => Nat.zero_le _
  | k :: l, h => by
    have h1 := h k (List.mem_cons_self ..)
    have h2 := flat_bulk (row := row) (f := f) fun x hx => h x (List.mem_cons_of_mem k hx)
    simp only [List.flatMap_cons, List.length_append, List.map_cons, rowsBulk]
    omega
theorem ex_terms_bulk : ∀ e : Ex, e.terms.length ≤ rowBulk e.row := by
  refine Ex.ind fun op t kids sp ih => ?_
  have := flat_bulk (row := Ex.row) (f := Ex.terms) ih
  rw [Ex.row_mk, Ex.terms_mk]
  simp only [List.length_cons, rowBulk, C.bulk]
  omega
theorem lit_terms_bulk (x : Lit) : x.terms.length ≤ rowBulk x.row := by
  have h1 := rows_len tm_bulk x.l
  have h2 := ex_terms_bulk x.left
  have h3 := ex_terms_bulk x.right
  simp only [Lit.terms, Lit.row, List.length_append, List.cons_append, List.nil_append, rowBulk, rowBulk_append, C.bulk]
  omega
theorem rule_terms_bulk (r : Rule) : r.terms.length ≤ rowBulk r.row := by
  have h1 := rows_len arg_bulk r.head
  have h2 := flat_bulk (row := Lit.row) (f := Lit.terms) (l := r.body) fun x _ => lit_terms_bulk x
  simp only [Rule.terms, Rule.row, List.length_append, List.length_map, rowBulk, C.bulk]
  omega
end Go.Proofs.YtiomojlcnemnhaaDoor

/- What the laws' rows and cards share: the laid tables, the bound on what is read, the witness' world. -/
namespace Go.Proofs.YtiomojlcnemnhaaDoor
open Go.Fx Go.RowKit Go.Ped

theorem own : ownKnob Tryd.prog.godebug = none := by kernel_rfl
theorem laidOut : laidOutB Tryd.prog = true := by kernel_rfl

/- The bound. -/
mutual
theorem bulk_le {H : Type} : ∀ d : DataW H, bulkD d ≤ Rows.uptoBulk d
  | .lit l => by cases l <;> simp [bulkD, Rows.uptoBulk]
  | .nil => by simp [bulkD, Rows.uptoBulk]
  | .ptr d => by simp [bulkD]
  | .slice a b => by have := bulks_le a; have := bulks_le b; simp only [bulkD, Rows.uptoBulk]; omega
  | .agg a => by have := bulks_le a; simp only [bulkD, Rows.uptoBulk]; omega
  | .iface t d => by simp [bulkD]
  | .map e => by simp [bulkD]
  | .held h => by simp [bulkD]
theorem bulks_le {H : Type} : ∀ l : List (DataW H), bulkDs l ≤ Rows.uptoBulkAll l
  | [] => by simp [bulkDs]
  | d :: l => by have := bulk_le d; have := bulks_le l; simp only [bulkDs, Rows.uptoBulkAll]; omega
end
theorem upto_bound {H : Type} {ds gs : List (DataW H)} (hk : Rows.uptoSmall H (ds ++ gs) = true) : bulkDs ds ≤ 1048576 := by
  have h : Rows.uptoBulkAll (ds ++ gs) ≤ 1048576 := of_decide_eq_true hk
  have h2 := bulks_le (ds ++ gs)
  have h3 : ∀ a b : List (DataW H), bulkDs a ≤ bulkDs (a ++ b) := by
    intro a b
    induction a with
    | nil => simp [bulkDs]
    | cons x a ih => simp only [List.cons_append, bulkDs]; omega
  have := h3 ds gs
  omega

/- The table of powers. -/
theorem plain_laid {l : List (String × DataW Unit)} {W : World} (hp : (l.all fun x => x.2.handleName?.isNone) = true) (h : laidMetH Tryd.prog l W) : laidMet Tryd.prog l W := by
  rw [MakeChecks.laidMetH_plain _ _ _ hp] at h
  exact h
/-- A world for the witness: what the door's own run leaves. -/
noncomputable abbrev wit (os : Os) : World := World.doorLaid Tryd.prog 29 os
end Go.Proofs.YtiomojlcnemnhaaDoor

/- What the rows' closed facts say of the program alone. -/
namespace Go.Proofs.YtiomojlcnemnhaaDoor
open Go.Fx Go.RowKit Go.Ped

theorem mapsRowedT : mapsRowed Tryd.prog = true := by kernel_rfl
theorem stopsT : (Tryd.prog.stops == []) = true := by kernel_rfl
theorem stopKnobsT : (Tryd.prog.stopKnobs == []) = true := by kernel_rfl
theorem stopsHeardT : Tryd.prog.stopsHeard = true := by kernel_rfl
theorem mayEnterT : Tryd.prog.mayEnter = true := by kernel_rfl
theorem liftsFinalT : (Rows.termMatchesUptoRow.lifted == Tryd.prog.liftsFinal) = true := by kernel_rfl
theorem makeT : (Tryd.prog.make == some Rows.termMatchesUptoRow.make) = true := by kernel_rfl
end Go.Proofs.YtiomojlcnemnhaaDoor

/- Contracts, on: the program's matching, where the fact's values are memory that is handed over. -/
namespace Go.Proofs.YtiomojlcnemnhaaDoor
open Go.Fx Go.RowKit Go.Ped
variable {G : World → Prop}

/-- The fact's values are memory that is handed over. -/
abbrev bxV (vs : List Val) : Box := ⟨39, 3, vs.map fun v => v.row.map A.c, none⟩
abbrev arV (vs : List Val) : A := .arr 10005 0 vs.length vs.length
abbrev O21w (p : Name) (ts : List Tm) (vs : List Val) (sp : List (List C)) (out : List Tm) : List (Nat × Box) := [(32, ⟨0, 4, out.map mpRow, some (.string, false)⟩), (3, ⟨28, 2, [[.c (cS (bs p)), arV vs]], none⟩), (2, ⟨24, 2, [[.c (cS (bs p)), .c (.sl (ts.map Tm.row) sp)]], none⟩), (10005, bxV vs)]
abbrev k21w (p : Name) (ts : List Tm) (vs : List Val) (sp : List (List C)) : T → T → T → T → T → T → T → T → T → T → T → T → T → T → List (Nat × Box) → List (Nat × Fx.Tok) → S := fun t31 t36 t37 t8 t9 t10 t59 t67 t12 t11 t80 t82 t7 t4 O U => ks21 (.k true (.x (.agg [.c (cS (bs p)), .c (.sl (ts.map Tm.row) sp)]))) (.k true (.x (.agg [.c (cS (bs p)), arV vs]))) (.k true (.x (.one (.ref 2 0 0)))) (.k true (.x (.one (.ref 3 0 0))))
    t31 t36 (tI .i64 vs.length) t37 (.k true (.x (.one (arV vs)))) t8 t9 t10 t59 t67 (.k true (.x (.one (.mapr 32)))) t12 t11 t80 t82 t7 t4 (tB false) O U F0

@[simp] theorem strike_val (ks : List Nat) : (strikeL ks ∘ fun v : Val => v.row.map A.c) = fun v => v.row.map A.c := funext fun v => strikeL_c ks _
/-- The fact's memory stands in a state as it was. -/
def OkO (vs : List Val) (O : List (Nat × Box)) (U : List (Nat × Fx.Tok)) : Prop := lookO O 10005 = some (bxV vs) ∧ (∀ p ∈ O, p.1 < 15000) ∧ ∀ p ∈ U, p.1 < 15000

set_option maxHeartbeats 1000000 in
theorem w21_loop (p : Name) (ts : List Tm) (vs : List Val) (sp : List (List C)) (hlen : ts.length = vs.length) (h24 : ts.length ≤ 24)
    (t31 t37 t8 t9 t10 t59 t67 t12 t11 t80 t82 : T) (Q : Exit → S → Prop)
    (hfail : goMatch Val.ok [] ts vs = none → ∀ t31 t36 t37 t8 t9 t10 t59 t67 t12 t11 t80 t82 t7 O U, OkO vs O U → Q .ret (k21w p ts vs sp t31 t36 t37 t8 t9 t10 t59 t67 t12 t11 t80 t82 t7 (.k true (.x (.one .nil))) O U))
    (hok : ∀ out, goMatch Val.ok [] ts vs = some out → ∀ t31 t36 t37 t8 t9 t10 t59 t67 t12 t11 t80 t82 a O U, OkO vs O U → AccN 93 54 4 (out.map Tm.row) a U → Q (.exit 0) (k21w p ts vs sp t31 t36 t37 t8 t9 t10 t59 t67 t12 t11 t80 t82 (.k true (.x (.one a))) (.k true (.x (.one .nil))) O U)) :
    wpI Tryd.prog G (.loop ic21l0) Q (k21w p ts vs sp t31 (tI .i64 0) t37 t8 t9 t10 t59 t67 t12 t11 t80 t82 (.k true (.x (.one .nil))) (.k true (.x (.one .nil))) (O21w p ts vs sp []) []) := by
  refine w_loopS [9, 10, 11, 92] (by simp [ownKey]) (fun n σ => ∃ (i : Nat) (out : List Tm) (t31 t37 t8 t9 t10 t59 t67 t12 t11 t80 t82 : T) (a : A) (U : List (Nat × Fx.Tok)), i + n = vs.length ∧ goMatch Val.ok [] ts vs = goMatch Val.ok out (ts.drop i) (vs.drop i) ∧ out.length ≤ i ∧ AccN 93 54 4 (out.map Tm.row) a U ∧ σ = k21w p ts vs sp t31 (tI .i64 i) t37 t8 t9 t10 t59 t67 t12 t11 t80 t82 (.k true (.x (.one a))) (.k true (.x (.one .nil))) (O21w p ts vs sp out) U)
    vs.length ⟨0, [], _, _, _, _, _, _, _, _, _, _, _, _, _, by simp, by simp, by simp, .nil, by simp; rfl⟩ ?_
  rintro n σ1 K hK ⟨i, out, t31, t37, t8, t9, t10, t59, t67, t12, t11, t80, t82, a, U, hi, hd, hol, hacc, rfl⟩
  have hUl : ∀ p ∈ U, p.1 < 15000 := by rcases hacc with ⟨_, rfl, rfl⟩ | ⟨rfl, rfl⟩ <;> simp
  have hs9 : A.strike [9] a = a := hacc.strike (by decide)
  have hs10 : A.strike [10] a = a := hacc.strike (by decide)
  have hs11 : A.strike [11] a = a := hacc.strike (by decide)
  have hu9 : strikeU [9] U = U := hacc.strikeU (by decide)
  have hu10 : strikeU [10] U = U := hacc.strikeU (by decide)
  have hu11 : strikeU [11] U = U := hacc.strikeU (by decide)
  obtain hlt | hge := Nat.lt_or_ge i vs.length
  · have hltT : i < ts.length := by omega
    obtain ⟨_, hc, hdr⟩ := at_list hlt
    obtain ⟨_, rfl⟩ := List.getElem?_eq_some_iff.1 hc
    obtain ⟨_, hc, hdr'⟩ := at_list hltT
    obtain ⟨_, rfl⟩ := List.getElem?_eq_some_iff.1 hc
    rw [hdr, hdr'] at hd
    simp only [goMatch] at hd
    have hsA : A.strike [9, 10, 11, 92] a = a := by
      rcases hacc with ⟨_, rfl, rfl⟩ | ⟨rfl, rfl⟩
      · rfl
      · simp
    have huA : strikeU [9, 10, 11, 92] U = U := by
      rcases hacc with ⟨_, rfl, rfl⟩ | ⟨rfl, rfl⟩
      · rfl
      · simp
    have hI : ∀ (out' : List Tm) (σ' : S), goMatch Val.ok [] ts vs = goMatch Val.ok out' (ts.drop (i + 1)) (vs.drop (i + 1)) → out'.length ≤ i + 1 → (∃ t31 t37 t8 t9 t10 t59 t67 t12 t11 t80 t82 a U, AccN 93 54 4 (out'.map Tm.row) a U ∧ σ'.strike [9, 10, 11, 92] = k21w p ts vs sp t31 (tI .i64 (i + 1)) t37 t8 t9 t10 t59 t67 t12 t11 t80 t82 (.k true (.x (.one a))) (.k true (.x (.one .nil))) (O21w p ts vs sp out') U) → K σ' :=
      fun out' σ' h1 h2 ⟨t31, t37, t8, t9, t10, t59, t67, t12, t11, t80, t82, a, U, h3, h4⟩ => hK σ' (n - 1) (by omega) ⟨i + 1, out', t31, t37, t8, t9, t10, t59, t67, t12, t11, t80, t82, a, U, by omega, h1, h2, h3, h4⟩
    clear hK
    generalize hvv : vs[i] = w at *
    generalize htt : ts[i] = t at *
    obtain ⟨wk, wn, ws⟩ := w
    obtain ⟨tv, tx⟩ := t
    have hg := mapGet_binds tv out
    have hany := mapAny_binds tv out
    have hput := mapPut_binds tv ⟨wk, wn, ws⟩ out
    simp [ic21l0, hlt, hltT, htt, hvv, Tm.row, Val.row, hs9, hs10, hu9, hu10, strikeL_mpRow']
    refine r_call 92 true _ _ (m92 wk wn ws) rfl rfl rfl rfl ?_
    simp
    refine ⟨fun h => ?_, fun h => ⟨fun h0 => ⟨fun h1 => ?_, fun h1 => ?_⟩, fun h0 => ?_⟩⟩
    · exact hfail (by rw [hd]; simp [Val.ok, h]) _ _ _ _ _ _ _ _ _ _ _ _ _ _ _ ⟨by simp [Val.row], by simp, by first | exact hUl | (rw [hu11]; exact hUl)⟩
    · refine hfail ?_ _ _ _ _ _ _ _ _ _ _ _ _ _ _ _ ⟨by simp [Val.row], by simp, by first | exact hUl | (rw [hu11]; exact hUl)⟩
      have e : (tx != (⟨wk, wn, ws⟩ : Val)) = true := by obtain ⟨a, b, c⟩ := tx; simp at h1 ⊢; grind
      rw [hd, e]; simp [h0]
    · intro h2 h3
      obtain ⟨xk, xn, xs⟩ := tx
      simp at h1 h2 h3
      subst h0 h1 h2 h3
      simp [wrap_next hlt (by omega)]
      refine hI out _ ?_ (by omega) ⟨_, _, _, _, _, _, _, _, _, _, _, _, _, hacc, by simp [hsA, huA, strikeL_mpRow']; rfl⟩
      rw [hd]; simp [Ped.isVar, Val.ok, h]
    · simp [h0, wrap_next hlt (by omega)]
      refine ⟨fun h1 => ?_, fun h1 => ?_⟩
      · subst h1
        refine hI out _ ?_ (by omega) ⟨_, _, _, _, _, _, _, _, _, _, _, _, _, hacc, by simp [hsA, huA, strikeL_mpRow']; rfl⟩
        rw [hd]; simp [Ped.isVar, us, Val.ok, h]
      have hiv : Ped.isVar tv = true := by simp [Ped.isVar, us, h0, h1]
      cases hb : bindOf out tv with
      | some o =>
        obtain ⟨ok, on, os⟩ := o
        rw [hb] at hg hany
        have hex : ∃ x ∈ out, x.v = tv := by
          unfold bindOf at hb
          obtain ⟨x, hx, _⟩ := Option.map_eq_some_iff.1 hb
          exact ⟨x, List.mem_of_find?_eq_some hx, by simpa using List.find?_some hx⟩
        simp [strikeL_mpRow', strikeL_mpRow, keyEq_mpRow, hg, Val.row, zeroV]
        refine ⟨fun x hx e => ⟨fun h2 => hfail ?_ _ _ _ _ _ _ _ _ _ _ _ _ _ _ _ ⟨by simp [Val.row], by simp, by first | exact hUl | (rw [hu11]; exact hUl)⟩, fun e1 e2 e3 => ?_⟩, ?_⟩
        · have e' : ((⟨ok, on, os⟩ : Val) != ⟨wk, wn, ws⟩) = true := by simp; grind
          rw [hd]; simp [h0, hiv, Val.ok, h, hb, e']
        · subst e1 e2 e3
          refine ⟨fun hn => absurd e (hn x hx), fun y hy ey => hI out _ ?_ (by omega) ⟨_, _, _, _, _, _, _, _, _, _, _, _, _, hacc, by simp [hsA, huA, hs11, hu11, strikeL_mpRow']; rfl⟩⟩
          rw [hd]; simp [hiv, Val.ok, h, hb, h0]
        · exact fun hn => absurd hex.choose_spec.2 (hn _ hex.choose_spec.1)
      | none =>
        rw [hb] at hg hany
        have hno : ∀ x ∈ out, ¬ x.v = tv := fun x hx e => (bindOf_none.1 hb) (e ▸ List.mem_map_of_mem hx)
        simp [strikeL_mpRow', strikeL_mpRow, keyEq_mpRow, hg, Val.row, zeroV]
        refine ⟨fun x hx e => absurd e (hno x hx), fun _ => ⟨fun _ => ?_, fun x hx e => absurd e (hno x hx)⟩⟩
        have hput' := hput hb
        simp only [Val.row, List.map_cons, List.map_nil] at hput'
        rcases hacc with ⟨ho, rfl, rfl⟩ | ⟨rfl, rfl⟩
        · obtain rfl : out = [] := by simpa using ho
          refine k_row rfl rfl (by simp) (by simp) ?_
          refine k_app0 (by simp) rfl rfl (by simp) (by simp) (by simp [maxLen]) (by simp [maxBytes]) ?_
          simp [wrap_next hlt (by omega)]
          exact hI [⟨tv, ⟨wk, wn, ws⟩⟩] _ (by rw [hd]; simp [hiv, Val.ok, h, hb, h0]) (by simp) ⟨_, _, _, _, _, _, _, _, _, _, _, _, _, .own rfl, by simp; rfl⟩
        · refine k_row rfl rfl (by simp) (by simp) ?_
          refine k_app (k := 93) (es := out.map Tm.row) (q := ⟨54, 4, out.length⟩) (by simp) rfl rfl (by simp) (by simp) rfl rfl (by simp) (by simp [maxLen]; omega) (by simp [maxBytes]; omega) trivial ?_
          simp [wrap_next hlt (by omega)]
          have hacc' : AccN 93 54 4 ((out ++ [(⟨tv, ⟨wk, wn, ws⟩⟩ : Tm)]).map Tm.row) (.own 93 (out.map Tm.row ++ [Tm.row ⟨tv, ⟨wk, wn, ws⟩⟩])) [(93, ⟨54, 4, out.length + 1⟩)] := by rw [List.map_append]; exact .own (by simp)
          exact hI (out ++ [⟨tv, ⟨wk, wn, ws⟩⟩]) _ (by rw [hd]; simp [hiv, Val.ok, h, hb, h0]) (by simp; omega) ⟨_, _, _, _, _, _, _, _, _, _, _, _, _, hacc', by rw [show (O21w p ts vs sp (out ++ [(⟨tv, ⟨wk, wn, ws⟩⟩ : Tm)])) = (32, ⟨0, 4, out.map mpRow ++ [mpRow ⟨tv, ⟨wk, wn, ws⟩⟩], some (.string, false)⟩) :: [(3, ⟨28, 2, [[.c (cS (bs p)), arV vs]], none⟩), (2, ⟨24, 2, [[.c (cS (bs p)), .c (.sl (ts.map Tm.row) sp)]], none⟩), (10005, bxV vs)] by simp [O21w]]; simp [hput', strikeL_mpRow', strikeL_mpRow]; rfl⟩
  · rw [List.drop_eq_nil_of_le hge, List.drop_eq_nil_of_le (by omega)] at hd
    simp [ic21l0, Nat.not_lt.mpr hge]
    exact hok out (by rw [hd]; rfl) _ _ _ _ _ _ _ _ _ _ _ _ _ _ _ ⟨by simp [Val.row], by simp, by first | exact hUl | (rw [hu11]; exact hUl)⟩ hacc

theorem w21 (p q : Name) (ts : List Tm) (vs : List Val) (sp : List (List C)) (hl : ts.length ≤ maxLen) :
    MeetsH Tryd.prog G 21 [.agg [.c (cS (bs p)), .c (.sl (ts.map Tm.row) sp)], .agg [.c (cS (bs q)), arV vs]] (hp [(10005, bxV vs)] [] F0) (matchR (matchOf p ts q vs)).open (hp [(10005, bxV vs)] [] F0) := by
  refine meetsH [] Tryd.func21 ie21 ig21 (Nat.le_of_ble_eq_true rfl) ?_ (by simp) (by simp [ownKey]) (by simp) (by simp) (sameKeys_refl F0) ?_ ?_ ?_
  · simp [midKey]
  · simp
  · simp [matchR, CR.open, CX.open]
  simp [ic21, ir21]
  refine r_call 44 true _ _ (m44 p ts sp hl) rfl rfl rfl rfl ?_
  simp
  refine ⟨fun h => ?_, fun h1 => ⟨fun h => ?_, fun h2 => ⟨fun h => ?_, fun h3 => ?_⟩⟩⟩
  · exact ret_st (by simp) (by simp [matchOf, matchR, h, CR.open, CX.open, X.fits, A.fits]) (by simp) (by simp) (by simp) (by simp)
  · exact ret_st (by simp) (by simp [matchOf, matchR, h, CR.open, CX.open, X.fits, A.fits]) (by simp) (by simp) (by simp) (by simp)
  · have : (ts.length == vs.length) = false := by simp; omega
    exact ret_st (by simp) (by simp [matchOf, matchR, this, CR.open, CX.open, X.fits, A.fits]) (by simp) (by simp) (by simp) (by simp)
  subst h2
  have h24 : ts.length ≤ 24 := by simp [atomOk] at h1; omega
  have hlen : ts.length = vs.length := by omega
  have hmo : matchOf p ts p vs = goMatch Val.ok [] ts vs := by simp [matchOf, h1, hlen]
  rw [hmo]
  refine w21_loop p ts vs sp hlen h24 _ _ _ _ _ _ _ _ _ _ _ _ (fun h _ _ _ _ _ _ _ _ _ _ _ _ _ _ _ hO => ?_) (fun out h _ _ _ _ _ _ _ _ _ _ _ _ _ _ _ hO hacc => ?_)
  · exact ret_st (by simp) (by simp [matchR, h, CR.open, CX.open, X.fits, A.fits]) (by simpa using hO.1) (by simp) hO.2.1 hO.2.2
  · simp
    refine ret_st (by simp) ?_ (by simpa using hO.1) (by simp) hO.2.1 hO.2.2
    rcases hacc with ⟨ho, rfl, rfl⟩ | ⟨rfl, rfl⟩
    · simp [matchR, h, CR.open, CX.open, X.fits, A.fits]
      simpa using ho
    · simp [matchR, h, CR.open, CX.open, X.fits, A.fits]
end Go.Proofs.YtiomojlcnemnhaaDoor

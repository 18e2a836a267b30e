import Derived.Test.YtiomojlcnemnhaaDoorWDxB2
import Derived.Test.YtiomojlcnemnhaaDoorWDxLo
import Derived.Test.YtiomojlcnemnhaaDoorWPedF
import Derived.Test.YtiomojlcnemnhaaDoorWDxB1
import Derived.Test.YtiomojlcnemnhaaDoorWDxW5
import Derived.Test.YtiomojlcnemnhaaDoorWDxZ4
namespace Go.Proofs.YtiomojlcnemnhaaDoor
open Go.Fx Go.RowKit Go.Ped
abbrev stp1 : Stp := ⟨2, 1, 1, [[77]]⟩
abbrev stp2 : Stp := ⟨6, 0, 0, [[78]]⟩
theorem other_may : mayOf otherR [[88]] = 0 := by kernel_rfl
theorem other_make : makeOn otherR.body (-1) otherR.body.length (2 ^ otherR.body.length - 1) (learnOn [] [[88]]) = some [stp1, stp2] := by kernel_rfl
theorem other_right : rightB otherR [stp1, stp2] [[88]] = true := by kernel_rfl
theorem other_wrong : rightB otherR [stp1, stp2] [] = false := by kernel_rfl
theorem other_bare : otherR.bareR = otherR := by kernel_rfl
theorem ex_small_leaf (op : Int) (t : Tm) : (Ex.mk op t [] []).small 1048576 := Ex.small_mk.2 ⟨by simp, by simp⟩
theorem other_small : otherR.small 1048576 := by
  refine ⟨by simp [otherR], by simp [otherR], fun x hx => ?_⟩
  have hx' : x = setN ∨ x = atomE := by simpa [otherR] using hx
  rcases hx' with rfl | rfl
  · refine ⟨by simp [setN], ex_small_leaf _ _, Ex.small_mk.2 ⟨by simp, fun k hk => ?_⟩⟩
    have hk' : k = exT vM ∨ k = exT ⟨[], ⟨1, 1, []⟩⟩ := by simpa using hk
    rcases hk' with rfl | rfl <;> exact ex_small_leaf _ _
  · exact ⟨by simp [atomE], ex_small_leaf _ _, ex_small_leaf _ _⟩
theorem other_terms : otherR.terms.length ≤ 1048576 := by
  have h : otherR.terms.length = 10 := by kernel_rfl
  omega
theorem other_good : ¬ badFirst otherR (-1) := by
  rintro (h | h | ⟨h, _⟩)
  · omega
  · have h2 : otherR.body.length = 2 := rfl
    omega
  · omega
set_option maxRecDepth 100000 in
set_option maxHeartbeats 8000000 in
theorem m79 : Meets Tryd.prog GB 79 [] (.x (.one (cB true))) := by
  have h152 := m152 (G := GB)
  have h82 := m82 otherR [[88]] [] (-1) other_small other_terms (by show 1 + 2 ≤ _; omega) (by simp) _ (.inr (.inr ⟨other_may, other_good, _, other_make, rfl⟩))
  have h78 := m78 (G := GB) otherR ([stp1, stp2].map fun s => (s, [])) [] [[88]] [] other_small other_terms (by show 1 + 2 ≤ _; omega) (by simp) (by simp [maxLen])
  have h78' := m78 (G := GB) otherR ([stp1, stp2].map fun s => (s, [])) [] [] [] other_small other_terms (by show 0 + 2 ≤ _; omega) (by simp) (by simp [maxLen])
  rw [show (([stp1, stp2].map fun s => ((s, []) : Stp × Sp)).map (·.1)) = [stp1, stp2] from rfl, other_right] at h78
  rw [show (([stp1, stp2].map fun s => ((s, []) : Stp × Sp)).map (·.1)) = [stp1, stp2] from rfl, other_wrong] at h78'
  unfold madeRow at h82
  rw [other_bare] at h82
  have hrow : otherR.row = [cS (bs otherR.p), .sl (otherR.head.map Arg.row) otherR.hsp, .sl (otherR.body.map Lit.row) otherR.bsp] := rfl
  rw [hrow] at h152 h82
  unfold planRow at h82 h78 h78'
  generalize otherR = r at *
  have hs1 : (([stp1, stp2].map fun s => ((s, []) : Stp × Sp)).map srow) = [[cI .i8 2, cI .i64 1, cI .u32 1, .sl [nmRow [77]] []], [cI .i8 6, cI .i64 0, cI .u32 0, .sl [nmRow [78]] []]] := rfl
  rw [hs1] at h82 h78 h78'
  refine meets Tryd.func79 ie79 ig79 (Nat.le_of_ble_eq_true rfl) ?_
  simp [ic79, ir79]
  refine call_of h152 ?_
  simp
  refine call_of h82 ?_
  simp
  refine k_rowg (g := true) rfl rfl rfl (by simp) ?_
  simp
  refine call_of h78 ?_
  simp
  refine call_of h78' ?_
  simp
end Go.Proofs.YtiomojlcnemnhaaDoor

namespace Go.Proofs.YtiomojlcnemnhaaDoor
open Go.Fx Go.RowKit Go.Ped
abbrev laidBits : List (String × DataW Unit) := [("math/bits.deBruijn32tab", Rows.laid_math_bits_deBruijn32tab)]
theorem gBitsType : (Tryd.prog.globals[1]?).map (·.type) = some 264 := by kernel_rfl
theorem cells264 : Tryd.prog.cellsOf 264 = 32 := by kernel_rfl
theorem cells5 : Tryd.prog.cellsOf 5 = 1 := by kernel_rfl
theorem bitsData : (Rows.laid_math_bits_deBruijn32tab : DataW Unit) = Lib.tabData .u8 bruijnTab := by rfl
theorem held_bits {W : World} (h : laidMetH Tryd.prog laidBits W) : Held GB W := by
  have h1 := plain_laid (by kernel_rfl) h
  unfold laidBits at h1
  rw [bitsData] at h1
  exact Lib.tabBelow_of_tabIs (Lib.tabIs_of_head gBruijn gBitsType Tryd.underlying264 Tryd.underlying5 cells5 cells264 h1)
theorem ty_names {cs : List C} (h : Typed Tryd.prog 52 cs) : ∃ (l : List Name) (sp : Sp), cs = [.sl (l.map nmRow) sp] ∧ ∀ e ∈ sp, e.length = 1 := by
  obtain ⟨es, sp, rfl, hes, _⟩ := h.asSlice Tryd.underlying52
  obtain ⟨l, rfl⟩ := list_of (row := nmRow) (es := es) fun x hx => ty_str (hes x (List.mem_append_left _ hx))
  refine ⟨l, sp, rfl, fun e he => ?_⟩
  obtain ⟨s, rfl⟩ := ty_str (hes e (List.mem_append_right _ he))
  rfl
theorem nm_bulk (v : Name) : 1 ≤ rowBulk (nmRow v) := by simp only [rowBulk, C.bulk]; omega
theorem body_bulk (r : Rule) : r.body.length ≤ rowBulk r.row := by
  have := rows_len lit_bulk r.body
  simp only [Rule.row, rowBulk, C.bulk]; omega
end Go.Proofs.YtiomojlcnemnhaaDoor

namespace Go.Proofs.YtiomojlcnemnhaaDoor
open Go.Fx Go.RowKit Go.Ped
variable {G : World → Prop}
end Go.Proofs.YtiomojlcnemnhaaDoor

namespace Go.Proofs.YtiomojlcnemnhaaDoor
open Go.Fx Go.RowKit Go.Ped
end Go.Proofs.YtiomojlcnemnhaaDoor

namespace Go.Proofs.YtiomojlcnemnhaaDoor
open Go.Fx Go.RowKit Go.Ped
theorem varsOn_nodupL : ∀ (l acc : List Name), acc.Nodup → (varsOn acc l).Nodup
  | [], _, h => h
  | v :: l, acc, h => by
    simp only [varsOn]
    split
    · rename_i hc
      simp only [Bool.and_eq_true, Bool.not_eq_true', List.contains_eq_mem, decide_eq_false_iff_not] at hc
      refine varsOn_nodupL l _ ?_
      rw [List.nodup_append]
      exact ⟨h, by simp, fun a ha b hb e => hc.2 (by rw [List.mem_singleton.1 hb] at e; exact e ▸ ha)⟩
    · exact varsOn_nodupL l _ h
theorem tmVars_nodupL (l : List Tm) : (tmVars l).Nodup := varsOn_nodupL _ _ List.nodup_nil
theorem unk_mem {ns l : List Name} {v : Name} : v ∈ unk ns l ↔ v ∈ l ∧ ns.contains v = false := by
  rw [List.mem_filter]
  simp
theorem step_gives_ok (ns : List Name) {x : Lit} (hx : x.kind = 1 ∨ x.kind = 2 ∨ x.kind = 3) (i : Nat) (hs : (stepOf ns x i).2 = true) :
    (∀ v ∈ (stepOf ns x i).1.gives, v ∈ tmVars x.terms ∧ ns.contains v = false) ∧ (stepOf ns x i).1.gives.Nodup ∧ ∀ v ∈ tmVars x.terms, ns.contains v = true ∨ v ∈ (stepOf ns x i).1.gives := by
  have hnd : (unk ns (tmVars x.terms)).Nodup := (tmVars_nodupL x.terms).sublist List.filter_sublist
  have hcov : ∀ v ∈ tmVars x.terms, ns.contains v = true ∨ v ∈ unk ns (tmVars x.terms) := fun v hv => by
    cases h : ns.contains v with
    | true => exact .inl rfl
    | false => exact .inr (unk_mem.2 ⟨hv, h⟩)
  rcases hx with h1 | h1 | h1
  · have hst : (stepOf ns x i).1.gives = unk ns (tmVars x.terms) := by unfold stepOf; rw [if_pos h1]
    rw [hst]
    exact ⟨fun v hv => unk_mem.1 hv, hnd, hcov⟩
  · have h2 : ¬ x.kind = 1 := by omega
    have hst : stepOf ns x i = (⟨4, i, markOf ns x.l, []⟩, (openOf ns x).isEmpty) := by unfold stepOf; rw [if_neg h2, if_pos h1]
    rw [hst] at hs ⊢
    have ho : unk ns (tmVars x.terms) = [] := by simpa using hs
    refine ⟨fun v hv => (by cases hv), List.nodup_nil, fun v hv => ?_⟩
    have := hcov v hv
    rw [ho] at this
    exact this.imp id fun h => by cases h
  · have h2 : ¬ x.kind = 1 := by omega
    have h3 : ¬ x.kind = 2 := by omega
    unfold stepOf at hs ⊢
    rw [if_neg h2, if_neg h3] at hs ⊢
    cases hO : openOf ns x with
    | nil =>
      refine ⟨fun v hv => (by cases hv), List.nodup_nil, fun v hv => ?_⟩
      have := hcov v hv
      rw [show unk ns (tmVars x.terms) = [] from hO] at this
      exact this.imp id fun h => by cases h
    | cons v l =>
      rw [hO] at hs
      simp only at hs ⊢
      split at hs
      · rename_i hc
        rw [if_pos hc]
        have ho : unk ns (tmVars x.terms) = [v] := by rw [show unk ns (tmVars x.terms) = v :: l from hO, hc.1]
        refine ⟨fun u hu => ?_, by simp, fun u hu => ?_⟩
        · exact unk_mem.1 (by rw [ho]; exact hu)
        · have := hcov u hu
          rwa [ho] at this
      · cases hs
theorem learnOn_mem : ∀ (l ns : List Name) (v : Name), v ∈ learnOn ns l ↔ v ∈ ns ∨ v ∈ l
  | [], ns, v => by simp [learnOn]
  | u :: l, ns, v => by
    rw [learnOn, learnOn_mem l]
    unfold addN
    by_cases h : ns.contains u = true
    · rw [if_pos h]
      have hu : u ∈ ns := by simpa using h
      constructor
      · rintro (h1 | h1)
        · exact .inl h1
        · exact .inr (List.mem_cons_of_mem _ h1)
      · rintro (h1 | h1)
        · exact .inl h1
        · rcases List.mem_cons.1 h1 with rfl | h1
          · exact .inl hu
          · exact .inr h1
    · rw [if_neg h]
      simp only [List.mem_append, List.mem_cons, List.not_mem_nil, or_false]
      exact or_assoc
end Go.Proofs.YtiomojlcnemnhaaDoor

namespace Go.Proofs.YtiomojlcnemnhaaDoor
open Go.Fx Go.RowKit Go.Ped
end Go.Proofs.YtiomojlcnemnhaaDoor

namespace Go.Ped
def Just (l : List Eqn) (f e : List Name) : Prop := ∀ p v s, e = p ++ v :: s → ∃ q ∈ l, take (f ++ p) q = some v
theorem Just.nil {l : List Eqn} {f : List Name} : Just l f [] := fun p v s h => by simp at h
theorem Just.cons {l : List Eqn} {f e : List Name} {v : Name} {q : Eqn} (hq : q ∈ l) (ht : take f q = some v) (h : Just l (f ++ [v]) e) : Just l f (v :: e) := by
  intro p w s he
  cases p with
  | nil => simp at he; obtain ⟨rfl, rfl⟩ := he; exact ⟨q, hq, by simpa using ht⟩
  | cons u p =>
    simp at he
    obtain ⟨rfl, rfl⟩ := he
    obtain ⟨q', h1, h2⟩ := h p w s rfl
    exact ⟨q', h1, by simpa using h2⟩
theorem Just.append {l : List Eqn} : ∀ {e f e' : List Name}, Just l f e → Just l (f ++ e) e' → Just l f (e ++ e')
  | [], f, e', _, h => by simpa using h
  | v :: e, f, e', h, h' => by
    obtain ⟨q, hq, ht⟩ := h [] v e rfl
    refine Just.cons hq (by simpa using ht) (Just.append (fun p w s he => ?_) (by simpa using h'))
    obtain ⟨q', g1, g2⟩ := h (v :: p) w s (by simp [he])
    exact ⟨q', g1, by simpa using g2⟩
theorem Just.mono {l l' : List Eqn} {f e : List Name} (h : Just l f e) (hs : ∀ q ∈ l, q ∈ l') : Just l' f e := fun p v s he => by
  obtain ⟨q, h1, h2⟩ := h p v s he
  exact ⟨q, hs q h1, h2⟩
theorem goRound_just : ∀ (w : List Eqn) (f : List Name), ∃ e, (goRound f w).1 = f ++ e ∧ Just w f e
  | [], f => ⟨[], by simp [goRound], .nil⟩
  | q :: w, f => by
    simp only [goRound]
    cases ht : take f q with
    | some v =>
      obtain ⟨e, h1, h2⟩ := goRound_just w (f ++ [v])
      exact ⟨v :: e, by simp only [h1]; simp, .cons (List.mem_cons_self ..) ht (h2.mono fun q hq => List.mem_cons_of_mem _ hq)⟩
    | none =>
      obtain ⟨e, h1, h2⟩ := goRound_just w f
      exact ⟨e, h1, h2.mono fun q hq => List.mem_cons_of_mem _ hq⟩
theorem goRound_sub : ∀ (w : List Eqn) (f : List Name), ∀ q ∈ (goRound f w).2, q ∈ w
  | [], f, q, h => by simp [goRound] at h
  | p :: w, f, q, h => by
    simp only [goRound] at h
    split at h
    · exact List.mem_cons_of_mem _ (goRound_sub w _ q h)
    · rcases List.mem_cons.1 h with rfl | h
      · exact List.mem_cons_self ..
      · exact List.mem_cons_of_mem _ (goRound_sub w _ q h)
theorem goRounds_just (f : List Name) (w : List Eqn) : ∃ e, goRounds f w = f ++ e ∧ Just w f e := by
  induction hn : w.length using Nat.strongRecOn generalizing f w with
  | ind n ih =>
    obtain ⟨e, h1, h2⟩ := goRound_just w f
    unfold goRounds
    split
    · rename_i hlt
      obtain ⟨e', g1, g2⟩ := ih _ (hn ▸ hlt) (goRound f w).1 (goRound f w).2 rfl
      refine ⟨e ++ e', by rw [g1, h1, List.append_assoc], h2.append ?_⟩
      rw [h1] at g2
      exact g2.mono (goRound_sub w f)
    · exact ⟨e, h1, h2⟩
theorem goRound_stable : ∀ (w : List Eqn) (f : List Name), (goRound f w).2.length = w.length → (goRound f w).1 = f ∧ ∀ q ∈ w, take f q = none
  | [], f, _ => ⟨rfl, fun q h => by cases h⟩
  | p :: w, f, h => by
    simp only [goRound] at h ⊢
    cases ht : take f p with
    | some v =>
      rw [ht] at h
      have := goRound_le w (f ++ [v])
      simp at h; omega
    | none =>
      rw [ht] at h
      obtain ⟨h1, h2⟩ := goRound_stable w f (by simpa using h)
      refine ⟨h1, fun q hq => ?_⟩
      rcases List.mem_cons.1 hq with rfl | hq
      · exact ht
      · exact h2 q hq
theorem Waits.none {f : List Name} {eqs w : List Eqn} (h : Waits f eqs w) : (∀ q ∈ w, take f q = none) → ∀ q ∈ eqs, take f q = none := by
  induction h with
  | nil => intro _ q hq; cases hq
  | keep h ih =>
    intro g q hq
    rcases List.mem_cons.1 hq with rfl | hq
    · exact g _ (List.mem_cons_self ..)
    · exact ih (fun p hp => g p (List.mem_cons_of_mem _ hp)) q hq
  | gone hd h ih =>
    intro g q hq
    rcases List.mem_cons.1 hq with rfl | hq
    · exact hd _ fun _ hv => hv
    · exact ih g q hq
theorem goRounds_closed {eqs : List Eqn} (hw : ∀ q ∈ eqs, q.wf) (f : List Name) (w : List Eqn) (h : Waits f eqs w) : ∀ q ∈ eqs, take (goRounds f w) q = none := by
  induction hn : w.length using Nat.strongRecOn generalizing f w with
  | ind n ih =>
    obtain ⟨h1, h2⟩ := round_same h (fun _ hv => hv) hw
    unfold goRounds
    split
    · rename_i hlt
      exact ih _ (hn ▸ hlt) _ _ h2 rfl
    · rename_i hge
      have hle := goRound_le w f
      obtain ⟨g1, g2⟩ := goRound_stable w f (by omega)
      rw [g1]
      exact h.none g2
theorem take_some {f : List Name} {q : Eqn} {v : Name} (h : take f q = some v) : v ∉ f ∧ v ≠ [] ∧ ((v = q.left ∧ ∀ u ∈ q.rights, u ∈ f) ∨ (v = q.right ∧ ∀ u ∈ q.lefts, u ∈ f)) := by
  unfold take at h
  split at h
  · rename_i hc
    simp only [Bool.and_eq_true, bne_iff_ne, ne_eq, Bool.not_eq_true', List.contains_eq_mem, decide_eq_false_iff_not] at hc
    injection h with h; subst h
    exact ⟨hc.1.2, hc.1.1, .inl ⟨rfl, allIn_iff.1 hc.2⟩⟩
  · split at h
    · rename_i hc
      simp only [Bool.and_eq_true, bne_iff_ne, ne_eq, Bool.not_eq_true', List.contains_eq_mem, decide_eq_false_iff_not] at hc
      injection h with h; subst h
      exact ⟨hc.1.2, hc.1.1, .inr ⟨rfl, allIn_iff.1 hc.2⟩⟩
    · cases h
theorem take_none {f : List Name} {q : Eqn} (h : take f q = none) : (q.left ≠ [] → (∀ u ∈ q.rights, u ∈ f) → q.left ∈ f) ∧ (q.right ≠ [] → (∀ u ∈ q.lefts, u ∈ f) → q.right ∈ f) := by
  unfold take at h
  split at h
  · cases h
  · rename_i h1
    split at h
    · cases h
    · rename_i h2
      simp only [Bool.and_eq_true, bne_iff_ne, ne_eq, Bool.not_eq_true', List.contains_eq_mem, decide_eq_false_iff_not, not_and] at h1 h2
      refine ⟨fun h3 h4 => Classical.byContradiction fun h5 => ?_, fun h3 h4 => Classical.byContradiction fun h5 => ?_⟩
      · exact h1 ⟨h3, h5⟩ (allIn_iff.2 h4)
      · exact h2 ⟨h3, h5⟩ (allIn_iff.2 h4)
def Closed (S : Name → Prop) (eqs : List Eqn) : Prop := ∀ q ∈ eqs, (q.left ≠ [] → (∀ u ∈ q.rights, S u) → S q.left) ∧ (q.right ≠ [] → (∀ u ∈ q.lefts, S u) → S q.right)
theorem just_min {S : Name → Prop} {eqs : List Eqn} (hS : Closed S eqs) : ∀ {e f : List Name}, Just eqs f e → (∀ v ∈ f, S v) → ∀ v ∈ f ++ e, S v
  | [], f, _, h => by simpa using h
  | v :: e, f, hj, h => by
    obtain ⟨q, hq, ht⟩ := hj [] v e rfl
    rw [List.append_nil] at ht
    obtain ⟨h1, h2, h3⟩ := take_some ht
    have hv : S v := by
      rcases h3 with ⟨rfl, h3⟩ | ⟨rfl, h3⟩
      · exact (hS q hq).1 h2 fun u hu => h u (h3 u hu)
      · exact (hS q hq).2 h2 fun u hu => h u (h3 u hu)
    have := just_min hS (e := e) (f := f ++ [v]) (fun p w s he => by
      obtain ⟨q', g1, g2⟩ := hj (v :: p) w s (by simp [he])
      exact ⟨q', g1, by simpa using g2⟩) (fun u hu => by
      rcases List.mem_append.1 hu with hu | hu
      · exact h u hu
      · simp at hu; subst hu; exact hv)
    simpa using this
theorem just_nodup {eqs : List Eqn} : ∀ {e f : List Name}, Just eqs f e → f.Nodup → (f ++ e).Nodup
  | [], f, _, h => by simpa using h
  | v :: e, f, hj, h => by
    obtain ⟨q, hq, ht⟩ := hj [] v e rfl
    rw [List.append_nil] at ht
    obtain ⟨h1, _, _⟩ := take_some ht
    have := just_nodup (e := e) (f := f ++ [v]) (fun p w s he => by
      obtain ⟨q', g1, g2⟩ := hj (v :: p) w s (by simp [he])
      exact ⟨q', g1, by simpa using g2⟩) (by
      rw [List.nodup_append]
      refine ⟨h, by simp, fun a ha b hb => ?_⟩
      simp at hb; subst hb; intro e; subst e; exact h1 ha)
    simpa using this
theorem goRounds_spec {eqs : List Eqn} (hw : ∀ q ∈ eqs, q.wf) (f : List Name) :
    (∀ v ∈ f, v ∈ goRounds f eqs) ∧ Closed (· ∈ goRounds f eqs) eqs ∧ (∀ S : Name → Prop, Closed S eqs → (∀ v ∈ f, S v) → ∀ v ∈ goRounds f eqs, S v) ∧ (f.Nodup → (goRounds f eqs).Nodup) := by
  obtain ⟨e, h1, h2⟩ := goRounds_just f eqs
  refine ⟨fun v hv => by rw [h1]; simp [hv], fun q hq => take_none (goRounds_closed hw f eqs (Waits.refl f eqs) q hq), fun S hS hf => by rw [h1]; exact just_min hS h2 hf, fun hn => by rw [h1]; exact just_nodup h2 hn⟩
end Go.Ped

namespace Go.Proofs.YtiomojlcnemnhaaDoor
open Go.Fx Go.RowKit Go.Ped
theorem mem_addAll : ∀ {l acc : List Name} {v : Name}, v ∈ addAll acc l ↔ v ∈ acc ∨ v ∈ l
  | [], acc, v => by simp [addAll]
  | u :: l, acc, v => by
    rw [addAll, mem_addAll, List.mem_cons]
    by_cases h : acc.contains u = true
    · rw [if_pos h]
      constructor
      · rintro (h1 | h1)
        · exact .inl h1
        · exact .inr (.inr h1)
      · rintro (h1 | rfl | h1)
        · exact .inl h1
        · exact .inl (by simpa using h)
        · exact .inr h1
    · rw [if_neg h]
      simp only [List.mem_append, List.mem_singleton]
      constructor
      · rintro ((h1 | h1) | h1)
        · exact .inl h1
        · exact .inr (.inl h1)
        · exact .inr (.inr h1)
      · rintro (h1 | h1 | h1)
        · exact .inl (.inl h1)
        · exact .inl (.inr h1)
        · exact .inr h1
theorem addAll_nodup : ∀ {l acc : List Name}, acc.Nodup → (addAll acc l).Nodup
  | [], acc, h => h
  | u :: l, acc, h => by
    rw [addAll]
    refine addAll_nodup ?_
    by_cases hc : acc.contains u = true
    · rw [if_pos hc]; exact h
    · rw [if_neg hc, List.nodup_append]
      refine ⟨h, by simp, fun a ha b hb e => ?_⟩
      simp only [List.mem_singleton] at hb
      subst hb; subst e
      exact hc (by simpa using ha)
theorem mem_atomsOn : ∀ {l : List Lit} {acc : List Name} {v : Name}, v ∈ atomsOn acc l ↔ v ∈ acc ∨ ∃ x ∈ l, x.kind = 1 ∧ v ∈ tmVars x.l
  | [], acc, v => by simp [atomsOn]
  | x :: l, acc, v => by
    rw [atomsOn, mem_atomsOn]
    by_cases h : x.kind = 1
    · rw [if_pos h, mem_addAll]
      constructor
      · rintro ((h1 | h1) | ⟨y, h1, h2⟩)
        · exact .inl h1
        · exact .inr ⟨x, List.mem_cons_self .., h, h1⟩
        · exact .inr ⟨y, List.mem_cons_of_mem _ h1, h2⟩
      · rintro (h1 | ⟨y, h1, h2⟩)
        · exact .inl (.inl h1)
        · rcases List.mem_cons.1 h1 with rfl | h1
          · exact .inl (.inr h2.2)
          · exact .inr ⟨y, h1, h2⟩
    · rw [if_neg h]
      constructor
      · rintro (h1 | ⟨y, h1, h2⟩)
        · exact .inl h1
        · exact .inr ⟨y, List.mem_cons_of_mem _ h1, h2⟩
      · rintro (h1 | ⟨y, h1, h2⟩)
        · exact .inl h1
        · rcases List.mem_cons.1 h1 with rfl | h1
          · exact absurd h2.1 h
          · exact .inr ⟨y, h1, h2⟩
theorem atomsOn_nodup : ∀ {l : List Lit} {acc : List Name}, acc.Nodup → (atomsOn acc l).Nodup
  | [], acc, h => h
  | x :: l, acc, h => by
    rw [atomsOn]
    refine atomsOn_nodup ?_
    split
    · exact addAll_nodup h
    · exact h
theorem limits_spec (l : List Lit) : (∀ v ∈ atomsOn [] l, v ∈ limitsOf l) ∧ Closed (· ∈ limitsOf l) (eqsOf l) ∧ (∀ S : Name → Prop, Closed S (eqsOf l) → (∀ v ∈ atomsOn [] l, S v) → ∀ v ∈ limitsOf l, S v) ∧ (limitsOf l).Nodup := by
  obtain ⟨h1, h2, h3, h4⟩ := goRounds_spec (eqs_wf l) (atomsOn [] l)
  exact ⟨h1, h2, h3, h4 (atomsOn_nodup List.nodup_nil)⟩
theorem mem_eqsOf {q : Eqn} {l : List Lit} : q ∈ eqsOf l ↔ ∃ x ∈ l, isEqn x = true ∧ eqnOf x = q :=
  ⟨eqsOf_mem, fun ⟨x, h1, h2, h3⟩ => by subst h3; exact List.mem_map_of_mem (List.mem_filter.2 ⟨h1, h2⟩)⟩
theorem limits_mono {l m : List Lit} (h : ∀ x ∈ l, x ∈ m) : ∀ v ∈ limitsOf l, v ∈ limitsOf m := by
  obtain ⟨_, _, h3, _⟩ := limits_spec l
  obtain ⟨g1, g2, _, _⟩ := limits_spec m
  refine h3 _ (fun q hq => ?_) fun v hv => ?_
  · obtain ⟨x, hx, he, rfl⟩ := mem_eqsOf.1 hq
    exact g2 _ (mem_eqsOf.2 ⟨x, h x hx, he, rfl⟩)
  · rcases mem_atomsOn.1 hv with hv | ⟨x, hx, hk, hv⟩
    · cases hv
    · exact g1 v (mem_atomsOn.2 (.inr ⟨x, h x hx, hk, hv⟩))
theorem nodup_len {α : Type} [DecidableEq α] : ∀ {l m : List α}, l.Nodup → (∀ v ∈ l, v ∈ m) → l.length ≤ m.length
  | [], _, _, _ => Nat.zero_le _
  | a :: l, m, hn, h => by
    have g := List.nodup_cons.1 hn
    have ha := h a (List.mem_cons_self ..)
    have h1 := nodup_len (l := l) (m := m.erase a) g.2 fun v hv => (List.mem_erase_of_ne (fun e => g.1 (by rw [← e]; exact hv))).2 (h v (List.mem_cons_of_mem _ hv))
    have h2 := List.length_erase_of_mem ha
    have h3 := List.length_pos_of_mem ha
    simp only [List.length_cons]
    omega
end Go.Proofs.YtiomojlcnemnhaaDoor

namespace Go.Proofs.YtiomojlcnemnhaaDoor
open Go.Fx Go.RowKit Go.Ped
theorem mem_tmVarsL {v : Name} {l : List Tm} : v ∈ tmVars l ↔ Ped.isVar v = true ∧ v ∈ l.map Tm.v := by
  show v ∈ varsOn [] _ ↔ _
  rw [mem_varsOn]
  constructor
  · rintro (h | h)
    · cases h
    · exact h
  · exact .inr
theorem tmVars_sub {l m : List Tm} (h : ∀ t ∈ l, t ∈ m) {v : Name} (hv : v ∈ tmVars l) : v ∈ tmVars m := by
  rw [mem_tmVarsL] at hv ⊢
  obtain ⟨h1, h2⟩ := hv
  obtain ⟨t, ht, rfl⟩ := List.mem_map.1 h2
  exact ⟨h1, List.mem_map_of_mem (h t ht)⟩
theorem lit_kind {x : Lit} (h : litOk x = true) : x.kind = 1 ∨ x.kind = 2 ∨ x.kind = 3 := by
  unfold litOk at h
  split at h
  · rename_i hk; rcases hk with hk | hk
    · exact .inl hk
    · exact .inr (.inl hk)
  · split at h
    · exact .inr (.inr ‹_›)
    · cases h
end Go.Proofs.YtiomojlcnemnhaaDoor

namespace Go.Proofs.YtiomojlcnemnhaaDoor
open Go.Fx Go.RowKit Go.Ped
def atomAt (body : List Lit) (j : Nat) : Bool := match body[j]? with | some x => decide (x.kind = 1) | none => false
def okAt (body : List Lit) (ns : List Name) (j : Nat) : Bool := match body[j]? with | some x => (stepOf ns x j).2 | none => false
def stepAt (body : List Lit) (ns : List Name) (j : Nat) : Stp := match body[j]? with | some x => (stepOf ns x j).1 | none => ⟨0, 0, 0, []⟩
theorem atomAt_at {body : List Lit} {j : Nat} {x : Lit} (h : body[j]? = some x) : atomAt body j = decide (x.kind = 1) := by unfold atomAt; rw [h]
theorem okAt_at {body : List Lit} {ns : List Name} {j : Nat} {x : Lit} (h : body[j]? = some x) : okAt body ns j = (stepOf ns x j).2 := by unfold okAt; rw [h]
theorem stepAt_at {body : List Lit} {ns : List Name} {j : Nat} {x : Lit} (h : body[j]? = some x) : stepAt body ns j = (stepOf ns x j).1 := by unfold stepAt; rw [h]
theorem ok_atom {ns : List Name} {x : Lit} {i : Nat} (h : x.kind = 1) : (stepOf ns x i).2 = true := by unfold stepOf; rw [if_pos h]
theorem step_lit (ns : List Name) (x : Lit) (i : Nat) : (stepOf ns x i).1.lit = i := by
  unfold stepOf
  split
  · rfl
  · split
    · rfl
    · split
      · rfl
      · split <;> rfl
theorem runOn_spec (body : List Lit) (ns : List Name) : ∀ (l : List Nat) (pos : Int), l.Pairwise (· < ·) → (∀ i ∈ l, i < body.length) →
    (∃ i p, runOn body ns l pos = (some i, p) ∧ i ∈ l ∧ atomAt body i = false ∧ okAt body ns i = true ∧ ∀ j ∈ l, j < i → atomAt body j = false → okAt body ns j = false) ∨
    (∃ p, runOn body ns l pos = (none, p) ∧ (∀ j ∈ l, atomAt body j = false → okAt body ns j = false) ∧ (0 ≤ pos → p = pos) ∧ (pos < 0 → (p = pos ∧ ∀ j ∈ l, atomAt body j = false) ∨ ∃ i ∈ l, p = (i : Int) ∧ atomAt body i = true ∧ ∀ j ∈ l, atomAt body j = true → i ≤ j))
  | [], pos, _, _ => .inr ⟨pos, rfl, by simp, fun _ => rfl, fun _ => .inl ⟨rfl, by simp⟩⟩
  | i :: l, pos, hs, hin => by
    obtain ⟨hs1, hs2⟩ := List.pairwise_cons.1 hs
    have hi : i < body.length := hin i (List.mem_cons_self ..)
    have hx : body[i]? = some body[i] := List.getElem?_eq_getElem hi
    have hin' : ∀ j ∈ l, j < body.length := fun j hj => hin j (List.mem_cons_of_mem _ hj)
    rw [runOn, hx]
    simp only
    by_cases hk : body[i].kind = 1
    · rw [if_pos hk]
      have ha : atomAt body i = true := by rw [atomAt_at hx]; simpa using hk
      rcases runOn_spec body ns l (if pos < 0 then i else pos) hs2 hin' with ⟨k, p, h1, h2, h3, h4, h5⟩ | ⟨p, h1, h2, h3, h4⟩
      · refine .inl ⟨k, p, h1, List.mem_cons_of_mem _ h2, h3, h4, fun j hj hlt haj => ?_⟩
        rcases List.mem_cons.1 hj with rfl | hj
        · rw [ha] at haj; cases haj
        · exact h5 j hj hlt haj
      · refine .inr ⟨p, h1, fun j hj haj => ?_, fun hp => ?_, fun hp => .inr ?_⟩
        · rcases List.mem_cons.1 hj with rfl | hj
          · rw [ha] at haj; cases haj
          · exact h2 j hj haj
        · rw [if_neg (by omega)] at h3
          exact h3 hp
        · rw [if_pos hp] at h3
          refine ⟨i, List.mem_cons_self .., h3 (by omega), ha, fun j hj _ => ?_⟩
          rcases List.mem_cons.1 hj with rfl | hj
          · exact Nat.le_refl _
          · exact Nat.le_of_lt (hs1 j hj)
    · rw [if_neg hk]
      have ha : atomAt body i = false := by rw [atomAt_at hx]; simpa using hk
      by_cases ho : (stepOf ns body[i] i).2 = true
      · rw [if_pos ho]
        refine .inl ⟨i, pos, rfl, List.mem_cons_self .., ha, by rw [okAt_at hx]; exact ho, fun j hj hlt _ => ?_⟩
        rcases List.mem_cons.1 hj with rfl | hj
        · omega
        · have := hs1 j hj; omega
      · rw [if_neg ho]
        have hno : okAt body ns i = false := by rw [okAt_at hx]; simpa using ho
        rcases runOn_spec body ns l pos hs2 hin' with ⟨k, p, h1, h2, h3, h4, h5⟩ | ⟨p, h1, h2, h3, h4⟩
        · refine .inl ⟨k, p, h1, List.mem_cons_of_mem _ h2, h3, h4, fun j hj hlt haj => ?_⟩
          rcases List.mem_cons.1 hj with rfl | hj
          · exact hno
          · exact h5 j hj hlt haj
        · refine .inr ⟨p, h1, fun j hj haj => ?_, h3, fun hp => ?_⟩
          · rcases List.mem_cons.1 hj with rfl | hj
            · exact hno
            · exact h2 j hj haj
          · rcases h4 hp with ⟨e, h⟩ | ⟨k, hk1, hk2, hk3, hk4⟩
            · refine .inl ⟨e, fun j hj => ?_⟩
              rcases List.mem_cons.1 hj with rfl | hj
              · exact ha
              · exact h j hj
            · refine .inr ⟨k, List.mem_cons_of_mem _ hk1, hk2, hk3, fun j hj haj => ?_⟩
              rcases List.mem_cons.1 hj with rfl | hj
              · rw [ha] at haj; cases haj
              · exact hk4 j hj haj
theorem bitsOf_sorted (m : Nat) : (bitsOf m).Pairwise (· < ·) := List.Pairwise.filter _ List.pairwise_lt_range
theorem next_spec {body : List Lit} (ns : List Name) {m : Nat} (hin : ∀ i ∈ bitsOf m, i < body.length) :
    (nextL body ns m < 0 ∧ ∀ j ∈ bitsOf m, atomAt body j = false ∧ okAt body ns j = false) ∨
    ∃ i ∈ bitsOf m, nextL body ns m = i ∧ ((atomAt body i = true ∧ (∀ j ∈ bitsOf m, atomAt body j = false → okAt body ns j = false) ∧ ∀ j ∈ bitsOf m, atomAt body j = true → i ≤ j) ∨
      (atomAt body i = false ∧ okAt body ns i = true ∧ ∀ j ∈ bitsOf m, j < i → atomAt body j = false → okAt body ns j = false)) := by
  unfold nextL
  rcases runOn_spec body ns (bitsOf m) (-1) (bitsOf_sorted m) hin with ⟨i, p, h1, h2, h3, h4, h5⟩ | ⟨p, h1, h2, _, h4⟩
  · rw [h1]
    exact .inr ⟨i, h2, rfl, .inr ⟨h3, h4, h5⟩⟩
  · rw [h1]
    rcases h4 (by omega) with ⟨rfl, h⟩ | ⟨i, hi1, rfl, hi3, hi4⟩
    · exact .inl ⟨by simp, fun j hj => ⟨h j hj, h2 j hj (h j hj)⟩⟩
    · exact .inr ⟨i, hi1, rfl, .inl ⟨hi3, h2, hi4⟩⟩
structure At (r : Rule) (ks : List Name) (m : Nat) (ns : List Name) : Prop where
  lt : m < 2 ^ 24
  inn : ∀ i ∈ bitsOf m, i < r.body.length
  kn : ∀ v ∈ ks, v ∈ ns
  done : ∀ j (h : j < r.body.length), j ∉ bitsOf m → ∀ v ∈ tmVars r.body[j].terms, v ∈ ns
  from_ : ∀ v ∈ ns, v ∈ ks ∨ ∃ j, ∃ h : j < r.body.length, j ∉ bitsOf m ∧ v ∈ tmVars r.body[j].terms
theorem clr_bits {m i j : Nat} (hi : i < 24) : j ∈ bitsOf (clr m i) ↔ j ∈ bitsOf m ∧ j ≠ i := by
  unfold bitsOf
  rw [List.mem_filter, List.mem_filter, List.mem_range]
  constructor
  · rintro ⟨h1, h2⟩
    rw [clr_bit hi (by omega)] at h2
    simp only [Bool.and_eq_true, decide_eq_true_eq] at h2
    exact ⟨⟨h1, h2.1⟩, fun e => h2.2 e.symm⟩
  · rintro ⟨⟨h1, h2⟩, h3⟩
    refine ⟨h1, ?_⟩
    rw [clr_bit hi (by omega), h2]
    simpa using fun e => h3 e.symm
theorem clr_len {m i : Nat} (h : i ∈ bitsOf m) : (bitsOf (clr m i)).length + 1 = (bitsOf m).length := by
  have hi := (bitsOf_mem h).1
  have e : bitsOf (clr m i) = (bitsOf m).erase i := by
    have hnd : (bitsOf m).Nodup := (bitsOf_sorted m).imp fun h => Nat.ne_of_lt h
    rw [hnd.erase_eq_filter]
    unfold bitsOf
    rw [List.filter_filter]
    refine List.filter_congr fun j hj => ?_
    rw [clr_bit hi (by have := List.mem_range.1 hj; omega), Bool.and_comm]
    congr 1
    by_cases e : i = j
    · subst e; simp
    · have : ¬ j = i := fun h => e h.symm
      simp [e, this]
  rw [e, List.length_erase_of_mem h]
  have := List.length_pos_of_mem h
  omega
theorem bits_none {m : Nat} (hm : m < 2 ^ 24) (h : m ≠ 0) : ∃ i, i ∈ bitsOf m := by
  obtain ⟨k, hk, h1, _⟩ := low_ex h hm
  exact ⟨k, List.mem_filter.2 ⟨List.mem_range.2 hk, h1⟩⟩
theorem At.step {r : Rule} {ks : List Name} {m : Nat} {ns : List Name} (h : At r ks m ns) (hlit : ∀ x ∈ r.body, litOk x = true) {i : Nat} (hi : i ∈ bitsOf m) (ho : okAt r.body ns i = true) : At r ks (clr m i) (learnOn ns (stepAt r.body ns i).gives) := by
  have hil := h.inn i hi
  have hx : r.body[i]? = some r.body[i] := List.getElem?_eq_getElem hil
  have h24 := (bitsOf_mem hi).1
  rw [okAt_at hx] at ho
  rw [stepAt_at hx]
  obtain ⟨g1, _, g3⟩ := step_gives_ok ns (lit_kind (hlit _ (List.getElem_mem hil))) i ho
  refine ⟨clr_lt h.lt, fun j hj => h.inn j ((clr_bits h24).1 hj).1, fun v hv => (learnOn_mem _ _ _).2 (.inl (h.kn v hv)), fun j hj hn v hv => ?_, fun v hv => ?_⟩
  · by_cases e : j = i
    · subst e
      rcases g3 v hv with h | h
      · exact (learnOn_mem _ _ _).2 (.inl (by simpa using h))
      · exact (learnOn_mem _ _ _).2 (.inr h)
    · exact (learnOn_mem _ _ _).2 (.inl (h.done j hj (fun hm => hn ((clr_bits h24).2 ⟨hm, e⟩)) v hv))
  · rcases (learnOn_mem _ _ _).1 hv with hv | hv
    · exact (h.from_ v hv).imp id fun ⟨j, hj, h1, h2⟩ => ⟨j, hj, fun hm => h1 ((clr_bits h24).1 hm).1, h2⟩
    · exact .inr ⟨i, hil, fun hm => ((clr_bits h24).1 hm).2 rfl, (g1 v hv).1⟩
end Go.Proofs.YtiomojlcnemnhaaDoor

namespace Go.Proofs.YtiomojlcnemnhaaDoor
open Go.Fx Go.RowKit Go.Ped
theorem lit_bare {x : Lit} (h : litOk x = true) (hk : ¬ x.kind = 1) (hk2 : ¬ x.kind = 2) : x.l = [] := by
  unfold litOk at h
  rw [if_neg (by rintro (e | e); exact hk e; exact hk2 e)] at h
  split at h
  · simp only [Bool.and_eq_true, List.isEmpty_iff] at h
    exact h.1.1.1.1.2
  · cases h
theorem mem_open {ns : List Name} {x : Lit} {v : Name} : v ∈ openOf ns x ↔ v ∈ tmVars x.terms ∧ v ∉ ns := by
  rw [unk_mem]; simp
theorem open_one {ns : List Name} {x : Lit} {u : Name} (h1 : u ∈ tmVars x.terms) (h2 : u ∉ ns) (h3 : ∀ v ∈ tmVars x.terms, v ∉ ns → v = u) : openOf ns x = [u] := by
  have hnd : (openOf ns x).Nodup := (tmVars_nodupL x.terms).sublist List.filter_sublist
  have hu : u ∈ openOf ns x := mem_open.2 ⟨h1, h2⟩
  have hall : ∀ v ∈ openOf ns x, v = u := fun v hv => h3 v (mem_open.1 hv).1 (mem_open.1 hv).2
  cases hO : openOf ns x with
  | nil => rw [hO] at hu; cases hu
  | cons a l =>
    rw [hO] at hnd hall
    obtain rfl := hall a (List.mem_cons_self ..)
    cases l with
    | nil => rfl
    | cons b l =>
      have hb := hall b (List.mem_cons_of_mem _ (List.mem_cons_self ..))
      rw [hb] at hnd
      simp at hnd
theorem step_open {ns : List Name} {x : Lit} {i : Nat} (h : openOf ns x = []) : (stepOf ns x i).2 = true := by
  unfold stepOf
  split
  · rfl
  · split
    · rw [h]; rfl
    · rw [h]
theorem step_set {ns : List Name} {x : Lit} {i : Nat} {u : Name} (hk : ¬ x.kind = 1) (hk2 : ¬ x.kind = 2) (h : openOf ns x = [u]) (hr : x.rel = 1) (hl : (isLone x.left x.right u || isLone x.right x.left u) = true) : (stepOf ns x i).2 = true := by
  unfold stepOf
  rw [if_neg hk, if_neg hk2, h]
  simp only
  rw [if_pos ⟨trivial, hr, hl⟩]
theorem lone_is {e o : Ex} {ns : List Name} (h : loneOf e ≠ []) (hn : loneOf e ∉ ns) (ho : ∀ u ∈ tmVars o.terms, u ∈ ns) : isLone e o (loneOf e) = true := by
  unfold isLone
  have hc : e.op = 0 ∧ e.t.v = loneOf e := by
    unfold loneOf at h ⊢
    split at h
    · rename_i hc; rw [if_pos hc]; exact ⟨hc.1, rfl⟩
    · exact absurd rfl h
  have h3 : (tmVars o.terms).contains (loneOf e) = false := by
    cases hq : (tmVars o.terms).contains (loneOf e) with
    | false => rfl
    | true => exact absurd (ho _ (by simpa using hq)) hn
  rw [h3, hc.1, hc.2]
  simp
theorem mem_vars_lit {x : Lit} {v : Name} : v ∈ tmVars x.terms ↔ v ∈ tmVars x.l ∨ v ∈ tmVars x.left.terms ∨ v ∈ tmVars x.right.terms := by
  simp only [mem_tmVarsL, Lit.terms, List.map_append, List.mem_append]
  constructor
  · rintro ⟨h, (h1 | h1) | h1⟩
    · exact .inl ⟨h, h1⟩
    · exact .inr (.inl ⟨h, h1⟩)
    · exact .inr (.inr ⟨h, h1⟩)
  · rintro (⟨h, h1⟩ | ⟨h, h1⟩ | ⟨h, h1⟩)
    · exact ⟨h, .inl (.inl h1)⟩
    · exact ⟨h, .inl (.inr h1)⟩
    · exact ⟨h, .inr h1⟩
theorem closed_at {ns : List Name} {x : Lit} {i : Nat} (hlit : litOk x = true) (hq : isEqn x = true) (hno : (stepOf ns x i).2 = false) :
    ((eqnOf x).left ≠ [] → (∀ u ∈ (eqnOf x).rights, u ∈ ns) → (eqnOf x).left ∈ ns) ∧ ((eqnOf x).right ≠ [] → (∀ u ∈ (eqnOf x).lefts, u ∈ ns) → (eqnOf x).right ∈ ns) := by
  unfold isEqn at hq
  simp only [Bool.and_eq_true, beq_iff_eq] at hq
  have hk : ¬ x.kind = 1 := by omega
  have hk2 : ¬ x.kind = 2 := by omega
  have hl0 : tmVars x.l = [] := by rw [lit_bare hlit hk hk2]; rfl
  have hvars : ∀ v, v ∈ tmVars x.terms ↔ v ∈ tmVars x.left.terms ∨ v ∈ tmVars x.right.terms := fun v => by rw [mem_vars_lit, hl0]; simp
  constructor
  · intro hne hr
    apply Classical.byContradiction
    intro hn
    have hw : tmVars x.left.terms = [loneOf x.left] := lone_wf hne
    have ho : openOf ns x = [loneOf x.left] := open_one ((hvars _).2 (.inl (by rw [hw]; exact List.mem_singleton.2 rfl))) hn fun v hv hvn => by
      rcases (hvars v).1 hv with h | h
      · rw [hw] at h; exact List.mem_singleton.1 h
      · exact absurd (hr v h) hvn
    rw [step_set hk hk2 ho hq.2 (by rw [lone_is hne hn hr]; rfl)] at hno
    cases hno
  · intro hne hr
    apply Classical.byContradiction
    intro hn
    have hw : tmVars x.right.terms = [loneOf x.right] := lone_wf hne
    have ho : openOf ns x = [loneOf x.right] := open_one ((hvars _).2 (.inr (by rw [hw]; exact List.mem_singleton.2 rfl))) hn fun v hv hvn => by
      rcases (hvars v).1 hv with h | h
      · exact absurd (hr v h) hvn
      · rw [hw] at h; exact List.mem_singleton.1 h
    rw [step_set hk hk2 ho hq.2 (by rw [lone_is hne hn hr, Bool.or_true])] at hno
    cases hno
theorem may_limits {r : Rule} {ks : List Name} (hm : mayOf r ks = 0) : ∀ v ∈ tmVars r.terms, v ∈ limitsOf (r.body ++ ks.map knLit) := fun v hv => by
  have hok := mayOf_ok hm
  unfold mayOf at hm
  rw [if_pos hok] at hm
  unfold mayIn at hm
  split at hm
  · split at hm
    · rename_i ha
      simpa using List.all_eq_true.1 ha v hv
    · cases hm
  · cases hm
theorem lit_vars_rule {r : Rule} {x : Lit} (hx : x ∈ r.body) {v : Name} (hv : v ∈ tmVars x.terms) : v ∈ tmVars r.terms := by
  refine tmVars_sub (fun t ht => ?_) hv
  unfold Rule.terms
  exact List.mem_append_right _ (List.mem_flatMap.2 ⟨x, hx, ht⟩)
theorem At.next {r : Rule} {ks : List Name} {m : Nat} {ns : List Name} (h : At r ks m ns) (hm : mayOf r ks = 0) (hne : m ≠ 0) : ¬ nextL r.body ns m < 0 := by
  intro hneg
  obtain ⟨_, hlit⟩ := rule_body24 (mayOf_ok hm)
  have hleft : ∀ j ∈ bitsOf m, atomAt r.body j = false ∧ okAt r.body ns j = false := by
    rcases next_spec ns h.inn with ⟨_, h2⟩ | ⟨i, _, h2, _⟩
    · exact h2
    · rw [h2] at hneg; omega
  have hlim : ∀ v ∈ limitsOf (r.body ++ ks.map knLit), v ∈ ns := by
    obtain ⟨_, _, hmin, _⟩ := limits_spec (r.body ++ ks.map knLit)
    refine hmin (· ∈ ns) (fun q hq => ?_) (fun v hv => ?_)
    · obtain ⟨x, hx, he, rfl⟩ := mem_eqsOf.1 hq
      have hxb : x ∈ r.body := by
        rcases List.mem_append.1 hx with hx | hx
        · exact hx
        · obtain ⟨u, _, rfl⟩ := List.mem_map.1 hx
          cases he
      obtain ⟨j, hj, rfl⟩ := List.mem_iff_getElem.1 hxb
      by_cases hjm : j ∈ bitsOf m
      · have hno := (hleft j hjm).2
        rw [okAt_at (List.getElem?_eq_getElem hj)] at hno
        exact closed_at (hlit _ hxb) he hno
      · have hd := h.done j hj hjm
        refine ⟨fun hl _ => hd _ (mem_vars_lit.2 (.inr (.inl ?_))), fun hl _ => hd _ (mem_vars_lit.2 (.inr (.inr ?_)))⟩
        · show loneOf r.body[j].left ∈ _
          rw [lone_wf hl]; exact List.mem_singleton.2 rfl
        · show loneOf r.body[j].right ∈ _
          rw [lone_wf hl]; exact List.mem_singleton.2 rfl
    · rcases mem_atomsOn.1 hv with h0 | ⟨x, hx, hk, hvx⟩
      · cases h0
      · rcases List.mem_append.1 hx with hx | hx
        · obtain ⟨j, hj, rfl⟩ := List.mem_iff_getElem.1 hx
          by_cases hjm : j ∈ bitsOf m
          · have hat := (hleft j hjm).1
            rw [atomAt_at (List.getElem?_eq_getElem hj)] at hat
            simp [hk] at hat
          · exact h.done j hj hjm v (mem_vars_lit.2 (.inl hvx))
        · obtain ⟨u, hu, rfl⟩ := List.mem_map.1 hx
          have h2 := (mem_tmVarsL.1 hvx).2
          have : v = u := by simpa [knLit] using h2
          exact h.kn v (this ▸ hu)
  obtain ⟨i, hi⟩ := bits_none h.lt hne
  have hil := h.inn i hi
  have hno := (hleft i hi).2
  rw [okAt_at (List.getElem?_eq_getElem hil)] at hno
  have ho : openOf ns r.body[i] = [] := by
    refine List.eq_nil_iff_forall_not_mem.2 fun v hv => ?_
    obtain ⟨h1, h2⟩ := mem_open.1 hv
    exact h2 (hlim v (may_limits hm v (lit_vars_rule (List.getElem_mem hil) h1)))
  rw [step_open ho] at hno
  cases hno
def Tr (body : List Lit) (first : Int) : Nat → List Name → List Stp → Prop
  | m, _, [] => m = 0
  | m, ns, s :: l => ∃ j ∈ bitsOf m, pickL body first m ns = j ∧ okAt body ns j = true ∧ s = stepAt body ns j ∧ Tr body first (clr m j) (learnOn ns s.gives) l
theorem make_tr {r : Rule} {ks : List Name} {first : Int} (hm : mayOf r ks = 0) (hg : ¬ badFirst r first) : ∀ (f m : Nat) (ns : List Name), At r ks m ns → (bitsOf m).length ≤ f → ∃ l, makeOn r.body first f m ns = some l ∧ Tr r.body first m ns l := by
  intro f
  obtain ⟨_, hlit⟩ := rule_body24 (mayOf_ok hm)
  induction f with
  | zero =>
    intro m ns h hl
    have hm0 : m = 0 := by
      apply Classical.byContradiction
      intro hne
      obtain ⟨i, hi⟩ := bits_none h.lt hne
      have := List.length_pos_of_mem hi
      omega
    exact ⟨[], by rw [makeOn, if_pos hm0], hm0⟩
  | succ f ih =>
    intro m ns h hl
    by_cases hm0 : m = 0
    · exact ⟨[], by rw [makeOn, if_pos hm0], hm0⟩
    obtain ⟨j, hj, hp, ho⟩ : ∃ j ∈ bitsOf m, pickL r.body first m ns = j ∧ okAt r.body ns j = true := by
      unfold pickL
      by_cases hc : first < 0 ∨ m.testBit first.toNat = false
      · rw [if_pos hc]
        rcases next_spec ns h.inn with ⟨h1, _⟩ | ⟨i, hi, h2, h3⟩
        · exact absurd h1 (h.next hm hm0)
        · refine ⟨i, hi, h2, ?_⟩
          rcases h3 with ⟨h4, _⟩ | ⟨_, h4, _⟩
          · have hil := h.inn i hi
            rw [atomAt_at (List.getElem?_eq_getElem hil)] at h4
            rw [okAt_at (List.getElem?_eq_getElem hil)]
            exact ok_atom (by simpa using h4)
          · exact h4
      · rw [if_neg hc]
        have h1 : ¬ first < 0 := fun h => hc (.inl h)
        have h2 : m.testBit first.toNat = true := by
          cases hb : m.testBit first.toNat with
          | true => rfl
          | false => exact absurd (.inr hb) hc
        have h3 : first < r.body.length := by
          apply Classical.byContradiction
          intro hn
          exact hg (.inr (.inl (by omega)))
        have hfl : first.toNat < r.body.length := by omega
        have hb : first.toNat ∈ bitsOf m := by
          refine List.mem_filter.2 ⟨List.mem_range.2 ?_, h2⟩
          apply Classical.byContradiction
          intro hn
          have := Nat.testBit_lt_two_pow (i := first.toNat) (x := m) (Nat.lt_of_lt_of_le h.lt (Nat.pow_le_pow_right (by omega) (by omega)))
          rw [this] at h2
          cases h2
        refine ⟨first.toNat, hb, by omega, ?_⟩
        rw [okAt_at (List.getElem?_eq_getElem hfl)]
        refine ok_atom ?_
        apply Classical.byContradiction
        intro hk
        exact hg (.inr (.inr ⟨by omega, fun x hx => by rw [List.getElem?_eq_getElem hfl] at hx; cases hx; exact hk⟩))
    have hjl := h.inn j hj
    obtain ⟨l, hl1, hl2⟩ := ih _ _ (h.step hlit hj ho) (by have := clr_len hj; omega)
    refine ⟨stepAt r.body ns j :: l, ?_, j, hj, hp, ho, rfl, hl2⟩
    rw [makeOn, if_neg hm0, hp, if_neg (by omega), Int.toNat_natCast, List.getElem?_eq_getElem hjl]
    simp only
    rw [← stepAt_at (List.getElem?_eq_getElem hjl), hl1]
    rfl
theorem at_start {r : Rule} {ks : List Name} (hok : ruleOk r = true) : At r ks (2 ^ r.body.length - 1) (learnOn [] ks) := by
  obtain ⟨hb16, _⟩ := rule_body24 hok
  have hbit : ∀ j, j < 24 → (j ∈ bitsOf (2 ^ r.body.length - 1) ↔ j < r.body.length) := fun j hj => by
    unfold bitsOf
    rw [List.mem_filter, Nat.testBit_two_pow_sub_one]
    simp [hj]
  refine ⟨?_, fun i hi => (hbit i (bitsOf_mem hi).1).1 hi, fun v hv => (learnOn_mem _ _ _).2 (.inr hv), fun j hj hn => absurd ((hbit j (by omega)).2 hj) hn, fun v hv => ?_⟩
  · have := Nat.pow_le_pow_right (show 0 < 2 by omega) (show r.body.length ≤ 16 from hb16)
    have h2 : (2 : Nat) ^ 16 < 2 ^ 24 := by decide
    omega
  · rcases (learnOn_mem _ _ _).1 hv with h | h
    · cases h
    · exact .inl h
theorem make_some {r : Rule} {ks : List Name} {first : Int} (hm : mayOf r ks = 0) (hg : ¬ badFirst r first) :
    ∃ l, makeOn r.body first r.body.length (2 ^ r.body.length - 1) (learnOn [] ks) = some l ∧ Tr r.body first (2 ^ r.body.length - 1) (learnOn [] ks) l := by
  have h := at_start (ks := ks) (mayOf_ok hm)
  refine make_tr hm hg _ _ _ h ?_
  have hnd : (bitsOf (2 ^ r.body.length - 1)).Nodup := (bitsOf_sorted _).imp fun h => Nat.ne_of_lt h
  have := nodup_len hnd (m := List.range r.body.length) fun j hj => List.mem_range.2 (h.inn j hj)
  rwa [List.length_range] at this
end Go.Proofs.YtiomojlcnemnhaaDoor

/- Contracts, on: the law CheckLess. (Labels of 3000 and more: the plain seat.) -/
import Derived.Test.YtiomojlcnemnhaaLHxV7
import Derived.Test.YtiomojlcnemnhaaLHxM3
namespace Go.Proofs.Ytiomojlcnemnhaa
open Go.Fx Go.RowKit Go.Ped
variable {G : World → Prop}

theorem fewN_flat {α β : Type} {k : Int} {l : List α} (f : α → List β) : ∀ n : Nat, ((fewN k l n).flatMap f).length ≤ ((l.take n).flatMap f).length
  | 0 => by simp [fewN]
  | n + 1 => by
    have ih := fewN_flat (k := k) (l := l) f n
    rw [fewN, List.flatMap_append, List.length_append]
    by_cases hn : n < l.length
    · rw [List.take_succ_eq_append_getElem hn, List.flatMap_append, List.length_append, List.getElem?_eq_getElem hn]
      simp only
      split
      · omega
      · simp only [List.flatMap_nil, List.length_nil]; omega
    · rw [List.getElem?_eq_none (by omega), List.take_of_length_le (by omega : l.length ≤ n + 1)]
      rw [List.take_of_length_le (by omega : l.length ≤ n)] at ih
      simpa using ih
theorem few_flat {α β : Type} {k : Int} {l : List α} (f : α → List β) : ((few k l).flatMap f).length ≤ (l.flatMap f).length := by
  have := fewN_flat (k := k) (l := l) f l.length
  rwa [List.take_length] at this
theorem few_mem {α : Type} {k : Int} {l : List α} : ∀ x ∈ few k l, x ∈ l := fun _ h => fewN_mem h
theorem few_len {α : Type} {k : Int} {l : List α} : (few k l).length ≤ l.length := fewN_len _
theorem JobFit.few {rules : List Rule} {facts : List Fc} (h : JobFit rules facts) (k : Int) : JobFit (few k rules) (few k facts) := by
  have h1 := few_len (k := k) (l := rules)
  have h2 := few_len (k := k) (l := facts)
  have h3 := few_flat (k := k) (l := rules) standOf
  have h4 := h.rlen
  have h5 := h.flen
  have h6 := h.stand
  refine ⟨fun r hr => h.rfit r (few_mem r hr), by omega, fun f hf => h.ffit f (few_mem f hf), by omega, by omega, fun p hp => h.names p ?_⟩
  rcases List.mem_append.1 hp with hp | hp
  · obtain ⟨r, hr, hp⟩ := List.mem_flatMap.1 hp
    exact List.mem_append_left _ (List.mem_flatMap.2 ⟨r, few_mem r hr, hp⟩)
  · obtain ⟨f, hf, rfl⟩ := List.mem_map.1 hp
    exact List.mem_append_right _ (List.mem_map.2 ⟨f, few_mem f hf, rfl⟩)
theorem JobFit.more {rules : List Rule} {facts : List Fc} (h : JobFit rules facts) (h1 : rules.length ≤ 524288) (h2 : facts.length ≤ 524288) (h3 : (rules.flatMap standOf).length ≤ 2500000) (k : Int) : JobFit (Go.Proofs.Ytiomojlcnemnhaa.few k rules ++ rules) (Go.Proofs.Ytiomojlcnemnhaa.few k facts ++ facts) := by
  have a1 := few_len (k := k) (l := rules)
  have a2 := few_len (k := k) (l := facts)
  have a3 := few_flat (k := k) (l := rules) standOf
  refine ⟨fun r hr => h.rfit r ((List.mem_append.1 hr).elim (few_mem r) id), by rw [List.length_append]; omega, fun f hf => h.ffit f ((List.mem_append.1 hf).elim (few_mem f) id), by rw [List.length_append]; omega, by rw [List.flatMap_append, List.length_append]; omega, fun p hp => h.names p ?_⟩
  rcases List.mem_append.1 hp with hp | hp
  · obtain ⟨r, hr, hp⟩ := List.mem_flatMap.1 hp
    exact List.mem_append_left _ (List.mem_flatMap.2 ⟨r, (List.mem_append.1 hr).elim (few_mem r) id, hp⟩)
  · obtain ⟨f, hf, rfl⟩ := List.mem_map.1 hp
    exact List.mem_append_right _ (List.mem_map.2 ⟨f, (List.mem_append.1 hf).elim (few_mem f) id, rfl⟩)
theorem job_few {rules : List Rule} {facts : List Fc} : JobOk (few 0 rules) (few 0 facts) ↔ JobOk rules facts :=
  ⟨job_sub few0 few0, job_sub few_mem few_mem⟩
theorem job_more {rules : List Rule} {facts : List Fc} {k : Int} : JobOk (few k rules ++ rules) (few k facts ++ facts) ↔ JobOk rules facts :=
  ⟨job_sub (fun r hr => List.mem_append_right _ hr) fun f hf => List.mem_append_right _ hf, job_sub (fun r hr => (List.mem_append.1 hr).elim (few_mem r) id) fun f hf => (List.mem_append.1 hf).elim (few_mem f) id⟩

theorem v3035 (rules : List Rule) (sp : Sp) (facts : List Fc) (sq : Sp) (k : Int) (hk1 : -9223372036854775808 ≤ k) (hk2 : k ≤ 9223372036854775807) (hl : rules.length ≤ 1048576) (hfl : facts.length ≤ 1048576) :
    MeetsV Try.prog G (fnA 35) [.one (.c (.sl (rules.map Rule.row) sp)), .one (.c (.sl (facts.map Fc.row) sq)), .one (.c (cI .i64 k))] (hp [] [] F0)
      (.tup [.one (.own 302 ((few k rules).map Rule.row)), .one (.own 303 ((few k facts).map Fc.row))]) (hp [] [(303, ⟨201, 2, (few k facts).length⟩), (302, ⟨186, 3, (few k rules).length⟩)] F0) := by
  have h := ((MeetsV.of_fun (m3035 (G := G) rules sp facts sq k hk1 hk2 hl hfl)).ren (π := swR 300 302)).ren (π := swR 301 303)
  simp [swF] at h
  simpa using h

set_option maxHeartbeats 1000000 in
theorem m3008 (rules : List Rule) (sp : Sp) (facts : List Fc) (sq : Sp) (p : Name) (l : List Tm) (qs : Sp) (k : Int) (hk1 : -9223372036854775808 ≤ k) (hk2 : k ≤ 9223372036854775807) (hj : JobFit rules facts)
    (hr2 : rules.length ≤ 349525) (hf2 : facts.length ≤ 524288) (h3 : (rules.flatMap standOf).length ≤ 2500000) (hql : l.length ≤ 1048576) :
    Meets Try.prog GT 8 [.agg [.sl (rules.map Rule.row) sp, .sl (facts.map Fc.row) sq, cS (bs p), .sl (l.map Tm.row) qs, cI .i64 k]] (.x (.one (cB true))) := by
  have hs1 : ∀ r ∈ rules, r.small 1048576 := fun r hr => (hj.rfit r hr).1
  have h35 := m2035 (G := GT) rules sp facts sq hs1 hj.rlen hj.ffit hj.flen
  have hja := hj.few 0
  have hjc := hj.few k
  have hjm := hj.more (by omega) hf2 h3 0
  have c0 := m2058 (G := GT) rules sp facts sq hj
  have c1 := m2058 (G := GT) (few 0 rules) [] (few 0 facts) [] hja
  have c2 := m2058 (G := GT) (few k rules) [] (few k facts) [] hjc
  have c3 := m2058 (G := GT) (few 0 rules ++ rules) [] (few 0 facts ++ facts) [] hjm
  have j0 : jobE rules facts = 0 ↔ JobOk rules facts := job_ok _ _
  have j1 : jobE (few 0 rules) (few 0 facts) = 0 ↔ JobOk rules facts := (job_ok _ _).trans job_few
  have j2 : JobOk rules facts → jobE (few k rules) (few k facts) = 0 := fun h => (job_ok _ _).2 (job_sub few_mem few_mem h)
  have j3 : jobE (few 0 rules ++ rules) (few 0 facts ++ facts) = 0 ↔ JobOk rules facts := (job_ok _ _).trans job_more
  have i0 : ∀ x, inE rules facts p l = x → Meets Try.prog GT 36 [.agg [.sl (rules.map Rule.row) sp], .one (.sl (facts.map Fc.row) sq), .agg [cS (bs p), .sl (l.map Tm.row) qs]] (.x (.agg x)) := fun x hx => n2038 rules sp facts sq p l qs hj.rfit hj.rlen hj.ffit hj.flen hql hx
  have i1 : inE rules facts p l = refuse 0 0 0 → Meets Try.prog GT 36 [.agg [.sl ((few k rules).map Rule.row) []], .one (.sl ((few k facts).map Fc.row) []), .agg [cS (bs p), .sl (l.map Tm.row) qs]] (.x (.agg (refuse 0 0 0))) := fun hx => n2038 _ _ _ _ p l qs hjc.rfit hjc.rlen hjc.ffit hjc.flen hql (in_sub hx few_len few_mem few_len few_mem)
  have i2 : inE rules facts p l = refuse 0 0 0 → Meets Try.prog GT 36 [.agg [.sl ((few 0 rules).map Rule.row) []], .one (.sl ((few 0 facts).map Fc.row) []), .agg [cS (bs p), .sl (l.map Tm.row) qs]] (.x (.agg (refuse 0 0 0))) := fun hx => n2038 _ _ _ _ p l qs hja.rfit hja.rlen hja.ffit hja.flen hql (in_sub hx few_len few_mem few_len few_mem)
  have h44 : inE rules facts p l = refuse 0 0 0 → JobOk rules facts ∧ Meets Try.prog GT 37 [.agg [cS (bs p), .sl (l.map Tm.row) qs]] (.x (.one (cI .i64 0))) := fun hx => by
    obtain ⟨a, b⟩ := in_job hx
    refine ⟨a, ?_⟩
    have h := m44 (G := GT) p l qs (by unfold maxLen; omega)
    rwa [b, if_pos rfl] at h
  obtain ⟨x1, x2, x3, h3x⟩ : ∃ a b c, inE rules facts p l = [cI .i8 a, cI .i64 b, cI .i64 c] := in_three rules facts ⟨p, l, qs⟩
  have i0 := i0 _ h3x
  rw [h3x] at i1 i2 h44
  have v1 := m3035 (G := GT) rules sp facts sq 0 (by omega) (by omega) hj.rlen hj.flen
  have v2 := v3035 (G := GT) rules sp facts sq k hk1 hk2 hj.rlen hj.flen
  have l1 := few_len (k := 0) (l := rules)
  have l2 := few_len (k := 0) (l := facts)
  have l3 := few_len (k := k) (l := rules)
  have l4 := few_len (k := k) (l := facts)
  have hrl := hj.rlen
  have hfl := hj.flen
  rw [List.map_append, List.map_append] at c3
  simp only [jobE] at j0 j1 j2 j3
  generalize hA : few 0 rules = A' at *
  generalize hB : few 0 facts = B' at *
  generalize hC : few k rules = C' at *
  generalize hD : few k facts = D' at *
  clear hja hjc hjm hs1
  generalize jobErr rules facts (refMeets ltN [] (allPd rules facts)) = J0 at *
  generalize jobErr A' B' (refMeets ltN [] (allPd A' B')) = J1 at *
  generalize jobErr C' D' (refMeets ltN [] (allPd C' D')) = J2 at *
  generalize jobErr (A' ++ rules) (B' ++ facts) (refMeets ltN [] (allPd (A' ++ rules) (B' ++ facts))) = J3 at *
  have hwR : ∀ e ∈ rules.map Rule.row, e.length = 3 := fun e he => by obtain ⟨x, _, rfl⟩ := List.mem_map.1 he; rfl
  have hwF : ∀ e ∈ facts.map Fc.row, e.length = 2 := fun e he => by obtain ⟨x, _, rfl⟩ := List.mem_map.1 he; rfl
  refine meets Try.func8 ie3008 ig3008 (Nat.le_of_ble_eq_true rfl) ?_
  simp [ic3008, ir3008, freeze_st, fzL, freezeO, maxLen, closeL, A.close]
  refine call_of h35 ?_
  simp
  refine condI_of (fun h => ?_) (fun h => ?_)
  · simp
  simp
  refine call_of m2062 ?_
  simp
  refine call_of c0 ?_
  by_cases hg : JobOk rules facts
  · obtain rfl : J0 = 0 := j0.2 hg
    obtain rfl : J1 = 0 := j1.2 hg
    obtain rfl : J2 = 0 := j2 hg
    obtain rfl : J3 = 0 := j3.2 hg
    simp
    refine r_callW _ _ [] [] _ [] _ (MeetsV.of_fun v1) rfl rfl rfl (by simp [X.fits, A.fits]) (by simp) ?_
    simp
    refine r_callW _ _ [] [] _ [] _ v2 rfl rfl rfl (by simp [X.fits, A.fits]) (by simp) ?_
    simp
    refine call_of c1 ?_
    simp
    refine k_appG (k := 300) (q := ⟨186, 3, A'.length⟩) rfl rfl rfl rfl hwR (by simp) rfl rfl (by simp) (by simp [maxLen]; omega) (by simp [maxBytes]; omega) trivial ?_
    simp
    refine k_appG (k := 301) (q := ⟨201, 2, B'.length⟩) rfl rfl rfl rfl hwF (by simp) rfl rfl (by simp) (by simp [maxLen]; omega) (by simp [maxBytes]; omega) trivial ?_
    simp
    refine call_of c3 ?_
    simp
    refine call_of c2 ?_
    simp
    refine call_of i0 ?_
    by_cases hx : x1 = 0 ∧ x2 = 0 ∧ x3 = 0
    · obtain ⟨rfl, rfl, rfl⟩ := hx
      simp
      refine call_of (i1 rfl) ?_
      simp [refuse]
      refine call_of (i2 rfl) ?_
      simp [refuse]
      refine call_of (h44 rfl).2 ?_
      simp
    · have hx' : x1 = 0 → x2 = 0 → ¬ x3 = 0 := fun a b c => hx ⟨a, b, c⟩
      simp
      refine condI_of (fun _ => by simp) (fun h => ?_)
      simp at h
      exact absurd h.2.2 (hx' h.1 h.2.1)
  · have k0 : J0 ≠ 0 := fun e => hg (j0.1 e)
    have k1 : J1 ≠ 0 := fun e => hg (j1.1 e)
    have k3 : J3 ≠ 0 := fun e => hg (j3.1 e)
    simp [k0]
    refine r_callW _ _ [] [] _ [] _ (MeetsV.of_fun v1) rfl rfl rfl (by simp [X.fits, A.fits]) (by simp) ?_
    simp [k0]
    refine r_callW _ _ [] [] _ [] _ v2 rfl rfl rfl (by simp [X.fits, A.fits]) (by simp) ?_
    simp [k0]
    refine call_of c1 ?_
    simp [k0, k1]
    refine k_appG (k := 300) (q := ⟨186, 3, A'.length⟩) rfl rfl rfl rfl hwR (by simp) rfl rfl (by simp) (by simp [maxLen]; omega) (by simp [maxBytes]; omega) trivial ?_
    simp
    refine k_appG (k := 301) (q := ⟨201, 2, B'.length⟩) rfl rfl rfl rfl hwF (by simp) rfl rfl (by simp) (by simp [maxLen]; omega) (by simp [maxBytes]; omega) trivial ?_
    simp
    refine call_of c3 ?_
    simp [k3]
    refine call_no (.x (.one (cI .i64 0))) ?_
    simp
    refine call_of i0 ?_
    have hx' : x1 = 0 → x2 = 0 → ¬ x3 = 0 := fun a b c => by subst a b c; exact hg (h44 rfl).1
    simp
    refine condI_of (fun _ => by simp) (fun h => ?_)
    simp at h
    exact absurd h.2.2 (hx' h.1 h.2.1)
end Go.Proofs.Ytiomojlcnemnhaa

import Derived.Test.YtiomojlcnemnhaaLHxQl
import Derived.Test.YtiomojlcnemnhaaLHxIcY
/- slices.Sorted of maps.Keys: the map's names, in order. (Seat ZD alone; not reseated.) -/
namespace Go.Proofs.Ytiomojlcnemnhaa
open Go.Fx Go.RowKit Go.Ped
variable {G : World → Prop}

def R1 : Value → Option (DataW Unit × List MemPlace) := fun _ => some (.nil, [])

theorem rd_str {e : MapEntry} {x : Name} (hx : e.key = .string (bs x)) (hl : x.length ≤ maxLen) : Go.WideElems.rd Try.prog 9 R1 e = some (.string x, .nil) := by
  unfold Go.WideElems.rd R1
  rw [hx, Go.WideMaps.keyOf_string_mk Try.underlying9 (by simpa [bs, ByteArray.size] using hl)]
  simp [bs]
theorem sorted_keys (es : List MapEntry) (names : List Name) (hk : es.map (fun e => e.key) = names.map fun x => Value.string (bs x)) (hl : ∀ x ∈ names, x.length ≤ maxLen) :
    (strKeys (.map ((es.map (Go.WideElems.rg Try.prog 9 R1)).foldr DataW.insert []))).Perm names := by
  have h1 := (Go.WideShapes.sorted_perm (es.map (Go.WideElems.rg Try.prog 9 R1))).map fun p => strOf p.1
  have h2 : ((es.map (Go.WideElems.rg Try.prog 9 R1)).map fun p => strOf p.1) = names := by
    clear h1
    induction es generalizing names with
    | nil => cases names with
      | nil => rfl
      | cons x l => cases hk
    | cons e es ih => cases names with
      | nil => cases hk
      | cons x l =>
        simp only [List.map_cons, List.cons.injEq] at hk ⊢
        refine ⟨?_, ih l hk.2 fun y hy => hl y (List.mem_cons_of_mem _ hy)⟩
        unfold Go.WideElems.rg
        rw [rd_str hk.1 (hl x (List.mem_cons_self ..))]
        rfl
  rw [h2] at h1
  exact h1

abbrev OK2 (m : List Pd) : List (Nat × Box) := [(1, ⟨203, 1, [[.mapr 10]], none⟩), (10, ⟨0, 2, m.map pdRow, some (.string, true)⟩)]

theorem rows_names {env : Env} {toks : Nat → Option Tok} {w : World} : ∀ {m : List Pd} {es : List MapEntry}, All2 (RowIs env toks w) (m.map pdRow) es → es.map (fun e => e.key) = (m.map Pd.name).map fun x => Value.string (bs x)
  | [], es, h => by have := h.nil_left; subst this; rfl
  | p :: m, es, h => by
    obtain ⟨e, es', rfl, ⟨t, h1, _, _⟩, h2⟩ := h.head
    simp only [pdRow, List.cons.injEq, A.c.injEq, C.v.injEq] at h1
    simp only [List.map_cons, rows_names h2, ← h1.1]

theorem m2134 (m : List Pd) (hz : m.length ≤ 8000000) (hl : ∀ p ∈ m, p.name.length ≤ maxLen) :
    MeetsH Try.prog G 90 [.one (.clo 124 [] [.ref 1 0 0])] (hp (OK2 m) [] F0) (.x (.one (.c (.sl ((sortN (m.map Pd.name)).map nmRow) [])))) (hp (OK2 m) [] F0) := by
  refine MeetsH.of_below (res := .x (.one (.sl ((sortN (m.map Pd.name)).map nmRow) []))) (by kernel_rfl) (by simp) ?_ ?_
  · intro k b hb r hr
    rw [hp_objs0] at hb
    have := lookO_mem hb
    simp only [List.mem_cons, List.not_mem_nil, or_false, Prod.mk.injEq] at this
    rcases this with ⟨rfl, rfl⟩ | ⟨rfl, rfl⟩
    · simp only [List.mem_singleton] at hr; subst hr; simp
    · obtain ⟨q, _, rfl⟩ := List.mem_map.1 hr; simp [pdRow]
  intro w env F vs hmem ha
  obtain ⟨v, vs', rfl, hv, ha'⟩ := ha.head
  obtain rfl := ha'.nil_left
  obtain ⟨us, cs, rfl, hus, hcs⟩ := hv
  cases us with
  | cons _ _ => exact hus.elim
  | nil =>
  cases cs with
  | nil => exact hcs.elim
  | cons c cs =>
  obtain ⟨⟨b1, s1, hρ1, rfl⟩, hcs⟩ := hcs
  cases cs with
  | cons _ _ => exact hcs.elim
  | nil =>
  obtain ⟨b1', us1, e1, ⟨ob1, g1, g1'⟩, e2, e3, _⟩ := hmem.objs 1 ⟨203, 1, [[.mapr 10]], none⟩ (by rw [hp_objs0]; simp)
  rw [hρ1] at e1
  injection e1 with e1
  injection e1 with e1 e1'
  subst e1
  obtain ⟨ex, rfl⟩ := g1'
  obtain ⟨u1, us1', rfl, ⟨b2, s2, hρ2, rfl⟩, e2'⟩ := e2.head
  obtain rfl := All2.nil_left e2'
  obtain ⟨b2', us2, f1, ⟨ob2, g2, g2'⟩, f2, f3, _⟩ := hmem.objs 10 ⟨0, 2, m.map pdRow, some (.string, true)⟩ (by rw [hp_objs0]; simp)
  rw [hρ2] at f1
  injection f1 with f1
  injection f1 with f1 f1'
  subst f1
  obtain ⟨⟨es, clock, rfl, rfl, hsz, hst, hes⟩, hrows⟩ := g2'
  have hal := aligned (by simpa using hsz.symm) f3 (fun e he => (hes e he).2.1) hrows f2
  have hk := rows_names hal
  have hlen : es.size = m.length := by simpa using hsz
  have hkl : ∀ x ∈ m.map Pd.name, x.length ≤ maxLen := fun x hx => by obtain ⟨p, hp, rfl⟩ := List.mem_map.1 hx; exact hl p hp
  have hperm := sorted_keys es.toList (m.map Pd.name) hk hkl
  have hown : w.ownsMap Try.prog 9 R1 b2 es.size (.map ((es.toList.map (Go.WideElems.rg Try.prog 9 R1)).foldr DataW.insert [])) := by
    refine ⟨es, clock, g2, ⟨by rw [hlen]; unfold maxLen; omega, hst, fun e he => ?_⟩, Nat.le_refl _, rfl⟩
    have : e.key ∈ es.toList.map (fun e => e.key) := List.mem_map_of_mem he
    rw [hk] at this
    obtain ⟨x, hx, hx2⟩ := List.mem_map.1 this
    exact ⟨_, rd_str hx2.symm (hkl x hx)⟩
  have hsize : Maps.size (DataW.map ((es.toList.map (Go.WideElems.rg Try.prog 9 R1)).foldr DataW.insert [])) = m.length := by
    rw [Maps.size_eq, (Go.WideShapes.sorted_perm _).length_eq, List.length_map, Array.length_toList, hlen]
  have hcell : w.cell? ⟨b1, 0, none⟩ = some (.map (some b2)) := by
    simp [World.cell?, g1]
  have hb1 : b1 < w.heap.size := (Array.getElem?_eq_some_iff.1 g1).1
  have hseq := AnyZ.keys_gives (ρ := Try.keys91_ren) { Try.keys91 with } Fence.wide 2 trivial rfl (by omega) b1 b2 es.size _ w hb1 hcell hown
  have hcall := AnyZ.sorted_in Try.sorted90 Fence.wide 5 trivial trivial trivial trivial rfl (by omega) (Try.sorts90 _) (enters_of Try.func123 (by kernel_rfl) rfl) 124 #[.pointer (some ⟨b1, 0, none⟩)] trivial (enters_of Try.func124 (by kernel_rfl) rfl) _ _ (by rw [hsize]; unfold maxLen; omega) (by rw [hsize]; omega) w hseq
  have hc2 := callsIn_wide.1 hcall
  simp only [Nat.zero_mul, Nat.zero_add]
  refine hc2.mono ?_
  rintro e w' ⟨v, ss, rfl, hS, hrow, _, hb⟩
  refine ⟨v, rfl, ?_, hb⟩
  have hsp := hS.trans hperm
  have hms : ss.mergeSort (fun x y => decide (x ≤ y)) = sortN (m.map Pd.name) := mergeSort_of_perm hsp
  rw [hms] at hrow
  have hle : ss.length = ((sortN (m.map Pd.name)).map encStr).length := by
    rw [List.length_map, ← hms, List.length_mergeSort]
  rw [hle] at hrow
  have h := repC_row (V := fun b o => env.V b o ∨ w.heap.size ≤ b) hrow (fun b o hb => .inr hb) (fun x hx => by obtain ⟨y, _, rfl⟩ := List.mem_map.1 hx; rfl)
  rw [List.map_map] at h
  exact h
end Go.Proofs.Ytiomojlcnemnhaa

/- Contracts, on: a program's predicates, the document's. (Labels of 2000 and more: seat ZD.) -/
namespace Go.Proofs.Ytiomojlcnemnhaa
open Go.Fx Go.RowKit Go.Ped
variable {G : World → Prop}

def predsR : Option (List Pd) → CR
  | some l => .tup [.one (.sl (l.map pdC) []), .one (cI .i64 0)]
  | none => .tup [.one (.sl [] []), .one (cI .i64 72)]
end Go.Proofs.Ytiomojlcnemnhaa

/- Contracts, on: a program's predicates, the program's. (Labels of 2000 and more: seat ZD.) -/
namespace Go.Proofs.Ytiomojlcnemnhaa
open Go.Fx Go.RowKit Go.Ped
variable {G : World → Prop}

abbrev O15n (m : List Pd) : List (Nat × Box) := [(15010, ⟨0, 2, m.map pdRow, some (.string, true)⟩)]
theorem hO15n (m : List Pd) : ∀ p ∈ O15n m, farKey p.1 ∧ ∀ r ∈ p.2.rows, onlyL farKey (fun k => lookT ([] : List (Nat × Tok)) k ≠ none) r := by
  intro p hp
  simp only [List.mem_singleton] at hp
  subst hp
  refine ⟨by unfold farKey; omega, fun r hr => ?_⟩
  obtain ⟨q, _, rfl⟩ := List.mem_map.1 hr
  simp [pdRow]
def Hn (m : List Pd) : FHp := FHp.of (O15n m) [] (hO15n m) (by simp)
theorem Hn_same (a b : List Pd) : sameKeys (Hn a) (Hn b) := by
  refine ⟨fun k => ⟨?_, ?_⟩, rfl⟩
  · show lookO (O15n a) k = none ↔ lookO (O15n b) k = none
    simp only [lookO_cons]
    split <;> simp
  · show lookT [] k = none ↔ lookT [] k = none
    rfl
def stepA (m : List Pd) (r : Rule) : Bool × List Pd := (okAll m (standOf r), metAll m (standOf r))
def stepB (m : List Pd) (f : Fc) : Bool × List Pd := (metOk m f.pd, metOf m f.pd)

theorem v2113 (m : List Pd) (r : Rule) (hs : r.small 1048576) : MeetsV Try.prog G (.clo 75 [.mapr 15010] []) [.agg (r.row.map A.c)] (hp [] [] (Hn m)) (rB (stepA m r).1) (hp [] [] (Hn (stepA m r).2)) := by
  have h := ((clo_of (f := 75) (fs := [.mapr 10040]) (args := [.agg (r.row.map A.c)]) (cs := []) rfl (m2113 (G := G) m r hs)).ren (π := swR 10040 10010)).ren (π := midFar)
  simp [swF, mfF, rows_ren] at h
  unfold Hn
  rw [hp_of, hp_of]
  exact h
theorem v2118 (m : List Pd) (f : Fc) : MeetsV Try.prog G (.clo 79 [.mapr 15010] []) [.agg (f.row.map A.c)] (hp [] [] (Hn m)) (rB (stepB m f).1) (hp [] [] (Hn (stepB m f).2)) := by
  have h := ((clo_of (f := 79) (fs := [.mapr 10040]) (args := [.agg (f.row.map A.c)]) (cs := []) rfl (m2118 (G := G) m f.p f.l f.sp)).ren (π := swR 10040 10010)).ren (π := midFar)
  simp [swF, mfF, rows_ren] at h
  unfold Hn
  rw [hp_of, hp_of]
  exact h
set_option maxRecDepth 20000 in
theorem n2132 (l : List Rule) (sp : Sp) (hl : l.length ≤ 1048576) (hf : ∀ r ∈ l, r.small 1048576) (m : List Pd) :
    MeetsV Try.prog G (fnA 88) [.one (.c (.sl (l.map Rule.row) sp)), .one (.clo 75 [.mapr 10] [])] (hp (OM 10 m) [] F0) (rB (allE stepA m l).1) (hp (OM 10 (allE stepA m l).2) [] F0) := by
  have h := (MeetsV.of_fun (m2132 (G := G) stepA Hn Hn_same (.clo 75 [.mapr 15010] []) ⟨by simp [farKey], trivial⟩ (fun k hk => by simp; omega) l sp hl (fun m r hr => v2113 m r (hf r hr)) m)).ren (π := nearFar)
  unfold Hn at h
  rw [hp_of, hp_of] at h
  simp [nfF, rows_ren] at h
  exact h
set_option maxRecDepth 20000 in
theorem n2133 (l : List Fc) (sp : Sp) (hl : l.length ≤ 1048576) (m : List Pd) :
    MeetsV Try.prog G (fnA 89) [.one (.c (.sl (l.map Fc.row) sp)), .one (.clo 79 [.mapr 10] [])] (hp (OM 10 m) [] F0) (rB (allE stepB m l).1) (hp (OM 10 (allE stepB m l).2) [] F0) := by
  have h := (MeetsV.of_fun (m2133 (G := G) stepB Hn Hn_same (.clo 79 [.mapr 15010] []) ⟨by simp [farKey], trivial⟩ (fun k hk => by simp; omega) l sp hl (fun m f _ => v2118 m f) m)).ren (π := nearFar)
  unfold Hn at h
  rw [hp_of, hp_of] at h
  simp [nfF, rows_ren] at h
  exact h

theorem allR_go : ∀ (l : List Rule) (m : List Pd), goMeets m (l.flatMap standOf) = if (allE stepA m l).1 = true then some (allE stepA m l).2 else none
  | [], m => rfl
  | r :: l, m => by
    rw [List.flatMap_cons, goMeets_append, goMeets_eq, allE]
    by_cases h : okAll m (standOf r) = true
    · simp only [stepA, h, if_true, Option.bind_some]
      exact allR_go l _
    · simp [stepA, h]
theorem allF_go : ∀ (l : List Fc) (m : List Pd), goMeets m (l.map Fc.pd) = if (allE stepB m l).1 = true then some (allE stepB m l).2 else none
  | [], m => rfl
  | f :: l, m => by
    rw [List.map_cons, goMeets, goMeet_eq, allE]
    by_cases h : metOk m f.pd = true
    · simp only [stepB, h, if_true]
      exact allF_go l _
    · simp [stepB, h]

theorem k2135 (m : List Pd) : MeetsH Try.prog G 91 [.one (.mapr 10040)] (hp (OM 10040 m) [] F0) (.x (.one (.clo 124 [] [.ref 1 0 0]))) (hp ((1, ⟨203, 1, [[.mapr 10040]], none⟩) :: OM 10040 m) [] F0) := by
  refine meetsH [] Try.func91 ie2135 ig2135 (Nat.le_of_ble_eq_true rfl) (midM m) (by simp) (by simp [ownKey]) (by simp) (by simp) (sameKeys_refl F0) ?_ (by simp) ?_
  · intro p hp r hr
    rcases List.mem_cons.1 hp with rfl | hp
    · simp only [List.mem_singleton] at hr
      subst hr
      simp [ownKey]
    · exact midM2 m p hp r hr
  simp [ic2135, ir2135]
  exact ret_st (by simp) (by simp) (by simp) (by simp) (by simp) (by simp)
theorem n2135 (m : List Pd) : MeetsV Try.prog G (fnA 91) [.one (.mapr 10)] (hp (OM 10 m) [] F0) (.x (.one (.clo 124 [] [.ref 1 0 0]))) (hp ((1, ⟨203, 1, [[.mapr 10]], none⟩) :: OM 10 m) [] F0) := by
  have h := (MeetsV.of_fun (k2135 (G := G) m)).ren (π := swR 10040 10)
  simp [swF, rows_ren] at h
  exact h
theorem goR_eq (rules : List Rule) (facts : List Fc) : goMeets [] (rules.flatMap standOf ++ facts.map Fc.pd) =
    if (allE stepA [] rules).1 = true then (if (allE stepB (allE stepA [] rules).2 facts).1 = true then some (allE stepB (allE stepA [] rules).2 facts).2 else none) else none := by
  rw [goMeets_append, allR_go]
  by_cases h : (allE stepA [] rules).1 = true
  · rw [if_pos h, if_pos h, Option.bind_some, allF_go]
  · rw [if_neg h, if_neg h, Option.bind_none]

theorem m2043 (rules : List Rule) (sp : Sp) (facts : List Fc) (sq : Sp) (hs : ∀ r ∈ rules, r.small 1048576) (hl : rules.length ≤ 1048576) (hfl : facts.length ≤ 1048576) (hn : (rules.flatMap standOf).length ≤ 5000000) (hnm : ∀ p ∈ rules.flatMap standOf ++ facts.map Fc.pd, p.name.length ≤ maxLen) :
    Meets Try.prog G 39 [.agg [.sl (rules.map Rule.row) sp], .one (.sl (facts.map Fc.row) sq)] (predsR ((goMeets [] (rules.flatMap standOf ++ facts.map Fc.pd)).map predsOf)) := by
  have hgo := goR_eq rules facts
  have h1 := n2132 (G := G) rules sp hl hs []
  generalize hA : allE stepA [] rules = A' at *
  obtain ⟨ok1, m1⟩ := A'
  have h2 := n2133 (G := G) facts sq hfl m1
  generalize hB : allE stepB m1 facts = B' at *
  obtain ⟨ok2, m2⟩ := B'
  simp only at hgo h1 h2
  refine meets Try.func39 ie2043 ig2043 (Nat.le_of_ble_eq_true rfl) ?_
  simp [ic2043, ir2043]
  refine r_callW _ _ (OM 10 []) [] _ (OM 10 m1) [] h1 rfl rfl rfl (by simp [X.fits, A.fits]) (by simp) ?_
  simp
  cases ok1 with
  | false =>
    simp only [Bool.false_eq_true, if_false] at hgo
    rw [hgo]
    simp
    refine r_callVF (rB false) rfl ?_
    simp [predsR]
  | true =>
    simp only [if_true] at hgo
    simp
    refine r_callW _ _ (OM 10 m1) [] _ (OM 10 m2) [] h2 rfl rfl rfl (by simp [X.fits, A.fits]) (by simp) ?_
    simp
    cases ok2 with
    | false =>
      simp only [Bool.false_eq_true, if_false] at hgo
      rw [hgo]
      simp [predsR]
    | true =>
      simp only [if_true] at hgo
      have hm2 : m2.length ≤ 8000000 := by
        have := goMeets_len hgo
        simp at this
        have h3 : (rules.flatMap standOf).length = (rules.map fun a => (standOf a).length).sum := List.length_flatMap ..
        omega
      have hnm2 : ∀ p ∈ m2, p.name.length ≤ maxLen := fun p hp => by
        rcases goMeets_mem hgo p hp with h | h
        · cases h
        · exact hnm p h
      rw [hgo]
      simp
      refine r_callW _ _ (OM 10 m2) [] _ ((1, ⟨203, 1, [[.mapr 10]], none⟩) :: OM 10 m2) [] (n2135 m2) rfl rfl rfl (by simp [X.fits, A.fits]) (by simp) ?_
      simp
      refine r_callW _ _ (OK2 m2) [] _ (OK2 m2) [] (MeetsV.of_fun (m2134 m2 hm2 hnm2)) rfl rfl rfl (by simp [X.fits, A.fits]) (by simp) ?_
      simp
      have hNl : (sortN (m2.map Pd.name)).length ≤ 8000000 := by rw [sortN_len, List.length_map]; exact hm2
      have hpr : predsOf m2 = (sortN (m2.map Pd.name)).map fun v => (⟨v, (lookP m2 v).getD 0⟩ : Pd) := rfl
      generalize hP : predsOf m2 = PP at *
      generalize sortN (m2.map Pd.name) = N at *
      refine w_loopA [.t 300 7 153 2] [38] [6, 7, 26, 27, 28] (by simp [ownKey])
        (fun a : Nat × List Pd => st [(6, .k true (.x (.one (.mapr 10)))), (7, .k true (.x (.one (.own 300 (a.2.map pdC))))), (26, .k true (.x (.one (.c (.sl (N.map nmRow) []))))), (27, tI .i64 N.length), (28, tI .i64 a.1)]
          [(10, ⟨0, 2, m2.map pdRow, some (.string, true)⟩), (2, ⟨145, 1, [[.c (.sl (rules.map Rule.row) sp)]], none⟩), (1, ⟨203, 1, [[.mapr 10]], none⟩)] [(300, ⟨153, 2, a.2.length⟩)] F0) (fun a => N.length - a.1)
        (fun a => a.1 ≤ N.length ∧ PP = a.2 ++ (N.drop a.1).map (fun v => (⟨v, (lookP m2 v).getD 0⟩ : Pd)) ∧ a.2.length ≤ a.1) (0, []) (by simp [promoteT_st, pdRow_strike']) (by simp [hpr]) ?_
      rintro ⟨i, E⟩ K hK ⟨hi, hd, hE⟩
      simp only at hi hd hE
      obtain hlt | hge := Nat.lt_or_ge i N.length
      · rw [List.drop_eq_getElem_cons hlt, List.map_cons] at hd
        have hg := get_pd N[i] m2
        simp [ic2043l0, hlt, pdRow_strike', hg]
        refine ⟨by unfold maxLen; omega, by unfold maxBytes; omega, ?_⟩
        simp (disch := omega) only [wrap64]
        exact hK (i + 1, E ++ [⟨N[i], (lookP m2 N[i]).getD 0⟩]) _ (by simp [pdC, pdRow_strike']) ⟨by simp; omega, by simpa using hd, by simp; omega⟩ (by simp; omega)
      · rw [List.drop_eq_nil_of_le hge] at hd
        have hd' : PP = E := by simpa using hd
        subst hd'
        simp [ic2043l0, Nat.not_lt.mpr hge, predsR]
end Go.Proofs.Ytiomojlcnemnhaa

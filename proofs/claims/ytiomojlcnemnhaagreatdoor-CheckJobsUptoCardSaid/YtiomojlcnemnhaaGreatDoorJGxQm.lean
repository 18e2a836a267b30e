import Derived.Test.YtiomojlcnemnhaaGreatDoorJGxQl
import Derived.Test.YtiomojlcnemnhaaGreatDoorJGxQh
import Derived.Test.YtiomojlcnemnhaaGreatDoorJGxIcX
/- slices.Sorted of maps.Keys: the map's names, in order. (Seat ZD alone; not reseated.) -/
namespace Go.Proofs.YtiomojlcnemnhaaGreatDoor
open Go.Fx Go.RowKit Go.Ped
variable {G : World → Prop}

def R1 : Value → Option (DataW Unit × List MemPlace) := fun _ => some (.nil, [])

theorem rd_str {e : MapEntry} {x : Name} (hx : e.key = .string (bs x)) (hl : x.length ≤ maxLen) : Go.WideElems.rd Tryz.prog 9 R1 e = some (.string x, .nil) := by
  unfold Go.WideElems.rd R1
  rw [hx, Go.WideMaps.keyOf_string_mk Tryz.underlying9 (by simpa [bs, ByteArray.size] using hl)]
  simp [bs]
theorem sorted_keys (es : List MapEntry) (names : List Name) (hk : es.map (fun e => e.key) = names.map fun x => Value.string (bs x)) (hl : ∀ x ∈ names, x.length ≤ maxLen) :
    (strKeys (.map ((es.map (Go.WideElems.rg Tryz.prog 9 R1)).foldr DataW.insert []))).Perm names := by
  have h1 := (Go.WideShapes.sorted_perm (es.map (Go.WideElems.rg Tryz.prog 9 R1))).map fun p => strOf p.1
  have h2 : ((es.map (Go.WideElems.rg Tryz.prog 9 R1)).map fun p => strOf p.1) = names := by
    clear h1
    induction es generalizing names with
    | nil => cases names with
      | nil => rfl
      | cons x l => cases hk
    | cons e es ih => cases names with
      | nil => cases hk
      | cons x l =>
        simp only [List.map_cons, List.cons.injEq] at hk ⊢
        refine ⟨?_, ih l hk.2 fun y hy => hl y (List.mem_cons_of_mem _ hy)⟩
        unfold Go.WideElems.rg
        rw [rd_str hk.1 (hl x (List.mem_cons_self ..))]
        rfl
  rw [h2] at h1
  exact h1

abbrev OK2 (m : List Pd) : List (Nat × Box) := [(1, ⟨151, 1, [[.mapr 10]], none⟩), (10, ⟨0, 2, m.map pdRow, some (.string, true)⟩)]

theorem rows_names {env : Env} {toks : Nat → Option Tok} {w : World} : ∀ {m : List Pd} {es : List MapEntry}, All2 (RowIs env toks w) (m.map pdRow) es → es.map (fun e => e.key) = (m.map Pd.name).map fun x => Value.string (bs x)
  | [], es, h => by have := h.nil_left; subst this; rfl
  | p :: m, es, h => by
    obtain ⟨e, es', rfl, ⟨t, h1, _, _⟩, h2⟩ := h.head
    simp only [pdRow, List.cons.injEq, A.c.injEq, C.v.injEq] at h1
    simp only [List.map_cons, rows_names h2, ← h1.1]

theorem m2134 (m : List Pd) (hz : m.length ≤ 8000000) (hl : ∀ p ∈ m, p.name.length ≤ maxLen) :
    MeetsH Tryz.prog G 134 [.one (.clo 219 [] [.ref 1 0 0])] (hp (OK2 m) [] F0) (.x (.one (.c (.sl ((sortN (m.map Pd.name)).map nmRow) [])))) (hp (OK2 m) [] F0) := by
  refine MeetsH.of_below (res := .x (.one (.sl ((sortN (m.map Pd.name)).map nmRow) []))) (by kernel_rfl) (by simp) ?_ ?_
  · intro k b hb r hr
    rw [hp_objs0] at hb
    have := lookO_mem hb
    simp only [List.mem_cons, List.not_mem_nil, or_false, Prod.mk.injEq] at this
    rcases this with ⟨rfl, rfl⟩ | ⟨rfl, rfl⟩
    · simp only [List.mem_singleton] at hr; subst hr; simp
    · obtain ⟨q, _, rfl⟩ := List.mem_map.1 hr; simp [pdRow]
  intro w env F vs hmem ha
  obtain ⟨v, vs', rfl, hv, ha'⟩ := ha.head
  obtain rfl := ha'.nil_left
  obtain ⟨us, cs, rfl, hus, hcs⟩ := hv
  cases us with
  | cons _ _ => exact hus.elim
  | nil =>
  cases cs with
  | nil => exact hcs.elim
  | cons c cs =>
  obtain ⟨⟨b1, s1, hρ1, rfl⟩, hcs⟩ := hcs
  cases cs with
  | cons _ _ => exact hcs.elim
  | nil =>
  obtain ⟨b1', us1, e1, ⟨ob1, g1, g1'⟩, e2, e3, _⟩ := hmem.objs 1 ⟨151, 1, [[.mapr 10]], none⟩ (by rw [hp_objs0]; simp)
  rw [hρ1] at e1
  injection e1 with e1
  injection e1 with e1 e1'
  subst e1
  obtain ⟨ex, rfl⟩ := g1'
  obtain ⟨u1, us1', rfl, ⟨b2, s2, hρ2, rfl⟩, e2'⟩ := e2.head
  obtain rfl := All2.nil_left e2'
  obtain ⟨b2', us2, f1, ⟨ob2, g2, g2'⟩, f2, f3, _⟩ := hmem.objs 10 ⟨0, 2, m.map pdRow, some (.string, true)⟩ (by rw [hp_objs0]; simp)
  rw [hρ2] at f1
  injection f1 with f1
  injection f1 with f1 f1'
  subst f1
  obtain ⟨⟨es, clock, rfl, rfl, hsz, hst, hes⟩, hrows⟩ := g2'
  have hal := aligned (by simpa using hsz.symm) f3 (fun e he => (hes e he).2.1) hrows f2
  have hk := rows_names hal
  have hlen : es.size = m.length := by simpa using hsz
  have hkl : ∀ x ∈ m.map Pd.name, x.length ≤ maxLen := fun x hx => by obtain ⟨p, hp, rfl⟩ := List.mem_map.1 hx; exact hl p hp
  have hperm := sorted_keys es.toList (m.map Pd.name) hk hkl
  have hown : w.ownsMap Tryz.prog 9 R1 b2 es.size (.map ((es.toList.map (Go.WideElems.rg Tryz.prog 9 R1)).foldr DataW.insert [])) := by
    refine ⟨es, clock, g2, ⟨by rw [hlen]; unfold maxLen; omega, hst, fun e he => ?_⟩, Nat.le_refl _, rfl⟩
    have : e.key ∈ es.toList.map (fun e => e.key) := List.mem_map_of_mem he
    rw [hk] at this
    obtain ⟨x, hx, hx2⟩ := List.mem_map.1 this
    exact ⟨_, rd_str hx2.symm (hkl x hx)⟩
  have hsize : Maps.size (DataW.map ((es.toList.map (Go.WideElems.rg Tryz.prog 9 R1)).foldr DataW.insert [])) = m.length := by
    rw [Maps.size_eq, (Go.WideShapes.sorted_perm _).length_eq, List.length_map, Array.length_toList, hlen]
  have hcell : w.cell? ⟨b1, 0, none⟩ = some (.map (some b2)) := by
    simp [World.cell?, g1]
  have hb1 : b1 < w.heap.size := (Array.getElem?_eq_some_iff.1 g1).1
  have hseq := AnyZ.keys_gives (ρ := Tryz.keys135_ren) { Tryz.keys135 with } Fence.wide 2 trivial rfl (by omega) b1 b2 es.size _ w hb1 hcell hown
  have hcall := AnyZ.sorted_in Tryz.sorted134 Fence.wide 5 trivial trivial trivial trivial rfl (by omega) (Tryz.sorts134 _) (enters_of Tryz.func218 (by kernel_rfl) rfl) 219 #[.pointer (some ⟨b1, 0, none⟩)] trivial (enters_of Tryz.func219 (by kernel_rfl) rfl) _ _ (by rw [hsize]; unfold maxLen; omega) (by rw [hsize]; omega) w hseq
  have hc2 := callsIn_wide.1 hcall
  simp only [Nat.zero_mul, Nat.zero_add]
  refine hc2.mono ?_
  rintro e w' ⟨v, ss, rfl, hS, hrow, _, hb⟩
  refine ⟨v, rfl, ?_, hb⟩
  have hsp := hS.trans hperm
  have hms : ss.mergeSort (fun x y => decide (x ≤ y)) = sortN (m.map Pd.name) := mergeSort_of_perm hsp
  rw [hms] at hrow
  have hle : ss.length = ((sortN (m.map Pd.name)).map encStr).length := by
    rw [List.length_map, ← hms, List.length_mergeSort]
  rw [hle] at hrow
  have h := repC_row (V := fun b o => env.V b o ∨ w.heap.size ≤ b) hrow (fun b o hb => .inr hb) (fun x hx => by obtain ⟨y, _, rfl⟩ := List.mem_map.1 hx; rfl)
  rw [List.map_map] at h
  exact h
end Go.Proofs.YtiomojlcnemnhaaGreatDoor

/- Contracts, on: a program's predicates, the document's. (Labels of 2000 and more: seat ZD.) -/
namespace Go.Proofs.YtiomojlcnemnhaaGreatDoor
open Go.Fx Go.RowKit Go.Ped
variable {G : World → Prop}

def predsR : Option (List Pd) → CR
  | some l => .tup [.one (.sl (l.map pdC) []), .one (cI .i64 0)]
  | none => .tup [.one (.sl [] []), .one (cI .i64 72)]
def onIf (b : Bool) (known l : List Pd) : Option (List Pd) := if b = true then refMeets ltN known l else none
theorem m2042 (rules : List Rule) (sp : Sp) (facts : List Fc) (sq : Sp) (hs : ∀ r ∈ rules, r.small 1048576) (hl : rules.length ≤ 1048576) (hfl : facts.length ≤ 1048576) (hn : (rules.flatMap standOf).length ≤ 5000000) :
    Meets Tryz.prog G 42 [.agg [.sl (rules.map Rule.row) sp], .one (.sl (facts.map Fc.row) sq)] (predsR (refMeets ltN [] (rules.flatMap standOf ++ facts.map Fc.pd))) := by
  refine meets Tryz.func42 ie2042 ig2042 (Nat.le_of_ble_eq_true rfl) ?_
  have hsplit := refMeets_append ltN (rules.flatMap standOf) (facts.map Fc.pd) []
  generalize hR : refMeets ltN [] (rules.flatMap standOf ++ facts.map Fc.pd) = R at *
  generalize hA : refMeets ltN [] (rules.flatMap standOf) = A' at *
  simp [ic2042, ir2042]
  refine w_loopA [.t 300 6 168 2] [300] [1, 2, 6, 7, 8] (by simp [ownKey])
    (fun a : Nat × Bool × List Pd => st [(1, .k true (.x (.one (.c (.sl (facts.map Fc.row) sq))))), (2, .k true (.x (.one (.ref 2 0 0)))), (6, .k true (.x (.one (.c (.sl (a.2.2.map pdC) []))))), (7, .k true (rB a.2.1)), (8, tI .i64 a.1)] [(2, ⟨47, 1, [[.c (.sl (rules.map Rule.row) sp)]], none⟩)] [] F0) (fun a => rules.length - a.1)
    (fun a => a.1 ≤ rules.length ∧ A' = onIf a.2.1 a.2.2 ((rules.drop a.1).flatMap standOf) ∧ a.2.2.length + ((rules.drop a.1).flatMap standOf).length ≤ 5000000 ∧ (a.2.1 = false → a.2.2 = [])) (0, true, []) (by simp [promoteT_st]) ⟨by simp, by simp [onIf, hA], by simpa only [List.length_nil, Nat.zero_add, List.drop_zero] using hn, by simp⟩ ?_
  rintro ⟨i, ok, m⟩ K hK ⟨hi, hd, hm, hok⟩
  simp only at hi hd hm hok
  by_cases hgo : i < rules.length ∧ ok = true
  · obtain ⟨hlt, rfl⟩ := hgo
    rw [List.drop_eq_getElem_cons hlt, List.flatMap_cons] at hd hm
    rw [List.length_append] at hm
    have hr := hs _ (List.getElem_mem hlt)
    have hme := m2127 (G := G) m (standOf rules[i]) [] (by omega)
    simp only [onIf, if_true, refMeets_append] at hd
    simp [ic2042l0, hlt]
    refine call_of (m2131 rules[i] hr) ?_
    simp
    refine call_of hme ?_
    cases hM : refMeets ltN m (standOf rules[i]) with
    | some m' =>
      rw [hM, Option.bind_some] at hd
      have hml := refMeets_len hM
      simp [meetR]
      simp (disch := omega) only [wrap64]
      exact hK (i + 1, true, m') _ (by simp) ⟨by simp; omega, by simpa [onIf] using hd, by simp only; omega, by simp⟩ (by simp; omega)
    | none =>
      rw [hM, Option.bind_none] at hd
      simp [meetR]
      simp (disch := omega) only [wrap64]
      exact hK (i + 1, false, []) _ (by simp) ⟨by simp; omega, by simpa [onIf] using hd, by simp only [List.length_nil]; omega, by simp⟩ (by simp; omega)
  · have hA2 : A' = if ok = true then some m else none := by
      rw [hd]
      unfold onIf
      cases ok with
      | true =>
        have hge : rules.length ≤ i := Nat.not_lt.1 fun h => hgo ⟨h, rfl⟩
        rw [List.drop_eq_nil_of_le hge]; rfl
      | false => rfl
    have hmn : m.length ≤ 5000000 := by omega
    clear hd hm hK
    have hx : (i < rules.length ∧ ok = false) ∨ rules.length ≤ i := by
      by_cases h : i < rules.length
      · left; refine ⟨h, ?_⟩; cases ok with
        | true => exact absurd ⟨h, rfl⟩ hgo
        | false => rfl
      · right; omega
    rcases hx with ⟨hlt, hokf⟩ | hge
    simp [ic2042l0, hlt, hokf]
    rotate_left
    simp [ic2042l0, Nat.not_lt.mpr hge]
    all_goals
      refine w_loopA [] [54] [1, 6, 7, 9] (by simp [ownKey])
        (fun a : Nat × Bool × List Pd => st [(1, .k true (.x (.one (.c (.sl (facts.map Fc.row) sq))))), (6, .k true (.x (.one (.c (.sl (a.2.2.map pdC) []))))), (7, .k true (rB a.2.1)), (9, tI .i64 a.1)] [(2, ⟨47, 1, [[.c (.sl (rules.map Rule.row) sp)]], none⟩)] [] F0) (fun a => facts.length - a.1)
        (fun a => a.1 ≤ facts.length ∧ R = onIf a.2.1 a.2.2 ((facts.drop a.1).map Fc.pd) ∧ a.2.2.length ≤ 5000000 + a.1 ∧ (a.2.1 = false → a.2.2 = [])) (0, ok, m) (by first | (simp; done) | simp [hokf]) ?_ ?_
      · refine ⟨by simp, ?_, by simp only; omega, hok⟩
        rw [hsplit, hA2]
        cases ok <;> rfl
      rintro ⟨j, ok2, m2⟩ K2 hK2 ⟨hj, hd2, hm2, hok2⟩
      simp only at hj hd2 hm2 hok2
      by_cases hgo2 : j < facts.length ∧ ok2 = true
      · obtain ⟨hlt2, rfl⟩ := hgo2
        rw [List.drop_eq_getElem_cons hlt2, List.map_cons] at hd2
        have hme := m2127 (G := G) m2 [facts[j].pd] [] (by simp; omega)
        simp only [List.map_cons, List.map_nil, pdC, Fc.pd] at hme
        simp only [onIf, if_true, refMeets] at hd2
        simp [ic2042l1, hlt2]
        refine call_of hme ?_
        have hone : refMeets ltN m2 [facts[j].pd] = refMeet ltN m2 facts[j].pd := by
          simp only [refMeets]
          cases refMeet ltN m2 facts[j].pd <;> rfl
        simp only [Fc.pd] at hone hd2
        rw [hone]
        cases hM : refMeet ltN m2 ⟨facts[j].p, facts[j].l.length⟩ with
        | some m' =>
          rw [hM] at hd2
          have hml := refMeet_len hM
          simp [meetR]
          simp (disch := omega) only [wrap64]
          exact hK2 (j + 1, true, m') _ (by simp) ⟨by simp; omega, by simpa [onIf] using hd2, by simp only; omega, by simp⟩ (by simp; omega)
        | none =>
          rw [hM] at hd2
          simp [meetR]
          simp (disch := omega) only [wrap64]
          exact hK2 (j + 1, false, []) _ (by simp) ⟨by simp; omega, by simpa [onIf] using hd2, by simp only [List.length_nil]; omega, by simp⟩ (by simp; omega)
      · have hR2 : R = if ok2 = true then some m2 else none := by
          rw [hd2]
          unfold onIf
          cases ok2 with
          | true =>
            have hge : facts.length ≤ j := Nat.not_lt.1 fun h => hgo2 ⟨h, rfl⟩
            rw [List.drop_eq_nil_of_le hge]; rfl
          | false => rfl
        cases ok2 with
        | true =>
          have hge2 : facts.length ≤ j := Nat.not_lt.1 fun h => hgo2 ⟨h, rfl⟩
          simp only [if_true] at hR2
          rw [hR2]
          simp [ic2042l1, Nat.not_lt.mpr hge2, predsR]
        | false =>
          simp only [Bool.false_eq_true, if_false] at hR2
          rw [hR2]
          obtain hlt2 | hge2 := Nat.lt_or_ge j facts.length
          · simp [ic2042l1, hlt2, predsR]
          · simp [ic2042l1, Nat.not_lt.mpr hge2, predsR]
end Go.Proofs.YtiomojlcnemnhaaGreatDoor

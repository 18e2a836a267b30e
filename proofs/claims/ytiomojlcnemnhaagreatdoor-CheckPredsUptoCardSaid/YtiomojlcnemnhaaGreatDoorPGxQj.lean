/- slices.Sorted of maps.Keys: the map's names, in order. (Seat ZD alone; not reseated.) -/
import Derived.Test.YtiomojlcnemnhaaGreatDoorPTryzIter
import Derived.Test.YtiomojlcnemnhaaGreatDoorPGxQl
namespace Go.Proofs.YtiomojlcnemnhaaGreatDoor
open Go.Fx Go.RowKit Go.Ped
variable {G : World → Prop}

def R1 : Value → Option (DataW Unit × List MemPlace) := fun _ => some (.nil, [])

theorem rd_str {e : MapEntry} {x : Name} (hx : e.key = .string (bs x)) (hl : x.length ≤ maxLen) : Go.WideElems.rd Tryz.prog 9 R1 e = some (.string x, .nil) := by
  unfold Go.WideElems.rd R1
  rw [hx, Go.WideMaps.keyOf_string_mk Tryz.underlying9 (by simpa [bs, ByteArray.size] using hl)]
  simp [bs]
theorem sorted_keys (es : List MapEntry) (names : List Name) (hk : es.map (fun e => e.key) = names.map fun x => Value.string (bs x)) (hl : ∀ x ∈ names, x.length ≤ maxLen) :
    (strKeys (.map ((es.map (Go.WideElems.rg Tryz.prog 9 R1)).foldr DataW.insert []))).Perm names := by
  have h1 := (Go.WideShapes.sorted_perm (es.map (Go.WideElems.rg Tryz.prog 9 R1))).map fun p => strOf p.1
  have h2 : ((es.map (Go.WideElems.rg Tryz.prog 9 R1)).map fun p => strOf p.1) = names := by
    clear h1
    induction es generalizing names with
    | nil => cases names with
      | nil => rfl
      | cons x l => cases hk
    | cons e es ih => cases names with
      | nil => cases hk
      | cons x l =>
        simp only [List.map_cons, List.cons.injEq] at hk ⊢
        refine ⟨?_, ih l hk.2 fun y hy => hl y (List.mem_cons_of_mem _ hy)⟩
        unfold Go.WideElems.rg
        rw [rd_str hk.1 (hl x (List.mem_cons_self ..))]
        rfl
  rw [h2] at h1
  exact h1

abbrev OK2 (m : List Pd) : List (Nat × Box) := [(1, ⟨151, 1, [[.mapr 10]], none⟩), (10, ⟨0, 2, m.map pdRow, some (.string, true)⟩)]

theorem rows_names {env : Env} {toks : Nat → Option Tok} {w : World} : ∀ {m : List Pd} {es : List MapEntry}, All2 (RowIs env toks w) (m.map pdRow) es → es.map (fun e => e.key) = (m.map Pd.name).map fun x => Value.string (bs x)
  | [], es, h => by have := h.nil_left; subst this; rfl
  | p :: m, es, h => by
    obtain ⟨e, es', rfl, ⟨t, h1, _, _⟩, h2⟩ := h.head
    simp only [pdRow, List.cons.injEq, A.c.injEq, C.v.injEq] at h1
    simp only [List.map_cons, rows_names h2, ← h1.1]

theorem m2134 (m : List Pd) (hz : m.length ≤ 8000000) (hl : ∀ p ∈ m, p.name.length ≤ maxLen) :
    MeetsH Tryz.prog G 134 [.one (.clo 219 [] [.ref 1 0 0])] (hp (OK2 m) [] F0) (.x (.one (.c (.sl ((sortN (m.map Pd.name)).map nmRow) [])))) (hp (OK2 m) [] F0) := by
  refine MeetsH.of_below (res := .x (.one (.sl ((sortN (m.map Pd.name)).map nmRow) []))) (by kernel_rfl) (by simp) ?_ ?_
  · intro k b hb r hr
    rw [hp_objs0] at hb
    have := lookO_mem hb
    simp only [List.mem_cons, List.not_mem_nil, or_false, Prod.mk.injEq] at this
    rcases this with ⟨rfl, rfl⟩ | ⟨rfl, rfl⟩
    · simp only [List.mem_singleton] at hr; subst hr; simp
    · obtain ⟨q, _, rfl⟩ := List.mem_map.1 hr; simp [pdRow]
  intro w env F vs hmem ha
  obtain ⟨v, vs', rfl, hv, ha'⟩ := ha.head
  obtain rfl := ha'.nil_left
  obtain ⟨us, cs, rfl, hus, hcs⟩ := hv
  cases us with
  | cons _ _ => exact hus.elim
  | nil =>
  cases cs with
  | nil => exact hcs.elim
  | cons c cs =>
  obtain ⟨⟨b1, s1, hρ1, rfl⟩, hcs⟩ := hcs
  cases cs with
  | cons _ _ => exact hcs.elim
  | nil =>
  obtain ⟨b1', us1, e1, ⟨ob1, g1, g1'⟩, e2, e3, _⟩ := hmem.objs 1 ⟨151, 1, [[.mapr 10]], none⟩ (by rw [hp_objs0]; simp)
  rw [hρ1] at e1
  injection e1 with e1
  injection e1 with e1 e1'
  subst e1
  obtain ⟨ex, rfl⟩ := g1'
  obtain ⟨u1, us1', rfl, ⟨b2, s2, hρ2, rfl⟩, e2'⟩ := e2.head
  obtain rfl := All2.nil_left e2'
  obtain ⟨b2', us2, f1, ⟨ob2, g2, g2'⟩, f2, f3, _⟩ := hmem.objs 10 ⟨0, 2, m.map pdRow, some (.string, true)⟩ (by rw [hp_objs0]; simp)
  rw [hρ2] at f1
  injection f1 with f1
  injection f1 with f1 f1'
  subst f1
  obtain ⟨⟨es, clock, rfl, rfl, hsz, hst, hes⟩, hrows⟩ := g2'
  have hal := aligned (by simpa using hsz.symm) f3 (fun e he => (hes e he).2.1) hrows f2
  have hk := rows_names hal
  have hlen : es.size = m.length := by simpa using hsz
  have hkl : ∀ x ∈ m.map Pd.name, x.length ≤ maxLen := fun x hx => by obtain ⟨p, hp, rfl⟩ := List.mem_map.1 hx; exact hl p hp
  have hperm := sorted_keys es.toList (m.map Pd.name) hk hkl
  have hown : w.ownsMap Tryz.prog 9 R1 b2 es.size (.map ((es.toList.map (Go.WideElems.rg Tryz.prog 9 R1)).foldr DataW.insert [])) := by
    refine ⟨es, clock, g2, ⟨by rw [hlen]; unfold maxLen; omega, hst, fun e he => ?_⟩, Nat.le_refl _, rfl⟩
    have : e.key ∈ es.toList.map (fun e => e.key) := List.mem_map_of_mem he
    rw [hk] at this
    obtain ⟨x, hx, hx2⟩ := List.mem_map.1 this
    exact ⟨_, rd_str hx2.symm (hkl x hx)⟩
  have hsize : Maps.size (DataW.map ((es.toList.map (Go.WideElems.rg Tryz.prog 9 R1)).foldr DataW.insert [])) = m.length := by
    rw [Maps.size_eq, (Go.WideShapes.sorted_perm _).length_eq, List.length_map, Array.length_toList, hlen]
  have hcell : w.cell? ⟨b1, 0, none⟩ = some (.map (some b2)) := by
    simp [World.cell?, g1]
  have hb1 : b1 < w.heap.size := (Array.getElem?_eq_some_iff.1 g1).1
  have hseq := AnyZ.keys_gives (ρ := Tryz.keys135_ren) { Tryz.keys135 with } Fence.wide 2 trivial rfl (by omega) b1 b2 es.size _ w hb1 hcell hown
  have hcall := AnyZ.sorted_in Tryz.sorted134 Fence.wide 5 trivial trivial trivial trivial rfl (by omega) (Tryz.sorts134 _) (enters_of Tryz.func218 (by kernel_rfl) rfl) 219 #[.pointer (some ⟨b1, 0, none⟩)] trivial (enters_of Tryz.func219 (by kernel_rfl) rfl) _ _ (by rw [hsize]; unfold maxLen; omega) (by rw [hsize]; omega) w hseq
  have hc2 := callsIn_wide.1 hcall
  simp only [Nat.zero_mul, Nat.zero_add]
  refine hc2.mono ?_
  rintro e w' ⟨v, ss, rfl, hS, hrow, _, hb⟩
  refine ⟨v, rfl, ?_, hb⟩
  have hsp := hS.trans hperm
  have hms : ss.mergeSort (fun x y => decide (x ≤ y)) = sortN (m.map Pd.name) := mergeSort_of_perm hsp
  rw [hms] at hrow
  have hle : ss.length = ((sortN (m.map Pd.name)).map encStr).length := by
    rw [List.length_map, ← hms, List.length_mergeSort]
  rw [hle] at hrow
  have h := repC_row (V := fun b o => env.V b o ∨ w.heap.size ≤ b) hrow (fun b o hb => .inr hb) (fun x hx => by obtain ⟨y, _, rfl⟩ := List.mem_map.1 hx; rfl)
  rw [List.map_map] at h
  exact h
end Go.Proofs.YtiomojlcnemnhaaGreatDoor

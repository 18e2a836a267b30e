import Derived.Test.YtiomojlcnemnhaaGreatDoorLGxJ2
import Derived.Test.YtiomojlcnemnhaaGreatDoorLGxW4
import Derived.Test.YtiomojlcnemnhaaGreatDoorLGxJ8
import Derived.Test.YtiomojlcnemnhaaGreatDoorLGxIc1
namespace Go.Proofs.YtiomojlcnemnhaaGreatDoor
open Go.Fx Go.RowKit Go.Ped
variable {G : World → Prop}
def leafV (m : List Tm) (t : Tm) : Option Val := if t.v = [] then some t.x else match bindOf m t.v with | some w => if w.ok then some w else none | none => none
mutual
def Ex.val (m : List Tm) : Ex → Option Val
  | .mk op t kids _ => if op = 0 then leafV m t else match exVals m kids with | none => none | some vs => arithV op vs
def exVals (m : List Tm) : List Ex → Option (List Val)
  | [] => some []
  | e :: l => match e.val m with | none => none | some v => match exVals m l with | none => none | some vs => some (v :: vs)
end
end Go.Proofs.YtiomojlcnemnhaaGreatDoor

namespace Go.Proofs.YtiomojlcnemnhaaGreatDoor
open Go.Fx Go.RowKit Go.Ped
end Go.Proofs.YtiomojlcnemnhaaGreatDoor

namespace Go.Proofs.YtiomojlcnemnhaaGreatDoor
open Go.Fx Go.RowKit Go.Ped
variable {G : World → Prop}
theorem putP_pairs : ∀ (s m : List Pr) (v : Name), nextOf (pairsOn m s) v = (nextOf m v).or (if v = [] ∨ v = us then none else nextOf s v)
  | [], m, v => by simp [pairsOn, nextOf]
  | p :: l, m, v => by
    rw [pairsOn, putP_pairs l]
    by_cases h : nextOf m p.v = none ∧ p.v ≠ [] ∧ p.v ≠ us
    · rw [if_pos h]
      have hap : nextOf (m ++ [p]) v = (nextOf m v).or (if p.v == v then some p.t else none) := by
        unfold nextOf
        rw [List.find?_append]
        cases m.find? (·.v == v) <;> simp [List.find?_cons] <;> split <;> simp_all
      rw [hap]
      by_cases e : p.v = v
      · subst e
        simp [h.1, h.2.1, h.2.2, nextOf]
      · have e' : (p.v == v) = false := by simpa using e
        simp [e', nextOf, List.find?_cons]
    · rw [if_neg h]
      by_cases e : p.v = v
      · subst e
        cases hm : nextOf m p.v with
        | some y => simp
        | none =>
          have : p.v = [] ∨ p.v = us := by
            by_cases h0 : p.v = []
            · exact .inl h0
            · by_cases h1 : p.v = us
              · exact .inr h1
              · exact absurd ⟨hm, h0, h1⟩ h
          simp [this]
      · have e' : (p.v == v) = false := by simpa using e
        simp [nextOf, List.find?_cons, e']
theorem putP_eq (s : List Pr) (t : Tm) : putP (pairsOn [] s) t = putS s t := by
  unfold putP putS
  rw [putP_pairs]
  by_cases h : t.v = [] ∨ t.v = us
  · rw [if_pos h, if_pos h]; simp [nextOf]
  · rw [if_neg h, if_neg h]
    simp only [nextOf, List.find?_nil, Option.map_none, Option.none_or]
    cases s.find? (·.v == t.v) <;> rfl
theorem putP_fun (s : List Pr) : putP (pairsOn [] s) = putS s := funext (putP_eq s)
theorem applyR_form (f : Tm → Tm) (r : Rule) : ∃ (cells : List C) (n : Int), applyR f r = .tup [.agg cells, .one (cI .i64 n)] := by
  unfold applyR
  split
  · exact ⟨_, _, rfl⟩
  · exact ⟨_, _, rfl⟩
theorem v138 (m : List Pr) (r : Rule) (hs : r.small 1048576) (hle : r.terms.length ≤ 2000000) : MeetsV Tryz.prog G (fnA 83) [.one (.mapr 8), .agg (r.row.map A.c)] (hp (OP 8 m) [] F0) (applyR (putP m) r).open (hp (OP 8 m) [] F0) := by
  have h0 := MeetsV.of_fun (m138 (G := G) m r hs hle)
  obtain ⟨cells, n, hres⟩ := applyR_form (putP m) r
  rw [hres] at h0 ⊢
  have h := h0.ren (π := swR 10008 8)
  simp [swF, nx_ren2, CR.open, CX.open] at h
  simpa [CR.open, CX.open] using h
theorem m71 (s : List Pr) (ss : Sp) (r : Rule) (hsl : s.length ≤ maxLen) (hs : r.small 1048576) (hle : r.terms.length ≤ 2000000) : Meets Tryz.prog G 19 [.one (.sl (s.map Pr.row) ss), .agg r.row] (applyR (putS s) r) := by
  have h127 := m127 (G := G) s ss hsl
  have h138 := v138 (G := G) (pairsOn [] s) r hs hle
  rw [putP_fun] at h138
  generalize pairsOn [] s = m at *
  have hrow : r.row = [cS (bs r.p), .sl (r.head.map Arg.row) r.hsp, .sl (r.body.map Lit.row) r.bsp] := rfl
  have hres : ∃ a b c n, applyR (putS s) r = .tup [.agg [a, b, c], .one (cI .i64 n)] := by
    unfold applyR
    split
    · exact ⟨_, _, _, _, rfl⟩
    · exact ⟨_, _, _, _, rfl⟩
  obtain ⟨c1, c2, c3, n, hres⟩ := hres
  rw [hrow] at h138 ⊢
  rw [hres] at h138 ⊢
  refine meets Tryz.func19 ie71 ig71 (Nat.le_of_ble_eq_true rfl) ?_
  simp [ic71, ir71]
  refine r_callN [8] _ _ [] [] _ (OP 8 m) [] (MeetsV.of_fun h127) rfl rfl rfl (by simp) (by simp) (by simp) ?_
  simp
  refine r_callN [8] _ _ (OP 8 m) [] _ (OP 8 m) [] h138 rfl rfl rfl (by simp [X.fits, A.fits]) (by simp) (by simp) ?_
  simp [CR.open, CX.open]
theorem Ex.mapT_mapT (f g : Tm → Tm) : ∀ e : Ex, (e.mapT f).mapT g = e.mapT (g ∘ f) := by
  refine Ex.ind fun op t kids sp ih => ?_
  rw [Ex.mapT_mk, Ex.mapT_mk, Ex.mapT_mk, List.map_map]
  congr 1
  exact List.map_congr_left ih
theorem Rule.mapT_mapT (f g : Tm → Tm) (r : Rule) : (r.mapT f).mapT g = r.mapT (g ∘ f) := by
  unfold Rule.mapT
  simp only [List.map_map]
  congr 1
  refine List.map_congr_left fun x _ => ?_
  unfold Lit.mapT
  simp only [Function.comp_apply, List.map_map, Ex.mapT_mapT]
end Go.Proofs.YtiomojlcnemnhaaGreatDoor

namespace Go.Proofs.YtiomojlcnemnhaaGreatDoor
open Go.Fx Go.RowKit Go.Ped
variable {G : World → Prop}
theorem m225 (kids : List Ex) (sp sq : Sp) (hl : kids.length ≤ 1048576) (he : ∀ k ∈ kids, Meets Tryz.prog G 257 [.agg k.row, .agg k.row] (.x (.one (cB true)))) :
    Meets Tryz.prog G 299 [.one (.sl (kids.map Ex.row) sp), .one (.sl (kids.map Ex.row) sq)] (.x (.one (cB true))) := by
  refine meets Tryz.func299 ie225 ig225 (Nat.le_of_ble_eq_true rfl) ?_
  simp [ic225, ir225]
  refine w_loopA [] [] [0, 1, 5] (by simp)
    (fun i : Nat => st [(0, .k true (.x (.one (.c (.sl (kids.map Ex.row) sp))))), (1, .k true (.x (.one (.c (.sl (kids.map Ex.row) sq))))), (5, tI .i64 i)] [] [] F0) (fun i => kids.length - i) (fun i => i ≤ kids.length) 0 (by simp) (by simp) ?_
  rintro i K hK hi
  obtain hlt | hge := Nat.lt_or_ge i kids.length
  · have hm := he kids[i] (List.getElem_mem hlt)
    have k1 : (kids[i].row.map A.c).take 6 = kids[i].row.map A.c := List.take_of_length_le (by simp)
    simp [ic225l0, hlt, k1]
    refine call_of hm ?_
    simp
    simp (disch := omega) only [wrap64]
    exact hK (i + 1) _ (by simp) (by omega) (by omega)
  · simp [ic225l0, Nat.not_lt.mpr hge]
set_option maxHeartbeats 4000000 in
theorem m209 : ∀ e : Ex, e.small 1048576 → Meets Tryz.prog G 257 [.agg e.row, .agg e.row] (.x (.one (cB true))) := by
  refine Ex.ind fun op t kids sp ih hs => ?_
  obtain ⟨hl, hk⟩ := Ex.small_mk.1 hs
  have h := m225 (G := G) kids sp sp hl (fun k hk' => ih k hk' (hk k hk'))
  refine meets Tryz.func257 ie209 ig209 (Nat.le_of_ble_eq_true rfl) ?_
  rw [Ex.row_mk]
  generalize kids.map Ex.row = rs at *
  simp (config := { maxSteps := 4000000 }) [ic209, ir209]
  refine call_of h ?_
  simp
set_option maxHeartbeats 4000000 in
theorem m187 (x : Lit) (hs : x.small 1048576) : Meets Tryz.prog G 179 [.agg x.row, .agg x.row] (.x (.one (cB true))) := by
  obtain ⟨h1, h2, h3⟩ := hs
  have h55 := m55 (G := G) x.p x.p x.l x.l x.sp x.sp (by unfold maxLen; omega)
  simp only [BEq.rfl, decide_true, Bool.and_true] at h55
  have hl := m209 (G := G) x.left h2
  have hr := m209 (G := G) x.right h3
  refine meets Tryz.func179 ie187 ig187 (Nat.le_of_ble_eq_true rfl) ?_
  unfold Lit.row
  rw [Ex.row_eq] at hl hr ⊢
  rw [Ex.row_eq x.right]
  simp (config := { maxSteps := 4000000 }) [ic187, ir187]
  refine call_of h55 ?_
  simp
  refine call_of hl ?_
  simp
  refine call_of hr ?_
  simp
theorem m140 (l : List Lit) (sp sq : Sp) (hl : l.length ≤ 1048576) (he : ∀ k ∈ l, k.small 1048576) :
    Meets Tryz.prog G 87 [.one (.sl (l.map Lit.row) sp), .one (.sl (l.map Lit.row) sq)] (.x (.one (cB true))) := by
  refine meets Tryz.func87 ie140 ig140 (Nat.le_of_ble_eq_true rfl) ?_
  simp [ic140, ir140]
  refine w_loopA [] [] [0, 1, 5] (by simp)
    (fun i : Nat => st [(0, .k true (.x (.one (.c (.sl (l.map Lit.row) sp))))), (1, .k true (.x (.one (.c (.sl (l.map Lit.row) sq))))), (5, tI .i64 i)] [] [] F0) (fun i => l.length - i) (fun i => i ≤ l.length) 0 (by simp) (by simp) ?_
  rintro i K hK hi
  obtain hlt | hge := Nat.lt_or_ge i l.length
  · have hm := m187 (G := G) l[i] (he _ (List.getElem_mem hlt))
    have k1 : (l[i].row.map A.c).take 16 = l[i].row.map A.c := List.take_of_length_le (by simp)
    simp [ic140l0, hlt, k1]
    refine call_of hm ?_
    simp
    simp (disch := omega) only [wrap64]
    exact hK (i + 1) _ (by simp) (by omega) (by omega)
  · simp [ic140l0, Nat.not_lt.mpr hge]
theorem m72 (r : Rule) (hs : r.small 1048576) : Meets Tryz.prog G 22 [.agg r.row, .agg r.row] (.x (.one (cB true))) := by
  have h1 := m139' (G := G) r.head r.hsp r.hsp (by have := hs.1; unfold maxLen; omega)
  have h2 := m140 (G := G) r.body r.bsp r.bsp hs.2.1 hs.2.2
  refine meets Tryz.func22 ie72 ig72 (Nat.le_of_ble_eq_true rfl) ?_
  unfold Rule.row
  simp [ic72, ir72]
  refine call_of h1 ?_
  simp
  refine call_of h2 ?_
  simp
end Go.Proofs.YtiomojlcnemnhaaGreatDoor

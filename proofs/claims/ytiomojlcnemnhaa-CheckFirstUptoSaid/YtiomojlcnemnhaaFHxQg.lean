/- Contracts, on: the program's first error of what a user hands in. (Labels of 2000 and more: seat ZD.) -/
import Derived.Test.YtiomojlcnemnhaaFHxQf
namespace Go.Proofs.Ytiomojlcnemnhaa
open Go.Fx Go.RowKit Go.Ped
variable {G : World → Prop}

abbrev O15m (m : List Pd) : List (Nat × Box) := [(15007, ⟨203, 1, [[.mapr 15009]], none⟩), (15009, ⟨0, 2, m.map pdRow, some (.string, true)⟩)]
theorem hO15m (m : List Pd) : ∀ p ∈ O15m m, farKey p.1 ∧ ∀ r ∈ p.2.rows, onlyL farKey (fun k => lookT ([] : List (Nat × Tok)) k ≠ none) r := by
  intro p hp
  simp only [List.mem_cons, List.not_mem_nil, or_false] at hp
  rcases hp with rfl | rfl
  · exact ⟨by unfold farKey; omega, by simp [farKey]⟩
  · refine ⟨by unfold farKey; omega, fun r hr => ?_⟩
    obtain ⟨q, _, rfl⟩ := List.mem_map.1 hr
    simp [pdRow]
def Hm (m : List Pd) : FHp := FHp.of (O15m m) [] (hO15m m) (by simp)
theorem Hm_same (a b : List Pd) : sameKeys (Hm a) (Hm b) := by
  refine ⟨fun k => ⟨?_, ?_⟩, rfl⟩
  · show lookO (O15m a) k = none ↔ lookO (O15m b) k = none
    simp only [lookO_cons]
    split <;> (try split) <;> simp
  · show lookT [] k = none ↔ lookT [] k = none
    rfl
abbrev On (m : List Pd) : List (Nat × Box) := [(7, ⟨203, 1, [[.mapr 9]], none⟩), (9, ⟨0, 2, m.map pdRow, some (.string, true)⟩)]

theorem v2111 (m : List Pd) (r : Rule) (hs : r.small 1048576) : MeetsV Try.prog G (.clo 73 [] [.ref 15007 0 0]) [.agg (r.row.map A.c)] (hp [] [] (Hm m)) (.x (.one (.c (cI .i64 (stepR m r).1)))) (hp [] [] (Hm (stepR m r).2)) := by
  have h := (clo_of (f := 73) (fs := []) (args := [.agg (r.row.map A.c)]) (cs := [.ref 10007 0 0]) rfl (m2111 (G := G) m r hs)).ren (π := midFar)
  simp [mfF, rows_ren] at h
  unfold Hm
  rw [hp_of, hp_of]
  exact h
theorem v2115 (m : List Pd) (f : Fc) (hl : f.l.length ≤ 1048576) : MeetsV Try.prog G (.clo 77 [] [.ref 15007 0 0]) [.agg (f.row.map A.c)] (hp [] [] (Hm m)) (.x (.one (.c (cI .i64 (stepF m f).1)))) (hp [] [] (Hm (stepF m f).2)) := by
  have h := (clo_of (f := 77) (fs := []) (args := [.agg (f.row.map A.c)]) (cs := [.ref 10007 0 0]) rfl (m2115 (G := G) m f hl)).ren (π := midFar)
  simp [mfF, rows_ren] at h
  unfold Hm
  rw [hp_of, hp_of]
  exact h
theorem v2120 (m : List Pd) (q : Qy) (hl : q.l.length ≤ 1048576) : MeetsV Try.prog G (.clo 81 [] [.ref 15007 0 0]) [.agg (q.row.map A.c)] (hp [] [] (Hm m)) (.x (.one (.c (cI .i64 (stepQ m q).1)))) (hp [] [] (Hm (stepQ m q).2)) := by
  have h := (clo_of (f := 81) (fs := []) (args := [.agg (q.row.map A.c)]) (cs := [.ref 10007 0 0]) rfl (m2120 (G := G) m q hl)).ren (π := midFar)
  simp [mfF, rows_ren] at h
  unfold Hm
  rw [hp_of, hp_of]
  exact h

theorem n2109u (part : Int) (l : List Rule) (sp : Sp) (hl : l.length ≤ 1048576) (hf : ∀ r ∈ l, r.fit) :
    MeetsV Try.prog G (fnA 71) [.one (.c (cI .i8 part)), .one (.c (.sl (l.map Rule.row) sp)), .one (fnA 72)] (hp [] [] F0) (.x (.agg ((partC part (firstE (fun (_ : Unit) r => (userErr r, ())) () l 0)).map A.c))) (hp [] [] F0) :=
  MeetsV.of_fun (m2109 (fun (_ : Unit) r => (userErr r, ())) (fun _ => F0) (fun _ _ => sameKeys_refl F0) (fnA 72) trivial (fun _ _ => rfl) part l sp hl (fun _ r hr => plainV (m2110 r (hf r hr)) F0) ())
set_option maxRecDepth 20000 in
theorem n2109 (part : Int) (l : List Rule) (sp : Sp) (hl : l.length ≤ 1048576) (hf : ∀ r ∈ l, r.fit) (m : List Pd) :
    MeetsV Try.prog G (fnA 71) [.one (.c (cI .i8 part)), .one (.c (.sl (l.map Rule.row) sp)), .one (.clo 73 [] [.ref 7 0 0])] (hp (On m) [] F0) (.x (.agg ((partC part (firstE stepR m l 0)).map A.c))) (hp (On (firstE stepR m l 0).2.2) [] F0) := by
  have h := (MeetsV.of_fun (m2109 (G := G) stepR Hm Hm_same (.clo 73 [] [.ref 15007 0 0]) ⟨trivial, by simp [farKey]⟩ (fun k hk => by simp; omega) part l sp hl (fun m r hr => v2111 m r (hf r hr).1) m)).ren (π := nearFar)
  unfold Hm at h
  rw [hp_of, hp_of] at h
  simp [nfF, rows_ren] at h
  exact h
set_option maxRecDepth 20000 in
theorem n2114 (part : Int) (l : List Fc) (sp : Sp) (hl : l.length ≤ 1048576) (hf : ∀ f ∈ l, f.l.length ≤ 1048576) (m : List Pd) :
    MeetsV Try.prog G (fnA 76) [.one (.c (cI .i8 part)), .one (.c (.sl (l.map Fc.row) sp)), .one (.clo 77 [] [.ref 7 0 0])] (hp (On m) [] F0) (.x (.agg ((partC part (firstE stepF m l 0)).map A.c))) (hp (On (firstE stepF m l 0).2.2) [] F0) := by
  have h := (MeetsV.of_fun (m2114 (G := G) stepF Hm Hm_same (.clo 77 [] [.ref 15007 0 0]) ⟨trivial, by simp [farKey]⟩ (fun k hk => by simp; omega) part l sp hl (fun m r hr => v2115 m r (hf r hr)) m)).ren (π := nearFar)
  unfold Hm at h
  rw [hp_of, hp_of] at h
  simp [nfF, rows_ren] at h
  exact h
set_option maxRecDepth 20000 in
theorem n2119 (part : Int) (l : List Qy) (sp : Sp) (hl : l.length ≤ 1048576) (hf : ∀ f ∈ l, f.l.length ≤ 1048576) (m : List Pd) :
    MeetsV Try.prog G (fnA 80) [.one (.c (cI .i8 part)), .one (.c (.sl (l.map Qy.row) sp)), .one (.clo 81 [] [.ref 7 0 0])] (hp (On m) [] F0) (.x (.agg ((partC part (firstE stepQ m l 0)).map A.c))) (hp (On (firstE stepQ m l 0).2.2) [] F0) := by
  have h := (MeetsV.of_fun (m2119 (G := G) stepQ Hm Hm_same (.clo 81 [] [.ref 15007 0 0]) ⟨trivial, by simp [farKey]⟩ (fun k hk => by simp; omega) part l sp hl (fun m r hr => v2120 m r (hf r hr)) m)).ren (π := nearFar)
  unfold Hm at h
  rw [hp_of, hp_of] at h
  simp [nfF, rows_ren] at h
  exact h

theorem partC_0 {σ : Type} {part : Int} {x : Int × Int × σ} (h : x.1 = 0) : (partC part x).map A.c = [.c (cI .i8 0), .c (cI .i64 0), .c (cI .i64 0)] := by simp [partC, h, refuse]
theorem partC_n {σ : Type} {part : Int} {x : Int × Int × σ} (h : x.1 ≠ 0) : (partC part x).map A.c = [.c (cI .i8 part), .c (cI .i64 x.1), .c (cI .i64 x.2.1)] := by simp [partC, h, refuse]

theorem m2038 (rules : List Rule) (sp : Sp) (facts : List Fc) (sq : Sp) (q : Qy) (hs : ∀ r ∈ rules, r.fit) (hl : rules.length ≤ 1048576) (hf : ∀ f ∈ facts, f.l.length ≤ 1048576) (hfl : facts.length ≤ 1048576) (hq : q.l.length ≤ 1048576) :
    Meets Try.prog G 36 [.agg [.sl (rules.map Rule.row) sp], .one (.sl (facts.map Fc.row) sq), .agg q.row] (.x (.agg (inputG rules facts q))) := by
  refine meets Try.func36 ie2038 ig2038 (Nat.le_of_ble_eq_true rfl) ?_
  generalize hR : inputG rules facts q = R
  unfold inputG at hR
  simp [ic2038, ir2038]
  by_cases h5 : rules.length > 500
  · rw [if_pos h5] at hR
    have h5' : (500 : Int) < rules.length := by omega
    subst hR
    simp [h5', refuse]
  rw [if_neg h5] at hR
  have h5' : ¬ (500 : Int) < rules.length := by omega
  simp [h5']
  have hu := n2109u (G := G) 1 rules sp hl hs
  by_cases hu0 : (firstE (fun (_ : Unit) r => (userErr r, ())) () rules 0).1 = 0
  · rw [if_neg (by simpa using hu0)] at hR
    rw [partC_0 hu0] at hu
    refine r_callW _ _ [] [] _ [] [] hu rfl rfl rfl (by simp [X.fits, A.fits]) (by simp) ?_
    simp
    have hr := n2109 (G := G) 1 rules sp hl hs []
    generalize hY : firstE stepR [] rules 0 = Y at *
    obtain ⟨y1, y2, m⟩ := Y
    by_cases hy0 : y1 = 0
    · rw [if_neg (by simpa using hy0)] at hR
      rw [partC_0 hy0] at hr
      refine r_callW _ _ (On []) [] _ (On m) [] hr rfl rfl rfl (by simp [X.fits, A.fits]) (by simp) ?_
      simp
      simp only at hR
      by_cases h6 : facts.length > 65536
      · have h6' : (65536 : Int) < facts.length := by omega
        rw [if_pos h6] at hR
        subst hR
        simp [h6', refuse]
      rw [if_neg h6] at hR
      have h6' : ¬ (65536 : Int) < facts.length := by omega
      simp [h6']
      have hg := n2114 (G := G) 2 facts sq hfl hf m
      generalize hZ : firstE stepF m facts 0 = Z at *
      obtain ⟨z1, z2, m2⟩ := Z
      by_cases hz0 : z1 = 0
      · rw [if_neg (by simpa using hz0)] at hR
        rw [partC_0 hz0] at hg
        refine r_callW _ _ (On m) [] _ (On m2) [] hg rfl rfl rfl (by simp [X.fits, A.fits]) (by simp) ?_
        simp [pdRow_strike']
        simp only at hR
        have hw := n2119 (G := G) 3 [q] [] (by simp) (by simpa using hq) m2
        simp only [List.map_cons, List.map_nil] at hw
        generalize firstE stepQ m2 [q] 0 = W at *
        by_cases hw0 : W.1 = 0
        · rw [partC_0 hw0] at hw
          have hR2 : R = [cI .i8 0, cI .i64 0, cI .i64 0] := by rw [← hR]; simp [partC, hw0, refuse]
          subst hR2
          refine r_callW _ _ (On m2) [] _ (On W.2.2) [] hw rfl rfl rfl (by simp [X.fits, A.fits]) (by simp) ?_
          simp
        · rw [partC_n hw0] at hw
          have hR2 : R = [cI .i8 3, cI .i64 W.1, cI .i64 W.2.1] := by rw [← hR]; simp [partC, hw0, refuse]
          subst hR2
          refine r_callW _ _ (On m2) [] _ (On W.2.2) [] hw rfl rfl rfl (by simp [X.fits, A.fits]) (by simp) ?_
          simp
      · rw [if_pos hz0] at hR
        subst hR
        rw [partC_n hz0] at hg
        refine r_callW _ _ (On m) [] _ (On m2) [] hg rfl rfl rfl (by simp [X.fits, A.fits]) (by simp) ?_
        simp [hz0, refuse]
    · rw [if_pos hy0] at hR
      subst hR
      rw [partC_n hy0] at hr
      refine r_callW _ _ (On []) [] _ (On m) [] hr rfl rfl rfl (by simp [X.fits, A.fits]) (by simp) ?_
      simp [hy0, refuse]
  · rw [if_pos hu0] at hR
    subst hR
    rw [partC_n hu0] at hu
    refine r_callW _ _ [] [] _ [] [] hu rfl rfl rfl (by simp [X.fits, A.fits]) (by simp) ?_
    simp [hu0, refuse]
end Go.Proofs.Ytiomojlcnemnhaa

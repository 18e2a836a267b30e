import Derived.Test.YtiomojlcnemnhaaDoorKDxWd
import Derived.Test.YtiomojlcnemnhaaDoorKFxWb
import Derived.Test.YtiomojlcnemnhaaDoorProg
import Derived.KernelRfl
import Derived.Test.YtiomojlcnemnhaaDoorKDxX13
/- Plain words for TermOne: what the pairs of two atoms that can be made one say; blanks as variables of their own. -/
namespace Go.Proofs.YtiomojlcnemnhaaDoor
open Go.Fx Go.RowKit Go.Ped

theorem pairsOn_self : ∀ (l m : List Pr), (keys (m ++ l)).Nodup → (∀ p ∈ l, p.v ≠ [] ∧ p.v ≠ us) → pairsOn m l = m ++ l
  | [], m, _, _ => by simp [pairsOn]
  | p :: l, m, hn, hk => by
    have hp := hk p (List.mem_cons_self ..)
    have hnx : nextOf m p.v = none := by
      unfold nextOf
      rw [Option.map_eq_none_iff, List.find?_eq_none]
      intro q hq e
      have e : q.v = p.v := by simpa using e
      unfold keys at hn
      rw [List.map_append, List.nodup_append] at hn
      exact hn.2.2 q.v (List.mem_map_of_mem hq) p.v (List.mem_map_of_mem (List.mem_cons_self ..)) e
    rw [pairsOn, if_pos ⟨hnx, hp.1, hp.2⟩, pairsOn_self l (m ++ [p]) (by simpa using hn) fun q hq => hk q (List.mem_cons_of_mem _ hq)]
    simp
theorem putP_putS {s : List Pr} (hk : ∀ p ∈ s, p.v ≠ [] ∧ p.v ≠ us) (t : Tm) : putP s t = putS s t := by
  unfold putP putS nextOf
  by_cases h : t.v = [] ∨ t.v = us
  · rw [if_pos h]
    have : s.find? (·.v == t.v) = none := by
      rw [List.find?_eq_none]
      intro p hp e
      have e : p.v = t.v := by simpa using e
      rcases h with h | h
      · exact (hk p hp).1 (e.trans h)
      · exact (hk p hp).2 (e.trans h)
    rw [this]; rfl
  · rw [if_neg h]
    cases s.find? (·.v == t.v) with
    | none => rfl
    | some p => rfl

theorem unifyGo_some {p q : Name} {ts ws : List Tm} {s : List Pr} (h : unifyGo p ts q ws = some s) : p = q ∧ ts.length = ws.length ∧ atomOk p ts = true ∧ atomOk q ws = true ∧ ∃ c, goUnify [] ts ws = some c ∧ s = solve c := by
  unfold unifyGo at h
  split at h
  · rename_i hc
    simp only [Bool.and_eq_true, beq_iff_eq] at hc
    obtain ⟨c, hc1, hc2⟩ := Option.map_eq_some_iff.1 h
    exact ⟨hc.1.2, hc.2, hc.1.1.1, hc.1.1.2, c, hc1, hc2.symm⟩
  · cases h
theorem unifyGo_back (p q : Name) (ts ws : List Tm) : (unifyGo p ts q ws).isSome = (unifyGo q ws p ts).isSome := by
  unfold unifyGo
  have e : (atomOk q ws && atomOk p ts && q == p && ws.length == ts.length) = (atomOk p ts && atomOk q ws && p == q && ts.length == ws.length) := by
    rw [Bool.and_comm (atomOk q ws), Bool.eq_iff_iff]
    simp only [Bool.and_eq_true, beq_iff_eq]
    constructor <;> rintro ⟨⟨h1, h2⟩, h3⟩ <;> exact ⟨⟨h1, h2.symm⟩, h3.symm⟩
  rw [e]
  split
  · rename_i h
    simp only [Bool.and_eq_true] at h
    rw [Option.isSome_map, Option.isSome_map]
    exact unify_back (ok_bare h.1.1.1) (ok_bare h.1.1.2)
  · rfl

theorem nm_ok {c : UInt8} (h1 : 65 ≤ c.toNat) (h2 : c.toNat ≤ 90) {j : Nat} (hj : j < 120) : Tm.ok ⟨nm c j, zeroV⟩ = true := by
  have hw : wordOk 65 90 (nm c j) = true := by
    unfold nm wordOk
    have ho : okB c = true := by simp [okB, okN]; omega
    have ha : (List.replicate j (95 : UInt8)).all okB = true := by
      rw [List.all_eq_true]
      intro b hb
      rw [(List.mem_replicate.1 hb).2]
      rfl
    simp only [List.length_cons, List.length_replicate, ho, ha, Bool.and_true, Bool.and_eq_true, decide_eq_true_eq]
    omega
  unfold Tm.ok termOk
  rw [if_neg (by simp [nm])]
  simp [hw, zeroV]
theorem mute_ok {V : List Name} {c : UInt8} {p : Name} {ts : List Tm} (h1 : 65 ≤ c.toNat) (h2 : c.toNat ≤ 90) (hV : V.length ≤ 48) (ha : atomOk p ts = true) : atomOk p (muteL V c 0 ts) = true := by
  have h24 : ts.length ≤ 24 := by simp [atomOk] at ha; omega
  simp only [atomOk, Bool.and_eq_true, decide_eq_true_eq, List.all_eq_true, muteL_len] at ha ⊢
  refine ⟨ha.1, fun t ht => ?_⟩
  obtain ⟨i, hi⟩ := List.getElem?_of_mem ht
  have hl : i < ts.length := by rw [← muteL_len V c ts 0]; exact (List.getElem?_eq_some_iff.1 hi).1
  have e : ts[i]? = some ts[i] := List.getElem?_eq_getElem hl
  obtain ⟨q1, q2⟩ := muteL_at V c ts 0 i _ e
  by_cases hb : ts[i].v = us
  · obtain ⟨j, _, _, j3, _, j5⟩ := q2 hb
    rw [j5] at hi
    injection hi with hi
    subst hi
    have k1 := (muteK_le V c (ts.take (i + 1)) 0).1
    have k2 := shortV_le V (muteK V c 0 (ts.take (i + 1)))
    have k3 : (ts.take (i + 1)).length ≤ ts.length := by simp; omega
    exact nm_ok h1 h2 (by omega)
  · rw [q1 hb] at hi
    injection hi with hi
    subst hi
    exact ha.2 _ (List.getElem_mem hl)
theorem tmV_mem {ts : List Tm} : ∀ t ∈ ts, t.v ≠ [] → t.v ≠ us → t.v ∈ tmVars ts := fun t ht h1 h2 => by
  unfold tmVars
  have hv : Go.Ped.isVar t.v = true := by simp [Go.Ped.isVar, h1, h2]
  exact mem_varsOn.2 (.inr ⟨hv, List.mem_map_of_mem ht⟩)
theorem one_mute {p q : Name} {ts ws : List Tm} (ha : atomOk p ts = true) (hb : atomOk q ws = true) : (unifyGo p (muteL (tmVars ts ++ tmVars ws) 65 0 ts) q (muteL (tmVars ts ++ tmVars ws) 66 0 ws)).isSome = (unifyGo p ts q ws).isSome := by
  have h24 : ts.length ≤ 24 := by simp [atomOk] at ha; omega
  have k24 : ws.length ≤ 24 := by simp [atomOk] at hb; omega
  have hV : (tmVars ts ++ tmVars ws).length ≤ 48 := by
    have := tmV_len ts; have := tmV_len ws; rw [List.length_append]; omega
  have ma := mute_ok (V := tmVars ts ++ tmVars ws) (c := 65) (by decide) (by decide) hV ha
  have mb := mute_ok (V := tmVars ts ++ tmVars ws) (c := 66) (by decide) (by decide) hV hb
  unfold unifyGo
  rw [ma, mb, ha, hb, muteL_len, muteL_len]
  split
  · rw [Option.isSome_map, Option.isSome_map]
    exact unify_mute (by decide) (ok_bare ha) (ok_bare hb) (fun t ht n1 n2 => List.mem_append_left _ (tmV_mem t ht n1 n2)) (fun t ht n1 n2 => List.mem_append_right _ (tmV_mem t ht n1 n2))
  · rfl

theorem one_some {p q : Name} {ts ws : List Tm} {s : List Pr} (h : unifyGo p ts q ws = some s) : p = q ∧ ts.length = ws.length ∧ s.length ≤ 24 ∧ ∃ X Y : List Tm, ts.map (putP (pairsOn [] s)) = X ∧ ws.map (putP (pairsOn [] s)) = Y ∧ X.map (putP (pairsOn [] s)) = X ∧ Y.map (putP (pairsOn [] s)) = Y ∧ X.length = ts.length ∧ Y.length = ts.length ∧
    (∀ i (h1 : i < ts.length) (h2 : i < ws.length) (h3 : i < X.length) (h4 : i < Y.length), ts[i].v ≠ us → ws[i].v ≠ us → X[i] = Y[i]) ∧
    (∀ i (hi : i < s.length), s[i].v ≠ [] ∧ s[i].v ≠ us ∧ s[i].t.v ≠ us ∧ ∀ k (hk : k < s.length), s[k].t.v ≠ s[i].v ∧ (k ≠ i → s[k].v ≠ s[i].v)) := by
  have hl : s.length ≤ 24 := unify_len (by rw [← unifyGo_eq]; exact h)
  obtain ⟨rfl, hlen, ha, hb, c, hc, rfl⟩ := unifyGo_some h
  have ba := ok_bare ha
  have bb := ok_bare hb
  have hg := goUnify_good ts ws [] .nil ba bb c hc
  obtain ⟨_, hn, hcol⟩ := unify_cols hc (fun p hp => by cases hp) .nil ba bb
  have hs := solved hg hn
  have hnd : (keys (solve c)).Nodup := by rw [keys_solve]; exact hg.nodup
  have hk : ∀ p ∈ solve c, p.v ≠ [] ∧ p.v ≠ us := fun p hp => ⟨(hs p hp).1, (hs p hp).2.1⟩
  have hpo : pairsOn [] (solve c) = solve c := by
    have := pairsOn_self (solve c) [] (by simpa using hnd) hk
    simpa using this
  have hput : ∀ t, putP (solve c) t = endOf c t := fun t => by rw [putP_putS hk, hg.put]
  have htw : ∀ t, putP (solve c) (putP (solve c) t) = putP (solve c) t := fun t => by
    rw [putP_putS hk, putP_putS hk]; exact put_twice hg t
  rw [hpo]
  refine ⟨rfl, hlen, hl, _, _, rfl, rfl, ?_, ?_, by simp, by simp [hlen], fun i h1 h2 h3 h4 n1 n2 => ?_, fun i hi => ?_⟩
  · rw [List.map_map]; exact List.map_congr_left fun t _ => htw t
  · rw [List.map_map]; exact List.map_congr_left fun t _ => htw t
  · rw [List.getElem_map, List.getElem_map, hput, hput]
    exact hcol i _ _ (List.getElem?_eq_getElem h1) (List.getElem?_eq_getElem h2) n1 n2
  · obtain ⟨s1, s2, s3, s4⟩ := hs _ (List.getElem_mem hi)
    refine ⟨s1, s2, s3, fun k hk => ⟨fun e => ?_, fun hne e => ?_⟩⟩
    · exact (hs _ (List.getElem_mem hk)).2.2.2 (by rw [e]; exact List.mem_map_of_mem (List.getElem_mem hi))
    · have hki : k < (keys (solve c)).length := by simpa [keys] using hk
      have hii : i < (keys (solve c)).length := by simpa [keys] using hi
      have e' : (keys (solve c))[k] = (keys (solve c))[i] := by simpa [keys] using e
      exact hne ((List.getElem_inj hnd).1 e')
end Go.Proofs.YtiomojlcnemnhaaDoor

/- Functions of the seat, as the small language has them. -/
namespace Go.Proofs.YtiomojlcnemnhaaDoor
open Go.Fx

/-- pedigree/pedigreelaw01.SameAtom -/
def ic55 : IC :=
 (.seq
 (.region [2, 3] [] [0, 1, 2, 3, 4] [
 ⟨(some 2), (.box 24 (.t 0)), none, none⟩,
 ⟨(some 3), (.box 24 (.t 1)), none, none⟩,
 ⟨(some 4), (.move (.k (rB false))), none, none⟩])
 (.seq
 (.region [] [] [0, 1, 2, 3, 4] [
 ⟨(some 5), (.faddr 0 (.t 2)), none, none⟩,
 ⟨(some 6), (.load none (.t 5)), none, none⟩,
 ⟨(some 7), (.faddr 0 (.t 3)), none, none⟩,
 ⟨(some 8), (.load none (.t 7)), none, none⟩,
 ⟨(some 9), (.bin .eql (.t 6) (.t 8)), none, none⟩,
 ⟨(some 10), (.move (.t 9)), none, none⟩,
 ⟨(some 11), (.faddr 1 (.t 2)), some (10, true), none⟩,
 ⟨(some 12), (.load none (.t 11)), some (10, true), none⟩,
 ⟨(some 13), (.faddr 1 (.t 3)), some (10, true), none⟩,
 ⟨(some 14), (.load none (.t 13)), some (10, true), none⟩,
 ⟨(some 15), (.callp (.k (rF 129)) [(.t 12), (.t 14)]), some (10, true), none⟩,
 ⟨(some 16), (.pick (.t 10) (.t 15) (.k (rB false))), none, none⟩,
 ⟨(some 4), (.move (.t 16)), none, none⟩])
 .ret))
def ir55 : List IRes := [.tmp 4]
theorem ie55 : cmpFunc Go.Proofs.Tryd.prog ⟨[], []⟩ Go.Proofs.Tryd.f55 [0, 1, 2, 3, 4] = some ic55 := by kernel_rfl
theorem ig55 : cmpRes Go.Proofs.Tryd.prog Go.Proofs.Tryd.f55.results.toList = some ir55 := by kernel_rfl


end Go.Proofs.YtiomojlcnemnhaaDoor

/- Contracts, on: the program's walk over a rule; a rule's terms and variables. -/
namespace Go.Proofs.YtiomojlcnemnhaaDoor
open Go.Fx Go.RowKit Go.Ped
variable {G : World → Prop}

end Go.Proofs.YtiomojlcnemnhaaDoor

/- Contracts, on: rules: what they may be. -/
namespace Go.Proofs.YtiomojlcnemnhaaDoor
open Go.Fx Go.RowKit Go.Ped
variable {G : World → Prop}

end Go.Proofs.YtiomojlcnemnhaaDoor

/- Contracts, on: copies of rules, looked at again; heads; the law on rules. -/
namespace Go.Proofs.YtiomojlcnemnhaaDoor
open Go.Fx Go.RowKit Go.Ped
variable {G : World → Prop}

theorem m55 (p q : Name) (l m : List Tm) (sp sq : List (List C)) (hl : l.length ≤ maxLen) : Meets Tryd.prog G 55 [.agg [cS (bs p), .sl (l.map Tm.row) sp], .agg [cS (bs q), .sl (m.map Tm.row) sq]] (.x (.one (cB (p == q && decide (l = m))))) := by
  refine meets Tryd.func55 ie55 ig55 (Nat.le_of_ble_eq_true rfl) ?_
  simp [ic55, ir55]
  refine call_i (fun _ => m129 l m sp sq hl) ?_
  simp

end Go.Proofs.YtiomojlcnemnhaaDoor

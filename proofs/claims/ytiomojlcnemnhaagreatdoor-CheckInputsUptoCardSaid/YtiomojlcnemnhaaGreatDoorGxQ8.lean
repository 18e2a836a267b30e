/- Contracts, on: a rule as a user may hand it in, the program's way and the document's. (Labels of 2000 and more: seat ZD.) -/
import Derived.Test.YtiomojlcnemnhaaGreatDoorGxQ7
import Derived.Test.YtiomojlcnemnhaaGreatDoorGxIcU
namespace Go.Proofs.YtiomojlcnemnhaaGreatDoor
open Go.Fx Go.RowKit Go.Ped
variable {G : World → Prop}

def stepErr (w e : Int) : Int := if e = 70 ∨ w = 0 then e else w
def litsErr : Int → List Lit → Int
  | w, [] => w
  | w, x :: l => litsErr (if x.kind = 3 then w else stepErr w (sizeErr x.p x.l.length)) l
def firstW (r : Rule) : Int := if r.body.length > 12 ∨ (tmVars r.terms).any longN = true then 70 else sizeErr r.p r.head.length
def userErr (r : Rule) : Int := if ruleOk r then (if litsErr (firstW r) r.body = 0 then ruleErr r else litsErr (firstW r) r.body) else 40

theorem ok_small {r : Rule} (h : ruleOk r = true) : (tmVars r.terms).length ≤ 24 := by
  simp only [ruleOk, Bool.and_eq_true, decide_eq_true_eq] at h
  exact h.2

theorem m2110 (r : Rule) (hr : r.fit) : Meets Tryz.prog G 110 [.agg r.row] (.x (.one (cI .i64 (userErr r)))) := by
  have h85 := m85 (G := G) r hr
  obtain ⟨hs, hf, hl, hb⟩ := hr
  have h66 := m66 (G := G) r hs (by omega)
  have h68 := m68 (G := G) r hs (by omega)
  have hbl := hs.2.1
  refine meets Tryz.func110 ie2110 ig2110 (Nat.le_of_ble_eq_true rfl) ?_
  simp [ic2110, ir2110]
  refine call_of h66 ?_
  simp
  by_cases hk : ruleOk r = true
  · have h24 := ok_small hk
    have hu : userErr r = if litsErr (firstW r) r.body = 0 then ruleErr r else litsErr (firstW r) r.body := by unfold userErr; rw [if_pos hk]
    rw [hu]
    have key : ∀ (w : Int) (K : Exit → S → Prop), w = firstW r → True := fun _ _ _ => trivial
    clear key
    simp [hk]
    refine call_of (m2117 r.p r.head.length) ?_
    simp
    refine call_i (fun _ => h68) ?_
    simp
    refine call_i (fun _ => m2122 (tmVars r.terms) [] (by omega)) ?_
    simp
    refine condI_of (fun h => ?_) (fun h => ?_)
    rotate_left
    · have e : firstW r = sizeErr r.p r.head.length := by
        unfold firstW
        rw [if_neg]
        simp at h
        rintro (h1 | h1)
        · omega
        · have := h.2; simp at h1; obtain ⟨x, hx, hx2⟩ := h1; simp [this x hx] at hx2
      simp [← e]
      refine w_loopA [] [6] [1, 4, 29, 30, 31] (by simp [ownKey])
        (fun a : Nat × Int => st [(1, .k true (.x (.one (.ref 1 0 0)))), (4, tI .i64 a.2), (29, .k true (.x (.one (.c (.sl (r.body.map Lit.row) r.bsp))))), (30, tI .i64 r.body.length), (31, tI .i64 a.1)] [(1, ⟨29, 3, [r.row.map A.c], none⟩)] [] F0) (fun a => r.body.length - a.1)
        (fun a => a.1 ≤ r.body.length ∧ litsErr (firstW r) r.body = litsErr a.2 (r.body.drop a.1)) (0, firstW r) (by simp) (by simp) ?_
      rintro ⟨i, w⟩ K hK ⟨hi, hd⟩
      simp only at hi hd
      obtain hlt | hge := Nat.lt_or_ge i r.body.length
      · rw [List.drop_eq_getElem_cons hlt, litsErr] at hd
        by_cases k3 : r.body[i].kind = 3
        · rw [if_pos k3] at hd
          simp [ic2110l0, hlt, k3]
          simp (disch := omega) only [wrap64]
          exact hK (i + 1, w) _ (by simp) ⟨by simp; omega, hd⟩ (by simp; omega)
        · rw [if_neg k3] at hd
          simp [ic2110l0, hlt, k3]
          refine call_of (m2117 r.body[i].p r.body[i].l.length) ?_
          simp
          refine condI_of (fun h7 => ?_) (fun h7 => ?_)
          · have e7 : stepErr w (sizeErr r.body[i].p r.body[i].l.length) = sizeErr r.body[i].p r.body[i].l.length := by
              simp at h7; simp [stepErr, h7]
            rw [e7] at hd
            simp
            simp (disch := omega) only [wrap64]
            exact hK (i + 1, sizeErr r.body[i].p r.body[i].l.length) _ (by simp) ⟨by simp; omega, hd⟩ (by simp; omega)
          · have e7 : stepErr w (sizeErr r.body[i].p r.body[i].l.length) = w := by
              simp at h7; simp [stepErr, h7]
            rw [e7] at hd
            simp
            simp (disch := omega) only [wrap64]
            exact hK (i + 1, w) _ (by simp) ⟨by simp; omega, hd⟩ (by simp; omega)
      · rw [List.drop_eq_nil_of_le hge, litsErr] at hd
        rw [hd]
        simp [ic2110l0, Nat.not_lt.mpr hge]
        by_cases h0 : w = 0
        · simp [h0]
          refine call_of h85 ?_
          simp
        · simp [h0]
    · have e : firstW r = 70 := by
        unfold firstW
        rw [if_pos]
        simp at h
        rcases h with h | h
        · exact .inl (by omega)
        · exact .inr (by simpa using h)
      simp [← e]
      refine w_loopA [] [6] [1, 4, 29, 30, 31] (by simp [ownKey])
        (fun a : Nat × Int => st [(1, .k true (.x (.one (.ref 1 0 0)))), (4, tI .i64 a.2), (29, .k true (.x (.one (.c (.sl (r.body.map Lit.row) r.bsp))))), (30, tI .i64 r.body.length), (31, tI .i64 a.1)] [(1, ⟨29, 3, [r.row.map A.c], none⟩)] [] F0) (fun a => r.body.length - a.1)
        (fun a => a.1 ≤ r.body.length ∧ litsErr (firstW r) r.body = litsErr a.2 (r.body.drop a.1)) (0, firstW r) (by simp) (by simp) ?_
      rintro ⟨i, w⟩ K hK ⟨hi, hd⟩
      simp only at hi hd
      obtain hlt | hge := Nat.lt_or_ge i r.body.length
      · rw [List.drop_eq_getElem_cons hlt, litsErr] at hd
        by_cases k3 : r.body[i].kind = 3
        · rw [if_pos k3] at hd
          simp [ic2110l0, hlt, k3]
          simp (disch := omega) only [wrap64]
          exact hK (i + 1, w) _ (by simp) ⟨by simp; omega, hd⟩ (by simp; omega)
        · rw [if_neg k3] at hd
          simp [ic2110l0, hlt, k3]
          refine call_of (m2117 r.body[i].p r.body[i].l.length) ?_
          simp
          refine condI_of (fun h7 => ?_) (fun h7 => ?_)
          · have e7 : stepErr w (sizeErr r.body[i].p r.body[i].l.length) = sizeErr r.body[i].p r.body[i].l.length := by
              simp at h7; simp [stepErr, h7]
            rw [e7] at hd
            simp
            simp (disch := omega) only [wrap64]
            exact hK (i + 1, sizeErr r.body[i].p r.body[i].l.length) _ (by simp) ⟨by simp; omega, hd⟩ (by simp; omega)
          · have e7 : stepErr w (sizeErr r.body[i].p r.body[i].l.length) = w := by
              simp at h7; simp [stepErr, h7]
            rw [e7] at hd
            simp
            simp (disch := omega) only [wrap64]
            exact hK (i + 1, w) _ (by simp) ⟨by simp; omega, hd⟩ (by simp; omega)
      · rw [List.drop_eq_nil_of_le hge, litsErr] at hd
        rw [hd]
        simp [ic2110l0, Nat.not_lt.mpr hge]
        by_cases h0 : w = 0
        · simp [h0]
          refine call_of h85 ?_
          simp
        · simp [h0]
  · simp [hk, userErr]

theorem m2212 (v : Name) : Meets Tryz.prog G 212 [.one (cS (bs v))] (.x (.one (cB (qq.isPrefixOf v)))) := by
  refine meets Tryz.func212 ie2212 ig2212 (Nat.le_of_ble_eq_true rfl) ?_
  by_cases h : 2 ≤ v.length
  · have h' : (2 : Int) ≤ v.length := by omega
    have e2 := bs_extract v 2
    simp [ic2212, ir2212, h', e2]
    rw [Bool.eq_iff_iff]
    simp only [beq_iff_eq, List.isPrefixOf_iff_prefix]
    exact ⟨fun e => by rw [show qq = v.take 2 from e.symm]; exact List.take_prefix _ _, fun e => (List.prefix_iff_eq_take.1 e).symm⟩
  · have h' : ¬ (2 : Int) ≤ v.length := by omega
    have : qq.isPrefixOf v = false := by
      cases e : qq.isPrefixOf v with
      | false => rfl
      | true => exact absurd (List.IsPrefix.length_le (List.isPrefixOf_iff_prefix.1 e)) h
    simp [ic2212, ir2212, h', this]

theorem m2215 (l : List Name) (sp : Sp) (hl : l.length ≤ 1048576) : Meets Tryz.prog G 215 [.one (.sl (l.map nmRow) sp)] (.x (.one (cB (l.any longN)))) := by
  refine meets Tryz.func215 ie2215 ig2215 (Nat.le_of_ble_eq_true rfl) ?_
  generalize hR : l.any longN = R
  simp [ic2215, ir2215]
  refine w_loopA [] [] [0, 3] (by simp)
    (fun i : Nat => st [(0, .k true (.x (.one (.c (.sl (l.map nmRow) sp))))), (3, tI .i64 i)] [] [] F0) (fun i => l.length - i)
    (fun i => i ≤ l.length ∧ R = (l.drop i).any longN) 0 (by simp) (by simp [hR]) ?_
  rintro i K hK ⟨hi, hd⟩
  obtain hlt | hge := Nat.lt_or_ge i l.length
  · rw [List.drop_eq_getElem_cons hlt, List.any_cons] at hd
    simp [ic2215l0, hlt]
    refine condI_of (fun h => ?_) (fun h => ?_)
    · have : longN l[i] = true := by simp at h; simp [longN]; omega
      simp [hd, this]
    · have : longN l[i] = false := by simp at h; simp [longN]; omega
      simp
      simp (disch := omega) only [wrap64]
      exact hK (i + 1) _ (by simp) ⟨by omega, by rw [hd, this]; simp⟩ (by omega)
  · rw [List.drop_eq_nil_of_le hge] at hd
    simp [ic2215l0, Nat.not_lt.mpr hge, hd]
end Go.Proofs.YtiomojlcnemnhaaGreatDoor

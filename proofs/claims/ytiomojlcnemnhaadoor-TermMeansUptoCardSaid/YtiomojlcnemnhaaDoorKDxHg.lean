/- The law TermMeans. -/
import Derived.Test.YtiomojlcnemnhaaDoorKDxW5
namespace Go.Proofs.YtiomojlcnemnhaaDoor
open Go.Fx Go.RowKit Go.Ped
variable {G : World → Prop}

abbrev resR (x : Val) (ok : Bool) : CR := .tup [.agg x.row, .one (cB ok)]
theorem optR_eq (R : Option Val) : optR R = resR (R.getD zeroV) R.isSome := rfl
theorem tmVars_length (l : List Tm) : (tmVars l).length ≤ l.length := by
  have := varsOn_length (l.map Tm.v) []
  simpa using this

set_option maxHeartbeats 8000000 in
theorem m4 (e : Ex) (L : List Tm) (sq : Sp) (more : List Tm) (sm : Sp) (hs : e.small 1048576) (ht : e.terms.length + more.length ≤ 1048576) (hL : L.length ≤ 1048576) : Meets Tryd.prog GK 4 [.agg e.row, .one (.sl (L.map Tm.row) sq), .one (.sl (more.map Tm.row) sm)] (.x (.one (cB true))) := by
  have h25 := m25 (G := GK) e hs
  generalize decide (exParts e 1048576 > 1048576) = big at h25
  have h26 := m26 e L sq hs hL
  have h27 := m27 (G := GK) e hs
  have h28 := m28 (G := GK) e hs (by omega)
  have hrow : e.row = [cI .i8 e.op, cS (bs e.t.v), cI .i8 e.t.x.k, cI .i64 e.t.x.n, cS (bs e.t.x.s), .sl (e.kids.map Ex.row) e.sp] := Ex.row_eq e
  by_cases hok : exOk 8 e = true
  · rw [hok] at h26 h27
    simp only [if_true] at h26 h27
    generalize hR : e.val L = R at h26
    rw [optR_eq] at h26
    generalize hx : R.getD zeroV = x at h26
    generalize hb : R.isSome = ok at h26
    generalize hV : tmVars e.terms = V at h28
    have hVl : V.length ≤ e.terms.length := by rw [← hV]; exact tmVars_length _
    rw [hrow] at h25 h26 h27 h28 ⊢
    refine meets Tryd.func4 ie4 ig4 (Nat.le_of_ble_eq_true rfl) ?_
    simp [ic4, ir4]
    refine call_of h25 ?_
    cases big with
    | true => simp
    | false =>
    simp
    refine call_of m19 ?_
    simp
    refine call_of h26 ?_
    simp [Val.row]
    refine call_of h27 ?_
    simp
    refine call_of h28 ?_
    simp
    refine w_loopA [.t 300 10 54 4] [81] [1, 2, 3, 6, 7, 8, 9, 10, 11, 12] (by simp [ownKey])
      (fun z : Nat × List Tm × Bool => st [(1, .k true (.x (.one (.c (.sl (L.map Tm.row) sq))))), (2, .k true (.x (.one (.c (.sl (more.map Tm.row) sm))))), (3, .k true (.x (.one (.ref 3 0 0)))), (6, tB false), (7, .k true (.x (.one (.ref 7 0 0)))), (8, .k true (rB ok)), (9, .k true (.x (.one (.c (.sl (V.map nmRow) []))))), (10, .k true (.x (.one (.own 300 (z.2.1.map Tm.row))))), (11, .k true (rB z.2.2)), (12, tI .i64 z.1)]
        [(7, ⟨39, 3, [[.c (cI .i8 x.k), .c (cI .i64 x.n), .c (cS (bs x.s))]], none⟩), (3, ⟨47, 6, [[.c (cI .i8 e.op), .c (cS (bs e.t.v)), .c (cI .i8 e.t.x.k), .c (cI .i64 e.t.x.n), .c (cS (bs e.t.x.s)), .c (.sl (e.kids.map Ex.row) e.sp)]], none⟩)] [(300, ⟨54, 4, z.2.1.length⟩)] F0) (fun z => V.length - z.1)
      (fun z => z.1 ≤ V.length ∧ z.2.1.length ≤ z.1 ∧ ownOf L V = z.2.1 ++ ownOf L (V.drop z.1) ∧ allOf L V = (z.2.2 && allOf L (V.drop z.1))) (0, [], true) (by simp; try rfl) (by simp) ?_
    rintro ⟨i, own, all⟩ K hK ⟨hi, hol, how, hal⟩
    simp only at hi hol how hal
    obtain hlt | hge := Nat.lt_or_ge i V.length
    · rw [List.drop_eq_getElem_cons hlt] at how hal
      simp [ic4l3, hlt]
      generalize hvi : V[i] = v at how hal
      rw [ownOf, allOf] at *
      refine w_loopA [] [81] [1, 2, 3, 6, 7, 8, 9, 10, 11, 12, 13, 14] (by simp [ownKey])
        (fun z : Nat × Option Tm => st [(1, .k true (.x (.one (.c (.sl (L.map Tm.row) sq))))), (2, .k true (.x (.one (.c (.sl (more.map Tm.row) sm))))), (3, .k true (.x (.one (.ref 3 0 0)))), (6, tB false), (7, .k true (.x (.one (.ref 7 0 0)))), (8, .k true (rB ok)), (9, .k true (.x (.one (.c (.sl (V.map nmRow) []))))), (10, .k true (.x (.one (.own 300 ((own ++ z.2.toList).map Tm.row))))), (11, .k true (rB (all && z.2.all fun q => q.x.ok))), (12, tI .i64 i), (13, .k true (rB z.2.isSome)), (14, tI .i64 z.1)]
          [(7, ⟨39, 3, [[.c (cI .i8 x.k), .c (cI .i64 x.n), .c (cS (bs x.s))]], none⟩), (3, ⟨47, 6, [[.c (cI .i8 e.op), .c (cS (bs e.t.v)), .c (cI .i8 e.t.x.k), .c (cI .i64 e.t.x.n), .c (cS (bs e.t.x.s)), .c (.sl (e.kids.map Ex.row) e.sp)]], none⟩)] [(300, ⟨54, 4, (own ++ z.2.toList).length⟩)] F0) (fun z => L.length - z.1)
        (fun z => z.1 ≤ L.length ∧ match z.2 with | none => L.find? (·.v == v) = (L.drop z.1).find? (·.v == v) | some q => L.find? (·.v == v) = some q) (0, none) (by simp) (by simp) ?_
      rintro ⟨k, o⟩ K2 hK2 ⟨hk, ho⟩
      cases o with
      | some q =>
        simp only at hk ho
        rw [ho] at how hal
        simp only at how hal
        by_cases hkl : k < L.length
        · simp [ic4l2, hkl]
          simp (disch := omega) only [w64]
          exact hK (i + 1, own ++ [q], all && q.x.ok) _ (by simp) ⟨by simp only; omega, by simp; omega, by simp only; rw [how]; simp, by simp only; rw [hal]; cases all <;> simp⟩ (by simp only; omega)
        · simp [ic4l2, hkl]
          simp (disch := omega) only [w64]
          exact hK (i + 1, own ++ [q], all && q.x.ok) _ (by simp) ⟨by simp only; omega, by simp; omega, by simp only; rw [how]; simp, by simp only; rw [hal]; cases all <;> simp⟩ (by simp only; omega)
      | none =>
        simp only at hk ho
        by_cases hkl : k < L.length
        · rw [List.drop_eq_getElem_cons hkl, List.find?_cons] at ho
          have hr : L[k].row = [cS (bs L[k].v), cI .i8 L[k].x.k, cI .i64 L[k].x.n, cS (bs L[k].x.s)] := rfl
          by_cases hv : L[k].v = v
          · have hv' : (L[k].v == v) = true := by simpa using hv
            rw [hv'] at ho
            simp only at ho
            simp [ic4l2, ic4c1, hkl, hlt, hr, hvi, hv]
            refine ⟨by unfold maxLen; omega, by unfold maxBytes; omega, ?_⟩
            refine call_i (fun _ => m29 L[k].x.k L[k].x.n L[k].x.s) ?_
            simp
            simp (disch := omega) only [w64]
            exact hK2 (k + 1, some L[k]) _ (by cases hvo : valOk L[k].x.k L[k].x.n L[k].x.s <;> simp [hr, hv, Val.ok, hvo]) ⟨by simp only; omega, ho⟩ (by simp only; omega)
          · have hv' : (L[k].v == v) = false := by simpa using hv
            rw [hv'] at ho
            simp only at ho
            simp [ic4l2, ic4c1, hkl, hlt, hr, hvi, hv]
            simp (disch := omega) only [w64]
            exact hK2 (k + 1, none) _ (by simp) ⟨by simp only; omega, ho⟩ (by simp only; omega)
        · rw [List.drop_eq_nil_of_le (by omega), List.find?_nil] at ho
          rw [ho] at how hal
          simp only [Bool.false_and, Bool.and_false] at how hal
          simp [ic4l2, hkl]
          simp (disch := omega) only [w64]
          exact hK (i + 1, own, false) _ (by simp) ⟨by simp only; omega, by simp only; omega, how, by simp only; rw [hal]; rfl⟩ (by simp only; omega)
    · rw [List.drop_eq_nil_of_le hge] at how hal
      simp only [ownOf, allOf, List.append_nil, Bool.and_true] at how hal
      simp [ic4l3, Nat.not_lt.mpr hge]
      have hown : e.val own = R := by rw [← how, ← hV, val_own hok]; exact hR
      have h26o := m26 e own [] hs (by omega)
      rw [hok] at h26o
      simp only [if_true] at h26o
      rw [hown, optR_eq, hx, hb, hrow] at h26o
      have hno : all = false → ok = false := fun h => by
        rw [h, ← hV] at hal
        rw [← hb, ← hR, none_of hok hal]; rfl
      refine call_of h26o ?_
      simp [Val.row]
      have hg : (!all && ok) = false := by cases all <;> simp [hno]
      simp [hg]
      have hal' : allOf L V = all := hal
      refine w_loopA [] [15, 139] [1, 2, 3, 6, 7, 8, 9, 10, 11, 17] (by simp [ownKey])
        (fun z : Nat × List Tm × Option Nat => st [(1, .k true (.x (.one (.c (.sl (L.map Tm.row) sq))))), (2, .k true (.x (.one (.c (.sl (more.map Tm.row) sm))))), (3, .k true (.x (.one (.ref 3 0 0)))), (6, tB false), (7, .k true (.x (.one (.ref 7 0 0)))), (8, .k true (rB ok)), (9, .k true (.x (.one (.c (.sl (V.map nmRow) []))))), (10, .k true (.x (.one (.own (match z.2.2 with | none => 300 | some _ => 153) (z.2.1.map Tm.row))))), (11, .k true (rB all)), (17, tI .i64 z.1)]
          [(7, ⟨39, 3, [[.c (cI .i8 x.k), .c (cI .i64 x.n), .c (cS (bs x.s))]], none⟩), (3, ⟨47, 6, [[.c (cI .i8 e.op), .c (cS (bs e.t.v)), .c (cI .i8 e.t.x.k), .c (cI .i64 e.t.x.n), .c (cS (bs e.t.x.s)), .c (.sl (e.kids.map Ex.row) e.sp)]], none⟩)] (match z.2.2 with | none => [(300, ⟨54, 4, z.2.1.length⟩)] | some c => [(153, ⟨54, 4, z.2.1.length⟩), (300, ⟨54, 4, c⟩)]) F0) (fun z => more.length - z.1)
        (fun z => z.1 ≤ more.length ∧ z.2.1.length ≤ V.length + z.1 ∧ moreOn V all own more = moreOn V all z.2.1 (more.drop z.1)) (0, own, none) (by simp) (by simp; omega) ?_
      rintro ⟨j, own2, o⟩ K2 hK2 ⟨hj, hol2, hm⟩
      simp only at hj hol2 hm
      have hVm : V.length + more.length ≤ 1048576 := by omega
      obtain hlt2 | hge2 := Nat.lt_or_ge j more.length
      · rw [List.drop_eq_getElem_cons hlt2, moreOn] at hm
        cases o with
        | none =>
          have hr : more[j].row = [cS (bs more[j].v), cI .i8 more[j].x.k, cI .i64 more[j].x.n, cS (bs more[j].x.s)] := rfl
          have h30 := m30 (G := GK) more[j].v V [] (by unfold maxLen; omega)
          by_cases hc1 : V.contains more[j].v = true
          · rw [hc1] at h30
            cases all with
            | true =>
              rw [hc1, Bool.true_and, if_pos rfl] at hm
              simp [ic4l7, hlt2, hr]
              refine call_of h30 ?_
              simp [ic4c4, hlt2, hr]
              refine ⟨by unfold maxLen; omega, by unfold maxBytes; omega, ?_⟩
              simp (disch := omega) only [w64]
              exact hK2 (j + 1, own2 ++ [more[j]], none) _ (by simp [hr]) ⟨by simp only; omega, by simp; omega, hm⟩ (by simp only; omega)
            | false =>
              rw [hc1, Bool.true_and, if_neg (by simp), if_pos rfl] at hm
              simp [ic4l7, hlt2, hr]
              refine call_of h30 ?_
              simp [ic4c6, hlt2, hr]
              refine call_of h30 ?_
              simp
              simp (disch := omega) only [w64]
              exact hK2 (j + 1, own2, none) _ (by simp) ⟨by simp only; omega, by simp only; omega, hm⟩ (by simp only; omega)
          · have hc2 : V.contains more[j].v = false := by simpa using hc1
            rw [hc2] at h30
            rw [hc2, Bool.false_and, if_neg (by simp), if_neg (by simp)] at hm
            simp [ic4l7, hlt2, hr]
            refine call_of h30 ?_
            simp [ic4c6, ic4c5, hlt2, hr]
            refine call_of h30 ?_
            simp [hlt2, hr]
            refine ⟨by unfold maxLen; omega, by unfold maxBytes; omega, ?_⟩
            simp (disch := omega) only [w64]
            exact hK2 (j + 1, more[j] :: own2, (some own2.length)) _ (by simp [hr, Nat.add_comm 1 own2.length]) ⟨by simp only; omega, by simp; omega, hm⟩ (by simp only; omega)
        | some c =>
          have hr : more[j].row = [cS (bs more[j].v), cI .i8 more[j].x.k, cI .i64 more[j].x.n, cS (bs more[j].x.s)] := rfl
          have h30 := m30 (G := GK) more[j].v V [] (by unfold maxLen; omega)
          by_cases hc1 : V.contains more[j].v = true
          · rw [hc1] at h30
            cases all with
            | true =>
              rw [hc1, Bool.true_and, if_pos rfl] at hm
              simp [ic4l7, hlt2, hr]
              refine call_of h30 ?_
              simp [ic4c4, hlt2, hr]
              refine ⟨by unfold maxLen; omega, by unfold maxBytes; omega, ?_⟩
              simp (disch := omega) only [w64]
              exact hK2 (j + 1, own2 ++ [more[j]], (some c)) _ (by simp [hr]) ⟨by simp only; omega, by simp; omega, hm⟩ (by simp only; omega)
            | false =>
              rw [hc1, Bool.true_and, if_neg (by simp), if_pos rfl] at hm
              simp [ic4l7, hlt2, hr]
              refine call_of h30 ?_
              simp [ic4c6, hlt2, hr]
              refine call_of h30 ?_
              simp
              simp (disch := omega) only [w64]
              exact hK2 (j + 1, own2, (some c)) _ (by simp) ⟨by simp only; omega, by simp only; omega, hm⟩ (by simp only; omega)
          · have hc2 : V.contains more[j].v = false := by simpa using hc1
            rw [hc2] at h30
            rw [hc2, Bool.false_and, if_neg (by simp), if_neg (by simp)] at hm
            simp [ic4l7, hlt2, hr]
            refine call_of h30 ?_
            simp [ic4c6, ic4c5, hlt2, hr]
            refine call_of h30 ?_
            simp [hlt2, hr]
            refine ⟨by unfold maxLen; omega, by unfold maxBytes; omega, ?_⟩
            simp (disch := omega) only [w64]
            exact hK2 (j + 1, more[j] :: own2, (some c)) _ (by simp [hr, Nat.add_comm 1 own2.length]) ⟨by simp only; omega, by simp; omega, hm⟩ (by simp only; omega)
      · rw [List.drop_eq_nil_of_le hge2, moreOn] at hm
        have hown2 : e.val own2 = R := by
          rw [← hm, ← how, ← hal', ← hV, val_more hok]; exact hR
        have h26m := m26 e own2 [] hs (by omega)
        rw [hok] at h26m
        simp only [if_true] at h26m
        rw [hown2, optR_eq, hx, hb, hrow] at h26m
        have hasm : all = true → ∀ t ∈ e.terms, Ped.isVar t.v = true → HasV own2 t.v := fun ha => by
          have h := has_more (e := e) (l := L) (more := more) (by rw [hV, hal', ha])
          rw [hV, how] at h
          rw [ha] at hm
          rw [hm] at h
          exact h
        have hleaf : e.op = 0 → e.t.v = [] → R = some e.t.x := fun h0 hv => by
          cases e with
          | mk op t kids sp =>
            simp only [Ex.op_mk] at h0
            rw [Ex.val_mk, if_pos h0] at hR
            rw [← hR]
            unfold leafV
            exact if_pos hv
        have hnode : e.op ≠ 0 → 1 ≤ e.op ∧ e.op ≤ 10 ∧ e.kids.length ≤ 2 ∧ (∀ k ∈ e.kids, Meets Tryd.prog GK 26 [.agg k.row, .one (.sl (L.map Tm.row) sq)] (optR (k.val L))) ∧ R = (exVals L e.kids).bind (arithV e.op) := fun h0 => by
          cases e with
          | mk op t kids sp =>
            simp only [Ex.op_mk] at h0
            obtain ⟨_, _, h1, h2, _⟩ := exOk_op hok h0
            refine ⟨h1.1, h1.2, h2, fun k hk => ?_, ?_⟩
            · have h := m26 k L sq ((Ex.small_mk.1 hs).2 k hk) hL
              rw [exOk_kids hok h0 k hk] at h
              exact h
            · rw [Ex.val_mk, if_neg h0] at hR
              rw [← hR]
              simp only [Ex.kids_mk, Ex.op_mk]
              cases exVals L kids <;> rfl
        cases o with
        | none =>
          simp [ic4l7, Nat.not_lt.mpr hge2]
          refine call_of h26m ?_
          simp [Val.row]
          cases all with
          | true =>
            have hhas := hasm rfl
            have h26p := m26 (e.put (own2.map asPr)) [] [] (Ex.small_put _ e hs) (by simp)
            rw [exOk_put 8 e hok hhas, Ex.val_put 8 e hok hhas] at h26p
            simp only [if_true] at h26p
            rw [hown2, optR_eq, hx, hb] at h26p
            have h31 := m31 (G := GK) (own2.map asPr) [] (by simp; unfold maxLen; omega) e hs
            rw [Ex.row_eq (e.put _)] at h31 h26p
            generalize e.put (own2.map asPr) = e3 at h31 h26p
            rw [hrow] at h31
            have h32 := m32 (G := GK) own2 [] (by omega)
            generalize (own2.map asPr).map Pr.row = prs at h31 h32
            simp [ic4c8]
            refine call_of h32 ?_
            simp
            refine call_of h31 ?_
            simp
            refine call_of h26p ?_
            simp [Val.row]
            by_cases h0 : e.op = 0
            · by_cases hv : e.t.v = []
              · have hRs := hleaf h0 hv
                rw [hRs] at hx hb
                simp only [Option.getD_some, Option.isSome_some] at hx hb
                subst hx hb
                simp [h0, ic4c9, hv]
              · simp [h0, ic4c9, hv]
            · simp [h0]
              obtain ⟨ho1, ho2, hk2, hkk, hkv⟩ := hnode h0
              refine w_loopA [.t 301 22 39 3] [15, 18, 20, 24, 153, 227, 300] [1, 3, 6, 7, 8, 22, 23] (by simp [ownKey])
                (fun z : Nat × List Val => st [(1, .k true (.x (.one (.c (.sl (L.map Tm.row) sq))))), (3, .k true (.x (.one (.ref 3 0 0)))), (6, tB false), (7, .k true (.x (.one (.ref 7 0 0)))), (8, .k true (rB ok)), (22, .k true (.x (.one (.own 301 (z.2.map Val.row))))), (23, tI .i64 z.1)] [(7, ⟨39, 3, [[.c (cI .i8 x.k), .c (cI .i64 x.n), .c (cS (bs x.s))]], none⟩), (3, ⟨47, 6, [[.c (cI .i8 e.op), .c (cS (bs e.t.v)), .c (cI .i8 e.t.x.k), .c (cI .i64 e.t.x.n), .c (cS (bs e.t.x.s)), .c (.sl (e.kids.map Ex.row) e.sp)]], none⟩)] [(301, ⟨39, 3, z.2.length⟩)] F0) (fun z => e.kids.length - z.1)
                (fun z => z.1 ≤ e.kids.length ∧ z.2.length = z.1 ∧ exVals L e.kids = (exVals L (e.kids.drop z.1)).map (z.2 ++ ·)) (0, []) (by simp; try rfl) (by simp) ?_
              rintro ⟨i3, E⟩ K3 hK3 ⟨hi3, hE3, hv3⟩
              simp only at hi3 hE3 hv3
              obtain hlt3 | hge3 := Nat.lt_or_ge i3 e.kids.length
              · rw [List.drop_eq_getElem_cons hlt3, exVals] at hv3
                have hc := hkk _ (List.getElem_mem hlt3)
                obtain ⟨x1, x2, x3, x4, x5, x6, hxr⟩ : ∃ x1 x2 x3 x4 x5 x6, e.kids[i3].row = [x1, x2, x3, x4, x5, x6] := ⟨_, _, _, _, _, _, Ex.row_eq _⟩
                rw [hxr] at hc
                simp [ic4l10, hlt3, hxr]
                refine call_of hc ?_
                cases hkv3 : e.kids[i3].val L with
                | none =>
                  rw [hkv3] at hv3
                  simp only [Option.map_none] at hv3
                  have hok0 : ok = false := by rw [← hb, hkv, hv3]; rfl
                  simp [Val.row, zeroV, hok0]
                | some v3 =>
                  rw [hkv3] at hv3
                  simp [Val.row]
                  refine ⟨by unfold maxLen; omega, by unfold maxBytes; omega, ?_⟩
                  simp (disch := omega) only [w64]
                  refine hK3 (i3 + 1, E ++ [v3]) _ (by simp [Val.row]; try rfl) ⟨by simp only; omega, by simp [hE3], ?_⟩ (by simp only; omega)
                  rw [hv3]
                  simp only
                  cases exVals L (List.drop (i3 + 1) e.kids) <;> simp
              · rw [List.drop_eq_nil_of_le hge3, exVals] at hv3
                simp only [Option.map_some, List.append_nil] at hv3
                have h33 := m33 e.op ho1 ho2 E []
                have hRE : arithV e.op E = R := by rw [hkv, hv3]; rfl
                rw [hRE, optR_eq, hx, hb] at h33
                simp [ic4l10, Nat.not_lt.mpr hge3]
                refine call_of h33 ?_
                simp [Val.row]
          | false =>
            simp
            by_cases h0 : e.op = 0
            · by_cases hv : e.t.v = []
              · have hRs := hleaf h0 hv
                rw [hRs] at hx hb
                simp only [Option.getD_some, Option.isSome_some] at hx hb
                subst hx hb
                simp [h0, ic4c9, hv]
              · simp [h0, ic4c9, hv]
            · simp [h0]
              obtain ⟨ho1, ho2, hk2, hkk, hkv⟩ := hnode h0
              refine w_loopA [.t 301 22 39 3] [15, 18, 20, 24, 153, 227, 300] [1, 3, 6, 7, 8, 22, 23] (by simp [ownKey])
                (fun z : Nat × List Val => st [(1, .k true (.x (.one (.c (.sl (L.map Tm.row) sq))))), (3, .k true (.x (.one (.ref 3 0 0)))), (6, tB false), (7, .k true (.x (.one (.ref 7 0 0)))), (8, .k true (rB ok)), (22, .k true (.x (.one (.own 301 (z.2.map Val.row))))), (23, tI .i64 z.1)] [(7, ⟨39, 3, [[.c (cI .i8 x.k), .c (cI .i64 x.n), .c (cS (bs x.s))]], none⟩), (3, ⟨47, 6, [[.c (cI .i8 e.op), .c (cS (bs e.t.v)), .c (cI .i8 e.t.x.k), .c (cI .i64 e.t.x.n), .c (cS (bs e.t.x.s)), .c (.sl (e.kids.map Ex.row) e.sp)]], none⟩)] [(301, ⟨39, 3, z.2.length⟩)] F0) (fun z => e.kids.length - z.1)
                (fun z => z.1 ≤ e.kids.length ∧ z.2.length = z.1 ∧ exVals L e.kids = (exVals L (e.kids.drop z.1)).map (z.2 ++ ·)) (0, []) (by simp; try rfl) (by simp) ?_
              rintro ⟨i3, E⟩ K3 hK3 ⟨hi3, hE3, hv3⟩
              simp only at hi3 hE3 hv3
              obtain hlt3 | hge3 := Nat.lt_or_ge i3 e.kids.length
              · rw [List.drop_eq_getElem_cons hlt3, exVals] at hv3
                have hc := hkk _ (List.getElem_mem hlt3)
                obtain ⟨x1, x2, x3, x4, x5, x6, hxr⟩ : ∃ x1 x2 x3 x4 x5 x6, e.kids[i3].row = [x1, x2, x3, x4, x5, x6] := ⟨_, _, _, _, _, _, Ex.row_eq _⟩
                rw [hxr] at hc
                simp [ic4l10, hlt3, hxr]
                refine call_of hc ?_
                cases hkv3 : e.kids[i3].val L with
                | none =>
                  rw [hkv3] at hv3
                  simp only [Option.map_none] at hv3
                  have hok0 : ok = false := by rw [← hb, hkv, hv3]; rfl
                  simp [Val.row, zeroV, hok0]
                | some v3 =>
                  rw [hkv3] at hv3
                  simp [Val.row]
                  refine ⟨by unfold maxLen; omega, by unfold maxBytes; omega, ?_⟩
                  simp (disch := omega) only [w64]
                  refine hK3 (i3 + 1, E ++ [v3]) _ (by simp [Val.row]; try rfl) ⟨by simp only; omega, by simp [hE3], ?_⟩ (by simp only; omega)
                  rw [hv3]
                  simp only
                  cases exVals L (List.drop (i3 + 1) e.kids) <;> simp
              · rw [List.drop_eq_nil_of_le hge3, exVals] at hv3
                simp only [Option.map_some, List.append_nil] at hv3
                have h33 := m33 e.op ho1 ho2 E []
                have hRE : arithV e.op E = R := by rw [hkv, hv3]; rfl
                rw [hRE, optR_eq, hx, hb] at h33
                simp [ic4l10, Nat.not_lt.mpr hge3]
                refine call_of h33 ?_
                simp [Val.row]
        | some c =>
          simp [ic4l7, Nat.not_lt.mpr hge2]
          refine call_of h26m ?_
          simp [Val.row]
          cases all with
          | true =>
            have hhas := hasm rfl
            have h26p := m26 (e.put (own2.map asPr)) [] [] (Ex.small_put _ e hs) (by simp)
            rw [exOk_put 8 e hok hhas, Ex.val_put 8 e hok hhas] at h26p
            simp only [if_true] at h26p
            rw [hown2, optR_eq, hx, hb] at h26p
            have h31 := m31 (G := GK) (own2.map asPr) [] (by simp; unfold maxLen; omega) e hs
            rw [Ex.row_eq (e.put _)] at h31 h26p
            generalize e.put (own2.map asPr) = e3 at h31 h26p
            rw [hrow] at h31
            have h32 := m32 (G := GK) own2 [] (by omega)
            generalize (own2.map asPr).map Pr.row = prs at h31 h32
            simp [ic4c8]
            refine call_of h32 ?_
            simp
            refine call_of h31 ?_
            simp
            refine call_of h26p ?_
            simp [Val.row]
            by_cases h0 : e.op = 0
            · by_cases hv : e.t.v = []
              · have hRs := hleaf h0 hv
                rw [hRs] at hx hb
                simp only [Option.getD_some, Option.isSome_some] at hx hb
                subst hx hb
                simp [h0, ic4c9, hv]
              · simp [h0, ic4c9, hv]
            · simp [h0]
              obtain ⟨ho1, ho2, hk2, hkk, hkv⟩ := hnode h0
              refine w_loopA [.t 301 22 39 3] [15, 18, 20, 24, 153, 227, 300] [1, 3, 6, 7, 8, 22, 23] (by simp [ownKey])
                (fun z : Nat × List Val => st [(1, .k true (.x (.one (.c (.sl (L.map Tm.row) sq))))), (3, .k true (.x (.one (.ref 3 0 0)))), (6, tB false), (7, .k true (.x (.one (.ref 7 0 0)))), (8, .k true (rB ok)), (22, .k true (.x (.one (.own 301 (z.2.map Val.row))))), (23, tI .i64 z.1)] [(7, ⟨39, 3, [[.c (cI .i8 x.k), .c (cI .i64 x.n), .c (cS (bs x.s))]], none⟩), (3, ⟨47, 6, [[.c (cI .i8 e.op), .c (cS (bs e.t.v)), .c (cI .i8 e.t.x.k), .c (cI .i64 e.t.x.n), .c (cS (bs e.t.x.s)), .c (.sl (e.kids.map Ex.row) e.sp)]], none⟩)] [(301, ⟨39, 3, z.2.length⟩)] F0) (fun z => e.kids.length - z.1)
                (fun z => z.1 ≤ e.kids.length ∧ z.2.length = z.1 ∧ exVals L e.kids = (exVals L (e.kids.drop z.1)).map (z.2 ++ ·)) (0, []) (by simp; try rfl) (by simp) ?_
              rintro ⟨i3, E⟩ K3 hK3 ⟨hi3, hE3, hv3⟩
              simp only at hi3 hE3 hv3
              obtain hlt3 | hge3 := Nat.lt_or_ge i3 e.kids.length
              · rw [List.drop_eq_getElem_cons hlt3, exVals] at hv3
                have hc := hkk _ (List.getElem_mem hlt3)
                obtain ⟨x1, x2, x3, x4, x5, x6, hxr⟩ : ∃ x1 x2 x3 x4 x5 x6, e.kids[i3].row = [x1, x2, x3, x4, x5, x6] := ⟨_, _, _, _, _, _, Ex.row_eq _⟩
                rw [hxr] at hc
                simp [ic4l10, hlt3, hxr]
                refine call_of hc ?_
                cases hkv3 : e.kids[i3].val L with
                | none =>
                  rw [hkv3] at hv3
                  simp only [Option.map_none] at hv3
                  have hok0 : ok = false := by rw [← hb, hkv, hv3]; rfl
                  simp [Val.row, zeroV, hok0]
                | some v3 =>
                  rw [hkv3] at hv3
                  simp [Val.row]
                  refine ⟨by unfold maxLen; omega, by unfold maxBytes; omega, ?_⟩
                  simp (disch := omega) only [w64]
                  refine hK3 (i3 + 1, E ++ [v3]) _ (by simp [Val.row]; try rfl) ⟨by simp only; omega, by simp [hE3], ?_⟩ (by simp only; omega)
                  rw [hv3]
                  simp only
                  cases exVals L (List.drop (i3 + 1) e.kids) <;> simp
              · rw [List.drop_eq_nil_of_le hge3, exVals] at hv3
                simp only [Option.map_some, List.append_nil] at hv3
                have h33 := m33 e.op ho1 ho2 E []
                have hRE : arithV e.op E = R := by rw [hkv, hv3]; rfl
                rw [hRE, optR_eq, hx, hb] at h33
                simp [ic4l10, Nat.not_lt.mpr hge3]
                refine call_of h33 ?_
                simp [Val.row]
          | false =>
            simp
            by_cases h0 : e.op = 0
            · by_cases hv : e.t.v = []
              · have hRs := hleaf h0 hv
                rw [hRs] at hx hb
                simp only [Option.getD_some, Option.isSome_some] at hx hb
                subst hx hb
                simp [h0, ic4c9, hv]
              · simp [h0, ic4c9, hv]
            · simp [h0]
              obtain ⟨ho1, ho2, hk2, hkk, hkv⟩ := hnode h0
              refine w_loopA [.t 301 22 39 3] [15, 18, 20, 24, 153, 227, 300] [1, 3, 6, 7, 8, 22, 23] (by simp [ownKey])
                (fun z : Nat × List Val => st [(1, .k true (.x (.one (.c (.sl (L.map Tm.row) sq))))), (3, .k true (.x (.one (.ref 3 0 0)))), (6, tB false), (7, .k true (.x (.one (.ref 7 0 0)))), (8, .k true (rB ok)), (22, .k true (.x (.one (.own 301 (z.2.map Val.row))))), (23, tI .i64 z.1)] [(7, ⟨39, 3, [[.c (cI .i8 x.k), .c (cI .i64 x.n), .c (cS (bs x.s))]], none⟩), (3, ⟨47, 6, [[.c (cI .i8 e.op), .c (cS (bs e.t.v)), .c (cI .i8 e.t.x.k), .c (cI .i64 e.t.x.n), .c (cS (bs e.t.x.s)), .c (.sl (e.kids.map Ex.row) e.sp)]], none⟩)] [(301, ⟨39, 3, z.2.length⟩)] F0) (fun z => e.kids.length - z.1)
                (fun z => z.1 ≤ e.kids.length ∧ z.2.length = z.1 ∧ exVals L e.kids = (exVals L (e.kids.drop z.1)).map (z.2 ++ ·)) (0, []) (by simp; try rfl) (by simp) ?_
              rintro ⟨i3, E⟩ K3 hK3 ⟨hi3, hE3, hv3⟩
              simp only at hi3 hE3 hv3
              obtain hlt3 | hge3 := Nat.lt_or_ge i3 e.kids.length
              · rw [List.drop_eq_getElem_cons hlt3, exVals] at hv3
                have hc := hkk _ (List.getElem_mem hlt3)
                obtain ⟨x1, x2, x3, x4, x5, x6, hxr⟩ : ∃ x1 x2 x3 x4 x5 x6, e.kids[i3].row = [x1, x2, x3, x4, x5, x6] := ⟨_, _, _, _, _, _, Ex.row_eq _⟩
                rw [hxr] at hc
                simp [ic4l10, hlt3, hxr]
                refine call_of hc ?_
                cases hkv3 : e.kids[i3].val L with
                | none =>
                  rw [hkv3] at hv3
                  simp only [Option.map_none] at hv3
                  have hok0 : ok = false := by rw [← hb, hkv, hv3]; rfl
                  simp [Val.row, zeroV, hok0]
                | some v3 =>
                  rw [hkv3] at hv3
                  simp [Val.row]
                  refine ⟨by unfold maxLen; omega, by unfold maxBytes; omega, ?_⟩
                  simp (disch := omega) only [w64]
                  refine hK3 (i3 + 1, E ++ [v3]) _ (by simp [Val.row]; try rfl) ⟨by simp only; omega, by simp [hE3], ?_⟩ (by simp only; omega)
                  rw [hv3]
                  simp only
                  cases exVals L (List.drop (i3 + 1) e.kids) <;> simp
              · rw [List.drop_eq_nil_of_le hge3, exVals] at hv3
                simp only [Option.map_some, List.append_nil] at hv3
                have h33 := m33 e.op ho1 ho2 E []
                have hRE : arithV e.op E = R := by rw [hkv, hv3]; rfl
                rw [hRE, optR_eq, hx, hb] at h33
                simp [ic4l10, Nat.not_lt.mpr hge3]
                refine call_of h33 ?_
                simp [Val.row]
  · have hok' : exOk 8 e = false := by simpa using hok
    rw [hok'] at h26 h27
    simp only [Bool.false_eq_true, if_false] at h26 h27
    rw [hrow] at h25 h26 h27 h28 ⊢
    refine meets Tryd.func4 ie4 ig4 (Nat.le_of_ble_eq_true rfl) ?_
    simp [ic4, ir4]
    refine call_of h25 ?_
    cases big with
    | true => simp
    | false =>
    simp
    refine call_of m19 ?_
    simp
    refine call_of h26 ?_
    simp [Val.row, zeroV]
    refine call_of h27 ?_
    simp [ic4c0]
end Go.Proofs.YtiomojlcnemnhaaDoor

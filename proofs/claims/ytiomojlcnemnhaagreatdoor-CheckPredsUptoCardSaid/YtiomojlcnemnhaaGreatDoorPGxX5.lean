import Derived.Test.YtiomojlcnemnhaaGreatDoorPFxSb
import Derived.Test.YtiomojlcnemnhaaGreatDoorPGxX2
/- Fx, part Se: lists that are copied element by element by a function, with a mark behind: once for all types of elements. -/
namespace Go.Fx
open Go.RowKit

abbrev ksTwF (t0 t4 t12 t3 t2 : T) (O : List (Nat × Box)) (U : List (Nat × Tok)) (H : FHp) : S := st [(0, t0), (4, t4), (12, t12), (3, t3), (2, t2)] O U H
def icTwFl0 (s : Nat) (elem : FuncId) : IC :=
 (.seq
  (.seq
   (.region [] [] [0, 4, 12, 3, 2] [
     ⟨(some 9), (.move (.t 4)), none, none⟩,
     ⟨(some 10), (.move (.t 0)), none, none⟩,
     ⟨(some 11), (.len (.t 10)), none, none⟩,
     ⟨(some 12), (.bin .lss (.t 9) (.t 11)), none, none⟩])
   (.cond (.t 12)
    .skip
    (.exit 0)))
  (.seq
   (.block 1
    (.region [] [] [0, 4, 12, 3, 2] [
      ⟨(some 15), (.move (.t 3)), none, none⟩,
      ⟨(some 16), (.move (.t 4)), none, none⟩,
      ⟨(some 17), (.move (.t 0)), none, none⟩,
      ⟨(some 18), (.move (.t 4)), none, none⟩,
      ⟨(some 19), (.iaddr s (.t 17) (.t 18)), none, none⟩,
      ⟨(some 20), (.load (some s) (.t 19)), none, none⟩,
      ⟨(some 21), (.callp (.k (rF elem)) [(.t 20)]), none, none⟩,
      ⟨(some 22), (.iaddr s (.t 15) (.t 16)), none, none⟩,
      ⟨none, (.store (some s) (.t 22) (.t 21)), none, none⟩]))
   (.region [] [] [0, 4, 12, 3, 2] [
     ⟨(some 13), (.move (.t 4)), none, none⟩,
     ⟨(some 14), (.bin .add (.t 13) (.k (rI .i64 1))), none, none⟩,
     ⟨(some 4), (.move (.t 14)), none, none⟩])))
def icTwF (ty : TypeId) (s bytes : Nat) (z : List A) (elem mark : FuncId) : IC :=
 (.seq
  (.region [] [] [0, 4, 12, 3, 2] [
    ⟨(some 2), (.move (.k (.x (.one .nil)))), none, none⟩])
  (.seq
   (.region [8] [] [0, 4, 12, 3, 2] [
     ⟨(some 5), (.move (.t 0)), none, none⟩,
     ⟨(some 6), (.len (.t 5)), none, none⟩,
     ⟨(some 7), (.bin .add (.t 6) (.k (rI .i64 1))), none, none⟩,
     ⟨(some 8), (.make ty s bytes z (.t 7) (.t 7)), none, none⟩,
     ⟨(some 3), (.move (.t 8)), none, none⟩])
   (.seq
    (.seq
     (.region [] [] [0, 4, 12, 3, 2] [
       ⟨(some 4), (.move (.k (rI .i64 0))), none, none⟩])
     (.block 0
      (.loop (icTwFl0 s elem))))
    (.seq
     (.region [] [] [0, 4, 12, 3, 2] [
       ⟨(some 23), (.move (.t 3)), none, none⟩,
       ⟨(some 24), (.move (.t 0)), none, none⟩,
       ⟨(some 25), (.len (.t 24)), none, none⟩,
       ⟨(some 26), (.callp (.k (rF mark)) [(.k (rI .i64 777777))]), none, none⟩,
       ⟨(some 27), (.iaddr s (.t 23) (.t 25)), none, none⟩,
       ⟨none, (.store (some s) (.t 27) (.t 26)), none, none⟩])
     (.seq
      (.region [] [] [0, 4, 12, 3, 2] [
        ⟨(some 28), (.move (.t 3)), none, none⟩,
        ⟨(some 29), (.move (.t 0)), none, none⟩,
        ⟨(some 30), (.len (.t 29)), none, none⟩,
        ⟨(some 31), (.vsl s (.t 28) none (some (.t 30))), none, none⟩,
        ⟨(some 2), (.move (.t 31)), none, none⟩])
      .ret)))))

section
variable {P : Program} {G : World → Prop} {α : Type} {s : Nat}

/-- The rows of a copy under way: so many done. -/
def midR (row : α → List C) (l : List α) (z : List A) (i : Nat) : List (List A) := (l.take i).map (fun x => (row x).map A.c) ++ List.replicate (l.length + 1 - i) z

theorem midR_length (row : α → List C) (l : List α) (z : List A) {i : Nat} (h : i ≤ l.length) : (midR row l z i).length = l.length + 1 := by
  simp [midR, List.length_take, Nat.min_eq_left h]; omega
theorem midR_getD (row : α → List C) (l : List α) (z : List A) {i : Nat} (h : i ≤ l.length) : (midR row l z i).getD i [] = z := by
  have h1 : ((l.take i).map (fun x => (row x).map A.c)).length = i := by simp [List.length_take, Nat.min_eq_left h]
  have h2 : l.length + 1 - i = (l.length - i) + 1 := by omega
  unfold midR
  rw [h2, List.replicate_succ]
  conv => lhs; arg 2; rw [← h1]
  exact getD_mid _ _ _ _
theorem midR_set (row : α → List C) (l : List α) (z : List A) {i : Nat} (h : i < l.length) : (midR row l z i).set i ((row l[i]).map A.c) = midR row l z (i + 1) := by
  have h1 : ((l.take i).map (fun x => (row x).map A.c)).length = i := by simp [List.length_take, Nat.min_eq_left (Nat.le_of_lt h)]
  have h2 : l.length + 1 - i = (l.length + 1 - (i + 1)) + 1 := by omega
  unfold midR
  rw [h2, List.replicate_succ]
  conv => lhs; arg 2; rw [← h1]
  rw [set_mid, List.take_succ_eq_append_getElem h, List.map_append, List.append_assoc]
  rfl
theorem midR_last (row : α → List C) (l : List α) (z : List A) (x : List C) : (midR row l z l.length).set l.length (x.map A.c) = (l.map row ++ [x]).map fun r => r.map A.c := by
  have h1 : ((l.take l.length).map (fun x => (row x).map A.c)).length = l.length := by simp
  have h2 : l.length + 1 - l.length = 0 + 1 := by omega
  unfold midR
  rw [h2, List.replicate_succ]
  conv => lhs; arg 2; rw [← h1]
  rw [set_mid]
  simp [Function.comp_def]

theorem twF_gen (row row' : α → List C) (h6 : ∀ x, (row x).length = s) (h6' : ∀ x, (row' x).length = s) {f elem mark : FuncId} {fn : Func} {ty bytes : Nat} {z : List A} {x : List C} (hx : x.length = s) (hf : P.funcs[f]? = some fn) (hc : cmpFunc P ⟨[], []⟩ fn [0, 4, 12, 3, 2] = some (icTwF ty s bytes z elem mark)) (hr : cmpRes P fn.results.toList = some [.tmp 2]) (hn : 1 ≤ fn.ntmps)
    (hz : z.length = s) (hb : bytes ≤ 1024) (hm : Meets P G mark [.one (cI .i64 777777)] (.x (.agg x))) (l : List α) (sp : List (List C)) (hl : l.length ≤ 1048576) (he : ∀ y ∈ l, Meets P G elem [.agg (row y)] (.x (.agg (row' y)))) :
    Meets P G f [.one (.sl (l.map row) sp)] (.x (.one (.sl (l.map row') [x]))) := by
  refine meetsF [8] hf hc hr hn ?_
  have hw : IntKind.i64.wrap ((l.length : Int) + 1) = (l.length : Int) + 1 := by rw [Go.IntWalk.i64_in _ (by omega)]
  simp [icTwF, hw]
  refine k_make rfl rfl rfl (by omega) (by omega) (by unfold maxLen; omega) (by
    have : (bytes : Int) * ((l.length : Int) + 1) ≤ 1024 * 1048577 := by
      have h1 : (bytes : Int) ≤ 1024 := by omega
      have h2 : (l.length : Int) + 1 ≤ 1048577 := by omega
      exact Int.mul_le_mul h1 h2 (by omega) (by omega)
    unfold maxBytes; omega) hz ?_
  have hn1 : ((l.length : Int) + 1).toNat = l.length + 1 := by omega
  simp [hn1]
  refine w_loopK (fun n σ => ∃ (i : Nat) (t12 : T), i + n = l.length ∧ σ = ksTwF (.k true (.x (.one (.c (.sl (l.map row) sp))))) (tI .i64 i) t12 (.k true (.x (.one (.arr 8 0 (l.length + 1) (l.length + 1))))) (.k true (.x (.one .nil))) [(8, ⟨ty, s, midR row' l z i, none⟩)] [] F0)
    l.length ⟨0, _, by simp, by simp [midR]; rfl⟩ ?_
  rintro n σ1 K hK ⟨i, t12, hi, rfl⟩
  obtain hlt | hge := Nat.lt_or_ge i l.length
  · have hI : ∀ t12, K (ksTwF (.k true (.x (.one (.c (.sl (l.map row) sp))))) (tI .i64 (i + 1)) t12 (.k true (.x (.one (.arr 8 0 (l.length + 1) (l.length + 1))))) (.k true (.x (.one .nil))) [(8, ⟨ty, s, midR row' l z (i + 1), none⟩)] [] F0) :=
      fun t12 => hK _ (n - 1) (by omega) ⟨i + 1, t12, by omega, rfl⟩
    clear hK
    have h1 := h6 l[i]
    have h1' := h6' l[i]
    have k1 : ((row l[i]).map A.c).take s = (row l[i]).map A.c := List.take_of_length_le (by simp [h1])
    have g1 := midR_length row' l z (Nat.le_of_lt hlt)
    have g2 : (midR row' l z i)[i]?.getD [] = z := by simpa using midR_getD row' l z (Nat.le_of_lt hlt)
    have hzd : z.drop s = [] := List.drop_eq_nil_of_le (by omega)
    have g3 := midR_set row' l z hlt
    simp [icTwFl0, hlt, h1, k1]
    refine r_call elem true _ _ (he l[i] (List.getElem_mem hlt)) rfl rfl rfl (by simp [k1]) ?_
    simp [wrap_next hlt (by omega), g1, g2, g3, hz, hzd, h1']
    exact ⟨by omega, by omega, hI _⟩
  · obtain rfl : i = l.length := by omega
    have g1 := midR_length row' l z (Nat.le_refl l.length)
    have g2 : (midR row' l z l.length)[l.length]?.getD [] = z := by simpa using midR_getD row' l z (Nat.le_refl l.length)
    have g2' : ∀ h, (midR row' l z l.length)[l.length]'h = z := fun h => by have g := g2; rw [List.getElem?_eq_getElem h] at g; exact g
    have g3 := midR_last row' l z x
    have hzd : z.drop s = [] := List.drop_eq_nil_of_le (by omega)
    simp [icTwFl0]
    refine r_call mark true _ _ hm rfl rfl rfl rfl ?_
    simp [g1, g2', hz, hzd, hx, g3]
    refine ⟨by omega, ?_⟩
    have hrows : List.map ((fun r => List.map A.c r) ∘ row') l ++ [List.map A.c x] = (l.map row' ++ [x]).map fun r => r.map A.c := by simp
    rw [hrows, freeze_st]
    have hB : fzL [(8, ⟨ty, s, (l.map row' ++ [x]).map fun r => r.map A.c, none⟩)] [8] = [(8, l.map row' ++ [x])] := by
      have hlen : ((l.map row' ++ [x]).map fun r => r.map A.c).length ≤ maxLen := by simp; unfold maxLen; omega
      simp only [fzL, lookO_cons, if_true]
      rw [if_pos (by omega), if_pos ⟨trivial, hlen⟩, closeLL_c]
    rw [hB]
    simp [freezeO, ret_one]
    omega
end
end Go.Fx

/- Contracts, on: copies of expressions. -/
namespace Go.Proofs.YtiomojlcnemnhaaGreatDoor
open Go.Fx Go.RowKit Go.Ped

/-- The mark behind a list of expressions. -/
def markE : List C := [cI .i8 99, cS (bs (markW 777777)), cI .i8 0, cI .i64 0, cS (bs []), .sl [] []]

theorem m189 : Meets Tryz.prog GT 330 [.one (cI .i64 777777)] (.x (.agg markE)) := by
  refine meets Tryz.func330 ie189 ig189 (Nat.le_of_ble_eq_true rfl) ?_
  simp [ic189, ir189]
  refine r_call 171 true _ _ (m172 777777 (by omega) (by omega) itoa777) rfl rfl rfl rfl ?_
  simp [markE]

theorem m142 (kids : List Ex) (sp : List (List C)) (hl : kids.length ≤ 1048576) (he : ∀ k ∈ kids, Meets Tryz.prog GT 244 [.agg k.row] (.x (.agg (k.twin markE).row))) :
    Meets Tryz.prog GT 291 [.one (.sl (kids.map Ex.row) sp)] (.x (.one (.sl (kids.map fun k => (k.twin markE).row) [markE]))) :=
  twF_gen Ex.row (fun k => (k.twin markE).row) (fun x => Ex.row_length x) (fun x => Ex.row_length _) rfl Tryz.func291 ie142 ig142 (Nat.le_of_ble_eq_true rfl) rfl (by omega) m189 kids sp hl he

theorem m74 : ∀ e : Ex, e.small 1048576 → Meets Tryz.prog GT 244 [.agg e.row] (.x (.agg (e.twin markE).row)) := by
  refine Ex.ind fun op t kids sp ih hs => ?_
  obtain ⟨hl, hk⟩ := Ex.small_mk.1 hs
  have h := m142 kids sp hl (fun k hk' => ih k hk' (hk k hk'))
  refine meets Tryz.func244 ie74 ig74 (Nat.le_of_ble_eq_true rfl) ?_
  rw [Ex.twin_mk, Ex.row_mk, Ex.row_mk]
  simp [ic74, ir74]
  refine r_call 291 true _ _ h rfl rfl rfl rfl ?_
  simp
end Go.Proofs.YtiomojlcnemnhaaGreatDoor

/- Contracts, on: copies of expressions, looked at again. -/
namespace Go.Proofs.YtiomojlcnemnhaaGreatDoor
open Go.Fx Go.RowKit Go.Ped

theorem m190 : Meets Tryz.prog GT 334 [.agg markE, .one (cI .i64 777777)] (.x (.one (cB true))) := by
  refine meets Tryz.func334 ie190 ig190 (Nat.le_of_ble_eq_true rfl) ?_
  simp [ic190, ir190, markE]
  refine r_call 171 true _ _ (m172 777777 (by omega) (by omega) itoa777) rfl rfl rfl rfl ?_
  simp

theorem m144 (kids : List Ex) (sp : List (List C)) (hl : kids.length ≤ 1048576) (he : ∀ k ∈ kids, Meets Tryz.prog GT 258 [.agg (k.twin markE).row, .agg k.row] (.x (.one (cB true)))) :
    Meets Tryz.prog GT 300 [.one (.sl (kids.map fun k => (k.twin markE).row) [markE]), .one (.sl (kids.map Ex.row) sp)] (.x (.one (cB true))) := by
  refine meets Tryz.func300 ie144 ig144 (Nat.le_of_ble_eq_true rfl) ?_
  simp [ic144, ir144]
  refine w_loopK (fun n σ => ∃ (i : Nat) (t10 t14 t26 : T), i + n = kids.length ∧ σ = ks144 (.k true (.x (.one (.c (.sl (kids.map fun k => (k.twin markE).row) [markE]))))) (.k true (.x (.one (.c (.sl (kids.map Ex.row) sp))))) t10 (tI .i64 i) t14 t26 (tB false) [] [] F0)
    kids.length ⟨0, _, _, _, by simp, rfl⟩ ?_
  rintro n σ1 K hK ⟨i, t10, t14, t26, hi, rfl⟩
  have hw1 : IntKind.i64.wrap ((kids.length : Int) + 1) = (kids.length : Int) + 1 := by rw [Go.IntWalk.i64_in _ (by omega)]
  obtain hlt | hge := Nat.lt_or_ge i kids.length
  · have hI : ∀ t10 t14 t26, K (ks144 (.k true (.x (.one (.c (.sl (kids.map fun k => (k.twin markE).row) [markE]))))) (.k true (.x (.one (.c (.sl (kids.map Ex.row) sp))))) t10 (tI .i64 (i + 1)) t14 t26 (tB false) [] [] F0) :=
      fun t10 t14 t26 => hK _ (n - 1) (by omega) ⟨i + 1, t10, t14, t26, by omega, rfl⟩
    clear hK
    have hm := he kids[i] (List.getElem_mem hlt)
    have k1 : (kids[i].row.map A.c).take 6 = kids[i].row.map A.c := List.take_of_length_le (by simp)
    have k2 : ((kids[i].twin markE).row.map A.c).take 6 = (kids[i].twin markE).row.map A.c := List.take_of_length_le (by simp)
    simp [ic144l0, hlt, k1, k2]
    refine r_call 258 true _ _ hm rfl rfl rfl (by simp [closeArgs, X.close, closeL_c]) ?_
    simp [wrap_next hlt (by omega)]
    exact hI _ _ _
  · simp [ic144l0, Nat.not_lt.mpr hge, hw1]
    refine ⟨⟨by omega, ?_⟩, ⟨by omega, rfl⟩, Nat.le_refl 6, ?_⟩
    · rintro e (⟨a, _, rfl⟩ | rfl)
      · exact Ex.row_length _
      · rfl
    refine r_call 334 true _ _ m190 rfl rfl rfl rfl ?_
    simp

set_option maxHeartbeats 4000000 in
theorem m76 : ∀ e : Ex, e.small 1048576 → Meets Tryz.prog GT 258 [.agg (e.twin markE).row, .agg e.row] (.x (.one (cB true))) := by
  refine Ex.ind fun op t kids sp ih hs => ?_
  obtain ⟨hl, hk⟩ := Ex.small_mk.1 hs
  have h := m144 kids sp hl (fun k hk' => ih k hk' (hk k hk'))
  refine meets Tryz.func258 ie76 ig76 (Nat.le_of_ble_eq_true rfl) ?_
  rw [Ex.twin_mk, Ex.row_mk, Ex.row_mk]
  have e : (kids.map (Ex.twin markE)).map Ex.row = kids.map fun k => (k.twin markE).row := by rw [List.map_map]; rfl
  rw [e]
  generalize (kids.map fun k => (k.twin markE).row) = rs at *
  simp (config := { maxSteps := 4000000 }) [ic76, ir76]
  refine r_call 300 true _ _ h rfl rfl rfl rfl ?_
  simp
end Go.Proofs.YtiomojlcnemnhaaGreatDoor

/- Contracts, on: copies of literals. -/
namespace Go.Proofs.YtiomojlcnemnhaaGreatDoor
open Go.Fx Go.RowKit Go.Ped

theorem lit_row (x : Lit) : x.row = [cI .i8 x.kind, cS (bs x.p), .sl (x.l.map Tm.row) x.sp, cI .i8 x.rel] ++ x.left.row ++ x.right.row := rfl
set_option maxHeartbeats 20000000 in
theorem m56 (x : Lit) (hs : x.small 1048576) : Meets Tryz.prog GT 162 [.agg x.row] (.x (.agg (x.twin markT.row markE).row)) := by
  refine meets Tryz.func162 ie56 ig56 (Nat.le_of_ble_eq_true rfl) ?_
  obtain ⟨kind, p, l, sp, rel, left, right⟩ := x
  obtain ⟨h1, h2, h3⟩ := hs
  have e1 := m74 left h2
  have e2 := m74 right h3
  simp only [Lit.twin, lit_row]
  have l1 := Ex.row_length left
  have l2 := Ex.row_length right
  have l3 := Ex.row_length (left.twin markE)
  have l4 := Ex.row_length (right.twin markE)
  generalize left.row = rl at *
  generalize right.row = rr at *
  generalize (left.twin markE).row = rl' at *
  generalize (right.twin markE).row = rr' at *
  match rl, rr, rl', rr', l1, l2, l3, l4 with
  | [a1, a2, a3, a4, a5, a6], [b1, b2, b3, b4, b5, b6], [c1, c2, c3, c4, c5, c6], [d1, d2, d3, d4, d5, d6], _, _, _, _ =>
    simp [ic56, ir56]
    refine r_call 15 true _ _ (m37 p l sp h1) rfl rfl rfl rfl ?_
    simp
    refine r_call 244 true _ _ e1 rfl rfl rfl rfl ?_
    simp
    refine r_call 244 true _ _ e2 rfl rfl rfl rfl ?_
    simp

set_option maxHeartbeats 20000000 in
theorem m61 (x : Lit) (hs : x.small 1048576) : Meets Tryz.prog GT 182 [.agg (x.twin markT.row markE).row, .agg x.row] (.x (.one (cB true))) := by
  refine meets Tryz.func182 ie61 ig61 (Nat.le_of_ble_eq_true rfl) ?_
  obtain ⟨kind, p, l, sp, rel, left, right⟩ := x
  obtain ⟨h1, h2, h3⟩ := hs
  have e1 := m76 left h2
  have e2 := m76 right h3
  simp only [Lit.twin, lit_row]
  have l1 := Ex.row_length left
  have l2 := Ex.row_length right
  have l3 := Ex.row_length (left.twin markE)
  have l4 := Ex.row_length (right.twin markE)
  generalize left.row = rl at *
  generalize right.row = rr at *
  generalize (left.twin markE).row = rl' at *
  generalize (right.twin markE).row = rr' at *
  match rl, rr, rl', rr', l1, l2, l3, l4 with
  | [a1, a2, a3, a4, a5, a6], [b1, b2, b3, b4, b5, b6], [c1, c2, c3, c4, c5, c6], [d1, d2, d3, d4, d5, d6], _, _, _, _ =>
    simp (config := { maxSteps := 5000000 }) [ic61, ir61]
    refine r_call 24 true _ _ (m40 p l sp h1) rfl rfl rfl rfl ?_
    simp
    refine r_call 258 true _ _ e1 rfl rfl rfl rfl ?_
    simp
    refine r_call 258 true _ _ e2 rfl rfl rfl rfl ?_
    simp
end Go.Proofs.YtiomojlcnemnhaaGreatDoor

/- Fx, part Se: lists that are copied element by element by a function, with a mark behind: once for all types of elements. -/
import Derived.Test.YtiomojlcnemnhaaDoorKFxSb
namespace Go.Fx
open Go.RowKit

abbrev ksTwF (t0 t4 t12 t3 t2 : T) (O : List (Nat × Box)) (U : List (Nat × Tok)) (H : FHp) : S := st [(0, t0), (4, t4), (12, t12), (3, t3), (2, t2)] O U H
def icTwFl0 (s : Nat) (elem : FuncId) : IC :=
 (.seq
  (.seq
   (.region [] [] [0, 4, 12, 3, 2] [
     ⟨(some 9), (.move (.t 4)), none, none⟩,
     ⟨(some 10), (.move (.t 0)), none, none⟩,
     ⟨(some 11), (.len (.t 10)), none, none⟩,
     ⟨(some 12), (.bin .lss (.t 9) (.t 11)), none, none⟩])
   (.cond (.t 12)
    .skip
    (.exit 0)))
  (.seq
   (.block 1
    (.region [] [] [0, 4, 12, 3, 2] [
      ⟨(some 15), (.move (.t 3)), none, none⟩,
      ⟨(some 16), (.move (.t 4)), none, none⟩,
      ⟨(some 17), (.move (.t 0)), none, none⟩,
      ⟨(some 18), (.move (.t 4)), none, none⟩,
      ⟨(some 19), (.iaddr s (.t 17) (.t 18)), none, none⟩,
      ⟨(some 20), (.load (some s) (.t 19)), none, none⟩,
      ⟨(some 21), (.callp (.k (rF elem)) [(.t 20)]), none, none⟩,
      ⟨(some 22), (.iaddr s (.t 15) (.t 16)), none, none⟩,
      ⟨none, (.store (some s) (.t 22) (.t 21)), none, none⟩]))
   (.region [] [] [0, 4, 12, 3, 2] [
     ⟨(some 13), (.move (.t 4)), none, none⟩,
     ⟨(some 14), (.bin .add (.t 13) (.k (rI .i64 1))), none, none⟩,
     ⟨(some 4), (.move (.t 14)), none, none⟩])))
def icTwF (ty : TypeId) (s bytes : Nat) (z : List A) (elem mark : FuncId) : IC :=
 (.seq
  (.region [] [] [0, 4, 12, 3, 2] [
    ⟨(some 2), (.move (.k (.x (.one .nil)))), none, none⟩])
  (.seq
   (.region [8] [] [0, 4, 12, 3, 2] [
     ⟨(some 5), (.move (.t 0)), none, none⟩,
     ⟨(some 6), (.len (.t 5)), none, none⟩,
     ⟨(some 7), (.bin .add (.t 6) (.k (rI .i64 1))), none, none⟩,
     ⟨(some 8), (.make ty s bytes z (.t 7) (.t 7)), none, none⟩,
     ⟨(some 3), (.move (.t 8)), none, none⟩])
   (.seq
    (.seq
     (.region [] [] [0, 4, 12, 3, 2] [
       ⟨(some 4), (.move (.k (rI .i64 0))), none, none⟩])
     (.block 0
      (.loop (icTwFl0 s elem))))
    (.seq
     (.region [] [] [0, 4, 12, 3, 2] [
       ⟨(some 23), (.move (.t 3)), none, none⟩,
       ⟨(some 24), (.move (.t 0)), none, none⟩,
       ⟨(some 25), (.len (.t 24)), none, none⟩,
       ⟨(some 26), (.callp (.k (rF mark)) [(.k (rI .i64 777777))]), none, none⟩,
       ⟨(some 27), (.iaddr s (.t 23) (.t 25)), none, none⟩,
       ⟨none, (.store (some s) (.t 27) (.t 26)), none, none⟩])
     (.seq
      (.region [] [] [0, 4, 12, 3, 2] [
        ⟨(some 28), (.move (.t 3)), none, none⟩,
        ⟨(some 29), (.move (.t 0)), none, none⟩,
        ⟨(some 30), (.len (.t 29)), none, none⟩,
        ⟨(some 31), (.vsl s (.t 28) none (some (.t 30))), none, none⟩,
        ⟨(some 2), (.move (.t 31)), none, none⟩])
      .ret)))))

section
variable {P : Program} {G : World → Prop} {α : Type} {s : Nat}

/-- The rows of a copy under way: so many done. -/
def midR (row : α → List C) (l : List α) (z : List A) (i : Nat) : List (List A) := (l.take i).map (fun x => (row x).map A.c) ++ List.replicate (l.length + 1 - i) z

theorem midR_length (row : α → List C) (l : List α) (z : List A) {i : Nat} (h : i ≤ l.length) : (midR row l z i).length = l.length + 1 := by
  simp [midR, List.length_take, Nat.min_eq_left h]; omega
theorem midR_getD (row : α → List C) (l : List α) (z : List A) {i : Nat} (h : i ≤ l.length) : (midR row l z i).getD i [] = z := by
  have h1 : ((l.take i).map (fun x => (row x).map A.c)).length = i := by simp [List.length_take, Nat.min_eq_left h]
  have h2 : l.length + 1 - i = (l.length - i) + 1 := by omega
  unfold midR
  rw [h2, List.replicate_succ]
  conv => lhs; arg 2; rw [← h1]
  exact getD_mid _ _ _ _
theorem midR_set (row : α → List C) (l : List α) (z : List A) {i : Nat} (h : i < l.length) : (midR row l z i).set i ((row l[i]).map A.c) = midR row l z (i + 1) := by
  have h1 : ((l.take i).map (fun x => (row x).map A.c)).length = i := by simp [List.length_take, Nat.min_eq_left (Nat.le_of_lt h)]
  have h2 : l.length + 1 - i = (l.length + 1 - (i + 1)) + 1 := by omega
  unfold midR
  rw [h2, List.replicate_succ]
  conv => lhs; arg 2; rw [← h1]
  rw [set_mid, List.take_succ_eq_append_getElem h, List.map_append, List.append_assoc]
  rfl
theorem midR_last (row : α → List C) (l : List α) (z : List A) (x : List C) : (midR row l z l.length).set l.length (x.map A.c) = (l.map row ++ [x]).map fun r => r.map A.c := by
  have h1 : ((l.take l.length).map (fun x => (row x).map A.c)).length = l.length := by simp
  have h2 : l.length + 1 - l.length = 0 + 1 := by omega
  unfold midR
  rw [h2, List.replicate_succ]
  conv => lhs; arg 2; rw [← h1]
  rw [set_mid]
  simp [Function.comp_def]

theorem twF_gen (row row' : α → List C) (h6 : ∀ x, (row x).length = s) (h6' : ∀ x, (row' x).length = s) {f elem mark : FuncId} {fn : Func} {ty bytes : Nat} {z : List A} {x : List C} (hx : x.length = s) (hf : P.funcs[f]? = some fn) (hc : cmpFunc P ⟨[], []⟩ fn [0, 4, 12, 3, 2] = some (icTwF ty s bytes z elem mark)) (hr : cmpRes P fn.results.toList = some [.tmp 2]) (hn : 1 ≤ fn.ntmps)
    (hz : z.length = s) (hb : bytes ≤ 1024) (hm : Meets P G mark [.one (cI .i64 777777)] (.x (.agg x))) (l : List α) (sp : List (List C)) (hl : l.length ≤ 1048576) (he : ∀ y ∈ l, Meets P G elem [.agg (row y)] (.x (.agg (row' y)))) :
    Meets P G f [.one (.sl (l.map row) sp)] (.x (.one (.sl (l.map row') [x]))) := by
  refine meetsF [8] hf hc hr hn ?_
  have hw : IntKind.i64.wrap ((l.length : Int) + 1) = (l.length : Int) + 1 := by rw [Go.IntWalk.i64_in _ (by omega)]
  simp [icTwF, hw]
  refine k_make rfl rfl rfl (by omega) (by omega) (by unfold maxLen; omega) (by
    have : (bytes : Int) * ((l.length : Int) + 1) ≤ 1024 * 1048577 := by
      have h1 : (bytes : Int) ≤ 1024 := by omega
      have h2 : (l.length : Int) + 1 ≤ 1048577 := by omega
      exact Int.mul_le_mul h1 h2 (by omega) (by omega)
    unfold maxBytes; omega) hz ?_
  have hn1 : ((l.length : Int) + 1).toNat = l.length + 1 := by omega
  simp [hn1]
  refine w_loopK (fun n σ => ∃ (i : Nat) (t12 : T), i + n = l.length ∧ σ = ksTwF (.k true (.x (.one (.c (.sl (l.map row) sp))))) (tI .i64 i) t12 (.k true (.x (.one (.arr 8 0 (l.length + 1) (l.length + 1))))) (.k true (.x (.one .nil))) [(8, ⟨ty, s, midR row' l z i, none⟩)] [] F0)
    l.length ⟨0, _, by simp, by simp [midR]; rfl⟩ ?_
  rintro n σ1 K hK ⟨i, t12, hi, rfl⟩
  obtain hlt | hge := Nat.lt_or_ge i l.length
  · have hI : ∀ t12, K (ksTwF (.k true (.x (.one (.c (.sl (l.map row) sp))))) (tI .i64 (i + 1)) t12 (.k true (.x (.one (.arr 8 0 (l.length + 1) (l.length + 1))))) (.k true (.x (.one .nil))) [(8, ⟨ty, s, midR row' l z (i + 1), none⟩)] [] F0) :=
      fun t12 => hK _ (n - 1) (by omega) ⟨i + 1, t12, by omega, rfl⟩
    clear hK
    have h1 := h6 l[i]
    have h1' := h6' l[i]
    have k1 : ((row l[i]).map A.c).take s = (row l[i]).map A.c := List.take_of_length_le (by simp [h1])
    have g1 := midR_length row' l z (Nat.le_of_lt hlt)
    have g2 : (midR row' l z i)[i]?.getD [] = z := by simpa using midR_getD row' l z (Nat.le_of_lt hlt)
    have hzd : z.drop s = [] := List.drop_eq_nil_of_le (by omega)
    have g3 := midR_set row' l z hlt
    simp [icTwFl0, hlt, h1, k1]
    refine r_call elem true _ _ (he l[i] (List.getElem_mem hlt)) rfl rfl rfl (by simp [k1]) ?_
    simp [wrap_next hlt (by omega), g1, g2, g3, hz, hzd, h1']
    exact ⟨by omega, by omega, hI _⟩
  · obtain rfl : i = l.length := by omega
    have g1 := midR_length row' l z (Nat.le_refl l.length)
    have g2 : (midR row' l z l.length)[l.length]?.getD [] = z := by simpa using midR_getD row' l z (Nat.le_refl l.length)
    have g2' : ∀ h, (midR row' l z l.length)[l.length]'h = z := fun h => by have g := g2; rw [List.getElem?_eq_getElem h] at g; exact g
    have g3 := midR_last row' l z x
    have hzd : z.drop s = [] := List.drop_eq_nil_of_le (by omega)
    simp [icTwFl0]
    refine r_call mark true _ _ hm rfl rfl rfl rfl ?_
    simp [g1, g2', hz, hzd, hx, g3]
    refine ⟨by omega, ?_⟩
    have hrows : List.map ((fun r => List.map A.c r) ∘ row') l ++ [List.map A.c x] = (l.map row' ++ [x]).map fun r => r.map A.c := by simp
    rw [hrows, freeze_st]
    have hB : fzL [(8, ⟨ty, s, (l.map row' ++ [x]).map fun r => r.map A.c, none⟩)] [8] = [(8, l.map row' ++ [x])] := by
      have hlen : ((l.map row' ++ [x]).map fun r => r.map A.c).length ≤ maxLen := by simp; unfold maxLen; omega
      simp only [fzL, lookO_cons, if_true]
      rw [if_pos (by omega), if_pos ⟨trivial, hlen⟩, closeLL_c]
    rw [hB]
    simp [freezeO, ret_one]
    omega
end
end Go.Fx

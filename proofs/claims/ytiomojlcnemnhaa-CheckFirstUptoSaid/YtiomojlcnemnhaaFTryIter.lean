import Derived.Test.YtiomojlcnemnhaaFHxIcY
import Derived.Shelf.SlIter.Nil
import Derived.Shelf.SortM.Plain
import Derived.Shelf.SortM.SortNone
import Derived.Ground.GgzProg
import Derived.Ground.SlgmProg
import Derived.Test.YtiomojlcnemnhaaProg
/- Contracts, on: do all of a list pass. (Labels of 2000 and more: seat ZD.) -/
namespace Go.Proofs.Ytiomojlcnemnhaa
open Go.Fx Go.RowKit Go.Ped
variable {G : World → Prop} {σ : Type}

def allE {α : Type} (f : σ → α → Bool × σ) : σ → List α → Bool × σ
  | s, [] => (true, s)
  | s, a :: l => if (f s a).1 = true then allE f (f s a).2 l else (false, (f s a).2)

theorem m2132 (f : σ → Rule → Bool × σ) (Hs : σ → FHp) (hsame : ∀ s t, sameKeys (Hs s) (Hs t)) (fv : A) (hfv : fv.only farKey (fun _ => False)) (hst : ∀ k, k < 10000 → fv.strike [k] = fv) (l : List Rule) (sp : Sp) (hl : l.length ≤ 1048576)
    (hf : ∀ s, ∀ r ∈ l, MeetsV Try.prog G fv [.agg (r.row.map A.c)] (hp [] [] (Hs s)) (rB (f s r).1) (hp [] [] (Hs (f s r).2))) (s : σ) :
    MeetsH Try.prog G 88 [.one (.c (.sl (l.map Rule.row) sp)), .one fv] (hp [] [] (Hs s)) (rB (allE f s l).1) (hp [] [] (Hs (allE f s l).2)) := by
  refine meetsH [] Try.func88 ie2132 ig2132 (Nat.le_of_ble_eq_true rfl) (by simp) (by simp) ?_ (by simp) (by simp) (hsame _ _) (by simp) (by simp) ?_
  · simp
    exact A.only_mono (fun _ => far_not_own) (fun _ h => h.elim) hfv
  generalize hR : allE f s l = R
  simp [ic2132, ir2132, hst]
  refine w_loopA [] [6] [1, 7, 8, 9] (by simp [ownKey])
    (fun a : Nat × σ => st [(1, .k true (.x (.one fv))), (7, .k true (.x (.one (.c (.sl (l.map Rule.row) sp))))), (8, tI .i64 l.length), (9, tI .i64 a.1)] [] [] (Hs a.2)) (fun a => l.length - a.1)
    (fun a => a.1 ≤ l.length ∧ R = allE f a.2 (l.drop a.1)) (0, s) (by simp [hst]) (by simp [hR]) ?_
  rintro ⟨i, t⟩ K hK ⟨hi, hd⟩
  simp only at hi hd
  obtain hlt | hge := Nat.lt_or_ge i l.length
  · rw [List.drop_eq_getElem_cons hlt, allE] at hd
    have hm := hf t l[i] (List.getElem_mem hlt)
    simp [ic2132l0, hlt, hst]
    refine r_callC hm (hsame _ _) rfl rfl rfl (by simp [X.fits]) (by simp) (by simp) ?_
    simp
    cases h0 : (f t l[i]).1 with
    | true =>
      rw [if_pos h0] at hd
      simp
      simp (disch := omega) only [wrap64]
      exact hK (i + 1, (f t l[i]).2) _ (by simp [hst]) ⟨by simp; omega, hd⟩ (by simp; omega)
    | false =>
      rw [h0] at hd
      simp only [Bool.false_eq_true, if_false] at hd
      subst hd
      simp
      exact ret_st (by simp) (by simp) (by simp) (by simp) (by simp) (by simp)
  · rw [List.drop_eq_nil_of_le hge, allE] at hd
    subst hd
    simp [ic2132l0, Nat.not_lt.mpr hge]
    exact ret_st (by simp) (by simp) (by simp) (by simp) (by simp) (by simp)

theorem m2133 (f : σ → Fc → Bool × σ) (Hs : σ → FHp) (hsame : ∀ s t, sameKeys (Hs s) (Hs t)) (fv : A) (hfv : fv.only farKey (fun _ => False)) (hst : ∀ k, k < 10000 → fv.strike [k] = fv) (l : List Fc) (sp : Sp) (hl : l.length ≤ 1048576)
    (hf : ∀ s, ∀ r ∈ l, MeetsV Try.prog G fv [.agg (r.row.map A.c)] (hp [] [] (Hs s)) (rB (f s r).1) (hp [] [] (Hs (f s r).2))) (s : σ) :
    MeetsH Try.prog G 89 [.one (.c (.sl (l.map Fc.row) sp)), .one fv] (hp [] [] (Hs s)) (rB (allE f s l).1) (hp [] [] (Hs (allE f s l).2)) := by
  refine meetsH [] Try.func89 ie2133 ig2133 (Nat.le_of_ble_eq_true rfl) (by simp) (by simp) ?_ (by simp) (by simp) (hsame _ _) (by simp) (by simp) ?_
  · simp
    exact A.only_mono (fun _ => far_not_own) (fun _ h => h.elim) hfv
  generalize hR : allE f s l = R
  simp [ic2133, ir2133, hst]
  refine w_loopA [] [6] [1, 7, 8, 9] (by simp [ownKey])
    (fun a : Nat × σ => st [(1, .k true (.x (.one fv))), (7, .k true (.x (.one (.c (.sl (l.map Fc.row) sp))))), (8, tI .i64 l.length), (9, tI .i64 a.1)] [] [] (Hs a.2)) (fun a => l.length - a.1)
    (fun a => a.1 ≤ l.length ∧ R = allE f a.2 (l.drop a.1)) (0, s) (by simp [hst]) (by simp [hR]) ?_
  rintro ⟨i, t⟩ K hK ⟨hi, hd⟩
  simp only at hi hd
  obtain hlt | hge := Nat.lt_or_ge i l.length
  · rw [List.drop_eq_getElem_cons hlt, allE] at hd
    have hm := hf t l[i] (List.getElem_mem hlt)
    simp [ic2133l0, hlt, hst]
    refine r_callC hm (hsame _ _) rfl rfl rfl (by simp [X.fits]) (by simp) (by simp) ?_
    simp
    cases h0 : (f t l[i]).1 with
    | true =>
      rw [if_pos h0] at hd
      simp
      simp (disch := omega) only [wrap64]
      exact hK (i + 1, (f t l[i]).2) _ (by simp [hst]) ⟨by simp; omega, hd⟩ (by simp; omega)
    | false =>
      rw [h0] at hd
      simp only [Bool.false_eq_true, if_false] at hd
      subst hd
      simp
      exact ret_st (by simp) (by simp) (by simp) (by simp) (by simp) (by simp)
  · rw [List.drop_eq_nil_of_le hge, allE] at hd
    subst hd
    simp [ic2133l0, Nat.not_lt.mpr hge]
    exact ret_st (by simp) (by simp) (by simp) (by simp) (by simp) (by simp)

end Go.Proofs.Ytiomojlcnemnhaa

/-
  DERIVED. MADE BY PROGRAM (lay-iter.mjs) off ytiomojlcnemnhaa.cut.gsa: THE SHELF's CONTRACTS ON 'slices.Sorted(maps.Keys(m))' LAID AT THIS DUMP: 1 map type. NO WALK OF THE LIBRARY's TEXT: each is one application of a contract over any P and ρ (Derived/Shelf/SlIter/, Derived/Shelf/SortM/).
-/
namespace Go.Proofs
open Go.RowKit Go.Maps Go.Sort Go.Shelf

-- maps.Keys[pedigree/check.arities,string,int] (function 91; its iterator 124) · slices.Sorted[string] (90) · slices.Sort[[]string,string] (123) · the map's type 203, the keys' 9
shelf_lay_g SlLaysZ.n7 Ggz 7 at Try 91 as Try.keys91
shelf_lay_g SlLaysZ.n6 Ggz 6 at Try 90 as Try.sorted90
shelf_lay_g SlLaysM.n6 Slgm 6 at Try 123 as Try.sort123

/-- slices.Sort's two contracts at this dump, at the fence that asks nothing. -/
theorem Try.sorts90 (m : Nat) : AnyZ.SortsIn Try.prog Try.sorted90_ren Fence.wide m :=
  ⟨fun blk off cap ss W hH hblk hsz => callsIn_wide.2 (AnyM.slices_Sort_string Try.sort123 blk off cap ss W hH hblk hsz),
   fun p cap W => callsIn_wide.2 (AnyM.slices_Sort_string_none Try.sort123 p cap W)⟩

/-- **maps.Keys[pedigree/check.arities,string,int], at whatever map, the nil one too:** a function value over ONE NEW BLOCK, which holds the map. -/
theorem Try.maps_Keys_91 (mb : Option Nat) (W : World) : CallsIn Fence.wide 5 Try.prog 91 #[.map mb] W fun e w' => e = .returned (.func (.func 124) #[] #[.pointer (some ⟨W.heap.size, 0, none⟩)]) ∧ w' = W.alloc (.cells #[.map mb] 203) :=
  AnyZ.keys_in Try.keys91 Fence.wide 5 trivial rfl mb W

set_option maxHeartbeats 1000000 in
/-- **slices.Sorted[string] AT WHAT maps.Keys[pedigree/check.arities,string,int] HANDED BACK FOR A MAP THAT IS NOT nil** ('w': the world AHEAD of maps.Keys' call): A NEW SLICE THAT HOLDS THE MAP's KEYS, SORTED; nil just where it has none; nothing that lay before has turned. -/
theorem Try.slices_Sorted_keys_90_91 {H : Type} (b nn : Nat) (D0 : DataW H) (R : Value → Option (DataW H × List MemPlace)) (w : World) (hown : w.ownsMap Try.prog 9 R b nn D0) (hmax : Maps.size D0 ≤ maxLen) (hbytes : Maps.size D0 * 16 ≤ 140737488355328) :
    CallsIn Fence.wide 5 Try.prog 90 #[.func (.func 124) #[] #[.pointer (some ⟨w.heap.size, 0, none⟩)]] (w.alloc (.cells #[.map (some b)] 203)) fun e w' => ∃ (v : Value) (ss : List (List UInt8)), e = .returned v ∧ ss.Perm (strKeys D0) ∧
      w'.ownsRow (w.alloc (.cells #[.map (some b)] 203)).heap.size 9 1 v ss.length ((ss.mergeSort (fun x y => decide (x ≤ y))).map encStr) ∧ (v = .slice none 0 0 ↔ ss = []) ∧ Below (w.alloc (.cells #[.map (some b)] 203)).heap.size (w.alloc (.cells #[.map (some b)] 203)) w' := by
  have hbl := hown.lt
  have hseq : SeqGives Fence.wide 2 Try.prog 124 #[.pointer (some ⟨w.heap.size, 0, none⟩)] encStr (fun ss => ss.Perm (strKeys D0)) (Maps.size D0) (w.alloc (.cells #[.map (some b)] 203)) :=
    AnyZ.keys_gives (ρ := Try.keys91_ren) { Try.keys91 with } Fence.wide _ trivial rfl (by omega) w.heap.size b nn D0 _ (by simp) (by simp) (by
      obtain ⟨es, clock, hb, Ft, hs, hD⟩ := hown
      exact ⟨es, clock, (Below.heap_alloc _ _ b hbl).trans hb, Ft, hs, hD⟩)
  exact AnyZ.sorted_in Try.sorted90 Fence.wide 5 trivial trivial trivial trivial rfl (by omega) (Try.sorts90 _) (enters_of Try.func123 (by kernel_rfl) rfl) 124 #[.pointer (some ⟨w.heap.size, 0, none⟩)] trivial (enters_of Try.func124 (by kernel_rfl) rfl) _ _ hmax hbytes _ hseq

-- THE CALLER's WALK over 'slices.Sorted(maps.Keys(m))' (inside '(callsIn_wide (n := 6)).1'; 'have hfK : Fence.wide.fn 91 := trivial', 'have hfS : Fence.wide.fn 90 := trivial' ahead): THE TWO ARMS TO PASTE:
--   gi_wp2_with (first
--     | (gi_at_call 91; refine (Try.maps_Keys_91 _ _).mono ?_; rintro e w' ⟨rfl, rfl⟩)
--     | (gi_at_call 90; refine (Try.slices_Sorted_keys_90_91 b nn D0 R w hown hmax hbytes).mono ?_; rintro e w' ⟨v, ss, rfl, hS, hrow, hnil, hb⟩))

-- maps.Keys[map[pedigree/api.Mask]*pedigree/index.rows,pedigree/api.Mask,*pedigree/index.rows]: its keys are of no string's kind: not laid by this program
end Go.Proofs

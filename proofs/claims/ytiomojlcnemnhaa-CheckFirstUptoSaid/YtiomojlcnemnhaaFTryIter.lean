import Derived.Test.YtiomojlcnemnhaaFHxIcY
import Derived.Shelf.SlIter.Nil
import Derived.Shelf.SortM.Plain
import Derived.Shelf.SortM.SortNone
import Derived.Ground.GgzProg
import Derived.Ground.SlgmProg
import Derived.Test.YtiomojlcnemnhaaProg
/- Contracts, on: do all of a list pass. (Labels of 2000 and more: seat ZD.) -/
namespace Go.Proofs.Ytiomojlcnemnhaa
open Go.Fx Go.RowKit Go.Ped
variable {G : World → Prop} {σ : Type}

def allE {α : Type} (f : σ → α → Bool × σ) : σ → List α → Bool × σ
  | s, [] => (true, s)
  | s, a :: l => if (f s a).1 = true then allE f (f s a).2 l else (false, (f s a).2)

theorem m2132 (f : σ → Rule → Bool × σ) (Hs : σ → FHp) (hsame : ∀ s t, sameKeys (Hs s) (Hs t)) (fv : A) (hfv : fv.only farKey (fun _ => False)) (hst : ∀ k, k < 10000 → fv.strike [k] = fv) (l : List Rule) (sp : Sp) (hl : l.length ≤ 1048576)
    (hf : ∀ s, ∀ r ∈ l, MeetsV Try.prog G fv [.agg (r.row.map A.c)] (hp [] [] (Hs s)) (rB (f s r).1) (hp [] [] (Hs (f s r).2))) (s : σ) :
    MeetsH Try.prog G 88 [.one (.c (.sl (l.map Rule.row) sp)), .one fv] (hp [] [] (Hs s)) (rB (allE f s l).1) (hp [] [] (Hs (allE f s l).2)) := by
  refine meetsH [] Try.func88 ie2132 ig2132 (Nat.le_of_ble_eq_true rfl) (by simp) (by simp) ?_ (by simp) (by simp) (hsame _ _) (by simp) (by simp) ?_
  · simp
    exact A.only_mono (fun _ => far_not_own) (fun _ h => h.elim) hfv
  generalize hR : allE f s l = R
  simp [ic2132, ir2132, hst]
  refine w_loopA [] [6] [1, 7, 8, 9] (by simp [ownKey])
    (fun a : Nat × σ => st [(1, .k true (.x (.one fv))), (7, .k true (.x (.one (.c (.sl (l.map Rule.row) sp))))), (8, tI .i64 l.length), (9, tI .i64 a.1)] [] [] (Hs a.2)) (fun a => l.length - a.1)
    (fun a => a.1 ≤ l.length ∧ R = allE f a.2 (l.drop a.1)) (0, s) (by simp [hst]) (by simp [hR]) ?_
  rintro ⟨i, t⟩ K hK ⟨hi, hd⟩
  simp only at hi hd
  obtain hlt | hge := Nat.lt_or_ge i l.length
  · rw [List.drop_eq_getElem_cons hlt, allE] at hd
    have hm := hf t l[i] (List.getElem_mem hlt)
    simp [ic2132l0, hlt, hst]
    refine r_callC hm (hsame _ _) rfl rfl rfl (by simp [X.fits]) (by simp) (by simp) ?_
    simp
    cases h0 : (f t l[i]).1 with
    | true =>
      rw [if_pos h0] at hd
      simp
      simp (disch := omega) only [wrap64]
      exact hK (i + 1, (f t l[i]).2) _ (by simp [hst]) ⟨by simp; omega, hd⟩ (by simp; omega)
    | false =>
      rw [h0] at hd
      simp only [Bool.false_eq_true, if_false] at hd
      subst hd
      simp
      exact ret_st (by simp) (by simp) (by simp) (by simp) (by simp) (by simp)
  · rw [List.drop_eq_nil_of_le hge, allE] at hd
    subst hd
    simp [ic2132l0, Nat.not_lt.mpr hge]
    exact ret_st (by simp) (by simp) (by simp) (by simp) (by simp) (by simp)

theorem m2133 (f : σ → Fc → Bool × σ) (Hs : σ → FHp) (hsame : ∀ s t, sameKeys (Hs s) (Hs t)) (fv : A) (hfv : fv.only farKey (fun _ => False)) (hst : ∀ k, k < 10000 → fv.strike [k] = fv) (l : List Fc) (sp : Sp) (hl : l.length ≤ 1048576)
    (hf : ∀ s, ∀ r ∈ l, MeetsV Try.prog G fv [.agg (r.row.map A.c)] (hp [] [] (Hs s)) (rB (f s r).1) (hp [] [] (Hs (f s r).2))) (s : σ) :
    MeetsH Try.prog G 89 [.one (.c (.sl (l.map Fc.row) sp)), .one fv] (hp [] [] (Hs s)) (rB (allE f s l).1) (hp [] [] (Hs (allE f s l).2)) := by
  refine meetsH [] Try.func89 ie2133 ig2133 (Nat.le_of_ble_eq_true rfl) (by simp) (by simp) ?_ (by simp) (by simp) (hsame _ _) (by simp) (by simp) ?_
  · simp
    exact A.only_mono (fun _ => far_not_own) (fun _ h => h.elim) hfv
  generalize hR : allE f s l = R
  simp [ic2133, ir2133, hst]
  refine w_loopA [] [6] [1, 7, 8, 9] (by simp [ownKey])
    (fun a : Nat × σ => st [(1, .k true (.x (.one fv))), (7, .k true (.x (.one (.c (.sl (l.map Fc.row) sp))))), (8, tI .i64 l.length), (9, tI .i64 a.1)] [] [] (Hs a.2)) (fun a => l.length - a.1)
    (fun a => a.1 ≤ l.length ∧ R = allE f a.2 (l.drop a.1)) (0, s) (by simp [hst]) (by simp [hR]) ?_
  rintro ⟨i, t⟩ K hK ⟨hi, hd⟩
  simp only at hi hd
  obtain hlt | hge := Nat.lt_or_ge i l.length
  · rw [List.drop_eq_getElem_cons hlt, allE] at hd
    have hm := hf t l[i] (List.getElem_mem hlt)
    simp [ic2133l0, hlt, hst]
    refine r_callC hm (hsame _ _) rfl rfl rfl (by simp [X.fits]) (by simp) (by simp) ?_
    simp
    cases h0 : (f t l[i]).1 with
    | true =>
      rw [if_pos h0] at hd
      simp
      simp (disch := omega) only [wrap64]
      exact hK (i + 1, (f t l[i]).2) _ (by simp [hst]) ⟨by simp; omega, hd⟩ (by simp; omega)
    | false =>
      rw [h0] at hd
      simp only [Bool.false_eq_true, if_false] at hd
      subst hd
      simp
      exact ret_st (by simp) (by simp) (by simp) (by simp) (by simp) (by simp)
  · rw [List.drop_eq_nil_of_le hge, allE] at hd
    subst hd
    simp [ic2133l0, Nat.not_lt.mpr hge]
    exact ret_st (by simp) (by simp) (by simp) (by simp) (by simp) (by simp)

end Go.Proofs.Ytiomojlcnemnhaa

/-
  DERIVED. MADE BY PROGRAM (lay-iter.mjs) off ytiomojlcnemnhaa.cut.gsa: THE SHELF's CONTRACTS ON 'slices.Sorted(maps.Keys(m))' LAID AT THIS DUMP: 1 map type. NO WALK OF THE LIBRARY's TEXT: each is one application of a contract over any P and ρ (Derived/Shelf/SlIter/, Derived/Shelf/SortM/).
-/
namespace Go.Proofs
open Go.RowKit Go.Maps Go.Sort Go.Shelf

-- maps.Keys[pedigree/check.arities,string,int] (function 91; its iterator 124) · slices.Sorted[string] (90) · slices.Sort[[]string,string] (123) · the map's type 203, the keys' 9
def Try.keys91_ren : Go.Shelf.Ren := ⟨fun | 7 => 91 | 10 => 124 | n => n, fun | 23 => 203 | 26 => 9 | 3 => 3 | 28 => 221 | 0 => 0 | 27 => 220 | 33 => 215 | 4 => 4 | n => n, fun | n => n⟩
theorem Try.keys91 : Go.Proofs.SlLaysZ.n7 Try.prog Try.keys91_ren := {
  mixed := by kernel_rfl
  f7 := ⟨Try.f91.name, by decide, Try.func91.trans (congrArg some (by kernel_rfl))⟩
  f10 := ⟨Try.f124.name, by decide, Try.func124.trans (congrArg some (by kernel_rfl))⟩
  t0 := Try.underlying0
  a0 := Try.isAgg0
  z0 := Try.sizeOf0
  v0 := Try.zeroValue0
  t4 := Try.underlying4
  a4 := Try.isAgg4
  z4 := Try.sizeOf4
  v4 := Try.zeroValue4
  t23 := Try.underlying203
  a23 := Try.isAgg203
  z23 := Try.sizeOf203
  v23 := Try.zeroValue203
  t26 := Try.underlying9
  a26 := Try.isAgg9
  z26 := Try.sizeOf9
  v26 := Try.zeroValue9
  t27 := Try.underlying220
  a27 := Try.isAgg220
  z27 := Try.sizeOf220
  v27 := Try.zeroValue220
  t28 := Try.underlying221
  a28 := Try.isAgg221
  z28 := Try.sizeOf221
  v28 := Try.zeroValue221
  t33 := Try.underlying215
  a33 := Try.isAgg215
  z33 := Try.sizeOf215
  v33 := Try.zeroValue215 }
def Try.sorted90_ren : Go.Shelf.Ren := ⟨fun | 6 => 90 | 8 => 122 | 9 => 123 | 11 => 141 | 13 => 132 | 12 => 142 | 23 => 153 | 24 => 154 | 14 => 159 | 15 => 160 | 16 => 161 | 17 => 162 | 18 => 163 | 19 => 164 | 20 => 165 | 21 => 166 | 22 => 167 | 25 => 175 | 26 => 169 | 27 => 170 | 28 => 176 | 29 => 177 | 30 => 178 | 31 => 183 | n => n, fun | 26 => 9 | 28 => 221 | 24 => 117 | 0 => 0 | 3 => 3 | 37 => 267 | 48 => 32 | 50 => 291 | 4 => 4 | 40 => 283 | 39 => 282 | 45 => 235 | 5 => 5 | 9 => 9 | 51 => 300 | 55 => 304 | 57 => 309 | 58 => 310 | 33 => 215 | n => n, fun | n => n⟩
theorem Try.sorted90 : Go.Proofs.SlLaysZ.n6 Try.prog Try.sorted90_ren := {
  mixed := by kernel_rfl
  f6 := ⟨Try.f90.name, by decide, Try.func90.trans (congrArg some (by kernel_rfl))⟩
  f8 := ⟨Try.f122.name, by decide, Try.func122.trans (congrArg some (by kernel_rfl))⟩
  f11 := ⟨Try.f141.name, by decide, Try.func141.trans (congrArg some (by kernel_rfl))⟩
  t0 := Try.underlying0
  a0 := Try.isAgg0
  z0 := Try.sizeOf0
  v0 := Try.zeroValue0
  t24 := Try.underlying117
  a24 := Try.isAgg117
  z24 := Try.sizeOf117
  v24 := Try.zeroValue117
  t26 := Try.underlying9
  a26 := Try.isAgg9
  z26 := Try.sizeOf9
  v26 := Try.zeroValue9
  t28 := Try.underlying221
  a28 := Try.isAgg221
  z28 := Try.sizeOf221
  v28 := Try.zeroValue221
  i26 := by kernel_rfl }
def Try.sort123_ren : Go.Shelf.Ren := ⟨fun | 6 => 123 | 8 => 132 | 9 => 142 | 19 => 153 | 20 => 154 | 21 => 159 | 22 => 160 | 23 => 161 | 24 => 162 | 25 => 163 | 26 => 164 | 27 => 165 | 28 => 166 | 29 => 167 | 36 => 175 | 31 => 169 | 32 => 170 | 37 => 176 | 38 => 177 | 39 => 178 | 41 => 183 | n => n, fun | 27 => 117 | 29 => 9 | 3 => 3 | 32 => 267 | 26 => 117 | 0 => 0 | 44 => 32 | 46 => 291 | 4 => 4 | 36 => 283 | 35 => 282 | 41 => 235 | 5 => 5 | 9 => 9 | 53 => 300 | 57 => 304 | 63 => 309 | 64 => 310 | n => n, fun | n => n⟩
theorem Try.sort123 : Go.Proofs.SlLaysM.n6 Try.prog Try.sort123_ren := {
  mixed := by kernel_rfl
  f6 := ⟨Try.f123.name, by decide, Try.func123.trans (congrArg some (by kernel_rfl))⟩
  f8 := Try.func132.trans (congrArg some (by kernel_rfl))
  f9 := ⟨Try.f142.name, by decide, Try.func142.trans (congrArg some (by kernel_rfl))⟩
  f19 := Try.func153.trans (congrArg some (by kernel_rfl))
  f20 := Try.func154.trans (congrArg some (by kernel_rfl))
  f21 := ⟨Try.f159.name, by decide, Try.func159.trans (congrArg some (by kernel_rfl))⟩
  f22 := ⟨Try.f160.name, by decide, Try.func160.trans (congrArg some (by kernel_rfl))⟩
  f23 := ⟨Try.f161.name, by decide, Try.func161.trans (congrArg some (by kernel_rfl))⟩
  f24 := ⟨Try.f162.name, by decide, Try.func162.trans (congrArg some (by kernel_rfl))⟩
  f25 := ⟨Try.f163.name, by decide, Try.func163.trans (congrArg some (by kernel_rfl))⟩
  f26 := ⟨Try.f164.name, by decide, Try.func164.trans (congrArg some (by kernel_rfl))⟩
  f27 := ⟨Try.f165.name, by decide, Try.func165.trans (congrArg some (by kernel_rfl))⟩
  f28 := ⟨Try.f166.name, by decide, Try.func166.trans (congrArg some (by kernel_rfl))⟩
  f29 := ⟨Try.f167.name, by decide, Try.func167.trans (congrArg some (by kernel_rfl))⟩
  f31 := Try.func169.trans (congrArg some (by kernel_rfl))
  f32 := Try.func170.trans (congrArg some (by kernel_rfl))
  f36 := ⟨Try.f175.name, by decide, Try.func175.trans (congrArg some (by kernel_rfl))⟩
  f37 := ⟨Try.f176.name, by decide, Try.func176.trans (congrArg some (by kernel_rfl))⟩
  f38 := ⟨Try.f177.name, by decide, Try.func177.trans (congrArg some (by kernel_rfl))⟩
  f39 := ⟨Try.f178.name, by decide, Try.func178.trans (congrArg some (by kernel_rfl))⟩
  f41 := ⟨Try.f183.name, by decide, Try.func183.trans (congrArg some (by kernel_rfl))⟩
  t0 := Try.underlying0
  a0 := Try.isAgg0
  z0 := Try.sizeOf0
  v0 := Try.zeroValue0
  t3 := Try.underlying3
  a3 := Try.isAgg3
  z3 := Try.sizeOf3
  v3 := Try.zeroValue3
  t4 := Try.underlying4
  a4 := Try.isAgg4
  z4 := Try.sizeOf4
  v4 := Try.zeroValue4
  t5 := Try.underlying5
  a5 := Try.isAgg5
  z5 := Try.sizeOf5
  v5 := Try.zeroValue5
  t9 := Try.underlying9
  a9 := Try.isAgg9
  z9 := Try.sizeOf9
  v9 := Try.zeroValue9
  t26 := Try.underlying117
  a26 := Try.isAgg117
  z26 := Try.sizeOf117
  v26 := Try.zeroValue117
  t27 := Try.underlying117
  a27 := Try.isAgg117
  z27 := Try.sizeOf117
  v27 := Try.zeroValue117
  t29 := Try.underlying9
  a29 := Try.isAgg9
  z29 := Try.sizeOf9
  v29 := Try.zeroValue9
  t32 := Try.underlying267
  a32 := Try.isAgg267
  z32 := Try.sizeOf267
  v32 := Try.zeroValue267
  t35 := Try.underlying282
  a35 := Try.isAgg282
  z35 := Try.sizeOf282
  v35 := Try.zeroValue282
  t36 := Try.underlying283
  a36 := Try.isAgg283
  z36 := Try.sizeOf283
  v36 := Try.zeroValue283
  t41 := Try.underlying235
  a41 := Try.isAgg235
  z41 := Try.sizeOf235
  v41 := Try.zeroValue235
  t44 := Try.underlying32
  a44 := Try.isAgg32
  z44 := Try.sizeOf32
  v44 := Try.zeroValue32
  t46 := Try.underlying291
  a46 := Try.isAgg291
  z46 := Try.sizeOf291
  v46 := Try.zeroValue291
  t53 := Try.underlying300
  a53 := Try.isAgg300
  z53 := Try.sizeOf300
  v53 := Try.zeroValue300
  t57 := Try.underlying304
  a57 := Try.isAgg304
  z57 := Try.sizeOf304
  v57 := Try.zeroValue304
  t63 := Try.underlying309
  a63 := Try.isAgg309
  z63 := Try.sizeOf309
  v63 := Try.zeroValue309
  t64 := Try.underlying310
  a64 := Try.isAgg310
  z64 := Try.sizeOf310
  v64 := Try.zeroValue310 }

/-- slices.Sort's two contracts at this dump, at the fence that asks nothing. -/
theorem Try.sorts90 (m : Nat) : AnyZ.SortsIn Try.prog Try.sorted90_ren Fence.wide m :=
  ⟨fun blk off cap ss W hH hblk hsz => callsIn_wide.2 (AnyM.slices_Sort_string Try.sort123 blk off cap ss W hH hblk hsz),
   fun p cap W => callsIn_wide.2 (AnyM.slices_Sort_string_none Try.sort123 p cap W)⟩

/-- **maps.Keys[pedigree/check.arities,string,int], at whatever map, the nil one too:** a function value over ONE NEW BLOCK, which holds the map. -/
theorem Try.maps_Keys_91 (mb : Option Nat) (W : World) : CallsIn Fence.wide 5 Try.prog 91 #[.map mb] W fun e w' => e = .returned (.func (.func 124) #[] #[.pointer (some ⟨W.heap.size, 0, none⟩)]) ∧ w' = W.alloc (.cells #[.map mb] 203) :=
  AnyZ.keys_in Try.keys91 Fence.wide 5 trivial rfl mb W

set_option maxHeartbeats 1000000 in
/-- **slices.Sorted[string] AT WHAT maps.Keys[pedigree/check.arities,string,int] HANDED BACK FOR A MAP THAT IS NOT nil** ('w': the world AHEAD of maps.Keys' call): A NEW SLICE THAT HOLDS THE MAP's KEYS, SORTED; nil just where it has none; nothing that lay before has turned. -/
theorem Try.slices_Sorted_keys_90_91 {H : Type} (b nn : Nat) (D0 : DataW H) (R : Value → Option (DataW H × List MemPlace)) (w : World) (hown : w.ownsMap Try.prog 9 R b nn D0) (hmax : Maps.size D0 ≤ maxLen) (hbytes : Maps.size D0 * 16 ≤ 140737488355328) :
    CallsIn Fence.wide 5 Try.prog 90 #[.func (.func 124) #[] #[.pointer (some ⟨w.heap.size, 0, none⟩)]] (w.alloc (.cells #[.map (some b)] 203)) fun e w' => ∃ (v : Value) (ss : List (List UInt8)), e = .returned v ∧ ss.Perm (strKeys D0) ∧
      w'.ownsRow (w.alloc (.cells #[.map (some b)] 203)).heap.size 9 1 v ss.length ((ss.mergeSort (fun x y => decide (x ≤ y))).map encStr) ∧ (v = .slice none 0 0 ↔ ss = []) ∧ Below (w.alloc (.cells #[.map (some b)] 203)).heap.size (w.alloc (.cells #[.map (some b)] 203)) w' := by
  have hbl := hown.lt
  have hseq : SeqGives Fence.wide 2 Try.prog 124 #[.pointer (some ⟨w.heap.size, 0, none⟩)] encStr (fun ss => ss.Perm (strKeys D0)) (Maps.size D0) (w.alloc (.cells #[.map (some b)] 203)) :=
    AnyZ.keys_gives (ρ := Try.keys91_ren) { Try.keys91 with } Fence.wide _ trivial rfl (by omega) w.heap.size b nn D0 _ (by simp) (by simp) (by
      obtain ⟨es, clock, hb, Ft, hs, hD⟩ := hown
      exact ⟨es, clock, (Below.heap_alloc _ _ b hbl).trans hb, Ft, hs, hD⟩)
  exact AnyZ.sorted_in Try.sorted90 Fence.wide 5 trivial trivial trivial trivial rfl (by omega) (Try.sorts90 _) (enters_of Try.func123 (by kernel_rfl) rfl) 124 #[.pointer (some ⟨w.heap.size, 0, none⟩)] trivial (enters_of Try.func124 (by kernel_rfl) rfl) _ _ hmax hbytes _ hseq

-- THE CALLER's WALK over 'slices.Sorted(maps.Keys(m))' (inside '(callsIn_wide (n := 6)).1'; 'have hfK : Fence.wide.fn 91 := trivial', 'have hfS : Fence.wide.fn 90 := trivial' ahead): THE TWO ARMS TO PASTE:
--   gi_wp2_with (first
--     | (gi_at_call 91; refine (Try.maps_Keys_91 _ _).mono ?_; rintro e w' ⟨rfl, rfl⟩)
--     | (gi_at_call 90; refine (Try.slices_Sorted_keys_90_91 b nn D0 R w hown hmax hbytes).mono ?_; rintro e w' ⟨v, ss, rfl, hS, hrow, hnil, hb⟩))

-- maps.Keys[map[pedigree/api.Mask]*pedigree/index.rows,pedigree/api.Mask,*pedigree/index.rows]: its keys are of no string's kind: not laid by this program
end Go.Proofs

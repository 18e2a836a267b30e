import Derived.Test.YtiomojlcnemnhaaGreatDoorJFxWb
import Derived.Test.YtiomojlcnemnhaaGreatDoorProg
import Derived.KernelRfl
import Derived.Test.YtiomojlcnemnhaaGreatDoorJGxQh
import Derived.Test.YtiomojlcnemnhaaGreatDoorJGxIcX
import Derived.Shelf.SlIter.Nil
import Derived.Shelf.SortM.Plain
import Derived.Shelf.SortM.SortNone
import Derived.Ground.GgzProg
import Derived.Ground.SlgmProg
import Derived.Test.YtiomojlcnemnhaaGreatDoorJGxZ2
import Derived.Test.YtiomojlcnemnhaaGreatDoorJGxQg
import Derived.Sort.KeysCollected
/- Functions of the seat, as the small language has them. -/
namespace Go.Proofs.YtiomojlcnemnhaaGreatDoor
open Go.Fx

/-- maps.Keys[pedigree/check.arities,string,int] -/
def ic2135 : IC :=
 (.seq
 (.region [1] [] [0, 1, 2] [
 ⟨(some 1), (.box 151 (.t 0)), none, none⟩,
 ⟨(some 2), (.move (.k (.x (.one (.c (.v .nilFunc)))))), none, none⟩])
 (.seq
 (.region [] [] [0, 1, 2] [
 ⟨(some 3), (.clo 219 [] [(.t 1)]), none, none⟩,
 ⟨(some 2), (.move (.t 3)), none, none⟩])
 .ret))
def ir2135 : List IRes := [.tmp 2]
theorem ie2135 : cmpFunc Go.Proofs.Tryz.prog ⟨[], []⟩ Go.Proofs.Tryz.f135 [0, 1, 2] = some ic2135 := by kernel_rfl
theorem ig2135 : cmpRes Go.Proofs.Tryz.prog Go.Proofs.Tryz.f135.results.toList = some ir2135 := by kernel_rfl

end Go.Proofs.YtiomojlcnemnhaaGreatDoor

/- Contracts, on: do all of a list pass. (Labels of 2000 and more: seat ZD.) -/
namespace Go.Proofs.YtiomojlcnemnhaaGreatDoor
open Go.Fx Go.RowKit Go.Ped
variable {G : World → Prop} {σ : Type}

def allE {α : Type} (f : σ → α → Bool × σ) : σ → List α → Bool × σ
  | s, [] => (true, s)
  | s, a :: l => if (f s a).1 = true then allE f (f s a).2 l else (false, (f s a).2)

theorem m2132 (f : σ → Rule → Bool × σ) (Hs : σ → FHp) (hsame : ∀ s t, sameKeys (Hs s) (Hs t)) (fv : A) (hfv : fv.only farKey (fun _ => False)) (hst : ∀ k, k < 10000 → fv.strike [k] = fv) (l : List Rule) (sp : Sp) (hl : l.length ≤ 1048576)
    (hf : ∀ s, ∀ r ∈ l, MeetsV Tryz.prog G fv [.agg (r.row.map A.c)] (hp [] [] (Hs s)) (rB (f s r).1) (hp [] [] (Hs (f s r).2))) (s : σ) :
    MeetsH Tryz.prog G 132 [.one (.c (.sl (l.map Rule.row) sp)), .one fv] (hp [] [] (Hs s)) (rB (allE f s l).1) (hp [] [] (Hs (allE f s l).2)) := by
  refine meetsH [] Tryz.func132 ie2132 ig2132 (Nat.le_of_ble_eq_true rfl) (by simp) (by simp) ?_ (by simp) (by simp) (hsame _ _) (by simp) (by simp) ?_
  · simp
    exact A.only_mono (fun _ => far_not_own) (fun _ h => h.elim) hfv
  generalize hR : allE f s l = R
  simp [ic2132, ir2132, hst]
  refine w_loopA [] [6] [1, 7, 8, 9] (by simp [ownKey])
    (fun a : Nat × σ => st [(1, .k true (.x (.one fv))), (7, .k true (.x (.one (.c (.sl (l.map Rule.row) sp))))), (8, tI .i64 l.length), (9, tI .i64 a.1)] [] [] (Hs a.2)) (fun a => l.length - a.1)
    (fun a => a.1 ≤ l.length ∧ R = allE f a.2 (l.drop a.1)) (0, s) (by simp [hst]) (by simp [hR]) ?_
  rintro ⟨i, t⟩ K hK ⟨hi, hd⟩
  simp only at hi hd
  obtain hlt | hge := Nat.lt_or_ge i l.length
  · rw [List.drop_eq_getElem_cons hlt, allE] at hd
    have hm := hf t l[i] (List.getElem_mem hlt)
    simp [ic2132l0, hlt, hst]
    refine r_callC hm (hsame _ _) rfl rfl rfl (by simp [X.fits]) (by simp) (by simp) ?_
    simp
    cases h0 : (f t l[i]).1 with
    | true =>
      rw [if_pos h0] at hd
      simp
      simp (disch := omega) only [wrap64]
      exact hK (i + 1, (f t l[i]).2) _ (by simp [hst]) ⟨by simp; omega, hd⟩ (by simp; omega)
    | false =>
      rw [h0] at hd
      simp only [Bool.false_eq_true, if_false] at hd
      subst hd
      simp
      exact ret_st (by simp) (by simp) (by simp) (by simp) (by simp) (by simp)
  · rw [List.drop_eq_nil_of_le hge, allE] at hd
    subst hd
    simp [ic2132l0, Nat.not_lt.mpr hge]
    exact ret_st (by simp) (by simp) (by simp) (by simp) (by simp) (by simp)

theorem m2133 (f : σ → Fc → Bool × σ) (Hs : σ → FHp) (hsame : ∀ s t, sameKeys (Hs s) (Hs t)) (fv : A) (hfv : fv.only farKey (fun _ => False)) (hst : ∀ k, k < 10000 → fv.strike [k] = fv) (l : List Fc) (sp : Sp) (hl : l.length ≤ 1048576)
    (hf : ∀ s, ∀ r ∈ l, MeetsV Tryz.prog G fv [.agg (r.row.map A.c)] (hp [] [] (Hs s)) (rB (f s r).1) (hp [] [] (Hs (f s r).2))) (s : σ) :
    MeetsH Tryz.prog G 133 [.one (.c (.sl (l.map Fc.row) sp)), .one fv] (hp [] [] (Hs s)) (rB (allE f s l).1) (hp [] [] (Hs (allE f s l).2)) := by
  refine meetsH [] Tryz.func133 ie2133 ig2133 (Nat.le_of_ble_eq_true rfl) (by simp) (by simp) ?_ (by simp) (by simp) (hsame _ _) (by simp) (by simp) ?_
  · simp
    exact A.only_mono (fun _ => far_not_own) (fun _ h => h.elim) hfv
  generalize hR : allE f s l = R
  simp [ic2133, ir2133, hst]
  refine w_loopA [] [6] [1, 7, 8, 9] (by simp [ownKey])
    (fun a : Nat × σ => st [(1, .k true (.x (.one fv))), (7, .k true (.x (.one (.c (.sl (l.map Fc.row) sp))))), (8, tI .i64 l.length), (9, tI .i64 a.1)] [] [] (Hs a.2)) (fun a => l.length - a.1)
    (fun a => a.1 ≤ l.length ∧ R = allE f a.2 (l.drop a.1)) (0, s) (by simp [hst]) (by simp [hR]) ?_
  rintro ⟨i, t⟩ K hK ⟨hi, hd⟩
  simp only at hi hd
  obtain hlt | hge := Nat.lt_or_ge i l.length
  · rw [List.drop_eq_getElem_cons hlt, allE] at hd
    have hm := hf t l[i] (List.getElem_mem hlt)
    simp [ic2133l0, hlt, hst]
    refine r_callC hm (hsame _ _) rfl rfl rfl (by simp [X.fits]) (by simp) (by simp) ?_
    simp
    cases h0 : (f t l[i]).1 with
    | true =>
      rw [if_pos h0] at hd
      simp
      simp (disch := omega) only [wrap64]
      exact hK (i + 1, (f t l[i]).2) _ (by simp [hst]) ⟨by simp; omega, hd⟩ (by simp; omega)
    | false =>
      rw [h0] at hd
      simp only [Bool.false_eq_true, if_false] at hd
      subst hd
      simp
      exact ret_st (by simp) (by simp) (by simp) (by simp) (by simp) (by simp)
  · rw [List.drop_eq_nil_of_le hge, allE] at hd
    subst hd
    simp [ic2133l0, Nat.not_lt.mpr hge]
    exact ret_st (by simp) (by simp) (by simp) (by simp) (by simp) (by simp)

end Go.Proofs.YtiomojlcnemnhaaGreatDoor

/-
  DERIVED. MADE BY PROGRAM (lay-iter.mjs) off ytiomojlcnemnhaagreatdoor.cut.gsa: THE SHELF's CONTRACTS ON 'slices.Sorted(maps.Keys(m))' LAID AT THIS DUMP: 1 map type. NO WALK OF THE LIBRARY's TEXT: each is one application of a contract over any P and ρ (Derived/Shelf/SlIter/, Derived/Shelf/SortM/).
-/
namespace Go.Proofs
open Go.RowKit Go.Maps Go.Sort Go.Shelf

-- maps.Keys[pedigree/check.arities,string,int] (function 135; its iterator 219) · slices.Sorted[string] (134) · slices.Sort[[]string,string] (218) · the map's type 151, the keys' 9
def Tryz.keys135_ren : Go.Shelf.Ren := ⟨fun | 7 => 135 | 10 => 219 | n => n, fun | 23 => 151 | 26 => 9 | 3 => 3 | 28 => 176 | 0 => 0 | 27 => 175 | 33 => 216 | 4 => 4 | n => n, fun | n => n⟩
theorem Tryz.keys135 : Go.Proofs.SlLaysZ.n7 Tryz.prog Tryz.keys135_ren := {
  mixed := by kernel_rfl
  f7 := ⟨Tryz.f135.name, by decide, Tryz.func135.trans (congrArg some (by kernel_rfl))⟩
  f10 := ⟨Tryz.f219.name, by decide, Tryz.func219.trans (congrArg some (by kernel_rfl))⟩
  t0 := Tryz.underlying0
  a0 := Tryz.isAgg0
  z0 := Tryz.sizeOf0
  v0 := Tryz.zeroValue0
  t4 := Tryz.underlying4
  a4 := Tryz.isAgg4
  z4 := Tryz.sizeOf4
  v4 := Tryz.zeroValue4
  t23 := Tryz.underlying151
  a23 := Tryz.isAgg151
  z23 := Tryz.sizeOf151
  v23 := Tryz.zeroValue151
  t26 := Tryz.underlying9
  a26 := Tryz.isAgg9
  z26 := Tryz.sizeOf9
  v26 := Tryz.zeroValue9
  t27 := Tryz.underlying175
  a27 := Tryz.isAgg175
  z27 := Tryz.sizeOf175
  v27 := Tryz.zeroValue175
  t28 := Tryz.underlying176
  a28 := Tryz.isAgg176
  z28 := Tryz.sizeOf176
  v28 := Tryz.zeroValue176
  t33 := Tryz.underlying216
  a33 := Tryz.isAgg216
  z33 := Tryz.sizeOf216
  v33 := Tryz.zeroValue216 }
def Tryz.sorted134_ren : Go.Shelf.Ren := ⟨fun | 6 => 134 | 8 => 217 | 9 => 218 | 11 => 275 | 13 => 277 | 12 => 276 | 23 => 314 | 24 => 315 | 14 => 305 | 15 => 306 | 16 => 307 | 17 => 308 | 18 => 309 | 19 => 310 | 20 => 311 | 21 => 312 | 22 => 313 | 25 => 339 | 26 => 340 | 27 => 341 | 28 => 342 | 29 => 343 | 30 => 344 | 31 => 351 | n => n, fun | 26 => 9 | 28 => 176 | 24 => 67 | 0 => 0 | 3 => 3 | 37 => 295 | 48 => 87 | 50 => 285 | 4 => 4 | 40 => 320 | 39 => 319 | 45 => 248 | 5 => 5 | 9 => 9 | 51 => 346 | 55 => 350 | 57 => 355 | 58 => 356 | 33 => 216 | n => n, fun | n => n⟩
theorem Tryz.sorted134 : Go.Proofs.SlLaysZ.n6 Tryz.prog Tryz.sorted134_ren := {
  mixed := by kernel_rfl
  f6 := ⟨Tryz.f134.name, by decide, Tryz.func134.trans (congrArg some (by kernel_rfl))⟩
  f8 := ⟨Tryz.f217.name, by decide, Tryz.func217.trans (congrArg some (by kernel_rfl))⟩
  f11 := ⟨Tryz.f275.name, by decide, Tryz.func275.trans (congrArg some (by kernel_rfl))⟩
  t0 := Tryz.underlying0
  a0 := Tryz.isAgg0
  z0 := Tryz.sizeOf0
  v0 := Tryz.zeroValue0
  t24 := Tryz.underlying67
  a24 := Tryz.isAgg67
  z24 := Tryz.sizeOf67
  v24 := Tryz.zeroValue67
  t26 := Tryz.underlying9
  a26 := Tryz.isAgg9
  z26 := Tryz.sizeOf9
  v26 := Tryz.zeroValue9
  t28 := Tryz.underlying176
  a28 := Tryz.isAgg176
  z28 := Tryz.sizeOf176
  v28 := Tryz.zeroValue176
  i26 := by kernel_rfl }
def Tryz.sort218_ren : Go.Shelf.Ren := ⟨fun | 6 => 218 | 8 => 277 | 9 => 276 | 19 => 314 | 20 => 315 | 21 => 305 | 22 => 306 | 23 => 307 | 24 => 308 | 25 => 309 | 26 => 310 | 27 => 311 | 28 => 312 | 29 => 313 | 36 => 339 | 31 => 340 | 32 => 341 | 37 => 342 | 38 => 343 | 39 => 344 | 41 => 351 | n => n, fun | 27 => 67 | 29 => 9 | 3 => 3 | 32 => 295 | 26 => 67 | 0 => 0 | 44 => 87 | 46 => 285 | 4 => 4 | 36 => 320 | 35 => 319 | 41 => 248 | 5 => 5 | 9 => 9 | 53 => 346 | 57 => 350 | 63 => 355 | 64 => 356 | n => n, fun | n => n⟩
theorem Tryz.sort218 : Go.Proofs.SlLaysM.n6 Tryz.prog Tryz.sort218_ren := {
  mixed := by kernel_rfl
  f6 := ⟨Tryz.f218.name, by decide, Tryz.func218.trans (congrArg some (by kernel_rfl))⟩
  f8 := Tryz.func277.trans (congrArg some (by kernel_rfl))
  f9 := ⟨Tryz.f276.name, by decide, Tryz.func276.trans (congrArg some (by kernel_rfl))⟩
  f19 := Tryz.func314.trans (congrArg some (by kernel_rfl))
  f20 := Tryz.func315.trans (congrArg some (by kernel_rfl))
  f21 := ⟨Tryz.f305.name, by decide, Tryz.func305.trans (congrArg some (by kernel_rfl))⟩
  f22 := ⟨Tryz.f306.name, by decide, Tryz.func306.trans (congrArg some (by kernel_rfl))⟩
  f23 := ⟨Tryz.f307.name, by decide, Tryz.func307.trans (congrArg some (by kernel_rfl))⟩
  f24 := ⟨Tryz.f308.name, by decide, Tryz.func308.trans (congrArg some (by kernel_rfl))⟩
  f25 := ⟨Tryz.f309.name, by decide, Tryz.func309.trans (congrArg some (by kernel_rfl))⟩
  f26 := ⟨Tryz.f310.name, by decide, Tryz.func310.trans (congrArg some (by kernel_rfl))⟩
  f27 := ⟨Tryz.f311.name, by decide, Tryz.func311.trans (congrArg some (by kernel_rfl))⟩
  f28 := ⟨Tryz.f312.name, by decide, Tryz.func312.trans (congrArg some (by kernel_rfl))⟩
  f29 := ⟨Tryz.f313.name, by decide, Tryz.func313.trans (congrArg some (by kernel_rfl))⟩
  f31 := Tryz.func340.trans (congrArg some (by kernel_rfl))
  f32 := Tryz.func341.trans (congrArg some (by kernel_rfl))
  f36 := ⟨Tryz.f339.name, by decide, Tryz.func339.trans (congrArg some (by kernel_rfl))⟩
  f37 := ⟨Tryz.f342.name, by decide, Tryz.func342.trans (congrArg some (by kernel_rfl))⟩
  f38 := ⟨Tryz.f343.name, by decide, Tryz.func343.trans (congrArg some (by kernel_rfl))⟩
  f39 := ⟨Tryz.f344.name, by decide, Tryz.func344.trans (congrArg some (by kernel_rfl))⟩
  f41 := ⟨Tryz.f351.name, by decide, Tryz.func351.trans (congrArg some (by kernel_rfl))⟩
  t0 := Tryz.underlying0
  a0 := Tryz.isAgg0
  z0 := Tryz.sizeOf0
  v0 := Tryz.zeroValue0
  t3 := Tryz.underlying3
  a3 := Tryz.isAgg3
  z3 := Tryz.sizeOf3
  v3 := Tryz.zeroValue3
  t4 := Tryz.underlying4
  a4 := Tryz.isAgg4
  z4 := Tryz.sizeOf4
  v4 := Tryz.zeroValue4
  t5 := Tryz.underlying5
  a5 := Tryz.isAgg5
  z5 := Tryz.sizeOf5
  v5 := Tryz.zeroValue5
  t9 := Tryz.underlying9
  a9 := Tryz.isAgg9
  z9 := Tryz.sizeOf9
  v9 := Tryz.zeroValue9
  t26 := Tryz.underlying67
  a26 := Tryz.isAgg67
  z26 := Tryz.sizeOf67
  v26 := Tryz.zeroValue67
  t27 := Tryz.underlying67
  a27 := Tryz.isAgg67
  z27 := Tryz.sizeOf67
  v27 := Tryz.zeroValue67
  t29 := Tryz.underlying9
  a29 := Tryz.isAgg9
  z29 := Tryz.sizeOf9
  v29 := Tryz.zeroValue9
  t32 := Tryz.underlying295
  a32 := Tryz.isAgg295
  z32 := Tryz.sizeOf295
  v32 := Tryz.zeroValue295
  t35 := Tryz.underlying319
  a35 := Tryz.isAgg319
  z35 := Tryz.sizeOf319
  v35 := Tryz.zeroValue319
  t36 := Tryz.underlying320
  a36 := Tryz.isAgg320
  z36 := Tryz.sizeOf320
  v36 := Tryz.zeroValue320
  t41 := Tryz.underlying248
  a41 := Tryz.isAgg248
  z41 := Tryz.sizeOf248
  v41 := Tryz.zeroValue248
  t44 := Tryz.underlying87
  a44 := Tryz.isAgg87
  z44 := Tryz.sizeOf87
  v44 := Tryz.zeroValue87
  t46 := Tryz.underlying285
  a46 := Tryz.isAgg285
  z46 := Tryz.sizeOf285
  v46 := Tryz.zeroValue285
  t53 := Tryz.underlying346
  a53 := Tryz.isAgg346
  z53 := Tryz.sizeOf346
  v53 := Tryz.zeroValue346
  t57 := Tryz.underlying350
  a57 := Tryz.isAgg350
  z57 := Tryz.sizeOf350
  v57 := Tryz.zeroValue350
  t63 := Tryz.underlying355
  a63 := Tryz.isAgg355
  z63 := Tryz.sizeOf355
  v63 := Tryz.zeroValue355
  t64 := Tryz.underlying356
  a64 := Tryz.isAgg356
  z64 := Tryz.sizeOf356
  v64 := Tryz.zeroValue356 }

/-- slices.Sort's two contracts at this dump, at the fence that asks nothing. -/
theorem Tryz.sorts134 (m : Nat) : AnyZ.SortsIn Tryz.prog Tryz.sorted134_ren Fence.wide m :=
  ⟨fun blk off cap ss W hH hblk hsz => callsIn_wide.2 (AnyM.slices_Sort_string Tryz.sort218 blk off cap ss W hH hblk hsz),
   fun p cap W => callsIn_wide.2 (AnyM.slices_Sort_string_none Tryz.sort218 p cap W)⟩

/-- **maps.Keys[pedigree/check.arities,string,int], at whatever map, the nil one too:** a function value over ONE NEW BLOCK, which holds the map. -/
theorem Tryz.maps_Keys_135 (mb : Option Nat) (W : World) : CallsIn Fence.wide 5 Tryz.prog 135 #[.map mb] W fun e w' => e = .returned (.func (.func 219) #[] #[.pointer (some ⟨W.heap.size, 0, none⟩)]) ∧ w' = W.alloc (.cells #[.map mb] 151) :=
  AnyZ.keys_in Tryz.keys135 Fence.wide 5 trivial rfl mb W

set_option maxHeartbeats 1000000 in
/-- **slices.Sorted[string] AT WHAT maps.Keys[pedigree/check.arities,string,int] HANDED BACK FOR A MAP THAT IS NOT nil** ('w': the world AHEAD of maps.Keys' call): A NEW SLICE THAT HOLDS THE MAP's KEYS, SORTED; nil just where it has none; nothing that lay before has turned. -/
theorem Tryz.slices_Sorted_keys_134_135 {H : Type} (b nn : Nat) (D0 : DataW H) (R : Value → Option (DataW H × List MemPlace)) (w : World) (hown : w.ownsMap Tryz.prog 9 R b nn D0) (hmax : Maps.size D0 ≤ maxLen) (hbytes : Maps.size D0 * 16 ≤ 140737488355328) :
    CallsIn Fence.wide 5 Tryz.prog 134 #[.func (.func 219) #[] #[.pointer (some ⟨w.heap.size, 0, none⟩)]] (w.alloc (.cells #[.map (some b)] 151)) fun e w' => ∃ (v : Value) (ss : List (List UInt8)), e = .returned v ∧ ss.Perm (strKeys D0) ∧
      w'.ownsRow (w.alloc (.cells #[.map (some b)] 151)).heap.size 9 1 v ss.length ((ss.mergeSort (fun x y => decide (x ≤ y))).map encStr) ∧ (v = .slice none 0 0 ↔ ss = []) ∧ Below (w.alloc (.cells #[.map (some b)] 151)).heap.size (w.alloc (.cells #[.map (some b)] 151)) w' := by
  have hbl := hown.lt
  have hseq : SeqGives Fence.wide 2 Tryz.prog 219 #[.pointer (some ⟨w.heap.size, 0, none⟩)] encStr (fun ss => ss.Perm (strKeys D0)) (Maps.size D0) (w.alloc (.cells #[.map (some b)] 151)) :=
    AnyZ.keys_gives (ρ := Tryz.keys135_ren) { Tryz.keys135 with } Fence.wide _ trivial rfl (by omega) w.heap.size b nn D0 _ (by simp) (by simp) (by
      obtain ⟨es, clock, hb, Ft, hs, hD⟩ := hown
      exact ⟨es, clock, (Below.heap_alloc _ _ b hbl).trans hb, Ft, hs, hD⟩)
  exact AnyZ.sorted_in Tryz.sorted134 Fence.wide 5 trivial trivial trivial trivial rfl (by omega) (Tryz.sorts134 _) (enters_of Tryz.func218 (by kernel_rfl) rfl) 219 #[.pointer (some ⟨w.heap.size, 0, none⟩)] trivial (enters_of Tryz.func219 (by kernel_rfl) rfl) _ _ hmax hbytes _ hseq

-- THE CALLER's WALK over 'slices.Sorted(maps.Keys(m))' (inside '(callsIn_wide (n := 6)).1'; 'have hfK : Fence.wide.fn 135 := trivial', 'have hfS : Fence.wide.fn 134 := trivial' ahead): THE TWO ARMS TO PASTE:
--   gi_wp2_with (first
--     | (gi_at_call 135; refine (Tryz.maps_Keys_135 _ _).mono ?_; rintro e w' ⟨rfl, rfl⟩)
--     | (gi_at_call 134; refine (Tryz.slices_Sorted_keys_134_135 b nn D0 R w hown hmax hbytes).mono ?_; rintro e w' ⟨v, ss, rfl, hS, hrow, hnil, hb⟩))


end Go.Proofs

/- Fx, part We: a call that looks at a heap and leaves it as it is, out of what it does to worlds. -/
namespace Go.Fx
open Go.RowKit

section
variable {P : Program} {G : World → Prop}

/-- It looks at the heap, hands back what lies in what nobody writes or in new memory, and leaves all as it was. -/
theorem MeetsH.of_below {f : FuncId} {args : List X} {h : Hp} {res : CR} (hcl : callable P f = true) (hx : ∀ x ∈ args, x.only (fun _ => True) (fun k => h.toks k ≠ none)) (ho : h.only (fun _ => True) (fun k => h.toks k ≠ none))
    (hm : ∀ (w : World) (env : Env) (F : Nat → Prop) (vs : List Value), HMem env h F w → All2 (RepX env h.toks w) args vs → Calls P f vs.toArray w fun e w' => ∃ v, e = .returned v ∧ RepCR (fun b o => env.V b o ∨ w.heap.size ≤ b) w' res v ∧ Below w.heap.size w w') :
    MeetsH P G f args h res.open h := by
  refine ⟨hcl, hx, ho, fun w env F vs _ hmem _ ha => ?_⟩
  refine (hm w env F vs hmem ha).mono ?_
  rintro e w' ⟨v, rfl, hr, hb⟩
  have hcell : ∀ b o, env.V b o → w'.cell? ⟨b, o, none⟩ = w.cell? ⟨b, o, none⟩ := fun b o hv => hb.cell (p := ⟨b, o, none⟩) (hmem.vlt b o hv)
  let env' : Env := { env with V := fun b o => env.V b o ∨ (w.heap.size ≤ b ∧ b < w'.heap.size) }
  have hle : env.Le env' h.toks h.toks w w' := ⟨fun _ _ x => .inl x, hcell, fun _ _ x => x, fun _ t x => ⟨t, x, rfl, Nat.le_refl _, fun _ => rfl⟩⟩
  have hV : ∀ b o, b < w.heap.size → env'.V b o → env.V b o := fun b o hlt hv => hv.elim id fun h => absurd hlt (Nat.not_lt.mpr h.1)
  refine ⟨v, env', F, rfl, openR_rep (fun b o h => h.1.elim .inl fun hh => .inr ⟨hh, h.2⟩) hr.bound, {
    mem := {
      vlt := fun b o hv => hv.elim (fun h => Nat.lt_of_lt_of_le (hmem.vlt b o h) hb.size) fun h => h.2
      ρlt := fun k b s hk => Nat.lt_of_lt_of_le (hmem.ρlt k b s hk) hb.size
      τlt := fun k v b hk hv => Nat.lt_of_lt_of_le (hmem.τlt k v b hk hv) hb.size
      objs := fun k x hk => by
        obtain ⟨b, us, g1, g2, g3, g4, g5⟩ := hmem.objs k x hk
        exact ⟨b, us, g1, g2.of (hb.block b g2.lt), g3.imp fun _ _ _ => RepA.mono hle, g4, fun o hv => g5 o (hV b o g2.lt hv)⟩
      inj := hmem.inj
      toks := fun k t hk => by
        obtain ⟨v, xs, g1, g2, g3⟩ := hmem.toks k t hk
        exact ⟨v, xs, g1, ownsRow_of_block g2 fun b hv => hb.block b (g2.lt b hv).2, fun b hv => ⟨fun o ho hh => (g3 b hv).1 o ho (hV b o (g2.lt b hv).2 hh), (g3 b hv).2⟩⟩
      tinj := hmem.tinj
      sep := hmem.sep
      ext := h.ext.mono (w := w) (fun _ _ x => .inl x) hcell (fun b hF => hb.block b (hmem.flt b hF).1) hmem.ext
      flt := fun b hF => by
        obtain ⟨g1, g2, g3, g4⟩ := hmem.flt b hF
        exact ⟨Nat.lt_of_lt_of_le g1 hb.size, fun o hv => g2 o (hV b o g1 hv), g3, g4⟩ }
    kept := KeptBut.of_below hb
    owned := fun b hb => .inr hb
    vold := fun b o hv => .inl hv
    vcell := hcell
    vnew := fun b o hv => hv.imp id fun h => .inl h.1
    ρold := fun _ _ x => x
    ρnew := fun _ _ x => .inl x
    τold := fun _ _ _ => rfl
    τnew := fun k v hk => .inl (by rw [show env.τ k = some v from hk]; simp)
    tok := fun k t t' h1 h2 => by rw [h1] at h2; injection h2 with h2; subst h2; exact ⟨rfl, Nat.le_refl _, fun _ => rfl⟩ }⟩

theorem flat1 : ∀ xs : List Value, (xs.map fun x => [C.v x]).flatten = xs.map C.v
  | [] => rfl
  | x :: xs => by rw [List.map_cons, List.flatten_cons, flat1 xs]; rfl
/-- A new row of one-celled elements, as nobody will write it. -/
theorem repC_row {V : Nat → Nat → Prop} {w : World} {base : Nat} {e : TypeId} {v : Value} {xs : List Value} (h : w.ownsRow base e 1 v xs.length xs) (hV : ∀ b o, base ≤ b → V b o) (h1 : ∀ x ∈ xs, x.oneCell' = true) :
    RepC V w (.sl (xs.map fun x => [.v x]) []) v := by
  obtain ⟨_, ⟨rfl, hz⟩ | ⟨g, cap, cur, rfl, hbase, hg, hn, hm, hsz, htk⟩⟩ := h
  · have : xs = [] := List.eq_nil_of_length_eq_zero hz
    subst this
    exact .nil 0
  · have hfl : ((xs.map fun x => [C.v x]) ++ []).flatten = xs.map C.v := by
      rw [List.append_nil]
      exact flat1 xs
    refine .sl _ _ 1 g 0 _ cap xs (by simp) (by simpa using hn) hm (fun r hr => ?_) (by rw [hfl]; simp) (fun j u hj => ?_) (fun j c u hc hu => ?_)
    · simp only [List.append_nil, List.mem_map] at hr
      obtain ⟨x, _, rfl⟩ := hr
      rfl
    · refine ⟨?_, hV _ _ hbase⟩
      have hj' : cur.toList[j]? = some u := by
        rw [Nat.mul_one] at htk
        have hlt := (List.getElem?_eq_some_iff.1 hj).1
        have e := congrArg (fun l => l[j]?) htk
        rw [List.getElem?_take, if_pos hlt] at e
        exact e.trans hj
      simp [World.cell?, hg]
      simpa using hj'
    · rw [hfl, List.getElem?_map, hu] at hc
      simp at hc
      subst hc
      exact .v u (h1 u (List.mem_of_getElem? hu))

section
variable {P : Program} {G : World → Prop} {L : List (Nat × T)} {O : List (Nat × Box)} {U : List (Nat × Tok)} {H : FHp} {l : List IOper} {K : S → Prop} {d : Nat}
end
end
end Go.Fx

/- Plain: the map's names, sorted, are the document's predicates. (Labels of 2000 and more: seat ZD.) -/
namespace Go.Proofs.YtiomojlcnemnhaaGreatDoor
open Go.Fx Go.RowKit Go.Ped

def sortN (l : List Name) : List Name := l.mergeSort leB
def predsOf (m : List Pd) : List Pd := (sortN (m.map Pd.name)).map fun v => ⟨v, (lookP m v).getD 0⟩
theorem goMeet_nodup {m m' : List Pd} {p : Pd} (h : goMeet m p = some m') (hn : (m.map Pd.name).Nodup) : (m'.map Pd.name).Nodup := by
  unfold goMeet at h
  split at h
  · split at h
    · injection h with h; subst h; exact hn
    · cases h
  · rename_i hk
    injection h with h
    subst h
    rw [List.map_append, List.nodup_append]
    refine ⟨hn, by simp, fun a ha b hb e => ?_⟩
    simp at hb
    subst hb
    subst e
    exact lookP_none.1 hk ha
theorem goMeets_nodup : ∀ {l m m' : List Pd}, goMeets m l = some m' → (m.map Pd.name).Nodup → (m'.map Pd.name).Nodup
  | [], m, m', h, hn => by injection h with h; subst h; exact hn
  | p :: l, m, m', h, hn => by
    rw [goMeets] at h
    split at h
    · rename_i m1 h1; exact goMeets_nodup h (goMeet_nodup h1 hn)
    · cases h
theorem sortN_ordered {l : List Name} (hn : l.Nodup) : Ordered ltN (sortN l) := by
  have tr : ∀ a b c : List UInt8, leB a b = true → leB b c = true → leB a c = true := fun a b c h1 h2 => by simp only [leB, decide_eq_true_eq] at *; exact List.le_trans h1 h2
  have to : ∀ a b : List UInt8, (leB a b || leB b a) = true := fun a b => by simp only [leB, Bool.or_eq_true, decide_eq_true_eq]; exact List.le_total a b
  have h1 := List.pairwise_mergeSort tr to l
  have h2 : (sortN l).Nodup := (List.mergeSort_perm l leB).nodup_iff.2 hn
  unfold Ordered
  refine (h1.and h2).imp fun {a b} h => ?_
  obtain ⟨h3, h4⟩ := h
  simp only [leB, decide_eq_true_eq] at h3
  rw [ltN_eq, decide_eq_true_eq]
  rcases List.le_iff_lt_or_eq.1 h3 with h | h
  · exact h
  · exact absurd h h4
theorem sortN_mem {l : List Name} {v : Name} : v ∈ sortN l ↔ v ∈ l := (List.mergeSort_perm l leB).mem_iff
theorem sortN_len (l : List Name) : (sortN l).length = l.length := (List.mergeSort_perm l leB).length_eq
theorem preds_eq (L : List Pd) : (goMeets [] L).map predsOf = refMeets ltN [] L := by
  rcases meets_same ltN ltN_trans ltN_total L (same_nil ltN) with ⟨h1, h2⟩ | ⟨m, k, h1, h2, h3⟩
  · rw [h1, h2]; rfl
  · rw [h1, h2, Option.map_some]
    congr 1
    exact preds_same ltN ltN_trans ltN_irr h3 (sortN_ordered (goMeets_nodup h1 (by simp))) (fun v => sortN_mem)
theorem goMeets_len : ∀ {l m m' : List Pd}, goMeets m l = some m' → m'.length ≤ m.length + l.length
  | [], m, m', h => by injection h with h; subst h; simp
  | p :: l, m, m', h => by
    rw [goMeets] at h
    split at h
    · rename_i m1 h1
      have h2 := goMeets_len h
      have h3 : m1.length ≤ m.length + 1 := by
        unfold goMeet at h1
        split at h1
        · split at h1
          · injection h1 with h1; subst h1; omega
          · cases h1
        · injection h1 with h1; subst h1; simp
      simp; omega
    · cases h
theorem goMeets_mem : ∀ {l m m' : List Pd}, goMeets m l = some m' → ∀ p ∈ m', p ∈ m ∨ p ∈ l
  | [], m, m', h, p, hp => by injection h with h; subst h; exact .inl hp
  | q :: l, m, m', h, p, hp => by
    rw [goMeets] at h
    split at h
    · rename_i m1 h1
      rcases goMeets_mem h p hp with h2 | h2
      · unfold goMeet at h1
        split at h1
        · split at h1
          · injection h1 with h1; subst h1; exact .inl h2
          · cases h1
        · injection h1 with h1; subst h1
          rcases List.mem_append.1 h2 with h2 | h2
          · exact .inl h2
          · simp at h2; subst h2; exact .inr (List.mem_cons_self ..)
      · exact .inr (List.mem_cons_of_mem _ h2)
    · cases h
end Go.Proofs.YtiomojlcnemnhaaGreatDoor

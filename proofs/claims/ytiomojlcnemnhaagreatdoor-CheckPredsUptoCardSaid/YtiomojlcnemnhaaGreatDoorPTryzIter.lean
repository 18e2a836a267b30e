/-
  DERIVED. MADE BY PROGRAM (lay-iter.mjs) off ytiomojlcnemnhaagreatdoor.cut.gsa: THE SHELF's CONTRACTS ON 'slices.Sorted(maps.Keys(m))' LAID AT THIS DUMP: 1 map type. NO WALK OF THE LIBRARY's TEXT: each is one application of a contract over any P and ρ (Derived/Shelf/SlIter/, Derived/Shelf/SortM/).
-/
import Derived.Shelf.SlIter.Nil
import Derived.Shelf.SortM.Plain
import Derived.Shelf.SortM.SortNone
import Derived.Ground.GgzProg
import Derived.Ground.SlgmProg
import Derived.Test.YtiomojlcnemnhaaGreatDoorProg
namespace Go.Proofs
open Go.RowKit Go.Maps Go.Sort Go.Shelf

-- maps.Keys[pedigree/check.arities,string,int] (function 135; its iterator 219) · slices.Sorted[string] (134) · slices.Sort[[]string,string] (218) · the map's type 151, the keys' 9
def Tryz.keys135_ren : Go.Shelf.Ren := ⟨fun | 7 => 135 | 10 => 219 | n => n, fun | 23 => 151 | 26 => 9 | 3 => 3 | 28 => 176 | 0 => 0 | 27 => 175 | 33 => 216 | 4 => 4 | n => n, fun | n => n⟩
theorem Tryz.keys135 : Go.Proofs.SlLaysZ.n7 Tryz.prog Tryz.keys135_ren := {
  mixed := by kernel_rfl
  f7 := ⟨Tryz.f135.name, by decide, Tryz.func135.trans (congrArg some (by kernel_rfl))⟩
  f10 := ⟨Tryz.f219.name, by decide, Tryz.func219.trans (congrArg some (by kernel_rfl))⟩
  t0 := Tryz.underlying0
  a0 := Tryz.isAgg0
  z0 := Tryz.sizeOf0
  v0 := Tryz.zeroValue0
  t4 := Tryz.underlying4
  a4 := Tryz.isAgg4
  z4 := Tryz.sizeOf4
  v4 := Tryz.zeroValue4
  t23 := Tryz.underlying151
  a23 := Tryz.isAgg151
  z23 := Tryz.sizeOf151
  v23 := Tryz.zeroValue151
  t26 := Tryz.underlying9
  a26 := Tryz.isAgg9
  z26 := Tryz.sizeOf9
  v26 := Tryz.zeroValue9
  t27 := Tryz.underlying175
  a27 := Tryz.isAgg175
  z27 := Tryz.sizeOf175
  v27 := Tryz.zeroValue175
  t28 := Tryz.underlying176
  a28 := Tryz.isAgg176
  z28 := Tryz.sizeOf176
  v28 := Tryz.zeroValue176
  t33 := Tryz.underlying216
  a33 := Tryz.isAgg216
  z33 := Tryz.sizeOf216
  v33 := Tryz.zeroValue216 }
def Tryz.sorted134_ren : Go.Shelf.Ren := ⟨fun | 6 => 134 | 8 => 217 | 9 => 218 | 11 => 275 | 13 => 277 | 12 => 276 | 23 => 314 | 24 => 315 | 14 => 305 | 15 => 306 | 16 => 307 | 17 => 308 | 18 => 309 | 19 => 310 | 20 => 311 | 21 => 312 | 22 => 313 | 25 => 339 | 26 => 340 | 27 => 341 | 28 => 342 | 29 => 343 | 30 => 344 | 31 => 351 | n => n, fun | 26 => 9 | 28 => 176 | 24 => 67 | 0 => 0 | 3 => 3 | 37 => 295 | 48 => 87 | 50 => 285 | 4 => 4 | 40 => 320 | 39 => 319 | 45 => 248 | 5 => 5 | 9 => 9 | 51 => 346 | 55 => 350 | 57 => 355 | 58 => 356 | 33 => 216 | n => n, fun | n => n⟩
theorem Tryz.sorted134 : Go.Proofs.SlLaysZ.n6 Tryz.prog Tryz.sorted134_ren := {
  mixed := by kernel_rfl
  f6 := ⟨Tryz.f134.name, by decide, Tryz.func134.trans (congrArg some (by kernel_rfl))⟩
  f8 := ⟨Tryz.f217.name, by decide, Tryz.func217.trans (congrArg some (by kernel_rfl))⟩
  f11 := ⟨Tryz.f275.name, by decide, Tryz.func275.trans (congrArg some (by kernel_rfl))⟩
  t0 := Tryz.underlying0
  a0 := Tryz.isAgg0
  z0 := Tryz.sizeOf0
  v0 := Tryz.zeroValue0
  t24 := Tryz.underlying67
  a24 := Tryz.isAgg67
  z24 := Tryz.sizeOf67
  v24 := Tryz.zeroValue67
  t26 := Tryz.underlying9
  a26 := Tryz.isAgg9
  z26 := Tryz.sizeOf9
  v26 := Tryz.zeroValue9
  t28 := Tryz.underlying176
  a28 := Tryz.isAgg176
  z28 := Tryz.sizeOf176
  v28 := Tryz.zeroValue176
  i26 := by kernel_rfl }
def Tryz.sort218_ren : Go.Shelf.Ren := ⟨fun | 6 => 218 | 8 => 277 | 9 => 276 | 19 => 314 | 20 => 315 | 21 => 305 | 22 => 306 | 23 => 307 | 24 => 308 | 25 => 309 | 26 => 310 | 27 => 311 | 28 => 312 | 29 => 313 | 36 => 339 | 31 => 340 | 32 => 341 | 37 => 342 | 38 => 343 | 39 => 344 | 41 => 351 | n => n, fun | 27 => 67 | 29 => 9 | 3 => 3 | 32 => 295 | 26 => 67 | 0 => 0 | 44 => 87 | 46 => 285 | 4 => 4 | 36 => 320 | 35 => 319 | 41 => 248 | 5 => 5 | 9 => 9 | 53 => 346 | 57 => 350 | 63 => 355 | 64 => 356 | n => n, fun | n => n⟩
theorem Tryz.sort218 : Go.Proofs.SlLaysM.n6 Tryz.prog Tryz.sort218_ren := {
  mixed := by kernel_rfl
  f6 := ⟨Tryz.f218.name, by decide, Tryz.func218.trans (congrArg some (by kernel_rfl))⟩
  f8 := Tryz.func277.trans (congrArg some (by kernel_rfl))
  f9 := ⟨Tryz.f276.name, by decide, Tryz.func276.trans (congrArg some (by kernel_rfl))⟩
  f19 := Tryz.func314.trans (congrArg some (by kernel_rfl))
  f20 := Tryz.func315.trans (congrArg some (by kernel_rfl))
  f21 := ⟨Tryz.f305.name, by decide, Tryz.func305.trans (congrArg some (by kernel_rfl))⟩
  f22 := ⟨Tryz.f306.name, by decide, Tryz.func306.trans (congrArg some (by kernel_rfl))⟩
  f23 := ⟨Tryz.f307.name, by decide, Tryz.func307.trans (congrArg some (by kernel_rfl))⟩
  f24 := ⟨Tryz.f308.name, by decide, Tryz.func308.trans (congrArg some (by kernel_rfl))⟩
  f25 := ⟨Tryz.f309.name, by decide, Tryz.func309.trans (congrArg some (by kernel_rfl))⟩
  f26 := ⟨Tryz.f310.name, by decide, Tryz.func310.trans (congrArg some (by kernel_rfl))⟩
  f27 := ⟨Tryz.f311.name, by decide, Tryz.func311.trans (congrArg some (by kernel_rfl))⟩
  f28 := ⟨Tryz.f312.name, by decide, Tryz.func312.trans (congrArg some (by kernel_rfl))⟩
  f29 := ⟨Tryz.f313.name, by decide, Tryz.func313.trans (congrArg some (by kernel_rfl))⟩
  f31 := Tryz.func340.trans (congrArg some (by kernel_rfl))
  f32 := Tryz.func341.trans (congrArg some (by kernel_rfl))
  f36 := ⟨Tryz.f339.name, by decide, Tryz.func339.trans (congrArg some (by kernel_rfl))⟩
  f37 := ⟨Tryz.f342.name, by decide, Tryz.func342.trans (congrArg some (by kernel_rfl))⟩
  f38 := ⟨Tryz.f343.name, by decide, Tryz.func343.trans (congrArg some (by kernel_rfl))⟩
  f39 := ⟨Tryz.f344.name, by decide, Tryz.func344.trans (congrArg some (by kernel_rfl))⟩
  f41 := ⟨Tryz.f351.name, by decide, Tryz.func351.trans (congrArg some (by kernel_rfl))⟩
  t0 := Tryz.underlying0
  a0 := Tryz.isAgg0
  z0 := Tryz.sizeOf0
  v0 := Tryz.zeroValue0
  t3 := Tryz.underlying3
  a3 := Tryz.isAgg3
  z3 := Tryz.sizeOf3
  v3 := Tryz.zeroValue3
  t4 := Tryz.underlying4
  a4 := Tryz.isAgg4
  z4 := Tryz.sizeOf4
  v4 := Tryz.zeroValue4
  t5 := Tryz.underlying5
  a5 := Tryz.isAgg5
  z5 := Tryz.sizeOf5
  v5 := Tryz.zeroValue5
  t9 := Tryz.underlying9
  a9 := Tryz.isAgg9
  z9 := Tryz.sizeOf9
  v9 := Tryz.zeroValue9
  t26 := Tryz.underlying67
  a26 := Tryz.isAgg67
  z26 := Tryz.sizeOf67
  v26 := Tryz.zeroValue67
  t27 := Tryz.underlying67
  a27 := Tryz.isAgg67
  z27 := Tryz.sizeOf67
  v27 := Tryz.zeroValue67
  t29 := Tryz.underlying9
  a29 := Tryz.isAgg9
  z29 := Tryz.sizeOf9
  v29 := Tryz.zeroValue9
  t32 := Tryz.underlying295
  a32 := Tryz.isAgg295
  z32 := Tryz.sizeOf295
  v32 := Tryz.zeroValue295
  t35 := Tryz.underlying319
  a35 := Tryz.isAgg319
  z35 := Tryz.sizeOf319
  v35 := Tryz.zeroValue319
  t36 := Tryz.underlying320
  a36 := Tryz.isAgg320
  z36 := Tryz.sizeOf320
  v36 := Tryz.zeroValue320
  t41 := Tryz.underlying248
  a41 := Tryz.isAgg248
  z41 := Tryz.sizeOf248
  v41 := Tryz.zeroValue248
  t44 := Tryz.underlying87
  a44 := Tryz.isAgg87
  z44 := Tryz.sizeOf87
  v44 := Tryz.zeroValue87
  t46 := Tryz.underlying285
  a46 := Tryz.isAgg285
  z46 := Tryz.sizeOf285
  v46 := Tryz.zeroValue285
  t53 := Tryz.underlying346
  a53 := Tryz.isAgg346
  z53 := Tryz.sizeOf346
  v53 := Tryz.zeroValue346
  t57 := Tryz.underlying350
  a57 := Tryz.isAgg350
  z57 := Tryz.sizeOf350
  v57 := Tryz.zeroValue350
  t63 := Tryz.underlying355
  a63 := Tryz.isAgg355
  z63 := Tryz.sizeOf355
  v63 := Tryz.zeroValue355
  t64 := Tryz.underlying356
  a64 := Tryz.isAgg356
  z64 := Tryz.sizeOf356
  v64 := Tryz.zeroValue356 }

/-- slices.Sort's two contracts at this dump, at the fence that asks nothing. -/
theorem Tryz.sorts134 (m : Nat) : AnyZ.SortsIn Tryz.prog Tryz.sorted134_ren Fence.wide m :=
  ⟨fun blk off cap ss W hH hblk hsz => callsIn_wide.2 (AnyM.slices_Sort_string Tryz.sort218 blk off cap ss W hH hblk hsz),
   fun p cap W => callsIn_wide.2 (AnyM.slices_Sort_string_none Tryz.sort218 p cap W)⟩

/-- **maps.Keys[pedigree/check.arities,string,int], at whatever map, the nil one too:** a function value over ONE NEW BLOCK, which holds the map. -/
theorem Tryz.maps_Keys_135 (mb : Option Nat) (W : World) : CallsIn Fence.wide 5 Tryz.prog 135 #[.map mb] W fun e w' => e = .returned (.func (.func 219) #[] #[.pointer (some ⟨W.heap.size, 0, none⟩)]) ∧ w' = W.alloc (.cells #[.map mb] 151) :=
  AnyZ.keys_in Tryz.keys135 Fence.wide 5 trivial rfl mb W

set_option maxHeartbeats 1000000 in
/-- **slices.Sorted[string] AT WHAT maps.Keys[pedigree/check.arities,string,int] HANDED BACK FOR A MAP THAT IS NOT nil** ('w': the world AHEAD of maps.Keys' call): A NEW SLICE THAT HOLDS THE MAP's KEYS, SORTED; nil just where it has none; nothing that lay before has turned. -/
theorem Tryz.slices_Sorted_keys_134_135 {H : Type} (b nn : Nat) (D0 : DataW H) (R : Value → Option (DataW H × List MemPlace)) (w : World) (hown : w.ownsMap Tryz.prog 9 R b nn D0) (hmax : Maps.size D0 ≤ maxLen) (hbytes : Maps.size D0 * 16 ≤ 140737488355328) :
    CallsIn Fence.wide 5 Tryz.prog 134 #[.func (.func 219) #[] #[.pointer (some ⟨w.heap.size, 0, none⟩)]] (w.alloc (.cells #[.map (some b)] 151)) fun e w' => ∃ (v : Value) (ss : List (List UInt8)), e = .returned v ∧ ss.Perm (strKeys D0) ∧
      w'.ownsRow (w.alloc (.cells #[.map (some b)] 151)).heap.size 9 1 v ss.length ((ss.mergeSort (fun x y => decide (x ≤ y))).map encStr) ∧ (v = .slice none 0 0 ↔ ss = []) ∧ Below (w.alloc (.cells #[.map (some b)] 151)).heap.size (w.alloc (.cells #[.map (some b)] 151)) w' := by
  have hbl := hown.lt
  have hseq : SeqGives Fence.wide 2 Tryz.prog 219 #[.pointer (some ⟨w.heap.size, 0, none⟩)] encStr (fun ss => ss.Perm (strKeys D0)) (Maps.size D0) (w.alloc (.cells #[.map (some b)] 151)) :=
    AnyZ.keys_gives (ρ := Tryz.keys135_ren) { Tryz.keys135 with } Fence.wide _ trivial rfl (by omega) w.heap.size b nn D0 _ (by simp) (by simp) (by
      obtain ⟨es, clock, hb, Ft, hs, hD⟩ := hown
      exact ⟨es, clock, (Below.heap_alloc _ _ b hbl).trans hb, Ft, hs, hD⟩)
  exact AnyZ.sorted_in Tryz.sorted134 Fence.wide 5 trivial trivial trivial trivial rfl (by omega) (Tryz.sorts134 _) (enters_of Tryz.func218 (by kernel_rfl) rfl) 219 #[.pointer (some ⟨w.heap.size, 0, none⟩)] trivial (enters_of Tryz.func219 (by kernel_rfl) rfl) _ _ hmax hbytes _ hseq

-- THE CALLER's WALK over 'slices.Sorted(maps.Keys(m))' (inside '(callsIn_wide (n := 6)).1'; 'have hfK : Fence.wide.fn 135 := trivial', 'have hfS : Fence.wide.fn 134 := trivial' ahead): THE TWO ARMS TO PASTE:
--   gi_wp2_with (first
--     | (gi_at_call 135; refine (Tryz.maps_Keys_135 _ _).mono ?_; rintro e w' ⟨rfl, rfl⟩)
--     | (gi_at_call 134; refine (Tryz.slices_Sorted_keys_134_135 b nn D0 R w hown hmax hbytes).mono ?_; rintro e w' ⟨v, ss, rfl, hS, hrow, hnil, hb⟩))


end Go.Proofs

import Derived.Test.YtiomojlcnemnhaaLHxIcY
import Derived.Shelf.SlIter.Nil
import Derived.Shelf.SortM.Plain
import Derived.Shelf.SortM.SortNone
import Derived.Ground.GgzProg
import Derived.Ground.SlgmProg
import Derived.Test.YtiomojlcnemnhaaProg
import Derived.Test.YtiomojlcnemnhaaLHxZ1
import Derived.Test.YtiomojlcnemnhaaLHxQf
import Derived.Sort.KeysCollected
/- Contracts, on: do all of a list pass. (Labels of 2000 and more: seat ZD.) -/
namespace Go.Proofs.Ytiomojlcnemnhaa
open Go.Fx Go.RowKit Go.Ped
variable {G : World → Prop} {σ : Type}

def allE {α : Type} (f : σ → α → Bool × σ) : σ → List α → Bool × σ
  | s, [] => (true, s)
  | s, a :: l => if (f s a).1 = true then allE f (f s a).2 l else (false, (f s a).2)

theorem m2132 (f : σ → Rule → Bool × σ) (Hs : σ → FHp) (hsame : ∀ s t, sameKeys (Hs s) (Hs t)) (fv : A) (hfv : fv.only farKey (fun _ => False)) (hst : ∀ k, k < 10000 → fv.strike [k] = fv) (l : List Rule) (sp : Sp) (hl : l.length ≤ 1048576)
    (hf : ∀ s, ∀ r ∈ l, MeetsV Try.prog G fv [.agg (r.row.map A.c)] (hp [] [] (Hs s)) (rB (f s r).1) (hp [] [] (Hs (f s r).2))) (s : σ) :
    MeetsH Try.prog G 88 [.one (.c (.sl (l.map Rule.row) sp)), .one fv] (hp [] [] (Hs s)) (rB (allE f s l).1) (hp [] [] (Hs (allE f s l).2)) := by
  refine meetsH [] Try.func88 ie2132 ig2132 (Nat.le_of_ble_eq_true rfl) (by simp) (by simp) ?_ (by simp) (by simp) (hsame _ _) (by simp) (by simp) ?_
  · simp
    exact A.only_mono (fun _ => far_not_own) (fun _ h => h.elim) hfv
  generalize hR : allE f s l = R
  simp [ic2132, ir2132, hst]
  refine w_loopA [] [6] [1, 7, 8, 9] (by simp [ownKey])
    (fun a : Nat × σ => st [(1, .k true (.x (.one fv))), (7, .k true (.x (.one (.c (.sl (l.map Rule.row) sp))))), (8, tI .i64 l.length), (9, tI .i64 a.1)] [] [] (Hs a.2)) (fun a => l.length - a.1)
    (fun a => a.1 ≤ l.length ∧ R = allE f a.2 (l.drop a.1)) (0, s) (by simp [hst]) (by simp [hR]) ?_
  rintro ⟨i, t⟩ K hK ⟨hi, hd⟩
  simp only at hi hd
  obtain hlt | hge := Nat.lt_or_ge i l.length
  · rw [List.drop_eq_getElem_cons hlt, allE] at hd
    have hm := hf t l[i] (List.getElem_mem hlt)
    simp [ic2132l0, hlt, hst]
    refine r_callC hm (hsame _ _) rfl rfl rfl (by simp [X.fits]) (by simp) (by simp) ?_
    simp
    cases h0 : (f t l[i]).1 with
    | true =>
      rw [if_pos h0] at hd
      simp
      simp (disch := omega) only [wrap64]
      exact hK (i + 1, (f t l[i]).2) _ (by simp [hst]) ⟨by simp; omega, hd⟩ (by simp; omega)
    | false =>
      rw [h0] at hd
      simp only [Bool.false_eq_true, if_false] at hd
      subst hd
      simp
      exact ret_st (by simp) (by simp) (by simp) (by simp) (by simp) (by simp)
  · rw [List.drop_eq_nil_of_le hge, allE] at hd
    subst hd
    simp [ic2132l0, Nat.not_lt.mpr hge]
    exact ret_st (by simp) (by simp) (by simp) (by simp) (by simp) (by simp)

theorem m2133 (f : σ → Fc → Bool × σ) (Hs : σ → FHp) (hsame : ∀ s t, sameKeys (Hs s) (Hs t)) (fv : A) (hfv : fv.only farKey (fun _ => False)) (hst : ∀ k, k < 10000 → fv.strike [k] = fv) (l : List Fc) (sp : Sp) (hl : l.length ≤ 1048576)
    (hf : ∀ s, ∀ r ∈ l, MeetsV Try.prog G fv [.agg (r.row.map A.c)] (hp [] [] (Hs s)) (rB (f s r).1) (hp [] [] (Hs (f s r).2))) (s : σ) :
    MeetsH Try.prog G 89 [.one (.c (.sl (l.map Fc.row) sp)), .one fv] (hp [] [] (Hs s)) (rB (allE f s l).1) (hp [] [] (Hs (allE f s l).2)) := by
  refine meetsH [] Try.func89 ie2133 ig2133 (Nat.le_of_ble_eq_true rfl) (by simp) (by simp) ?_ (by simp) (by simp) (hsame _ _) (by simp) (by simp) ?_
  · simp
    exact A.only_mono (fun _ => far_not_own) (fun _ h => h.elim) hfv
  generalize hR : allE f s l = R
  simp [ic2133, ir2133, hst]
  refine w_loopA [] [6] [1, 7, 8, 9] (by simp [ownKey])
    (fun a : Nat × σ => st [(1, .k true (.x (.one fv))), (7, .k true (.x (.one (.c (.sl (l.map Fc.row) sp))))), (8, tI .i64 l.length), (9, tI .i64 a.1)] [] [] (Hs a.2)) (fun a => l.length - a.1)
    (fun a => a.1 ≤ l.length ∧ R = allE f a.2 (l.drop a.1)) (0, s) (by simp [hst]) (by simp [hR]) ?_
  rintro ⟨i, t⟩ K hK ⟨hi, hd⟩
  simp only at hi hd
  obtain hlt | hge := Nat.lt_or_ge i l.length
  · rw [List.drop_eq_getElem_cons hlt, allE] at hd
    have hm := hf t l[i] (List.getElem_mem hlt)
    simp [ic2133l0, hlt, hst]
    refine r_callC hm (hsame _ _) rfl rfl rfl (by simp [X.fits]) (by simp) (by simp) ?_
    simp
    cases h0 : (f t l[i]).1 with
    | true =>
      rw [if_pos h0] at hd
      simp
      simp (disch := omega) only [wrap64]
      exact hK (i + 1, (f t l[i]).2) _ (by simp [hst]) ⟨by simp; omega, hd⟩ (by simp; omega)
    | false =>
      rw [h0] at hd
      simp only [Bool.false_eq_true, if_false] at hd
      subst hd
      simp
      exact ret_st (by simp) (by simp) (by simp) (by simp) (by simp) (by simp)
  · rw [List.drop_eq_nil_of_le hge, allE] at hd
    subst hd
    simp [ic2133l0, Nat.not_lt.mpr hge]
    exact ret_st (by simp) (by simp) (by simp) (by simp) (by simp) (by simp)

end Go.Proofs.Ytiomojlcnemnhaa

/-
  DERIVED. MADE BY PROGRAM (lay-iter.mjs) off ytiomojlcnemnhaa.cut.gsa: THE SHELF's CONTRACTS ON 'slices.Sorted(maps.Keys(m))' LAID AT THIS DUMP: 1 map type. NO WALK OF THE LIBRARY's TEXT: each is one application of a contract over any P and ρ (Derived/Shelf/SlIter/, Derived/Shelf/SortM/).
-/
namespace Go.Proofs
open Go.RowKit Go.Maps Go.Sort Go.Shelf

-- maps.Keys[pedigree/check.arities,string,int] (function 91; its iterator 124) · slices.Sorted[string] (90) · slices.Sort[[]string,string] (123) · the map's type 203, the keys' 9
def Try.keys91_ren : Go.Shelf.Ren := ⟨fun | 7 => 91 | 10 => 124 | n => n, fun | 23 => 203 | 26 => 9 | 3 => 3 | 28 => 221 | 0 => 0 | 27 => 220 | 33 => 215 | 4 => 4 | n => n, fun | n => n⟩
theorem Try.keys91 : Go.Proofs.SlLaysZ.n7 Try.prog Try.keys91_ren := {
  mixed := by kernel_rfl
  f7 := ⟨Try.f91.name, by decide, Try.func91.trans (congrArg some (by kernel_rfl))⟩
  f10 := ⟨Try.f124.name, by decide, Try.func124.trans (congrArg some (by kernel_rfl))⟩
  t0 := Try.underlying0
  a0 := Try.isAgg0
  z0 := Try.sizeOf0
  v0 := Try.zeroValue0
  t4 := Try.underlying4
  a4 := Try.isAgg4
  z4 := Try.sizeOf4
  v4 := Try.zeroValue4
  t23 := Try.underlying203
  a23 := Try.isAgg203
  z23 := Try.sizeOf203
  v23 := Try.zeroValue203
  t26 := Try.underlying9
  a26 := Try.isAgg9
  z26 := Try.sizeOf9
  v26 := Try.zeroValue9
  t27 := Try.underlying220
  a27 := Try.isAgg220
  z27 := Try.sizeOf220
  v27 := Try.zeroValue220
  t28 := Try.underlying221
  a28 := Try.isAgg221
  z28 := Try.sizeOf221
  v28 := Try.zeroValue221
  t33 := Try.underlying215
  a33 := Try.isAgg215
  z33 := Try.sizeOf215
  v33 := Try.zeroValue215 }
def Try.sorted90_ren : Go.Shelf.Ren := ⟨fun | 6 => 90 | 8 => 122 | 9 => 123 | 11 => 141 | 13 => 132 | 12 => 142 | 23 => 153 | 24 => 154 | 14 => 159 | 15 => 160 | 16 => 161 | 17 => 162 | 18 => 163 | 19 => 164 | 20 => 165 | 21 => 166 | 22 => 167 | 25 => 175 | 26 => 169 | 27 => 170 | 28 => 176 | 29 => 177 | 30 => 178 | 31 => 183 | n => n, fun | 26 => 9 | 28 => 221 | 24 => 117 | 0 => 0 | 3 => 3 | 37 => 267 | 48 => 32 | 50 => 291 | 4 => 4 | 40 => 283 | 39 => 282 | 45 => 235 | 5 => 5 | 9 => 9 | 51 => 300 | 55 => 304 | 57 => 309 | 58 => 310 | 33 => 215 | n => n, fun | n => n⟩
theorem Try.sorted90 : Go.Proofs.SlLaysZ.n6 Try.prog Try.sorted90_ren := {
  mixed := by kernel_rfl
  f6 := ⟨Try.f90.name, by decide, Try.func90.trans (congrArg some (by kernel_rfl))⟩
  f8 := ⟨Try.f122.name, by decide, Try.func122.trans (congrArg some (by kernel_rfl))⟩
  f11 := ⟨Try.f141.name, by decide, Try.func141.trans (congrArg some (by kernel_rfl))⟩
  t0 := Try.underlying0
  a0 := Try.isAgg0
  z0 := Try.sizeOf0
  v0 := Try.zeroValue0
  t24 := Try.underlying117
  a24 := Try.isAgg117
  z24 := Try.sizeOf117
  v24 := Try.zeroValue117
  t26 := Try.underlying9
  a26 := Try.isAgg9
  z26 := Try.sizeOf9
  v26 := Try.zeroValue9
  t28 := Try.underlying221
  a28 := Try.isAgg221
  z28 := Try.sizeOf221
  v28 := Try.zeroValue221
  i26 := by kernel_rfl }
def Try.sort123_ren : Go.Shelf.Ren := ⟨fun | 6 => 123 | 8 => 132 | 9 => 142 | 19 => 153 | 20 => 154 | 21 => 159 | 22 => 160 | 23 => 161 | 24 => 162 | 25 => 163 | 26 => 164 | 27 => 165 | 28 => 166 | 29 => 167 | 36 => 175 | 31 => 169 | 32 => 170 | 37 => 176 | 38 => 177 | 39 => 178 | 41 => 183 | n => n, fun | 27 => 117 | 29 => 9 | 3 => 3 | 32 => 267 | 26 => 117 | 0 => 0 | 44 => 32 | 46 => 291 | 4 => 4 | 36 => 283 | 35 => 282 | 41 => 235 | 5 => 5 | 9 => 9 | 53 => 300 | 57 => 304 | 63 => 309 | 64 => 310 | n => n, fun | n => n⟩
theorem Try.sort123 : Go.Proofs.SlLaysM.n6 Try.prog Try.sort123_ren := {
  mixed := by kernel_rfl
  f6 := ⟨Try.f123.name, by decide, Try.func123.trans (congrArg some (by kernel_rfl))⟩
  f8 := Try.func132.trans (congrArg some (by kernel_rfl))
  f9 := ⟨Try.f142.name, by decide, Try.func142.trans (congrArg some (by kernel_rfl))⟩
  f19 := Try.func153.trans (congrArg some (by kernel_rfl))
  f20 := Try.func154.trans (congrArg some (by kernel_rfl))
  f21 := ⟨Try.f159.name, by decide, Try.func159.trans (congrArg some (by kernel_rfl))⟩
  f22 := ⟨Try.f160.name, by decide, Try.func160.trans (congrArg some (by kernel_rfl))⟩
  f23 := ⟨Try.f161.name, by decide, Try.func161.trans (congrArg some (by kernel_rfl))⟩
  f24 := ⟨Try.f162.name, by decide, Try.func162.trans (congrArg some (by kernel_rfl))⟩
  f25 := ⟨Try.f163.name, by decide, Try.func163.trans (congrArg some (by kernel_rfl))⟩
  f26 := ⟨Try.f164.name, by decide, Try.func164.trans (congrArg some (by kernel_rfl))⟩
  f27 := ⟨Try.f165.name, by decide, Try.func165.trans (congrArg some (by kernel_rfl))⟩
  f28 := ⟨Try.f166.name, by decide, Try.func166.trans (congrArg some (by kernel_rfl))⟩
  f29 := ⟨Try.f167.name, by decide, Try.func167.trans (congrArg some (by kernel_rfl))⟩
  f31 := Try.func169.trans (congrArg some (by kernel_rfl))
  f32 := Try.func170.trans (congrArg some (by kernel_rfl))
  f36 := ⟨Try.f175.name, by decide, Try.func175.trans (congrArg some (by kernel_rfl))⟩
  f37 := ⟨Try.f176.name, by decide, Try.func176.trans (congrArg some (by kernel_rfl))⟩
  f38 := ⟨Try.f177.name, by decide, Try.func177.trans (congrArg some (by kernel_rfl))⟩
  f39 := ⟨Try.f178.name, by decide, Try.func178.trans (congrArg some (by kernel_rfl))⟩
  f41 := ⟨Try.f183.name, by decide, Try.func183.trans (congrArg some (by kernel_rfl))⟩
  t0 := Try.underlying0
  a0 := Try.isAgg0
  z0 := Try.sizeOf0
  v0 := Try.zeroValue0
  t3 := Try.underlying3
  a3 := Try.isAgg3
  z3 := Try.sizeOf3
  v3 := Try.zeroValue3
  t4 := Try.underlying4
  a4 := Try.isAgg4
  z4 := Try.sizeOf4
  v4 := Try.zeroValue4
  t5 := Try.underlying5
  a5 := Try.isAgg5
  z5 := Try.sizeOf5
  v5 := Try.zeroValue5
  t9 := Try.underlying9
  a9 := Try.isAgg9
  z9 := Try.sizeOf9
  v9 := Try.zeroValue9
  t26 := Try.underlying117
  a26 := Try.isAgg117
  z26 := Try.sizeOf117
  v26 := Try.zeroValue117
  t27 := Try.underlying117
  a27 := Try.isAgg117
  z27 := Try.sizeOf117
  v27 := Try.zeroValue117
  t29 := Try.underlying9
  a29 := Try.isAgg9
  z29 := Try.sizeOf9
  v29 := Try.zeroValue9
  t32 := Try.underlying267
  a32 := Try.isAgg267
  z32 := Try.sizeOf267
  v32 := Try.zeroValue267
  t35 := Try.underlying282
  a35 := Try.isAgg282
  z35 := Try.sizeOf282
  v35 := Try.zeroValue282
  t36 := Try.underlying283
  a36 := Try.isAgg283
  z36 := Try.sizeOf283
  v36 := Try.zeroValue283
  t41 := Try.underlying235
  a41 := Try.isAgg235
  z41 := Try.sizeOf235
  v41 := Try.zeroValue235
  t44 := Try.underlying32
  a44 := Try.isAgg32
  z44 := Try.sizeOf32
  v44 := Try.zeroValue32
  t46 := Try.underlying291
  a46 := Try.isAgg291
  z46 := Try.sizeOf291
  v46 := Try.zeroValue291
  t53 := Try.underlying300
  a53 := Try.isAgg300
  z53 := Try.sizeOf300
  v53 := Try.zeroValue300
  t57 := Try.underlying304
  a57 := Try.isAgg304
  z57 := Try.sizeOf304
  v57 := Try.zeroValue304
  t63 := Try.underlying309
  a63 := Try.isAgg309
  z63 := Try.sizeOf309
  v63 := Try.zeroValue309
  t64 := Try.underlying310
  a64 := Try.isAgg310
  z64 := Try.sizeOf310
  v64 := Try.zeroValue310 }

/-- slices.Sort's two contracts at this dump, at the fence that asks nothing. -/
theorem Try.sorts90 (m : Nat) : AnyZ.SortsIn Try.prog Try.sorted90_ren Fence.wide m :=
  ⟨fun blk off cap ss W hH hblk hsz => callsIn_wide.2 (AnyM.slices_Sort_string Try.sort123 blk off cap ss W hH hblk hsz),
   fun p cap W => callsIn_wide.2 (AnyM.slices_Sort_string_none Try.sort123 p cap W)⟩

/-- **maps.Keys[pedigree/check.arities,string,int], at whatever map, the nil one too:** a function value over ONE NEW BLOCK, which holds the map. -/
theorem Try.maps_Keys_91 (mb : Option Nat) (W : World) : CallsIn Fence.wide 5 Try.prog 91 #[.map mb] W fun e w' => e = .returned (.func (.func 124) #[] #[.pointer (some ⟨W.heap.size, 0, none⟩)]) ∧ w' = W.alloc (.cells #[.map mb] 203) :=
  AnyZ.keys_in Try.keys91 Fence.wide 5 trivial rfl mb W

set_option maxHeartbeats 1000000 in
/-- **slices.Sorted[string] AT WHAT maps.Keys[pedigree/check.arities,string,int] HANDED BACK FOR A MAP THAT IS NOT nil** ('w': the world AHEAD of maps.Keys' call): A NEW SLICE THAT HOLDS THE MAP's KEYS, SORTED; nil just where it has none; nothing that lay before has turned. -/
theorem Try.slices_Sorted_keys_90_91 {H : Type} (b nn : Nat) (D0 : DataW H) (R : Value → Option (DataW H × List MemPlace)) (w : World) (hown : w.ownsMap Try.prog 9 R b nn D0) (hmax : Maps.size D0 ≤ maxLen) (hbytes : Maps.size D0 * 16 ≤ 140737488355328) :
    CallsIn Fence.wide 5 Try.prog 90 #[.func (.func 124) #[] #[.pointer (some ⟨w.heap.size, 0, none⟩)]] (w.alloc (.cells #[.map (some b)] 203)) fun e w' => ∃ (v : Value) (ss : List (List UInt8)), e = .returned v ∧ ss.Perm (strKeys D0) ∧
      w'.ownsRow (w.alloc (.cells #[.map (some b)] 203)).heap.size 9 1 v ss.length ((ss.mergeSort (fun x y => decide (x ≤ y))).map encStr) ∧ (v = .slice none 0 0 ↔ ss = []) ∧ Below (w.alloc (.cells #[.map (some b)] 203)).heap.size (w.alloc (.cells #[.map (some b)] 203)) w' := by
  have hbl := hown.lt
  have hseq : SeqGives Fence.wide 2 Try.prog 124 #[.pointer (some ⟨w.heap.size, 0, none⟩)] encStr (fun ss => ss.Perm (strKeys D0)) (Maps.size D0) (w.alloc (.cells #[.map (some b)] 203)) :=
    AnyZ.keys_gives (ρ := Try.keys91_ren) { Try.keys91 with } Fence.wide _ trivial rfl (by omega) w.heap.size b nn D0 _ (by simp) (by simp) (by
      obtain ⟨es, clock, hb, Ft, hs, hD⟩ := hown
      exact ⟨es, clock, (Below.heap_alloc _ _ b hbl).trans hb, Ft, hs, hD⟩)
  exact AnyZ.sorted_in Try.sorted90 Fence.wide 5 trivial trivial trivial trivial rfl (by omega) (Try.sorts90 _) (enters_of Try.func123 (by kernel_rfl) rfl) 124 #[.pointer (some ⟨w.heap.size, 0, none⟩)] trivial (enters_of Try.func124 (by kernel_rfl) rfl) _ _ hmax hbytes _ hseq

-- THE CALLER's WALK over 'slices.Sorted(maps.Keys(m))' (inside '(callsIn_wide (n := 6)).1'; 'have hfK : Fence.wide.fn 91 := trivial', 'have hfS : Fence.wide.fn 90 := trivial' ahead): THE TWO ARMS TO PASTE:
--   gi_wp2_with (first
--     | (gi_at_call 91; refine (Try.maps_Keys_91 _ _).mono ?_; rintro e w' ⟨rfl, rfl⟩)
--     | (gi_at_call 90; refine (Try.slices_Sorted_keys_90_91 b nn D0 R w hown hmax hbytes).mono ?_; rintro e w' ⟨v, ss, rfl, hS, hrow, hnil, hb⟩))

-- maps.Keys[map[pedigree/api.Mask]*pedigree/index.rows,pedigree/api.Mask,*pedigree/index.rows]: its keys are of no string's kind: not laid by this program
end Go.Proofs

/- Fx, part We: a call that looks at a heap and leaves it as it is, out of what it does to worlds. -/
namespace Go.Fx
open Go.RowKit

section
variable {P : Program} {G : World → Prop}

/-- It looks at the heap, hands back what lies in what nobody writes or in new memory, and leaves all as it was. -/
theorem MeetsH.of_below {f : FuncId} {args : List X} {h : Hp} {res : CR} (hcl : callable P f = true) (hx : ∀ x ∈ args, x.only (fun _ => True) (fun k => h.toks k ≠ none)) (ho : h.only (fun _ => True) (fun k => h.toks k ≠ none))
    (hm : ∀ (w : World) (env : Env) (F : Nat → Prop) (vs : List Value), HMem env h F w → All2 (RepX env h.toks w) args vs → Calls P f vs.toArray w fun e w' => ∃ v, e = .returned v ∧ RepCR (fun b o => env.V b o ∨ w.heap.size ≤ b) w' res v ∧ Below w.heap.size w w') :
    MeetsH P G f args h res.open h := by
  refine ⟨hcl, hx, ho, fun w env F vs _ hmem _ ha => ?_⟩
  refine (hm w env F vs hmem ha).mono ?_
  rintro e w' ⟨v, rfl, hr, hb⟩
  have hcell : ∀ b o, env.V b o → w'.cell? ⟨b, o, none⟩ = w.cell? ⟨b, o, none⟩ := fun b o hv => hb.cell (p := ⟨b, o, none⟩) (hmem.vlt b o hv)
  let env' : Env := { env with V := fun b o => env.V b o ∨ (w.heap.size ≤ b ∧ b < w'.heap.size) }
  have hle : env.Le env' h.toks h.toks w w' := ⟨fun _ _ x => .inl x, hcell, fun _ _ x => x, fun _ t x => ⟨t, x, rfl, Nat.le_refl _, fun _ => rfl⟩⟩
  have hV : ∀ b o, b < w.heap.size → env'.V b o → env.V b o := fun b o hlt hv => hv.elim id fun h => absurd hlt (Nat.not_lt.mpr h.1)
  refine ⟨v, env', F, rfl, openR_rep (fun b o h => h.1.elim .inl fun hh => .inr ⟨hh, h.2⟩) hr.bound, {
    mem := {
      vlt := fun b o hv => hv.elim (fun h => Nat.lt_of_lt_of_le (hmem.vlt b o h) hb.size) fun h => h.2
      ρlt := fun k b s hk => Nat.lt_of_lt_of_le (hmem.ρlt k b s hk) hb.size
      τlt := fun k v b hk hv => Nat.lt_of_lt_of_le (hmem.τlt k v b hk hv) hb.size
      objs := fun k x hk => by
        obtain ⟨b, us, g1, g2, g3, g4, g5⟩ := hmem.objs k x hk
        exact ⟨b, us, g1, g2.of (hb.block b g2.lt), g3.imp fun _ _ _ => RepA.mono hle, g4, fun o hv => g5 o (hV b o g2.lt hv)⟩
      inj := hmem.inj
      toks := fun k t hk => by
        obtain ⟨v, xs, g1, g2, g3⟩ := hmem.toks k t hk
        exact ⟨v, xs, g1, ownsRow_of_block g2 fun b hv => hb.block b (g2.lt b hv).2, fun b hv => ⟨fun o ho hh => (g3 b hv).1 o ho (hV b o (g2.lt b hv).2 hh), (g3 b hv).2⟩⟩
      tinj := hmem.tinj
      sep := hmem.sep
      ext := h.ext.mono (w := w) (fun _ _ x => .inl x) hcell (fun b hF => hb.block b (hmem.flt b hF).1) hmem.ext
      flt := fun b hF => by
        obtain ⟨g1, g2, g3, g4⟩ := hmem.flt b hF
        exact ⟨Nat.lt_of_lt_of_le g1 hb.size, fun o hv => g2 o (hV b o g1 hv), g3, g4⟩ }
    kept := KeptBut.of_below hb
    owned := fun b hb => .inr hb
    vold := fun b o hv => .inl hv
    vcell := hcell
    vnew := fun b o hv => hv.imp id fun h => .inl h.1
    ρold := fun _ _ x => x
    ρnew := fun _ _ x => .inl x
    τold := fun _ _ _ => rfl
    τnew := fun k v hk => .inl (by rw [show env.τ k = some v from hk]; simp)
    tok := fun k t t' h1 h2 => by rw [h1] at h2; injection h2 with h2; subst h2; exact ⟨rfl, Nat.le_refl _, fun _ => rfl⟩ }⟩

theorem flat1 : ∀ xs : List Value, (xs.map fun x => [C.v x]).flatten = xs.map C.v
  | [] => rfl
  | x :: xs => by rw [List.map_cons, List.flatten_cons, flat1 xs]; rfl
/-- A new row of one-celled elements, as nobody will write it. -/
theorem repC_row {V : Nat → Nat → Prop} {w : World} {base : Nat} {e : TypeId} {v : Value} {xs : List Value} (h : w.ownsRow base e 1 v xs.length xs) (hV : ∀ b o, base ≤ b → V b o) (h1 : ∀ x ∈ xs, x.oneCell' = true) :
    RepC V w (.sl (xs.map fun x => [.v x]) []) v := by
  obtain ⟨_, ⟨rfl, hz⟩ | ⟨g, cap, cur, rfl, hbase, hg, hn, hm, hsz, htk⟩⟩ := h
  · have : xs = [] := List.eq_nil_of_length_eq_zero hz
    subst this
    exact .nil 0
  · have hfl : ((xs.map fun x => [C.v x]) ++ []).flatten = xs.map C.v := by
      rw [List.append_nil]
      exact flat1 xs
    refine .sl _ _ 1 g 0 _ cap xs (by simp) (by simpa using hn) hm (fun r hr => ?_) (by rw [hfl]; simp) (fun j u hj => ?_) (fun j c u hc hu => ?_)
    · simp only [List.append_nil, List.mem_map] at hr
      obtain ⟨x, _, rfl⟩ := hr
      rfl
    · refine ⟨?_, hV _ _ hbase⟩
      have hj' : cur.toList[j]? = some u := by
        rw [Nat.mul_one] at htk
        have hlt := (List.getElem?_eq_some_iff.1 hj).1
        have e := congrArg (fun l => l[j]?) htk
        rw [List.getElem?_take, if_pos hlt] at e
        exact e.trans hj
      simp [World.cell?, hg]
      simpa using hj'
    · rw [hfl, List.getElem?_map, hu] at hc
      simp at hc
      subst hc
      exact .v u (h1 u (List.mem_of_getElem? hu))

section
variable {P : Program} {G : World → Prop} {L : List (Nat × T)} {O : List (Nat × Box)} {U : List (Nat × Tok)} {H : FHp} {l : List IOper} {K : S → Prop} {d : Nat}
/-- An append that is wanted. -/
theorem k_appG {ty : TypeId} {size bytes k : Nat} {x y : D} {es news sp : List (List C)} {q : Tok} {gd : Option (Nat × Bool)} {fp : Option (List Nat)} (hg : guardO (st L O U H) gd = some true) (hx : x.val (st L O U H) = .k true (.x (.one (.own k es)))) (gy : (y.val (st L O U H)).g = true) (hy : (y.val (st L O U H)).r.rows? = some (news, sp))
    (hw : ∀ e ∈ news, e.length = size) (hq : (lookT U k).or (H.toks k) = some q) (h1 : q.ty = ty) (h2 : q.size = size) (h3 : es.length = q.n) (h4 : es.length + news.length ≤ maxLen) (h5 : (es.length + news.length) * bytes ≤ maxBytes) (ht : fpK fp k)
    (h : runK P G l (st ((d, .k true (.x (.one (.own k (es ++ news))))) :: L) O (updT k ⟨ty, size, es.length + news.length⟩ U) H) K) : runK P G (⟨some d, .app ty size bytes x y, gd, fp⟩ :: l) (st L O U H) K :=
  ⟨_, ⟨fun j hj => by rw [hx] at hj; injection hj with hj; subst hj; exact ht, hg, by rw [hx]; rfl, gy, news, sp, hy, hw, by rw [hx]; exact ⟨q, hq, h1, h2, h3, h4, h5, rfl⟩⟩, by simpa only [setTok_upd, put_st] using h⟩
end
end
end Go.Fx

/- Plain: the map's names, sorted, are the document's predicates. (Labels of 2000 and more: seat ZD.) -/
namespace Go.Proofs.Ytiomojlcnemnhaa
open Go.Fx Go.RowKit Go.Ped

def sortN (l : List Name) : List Name := l.mergeSort leB
def predsOf (m : List Pd) : List Pd := (sortN (m.map Pd.name)).map fun v => ⟨v, (lookP m v).getD 0⟩
theorem goMeet_nodup {m m' : List Pd} {p : Pd} (h : goMeet m p = some m') (hn : (m.map Pd.name).Nodup) : (m'.map Pd.name).Nodup := by
  unfold goMeet at h
  split at h
  · split at h
    · injection h with h; subst h; exact hn
    · cases h
  · rename_i hk
    injection h with h
    subst h
    rw [List.map_append, List.nodup_append]
    refine ⟨hn, by simp, fun a ha b hb e => ?_⟩
    simp at hb
    subst hb
    subst e
    exact lookP_none.1 hk ha
theorem goMeets_nodup : ∀ {l m m' : List Pd}, goMeets m l = some m' → (m.map Pd.name).Nodup → (m'.map Pd.name).Nodup
  | [], m, m', h, hn => by injection h with h; subst h; exact hn
  | p :: l, m, m', h, hn => by
    rw [goMeets] at h
    split at h
    · rename_i m1 h1; exact goMeets_nodup h (goMeet_nodup h1 hn)
    · cases h
theorem sortN_ordered {l : List Name} (hn : l.Nodup) : Ordered ltN (sortN l) := by
  have tr : ∀ a b c : List UInt8, leB a b = true → leB b c = true → leB a c = true := fun a b c h1 h2 => by simp only [leB, decide_eq_true_eq] at *; exact List.le_trans h1 h2
  have to : ∀ a b : List UInt8, (leB a b || leB b a) = true := fun a b => by simp only [leB, Bool.or_eq_true, decide_eq_true_eq]; exact List.le_total a b
  have h1 := List.pairwise_mergeSort tr to l
  have h2 : (sortN l).Nodup := (List.mergeSort_perm l leB).nodup_iff.2 hn
  unfold Ordered
  refine (h1.and h2).imp fun {a b} h => ?_
  obtain ⟨h3, h4⟩ := h
  simp only [leB, decide_eq_true_eq] at h3
  rw [ltN_eq, decide_eq_true_eq]
  rcases List.le_iff_lt_or_eq.1 h3 with h | h
  · exact h
  · exact absurd h h4
theorem sortN_mem {l : List Name} {v : Name} : v ∈ sortN l ↔ v ∈ l := (List.mergeSort_perm l leB).mem_iff
theorem sortN_len (l : List Name) : (sortN l).length = l.length := (List.mergeSort_perm l leB).length_eq
theorem preds_eq (L : List Pd) : (goMeets [] L).map predsOf = refMeets ltN [] L := by
  rcases meets_same ltN ltN_trans ltN_total L (same_nil ltN) with ⟨h1, h2⟩ | ⟨m, k, h1, h2, h3⟩
  · rw [h1, h2]; rfl
  · rw [h1, h2, Option.map_some]
    congr 1
    exact preds_same ltN ltN_trans ltN_irr h3 (sortN_ordered (goMeets_nodup h1 (by simp))) (fun v => sortN_mem)
theorem goMeets_len : ∀ {l m m' : List Pd}, goMeets m l = some m' → m'.length ≤ m.length + l.length
  | [], m, m', h => by injection h with h; subst h; simp
  | p :: l, m, m', h => by
    rw [goMeets] at h
    split at h
    · rename_i m1 h1
      have h2 := goMeets_len h
      have h3 : m1.length ≤ m.length + 1 := by
        unfold goMeet at h1
        split at h1
        · split at h1
          · injection h1 with h1; subst h1; omega
          · cases h1
        · injection h1 with h1; subst h1; simp
      simp; omega
    · cases h
theorem goMeets_mem : ∀ {l m m' : List Pd}, goMeets m l = some m' → ∀ p ∈ m', p ∈ m ∨ p ∈ l
  | [], m, m', h, p, hp => by injection h with h; subst h; exact .inl hp
  | q :: l, m, m', h, p, hp => by
    rw [goMeets] at h
    split at h
    · rename_i m1 h1
      rcases goMeets_mem h p hp with h2 | h2
      · unfold goMeet at h1
        split at h1
        · split at h1
          · injection h1 with h1; subst h1; exact .inl h2
          · cases h1
        · injection h1 with h1; subst h1
          rcases List.mem_append.1 h2 with h2 | h2
          · exact .inl h2
          · simp at h2; subst h2; exact .inr (List.mem_cons_self ..)
      · exact .inr (List.mem_cons_of_mem _ h2)
    · cases h
end Go.Proofs.Ytiomojlcnemnhaa

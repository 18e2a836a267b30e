import Derived.Test.YtiomojlcnemnhaaAHxE4
import Derived.Sort.MapsRangeIn
import Derived.RangeFuncGives
import Derived.Maps.AppendAt
namespace Go.Proofs.Ytiomojlcnemnhaa
open Go.Fx Go.RowKit Go.Maps Go.Sort
abbrev encU : Nat → Value := fun m => .int .u32 (m : Int)
def R0 : Value → Option (DataW Unit × List MemPlace) := fun _ => some (.nil, [])
theorem encU_inj {x y : Nat} (h : encU x = encU y) : x = y := by injection h with _ h; omega
theorem keyOf_u32 {key : Value} {kl : Lit} (h : keyOf Try.prog 33 key = some kl) : ∃ x : Nat, key = encU x ∧ kl = .int .u32 (x : Int) ∧ MskOk x := by
  have hk := Try.underlying33
  cases key <;> simp [keyOf, hk, mapKey] at h
  rename_i q a
  obtain ⟨⟨rfl, hw⟩, rfl⟩ := h
  have h2 : (decide (IntKind.u32.min ≤ a) && decide (a ≤ IntKind.u32.max)) = true := hw
  rw [Bool.and_eq_true, decide_eq_true_iff, decide_eq_true_iff, show IntKind.u32.min = 0 from rfl, show IntKind.u32.max = 4294967295 from by decide] at h2
  refine ⟨a.toNat, ?_, ?_, ?_⟩
  · show Value.int .u32 a = Value.int .u32 ((a.toNat : Nat) : Int)
    rw [Int.toNat_of_nonneg h2.1]
  · rw [Int.toNat_of_nonneg h2.1]
  · show a.toNat < 4294967296
    omega
theorem rd_msk {e : MapEntry} {m : Nat} (hx : e.key = encU m) (hm : MskOk m) : Go.WideElems.rd Try.prog 33 R0 e = some (.int .u32 (m : Int), .nil) := by
  unfold Go.WideElems.rd R0
  rw [hx, Go.Maps.keyOf_int_mk Try.underlying33 (msk_wf hm)]
  rfl
theorem msk_owns {w : World} {mb : Nat} {kv : List (Nat × Value)} (h : MMapAt w mb kv) (hl : kv.length ≤ maxLen) :
    ∃ D : DataW Unit, w.ownsMap Try.prog 33 R0 mb kv.length D ∧ size D = kv.length ∧ ∀ x : Nat, has D (.int .u32 (x : Int)) = true ↔ x ∈ kv.map (·.1) := by
  obtain ⟨es, clock, h1, h2, hk, hn, hst⟩ := h
  have hlen : es.size = kv.length := by
    have := congrArg List.length h2
    simpa using this
  have hrd : ∀ e ∈ es.toList, ∃ p ∈ kv, e.key = encU p.1 ∧ Go.WideElems.rd Try.prog 33 R0 e = some (.int .u32 (p.1 : Int), .nil) := fun e he => by
    have : (e.key, e.val) ∈ es.toList.map (fun e => (e.key, e.val)) := List.mem_map_of_mem he
    rw [h2] at this
    obtain ⟨p, hp, hpe⟩ := List.mem_map.1 this
    have hkey : e.key = encU p.1 := (congrArg Prod.fst hpe).symm
    exact ⟨p, hp, hkey, rd_msk hkey (hk p hp)⟩
  refine ⟨_, ⟨es, clock, h1, ⟨by omega, hst, fun e he => ?_⟩, Nat.le_of_eq hlen, rfl⟩, ?_, ?_⟩
  · obtain ⟨p, _, _, h⟩ := hrd e he
    exact ⟨_, h⟩
  · rw [size_eq, (Go.WideShapes.sorted_perm _).length_eq, List.length_map, Array.length_toList, hlen]
  · intro x
    rw [has_eq, List.any_eq_true]
    constructor
    · rintro ⟨q, hq, hs⟩
      obtain ⟨e, he, rfl⟩ := List.mem_map.1 ((Go.WideShapes.sorted_perm _).mem_iff.1 hq)
      obtain ⟨p, hp, _, hr⟩ := hrd e he
      rw [show Go.WideElems.rg Try.prog 33 R0 e = (.int .u32 (p.1 : Int), .nil) from by unfold Go.WideElems.rg; rw [hr]; rfl] at hs
      have : p.1 = x := by have h : (p.1 : Int) = (x : Int) := by simpa [Lit.sameKey] using hs
                           omega
      exact this ▸ List.mem_map_of_mem hp
    · intro hx
      obtain ⟨p, hp, rfl⟩ := List.mem_map.1 hx
      have : (encU p.1, p.2) ∈ kv.map (fun p => (encU p.1, p.2)) := List.mem_map_of_mem hp
      rw [show (kv.map fun p => (encU p.1, p.2)) = kv.map (fun p => (mskKx.enc p.1, p.2)) from rfl, ← h2] at this
      obtain ⟨e, he, hee⟩ := List.mem_map.1 this
      obtain ⟨p', hp', hk', hr⟩ := hrd e he
      have hpp : p'.1 = p.1 := encU_inj (hk'.symm.trans (congrArg Prod.fst hee))
      refine ⟨_, (Go.WideShapes.sorted_perm _).mem_iff.2 (List.mem_map_of_mem he), ?_⟩
      rw [show Go.WideElems.rg Try.prog 33 R0 e = (.int .u32 (p'.1 : Int), .nil) from by unfold Go.WideElems.rg; rw [hr]; rfl, hpp]
      simp [Lit.sameKey]
def CameU (D : DataW Unit) (left : Lit → Bool) (ss : List Nat) : Prop := ss.Nodup ∧ ∀ x : Nat, x ∈ ss ↔ (has D (.int .u32 (x : Int)) = true ∧ left (.int .u32 (x : Int)) = false)
theorem CameU.start (D : DataW Unit) : CameU D (has D) [] := ⟨List.nodup_nil, fun x => by cases has D (.int .u32 (x : Int)) <;> simp⟩
theorem CameU.step {D : DataW Unit} {left : Lit → Bool} {ss : List Nat} (h : CameU D left ss) {x : Nat} {y : DataW Unit} (hl : left (.int .u32 (x : Int)) = true) (hat : ∀ zd, D.atKey (.int .u32 (x : Int)) zd = y) : CameU D (fun z => left z && !z.sameKey (.int .u32 (x : Int))) (ss ++ [x]) := by
  have hhas : has D (.int .u32 (x : Int)) = true := has_true_of_atKey hat
  have hnew : x ∉ ss := fun hx => by have := ((h.2 x).1 hx).2; rw [hl] at this; cases this
  refine ⟨List.nodup_append.2 ⟨h.1, by simp, fun a ha b hb => by simp at hb; subst hb; exact fun e => hnew (e ▸ ha)⟩, fun y => ?_⟩
  by_cases hy : y = x
  · subst hy; simp [hhas, Lit.sameKey]
  · have hy2 : ¬ (y : Int) = (x : Int) := by omega
    simp [h.2 y, hy, hy2, Lit.sameKey]
theorem keys_calls (mb : Option Nat) (w : World) : Calls Try.prog 63 #[.map mb] w fun e w' => e = .returned (.func (.func 107) #[] #[.pointer (some ⟨w.heap.size, 0, none⟩)]) ∧ w' = w.alloc (.cells #[.map mb] 102) := by
  go_enter Try.func63, Try.ntmps63
  go_wp2_with fail
  exact bodyPost_ret (v := .func (.func 107) #[] #[.pointer (some ⟨w.heap.size, 0, none⟩)]) (by simp [results, Try.results63, go_sem]) rfl ⟨rfl, rfl⟩
set_option maxRecDepth 100000 in
set_option maxHeartbeats 2000000 in
theorem masks_stops (n : Nat) {w : World} {B mb : Nat} {kv : List (Nat × Value)} (hc : w.cell? ⟨B, 0, none⟩ = some (.map (some mb))) (hm : MMapAt w mb kv) (hl : kv.length ≤ maxLen) :
    SeqStopsK (FW none) n Try.prog 107 #[.pointer (some ⟨B, 0, none⟩)] (fun x => #[encU x]) KeepsWalks (fun ss => ss.Perm (kv.map (·.1))) (fun _ => True) kv.length w := by
  intro l J Jx W hW hJ hJx hY h0
  obtain ⟨D, hown, hsz, hmem⟩ := msk_owns (hm.frame (w' := W) (hW.block mb hm.lt)) hl
  have hnd : (kv.map (·.1)).Nodup := by obtain ⟨_, _, _, _, _, h, _⟩ := hm; exact h
  have hc' : W.cell? ⟨B, 0, none⟩ = some (.map (some mb)) := (hW.cell (p := ⟨B, 0, none⟩) (World.block_lt_of_cell? w _ hc)).trans hc
  clear hm hc hW
  refine callsIn_wide.2 ?_
  go_enter Try.func107, Try.ntmps107
  refine (wpIn_wide (n := n)).1 ?_
  gi_wp2_with (first
    | (gi_at_range; refine wpListIn_range_own _ rfl _ 102 rfl 33 165 (int_keyed Try.underlying33) Try.underlying102 _ mb kv.length _ rfl hown ?_; intro w0 hrg0 hg0 hs0)
    | gi_in)
  try go_frame
  gi_loopw [3] (fun _ wr => ∃ (left : Lit → Bool) (cnt : Nat) (ss : List Nat), wr.ranges Try.prog 33 R0 mb W.heap.size kv.length D left cnt ∧ ss.length + cnt ≤ kv.length ∧ CameU D left ss ∧ J ss wr)
    (fun _ wr => wr.rangeLeft mb W.heap.size)
  case atStart =>
    exact ⟨_, _, [], hrg0, by simp [hsz], CameU.start D, hJ [] W w0 none h0 hg0 (fun r e => by cases e)⟩
  case round =>
    obtain ⟨left, cnt, ss, hrg, hcs, hC, hJs⟩ := hrel
    gi_wp2_with (first
      | (gi_at_next; refine wpListIn_next_ranges _ rfl _ rfl 33 (int_keyed Try.underlying33) R0 encU id (fun key kl hk => by obtain ⟨x, hx, _⟩ := keyOf_u32 hk; exact ⟨x, hx⟩) (fun v _ _ => ⟨v, rfl⟩) mb W.heap.size kv.length _ _ _ rfl hrg ?_ ?_)
      | gi_in)
    · intro hc0 hl0
      gi_wp2
      go_end0
      refine ⟨⟨_, rfl⟩, .inl ⟨ss, (List.perm_ext_iff_of_nodup hC.1 hnd).2 fun x => ?_, hJs⟩⟩
      rw [hC.2 x, hl0, ← hmem x]
      simp
    · intro x c kl yd yp w2 cnt2 hkey hlk hv hat hrg2 hlt hg2 hs2 hen
      obtain ⟨x', ex, rfl, _⟩ := keyOf_u32 hkey
      obtain rfl : x = x' := encU_inj ex
      have hJ2 : J ss w2 := hJ ss wr w2 (some W.heap.size) hJs hg2 (fun r e => by cases e; exact ⟨Nat.le_refl _, hrg.iter_walk⟩)
      obtain ⟨fn, tmps, assign, body, hy, hR⟩ := hY ss x w2 hJ2 (by omega)
      clear hs2
      gi_wp2
      refine ⟨fun e => (by cases e), hR.mono ?_⟩
      rintro e W3 (⟨rfl, hJ3, hk3⟩ | ⟨rfl, hJx3⟩)
      · gi_wp2
        have hrg3 := hrg2.of_walks hk3
        go_roundw
        case rel => exact ⟨_, cnt2, ss ++ [x], hrg3, by simp; omega, hC.step hlk hat, hJ3⟩
        case measure => rw [hrg3.left_eq, hrg.left_eq]; exact hlt
      · gi_wp2
        refine bodyPost_ret (results_none rfl _ _ _) rfl ?_
        exact ⟨⟨_, rfl⟩, .inr ⟨_, trivial, hJx3⟩⟩
end Go.Proofs.Ytiomojlcnemnhaa

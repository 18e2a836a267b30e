import Derived.Test.YtckhkfchgcdajaaGreatDoorYJxA2
import Derived.DeepKeys4
import Derived.Maps.Keyed
namespace Go.Proofs.YtckhkfchgcdajaaGreatDoor
open Go.Fx Go.RowKit
theorem row_key {x : List Int} (hx : RowOk x) : keyOf Tryz.prog 64 (rowV x) = some (.string (keyBytes (rowLits x))) := by
  unfold keyOf
  have h1 : Tryz.prog.keyType 64 = true := by kernel_rfl
  obtain ⟨D, hD⟩ : ∃ D, Tryz.prog.types.size + 1 = D + 2 := ⟨Tryz.prog.types.size - 1, by
    have : 1 ≤ Tryz.prog.types.size := Nat.le_of_ble_eq_true (by kernel_rfl)
    omega⟩
  have h2 := row_formed hx
  simp only [Tryz.underlying64, h1, h2, Bool.and_self, if_true, hD]
  have h3 : (rowV x).cells.toList = x.map symV := rfl
  rw [h3, row_lits hx]
  rfl
theorem rowKeyed : Go.Maps.Keyed Tryz.prog 64 := Go.Maps.Keyed.of_law (deep_law_laid (by kernel_rfl) (m := 2) (by omega) (Nat.lt_of_lt_of_le (Nat.lt_succ_self 64) (Nat.le_of_ble_eq_true (by kernel_rfl))) (by kernel_rfl) (by rw [Tryz.underlying64]))
theorem rowV_inj {x y : List Int} (h : rowV x = rowV y) : x = y := by
  injection h with h
  have h2 := congrArg Array.toList h
  simp only [List.toList_toArray] at h2
  clear h
  induction x generalizing y with
  | nil => cases y with | nil => rfl | cons b y => cases h2
  | cons a x ih =>
    cases y with
    | nil => cases h2
    | cons b y =>
      injection h2 with h1 h2
      injection h1 with _ h1
      rw [h1, ih h2]
structure Kx (α : Type) where
  K : TypeId
  enc : α → Value
  ok : α → Prop
  key : ∀ x, ok x → ∃ l, keyOf Tryz.prog K (enc x) = some l
  keyed : Go.Maps.Keyed Tryz.prog K
  inj : ∀ x y, enc x = enc y → x = y
def rowKx : Kx (List Int) := ⟨64, fun x => rowV x, RowOk, fun _ h => ⟨_, row_key h⟩, rowKeyed, fun _ _ h => rowV_inj h⟩
def MskOk (m : Nat) : Prop := m < 4294967296
theorem msk_wf {m : Nat} (h : MskOk m) : (Lit.int .u32 (m : Int)).wf = true := by
  have hm : m < 4294967296 := h
  show (decide (IntKind.u32.min ≤ (m : Int)) && decide ((m : Int) ≤ IntKind.u32.max)) = true
  rw [Bool.and_eq_true, decide_eq_true_iff, decide_eq_true_iff, show IntKind.u32.min = 0 from rfl, show IntKind.u32.max = 4294967295 from by decide]
  omega
def mskKx : Kx Nat := ⟨61, fun m => .int .u32 (m : Int), MskOk, fun m h => ⟨_, Go.Maps.keyOf_int_mk Tryz.underlying61 (msk_wf h)⟩, Go.Maps.int_keyed Tryz.underlying61, fun _ _ h => by injection h with _ h; omega⟩
section
variable {α : Type}
def lookKV [DecidableEq α] (kv : List (α × Value)) (x : α) : Option Value := (kv.find? fun p => decide (p.1 = x)).map (·.2)
def MapG (X : Kx α) (w : World) (mb : Nat) (kv : List (α × Value)) : Prop :=
  ∃ es clock, w.heap[mb]? = some (.map es clock) ∧ es.toList.map (fun e => (e.key, e.val)) = kv.map (fun p => (X.enc p.1, p.2)) ∧ (∀ p ∈ kv, X.ok p.1) ∧ (kv.map (·.1)).Nodup ∧ MapKept.Stamped es clock
theorem MapG.frame {X : Kx α} {w w' : World} {mb : Nat} {kv : List (α × Value)} (h : MapG X w mb kv) (hb : w'.heap[mb]? = w.heap[mb]?) : MapG X w' mb kv := by
  obtain ⟨es, clock, h1, h2⟩ := h
  exact ⟨es, clock, hb.trans h1, h2⟩
theorem MapG.lt {X : Kx α} {w : World} {mb : Nat} {kv : List (α × Value)} (h : MapG X w mb kv) : mb < w.heap.size := by
  obtain ⟨es, clock, h1, _⟩ := h
  exact (Array.getElem?_eq_some_iff.1 h1).1
theorem MapG.nil {X : Kx α} {w : World} {mb clock : Nat} (h : w.heap[mb]? = some (.map #[] clock)) : MapG X w mb [] := ⟨#[], clock, h, rfl, (fun _ h => by cases h), List.nodup_nil, MapKept.stamped_empty _⟩
theorem MapG.size {X : Kx α} {w : World} {mb : Nat} {kv : List (α × Value)} (h : MapG X w mb kv) : ∃ es clock, w.heap[mb]? = some (.map es clock) ∧ es.size = kv.length := by
  obtain ⟨es, clock, h1, h2, _⟩ := h
  refine ⟨es, clock, h1, ?_⟩
  have := congrArg List.length h2
  simpa using this
theorem kv_uniq : ∀ {kv : List (α × Value)}, (kv.map (·.1)).Nodup → ∀ p ∈ kv, ∀ q ∈ kv, p.1 = q.1 → p = q
  | [], _, _, hp, _, _, _ => by cases hp
  | a :: kv, hn, p, hp, q, hq, h => by
    rw [List.map_cons, List.nodup_cons] at hn
    rcases List.mem_cons.1 hp with h1 | h1 <;> rcases List.mem_cons.1 hq with h2 | h2
    · rw [h1, h2]
    · exact absurd (List.mem_map.2 ⟨q, h2, by rw [← h, h1]⟩) hn.1
    · exact absurd (List.mem_map.2 ⟨p, h1, by rw [h, h2]⟩) hn.1
    · exact kv_uniq hn.2 p h1 q h2 h
theorem look_of_mem [DecidableEq α] {kv : List (α × Value)} (hn : (kv.map (·.1)).Nodup) {x : α} {v : Value} (h : (x, v) ∈ kv) : lookKV kv x = some v := by
  unfold lookKV
  cases hq : kv.find? (fun p => decide (p.1 = x)) with
  | none => exact absurd (List.find?_eq_none.1 hq _ h) (by simp)
  | some q =>
    have hqm := List.mem_of_find?_eq_some hq
    have hq1 : q.1 = x := by simpa using List.find?_some hq
    rw [kv_uniq hn _ hqm _ h hq1]
    rfl
theorem kv_find [DecidableEq α] {X : Kx α} {w : World} {es : Array MapEntry} {kv : List (α × Value)} (h2 : es.toList.map (fun e => (e.key, e.val)) = kv.map (fun p => (X.enc p.1, p.2))) (hk : ∀ p ∈ kv, X.ok p.1) (hn : (kv.map (·.1)).Nodup) {x : α} (hx : X.ok x) :
    ((Instr.findKey X.K (X.enc x) es.toList).run Tryz.prog w = .ok none w ∧ lookKV kv x = none ∧ x ∉ kv.map (·.1)) ∨
    ∃ j v, (Instr.findKey X.K (X.enc x) es.toList).run Tryz.prog w = .ok (some (j, v)) w ∧ kv[j]? = some (x, v) ∧ lookKV kv x = some v := by
  have hat : ∀ j : Nat, (es.toList[j]?).map (fun e => (e.key, e.val)) = (kv[j]?).map (fun p => (X.enc p.1, p.2)) := fun j => by
    rw [← List.getElem?_map, ← List.getElem?_map, h2]
  have hkeys : ∀ e ∈ es.toList, ∃ l, keyOf Tryz.prog X.K e.key = some l := fun e he => by
    obtain ⟨j, hj⟩ := List.mem_iff_getElem?.1 he
    have := hat j
    rw [hj] at this
    obtain ⟨p, hp, hpe⟩ := Option.map_eq_some_iff.1 this.symm
    have hkey : X.enc p.1 = e.key := congrArg Prod.fst hpe
    exact hkey ▸ X.key _ (hk p (List.mem_of_getElem? hp))
  obtain ⟨lx, hlx⟩ := X.key x hx
  rcases X.keyed.find w hlx es.toList hkeys with ⟨h1, hno⟩ | ⟨j, e, h1, hj, he⟩
  · have hnm : x ∉ kv.map (·.1) := fun hm => by
      obtain ⟨p, hp, rfl⟩ := List.mem_map.1 hm
      obtain ⟨j, hj⟩ := List.mem_iff_getElem?.1 hp
      have := hat j
      rw [hj] at this
      obtain ⟨e, he, hpe⟩ := Option.map_eq_some_iff.1 this
      exact hno e (List.mem_of_getElem? he) (congrArg Prod.fst hpe)
    refine .inl ⟨h1, ?_, hnm⟩
    unfold lookKV
    rw [List.find?_eq_none.2 fun p hp => by simp only [decide_eq_true_eq]; exact fun e => hnm (List.mem_map.2 ⟨p, hp, e⟩)]
    rfl
  · have := hat j
    rw [hj] at this
    obtain ⟨p, hp, hpe⟩ := Option.map_eq_some_iff.1 this.symm
    have hpx : p.1 = x := X.inj _ _ ((congrArg Prod.fst hpe).trans he)
    have hpv : p.2 = e.val := congrArg Prod.snd hpe
    obtain ⟨p1, p2⟩ := p
    simp only at hpx hpv
    subst hpx hpv
    exact .inr ⟨j, _, h1, hp, look_of_mem hn (List.mem_of_getElem? hp)⟩
theorem map_look [DecidableEq α] {X : Kx α} (c : Bool) {w : World} {t e : TypeId} {mb : Nat} {kv : List (α × Value)} {z : Value} (ht : Tryz.prog.underlying t = some (.map X.K e)) (hz : (zeroValue e).run Tryz.prog w = .ok z w) (h : MapG X w mb kv) {x : α} (hx : X.ok x) :
    (Instr.lookup t (.map (some mb)) (X.enc x) c).run Tryz.prog w = .ok (if c then .tuple #[(lookKV kv x).getD z, .bool (lookKV kv x).isSome] else (lookKV kv x).getD z) w := by
  obtain ⟨es, clock, h1, h2, hk, hn, _⟩ := h
  obtain ⟨lx, hlx⟩ := X.key x hx
  have hck := fun em => X.keyed.check w em hlx
  rcases kv_find (w := w) h2 hk hn hx with ⟨g1, g2, _⟩ | ⟨j, v, g1, _, g2⟩
  · rw [g2]
    simp [Instr.lookup, run_underlying ht, MapKept.run_getObj_map h1, hck, g1, hz, Result.andThen]
  · rw [g2]
    simp [Instr.lookup, run_underlying ht, MapKept.run_getObj_map h1, hck, g1, Result.andThen]
def putKV [DecidableEq α] (kv : List (α × Value)) (x : α) (v : Value) : List (α × Value) := if x ∈ kv.map (·.1) then kv.map (fun p => if p.1 = x then (x, v) else p) else kv ++ [(x, v)]
theorem put_set [DecidableEq α] {kv : List (α × Value)} {x : α} {v0 : Value} {j : Nat} (hn : (kv.map (·.1)).Nodup) (hj : kv[j]? = some (x, v0)) (v : Value) : putKV kv x v = kv.set j (x, v) := by
  have hmem : x ∈ kv.map (·.1) := List.mem_map.2 ⟨_, List.mem_of_getElem? hj, rfl⟩
  unfold putKV
  rw [if_pos hmem]
  refine List.ext_getElem? fun i => ?_
  rw [List.getElem?_map, List.getElem?_set]
  by_cases hij : j = i
  · subst hij
    rw [if_pos rfl, hj, if_pos (List.getElem?_eq_some_iff.1 hj).1]
    simp
  · rw [if_neg hij]
    cases hi : kv[i]? with
    | none => rfl
    | some p =>
      have hne : ¬ p.1 = x := fun e => by
        have h1 := (List.getElem?_eq_some_iff.1 hi)
        have h2 := (List.getElem?_eq_some_iff.1 hj)
        obtain ⟨l1, e1⟩ := h1
        obtain ⟨l2, e2⟩ := h2
        have hp := List.pairwise_iff_getElem.1 hn
        rcases Nat.lt_or_gt_of_ne hij with h | h
        · exact hp j i (by simpa using l2) (by simpa using l1) h (by rw [List.getElem_map, List.getElem_map, e1, e2, e])
        · exact hp i j (by simpa using l1) (by simpa using l2) h (by rw [List.getElem_map, List.getElem_map, e1, e2, e])
      simp [hne]
theorem set_fst {kv : List (α × Value)} {x : α} {v0 v : Value} {j : Nat} (hj : kv[j]? = some (x, v0)) : (kv.set j (x, v)).map (·.1) = kv.map (·.1) := by
  rw [List.map_set]
  refine List.ext_getElem? fun i => ?_
  rw [List.getElem?_set]
  split
  · rename_i hij
    subst hij
    rw [List.length_map, if_pos (List.getElem?_eq_some_iff.1 hj).1, List.getElem?_map, hj]
    rfl
  · rfl
theorem kept_set {w : World} {mb : Nat} {ob o : Obj} (h : w.heap[mb]? = some ob) : KeptBut (fun k => k = mb) w { w with heap := w.heap.setIfInBounds mb o } :=
  ⟨rfl, rfl, rfl, by simp, fun i _ hi => (MapKept.heap_set h).2 i hi⟩
theorem no_key {X : Kx α} {es : Array MapEntry} {kv : List (α × Value)} (h2 : es.toList.map (fun e => (e.key, e.val)) = kv.map (fun p => (X.enc p.1, p.2))) {x : α} (hx : x ∉ kv.map (·.1)) : ∀ e ∈ es.toList, e.key ≠ X.enc x := fun e he hc => by
  have hm : (e.key, e.val) ∈ kv.map (fun p => (X.enc p.1, p.2)) := h2 ▸ List.mem_map.2 ⟨e, he, rfl⟩
  obtain ⟨p, hp, hpe⟩ := List.mem_map.1 hm
  have : X.enc p.1 = X.enc x := (congrArg Prod.fst hpe).trans hc
  exact hx (List.mem_map.2 ⟨p, hp, X.inj _ _ this⟩)
theorem map_put [DecidableEq α] {X : Kx α} {w : World} {t e : TypeId} {mb : Nat} {kv : List (α × Value)} (ht : Tryz.prog.underlying t = some (.map X.K e)) (h : MapG X w mb kv) {x : α} (hx : X.ok x) (v : Value) :
    ∃ w', (Instr.mapUpdate t (.map (some mb)) (X.enc x) v).run Tryz.prog w = .ok () w' ∧ MapG X w' mb (putKV kv x v) ∧ KeptBut (fun k => k = mb) w w' := by
  obtain ⟨es, clock, h1, h2, hk, hn, hst0⟩ := h
  obtain ⟨lx, hlx⟩ := X.key x hx
  have hck := fun em => X.keyed.check w em hlx
  have hst := X.keyed.stays w hlx
  rcases kv_find (w := w) h2 hk hn hx with ⟨g1, _, g2⟩ | ⟨j, v0, g1, g3, g2⟩
  · refine ⟨_, by simp [Instr.mapUpdate, run_underlying ht, MapKept.run_getObj_map h1, hck, g1, MapKept.run_setObj_map _ h1, Result.andThen]; rfl, ?_, ?_⟩
    · refine ⟨es.push ⟨X.enc x, v, clock⟩, clock + 1, (MapKept.heap_set h1).1, ?_, ?_, ?_, MapKept.stamped_push hst0 (no_key h2 g2)⟩
      · unfold putKV
        rw [if_neg g2]
        simp [h2]
      · unfold putKV
        rw [if_neg g2]
        intro p hp
        rcases List.mem_append.1 hp with hp | hp
        · exact hk p hp
        · rw [List.mem_singleton.1 hp]; exact hx
      · unfold putKV
        rw [if_neg g2, List.map_append, List.nodup_append]
        refine ⟨hn, by simp, ?_⟩
        intro a ha b hb
        rw [List.map_singleton, List.mem_singleton] at hb
        subst hb
        exact fun e => g2 (e ▸ ha)
    · exact kept_set h1
  · have hat : (es.toList[j]?).map (fun e => (e.key, e.val)) = (kv[j]?).map (fun p => (X.enc p.1, p.2)) := by rw [← List.getElem?_map, ← List.getElem?_map, h2]
    rw [g3] at hat
    obtain ⟨e0, he0, hp0⟩ := Option.map_eq_some_iff.1 hat
    have hkey : e0.key = X.enc x := congrArg Prod.fst hp0
    have hj : es[j]? = some e0 := by simpa using he0
    refine ⟨_, by simp [Instr.mapUpdate, run_underlying ht, MapKept.run_getObj_map h1, hck, g1, hj, hkey, hst, MapKept.run_setObj_map _ h1, Result.andThen]; rfl, ?_, ?_⟩
    · rw [put_set hn g3 v]
      refine ⟨es.modify j fun e => { key := X.enc x, val := v, born := e.born }, clock, (MapKept.heap_set h1).1, ?_, ?_, ?_, MapKept.stamped_modify hst0 j _ (fun _ _ => rfl) (fun e _ h => by rw [hj] at h; cases h; exact hkey.symm)⟩
      · rw [Array.toList_modify, ChangeMaps.modify_eq_set _ _ _ _ he0, List.map_set, List.map_set, h2]
      · intro p hp
        rcases List.mem_or_eq_of_mem_set hp with hp | rfl
        · exact hk p hp
        · exact hx
      · rw [set_fst g3]
        exact hn
    · exact kept_set h1
def EntryAt (X : Kx α) (w : World) (mb : Nat) (kv : List (α × Value)) (x : α) (st : Nat) : Prop :=
  ∃ (es : Array MapEntry) (clock j : Nat) (v : Value) (e : MapEntry), w.heap[mb]? = some (.map es clock) ∧ es.toList.map (fun e => (e.key, e.val)) = kv.map (fun p => (X.enc p.1, p.2)) ∧ (∀ p ∈ kv, X.ok p.1) ∧ (kv.map (·.1)).Nodup ∧ MapKept.Stamped es clock ∧
    kv[j]? = some (x, v) ∧ es.toList[j]? = some e ∧ e.born = st
theorem EntryAt.frame {X : Kx α} {w w' : World} {mb : Nat} {kv : List (α × Value)} {x : α} {st : Nat} (h : EntryAt X w mb kv x st) (hb : w'.heap[mb]? = w.heap[mb]?) : EntryAt X w' mb kv x st := by
  obtain ⟨es, clock, j, v, e, h1, h2⟩ := h
  exact ⟨es, clock, j, v, e, hb.trans h1, h2⟩
def entKV [DecidableEq α] (kv : List (α × Value)) (x : α) (z : Value) : List (α × Value) := if x ∈ kv.map (·.1) then kv else kv ++ [(x, z)]
theorem map_entry [DecidableEq α] {X : Kx α} {w : World} {t e : TypeId} {mb : Nat} {kv : List (α × Value)} {z : Value} (ht : Tryz.prog.underlying t = some (.map X.K e)) (hz : (zeroValue e).run Tryz.prog w = .ok z w) (h : MapG X w mb kv) {x : α} (hx : X.ok x) :
    ∃ st w', (Instr.mapEntry t (.map (some mb)) (X.enc x)).run Tryz.prog w = .ok (.tuple #[(lookKV kv x).getD z, .int .i64 (st : Nat)]) w' ∧ EntryAt X w' mb (entKV kv x z) x st ∧ KeptBut (fun k => k = mb) w w' := by
  obtain ⟨es, clock, h1, h2, hk, hn, hst0⟩ := h
  obtain ⟨lx, hlx⟩ := X.key x hx
  have hck := fun em => X.keyed.check w em hlx
  have hst := X.keyed.stays w hlx
  rcases kv_find (w := w) h2 hk hn hx with ⟨g1, g0, g2⟩ | ⟨j, v0, g1, g3, g0⟩
  · rw [g0]
    refine ⟨clock, _, by simp [Instr.mapEntry, run_underlying ht, MapKept.run_getObj_map h1, hck, g1, hz, MapKept.run_setObj_map _ h1, Result.andThen, goInt]; rfl, ?_, kept_set h1⟩
    unfold entKV
    rw [if_neg g2]
    have hlen : es.toList.length = kv.length := by have := congrArg List.length h2; simpa using this
    refine ⟨es.push ⟨X.enc x, z, clock⟩, clock + 1, kv.length, z, ⟨X.enc x, z, clock⟩, (MapKept.heap_set h1).1, by simp [h2], ?_, ?_, MapKept.stamped_push hst0 (no_key h2 g2), by simp, ?_, rfl⟩
    · intro p hp
      rcases List.mem_append.1 hp with hp | hp
      · exact hk p hp
      · rw [List.mem_singleton.1 hp]; exact hx
    · rw [List.map_append, List.nodup_append]
      refine ⟨hn, by simp, ?_⟩
      intro a ha b hb
      rw [List.map_singleton, List.mem_singleton] at hb
      subst hb
      exact fun e => g2 (e ▸ ha)
    · rw [Array.toList_push, ← hlen]
      simp
  · rw [g0]
    have hat : (es.toList[j]?).map (fun e => (e.key, e.val)) = (kv[j]?).map (fun p => (X.enc p.1, p.2)) := by rw [← List.getElem?_map, ← List.getElem?_map, h2]
    rw [g3] at hat
    obtain ⟨e0, he0, hp0⟩ := Option.map_eq_some_iff.1 hat
    have hkey : e0.key = X.enc x := congrArg Prod.fst hp0
    have hval : e0.val = v0 := congrArg Prod.snd hp0
    have hj : es[j]? = some e0 := by simpa using he0
    refine ⟨e0.born, _, by simp [Instr.mapEntry, run_underlying ht, MapKept.run_getObj_map h1, hck, g1, hj, hkey, hst, MapKept.run_setObj_map _ h1, Result.andThen, goInt]; rfl, ?_, kept_set h1⟩
    have hin : x ∈ kv.map (·.1) := List.mem_map.2 ⟨_, List.mem_of_getElem? g3, rfl⟩
    unfold entKV
    rw [if_pos hin]
    refine ⟨es.modify j fun e => { e with key := X.enc x }, clock, j, v0, { e0 with key := X.enc x }, (MapKept.heap_set h1).1, ?_, hk, hn, MapKept.stamped_modify hst0 j _ (fun _ _ => rfl) (fun e _ h => by rw [hj] at h; cases h; exact hkey.symm), g3, ?_, rfl⟩
    · rw [Array.toList_modify, ChangeMaps.modify_eq_set _ _ _ _ he0, List.map_set, h2]
      refine List.ext_getElem? fun i => ?_
      rw [List.getElem?_set]
      split
      · rename_i hij
        subst hij
        have hl : j < kv.length := (List.getElem?_eq_some_iff.1 g3).1
        rw [List.length_map, if_pos hl, List.getElem?_map, g3]
        simp [hval]
      · rfl
    · rw [Array.toList_modify, ChangeMaps.modify_eq_set _ _ _ _ he0, List.getElem?_set]
      have hl : j < es.toList.length := (List.getElem?_eq_some_iff.1 he0).1
      simp [show j < es.size from by simpa using hl]
theorem entry_store [DecidableEq α] {X : Kx α} {w : World} {mb : Nat} {kv : List (α × Value)} {x : α} {st : Nat} (h : EntryAt X w mb kv x st) (t : TypeId) (v : Value) :
    ∃ w', (Instr.entryStore t (.map (some mb)) (.int .i64 (st : Int)) v).run Tryz.prog w = .ok () w' ∧ MapG X w' mb (putKV kv x v) ∧ KeptBut (fun k => k = mb) w w' := by
  obtain ⟨es, clock, j, v0, e, h1, h2, hk, hn, hst0, g3, he, rfl⟩ := h
  have hj : es[j]? = some e := by simpa using he
  have hjl : j < es.size := (Array.getElem?_eq_some_iff.1 hj).1
  have hfind : es.findIdx? (fun e' => (e'.born : Int) == (e.born : Int)) = some j := by
    rw [Array.findIdx?_eq_some_iff_getElem]
    refine ⟨hjl, by rw [(Array.getElem?_eq_some_iff.1 hj).2]; simp, fun i hi => ?_⟩
    simp only [beq_iff_eq]
    intro hc
    have hp := List.pairwise_iff_getElem.1 hst0.2.1
    have := hp i j (by simp; omega) (by simpa using hjl) hi
    simp only [List.getElem_map, Array.getElem_toList] at this
    rw [(Array.getElem?_eq_some_iff.1 hj).2] at this
    exact this (by exact_mod_cast hc)
  have hat : (es.toList[j]?).map (fun e => (e.key, e.val)) = (kv[j]?).map (fun p => (X.enc p.1, p.2)) := by rw [← List.getElem?_map, ← List.getElem?_map, h2]
  rw [g3, he] at hat
  have hkey : e.key = X.enc x := by have := Option.some.inj hat; exact congrArg Prod.fst this
  refine ⟨_, by simp [Instr.entryStore, MapKept.run_getObj_map h1, asInt, asIntOf, hfind, MapKept.run_setObj_map _ h1, Result.andThen]; rfl, ?_, kept_set h1⟩
  rw [put_set hn g3 v]
  refine ⟨es.modify j fun e => { e with val := v }, clock, (MapKept.heap_set h1).1, ?_, ?_, ?_, MapKept.stamped_modify hst0 j _ (fun _ _ => rfl) (fun e _ h => rfl)⟩
  · rw [Array.toList_modify, ChangeMaps.modify_eq_set _ _ _ _ he, List.map_set, List.map_set, h2]
    simp [hkey]
  · intro p hp
    rcases List.mem_or_eq_of_mem_set hp with hp | rfl
    · exact hk p hp
    · exact hk (_, v0) (List.mem_of_getElem? g3)
  · rw [set_fst g3]
    exact hn
theorem map_clear {X : Kx α} {w : World} {mb : Nat} {kv : List (α × Value)} (h : MapG X w mb kv) {t e : TypeId} (ht : Tryz.prog.underlying t = some (.map X.K e)) :
    ∃ w', (∀ ty, (Builtin.clear_ #[t] ty #[.map (some mb)]).run Tryz.prog w = .ok (.tuple #[]) w') ∧ MapG X w' mb [] ∧ KeptBut (fun k => k = mb) w w' := by
  obtain ⟨es, clock, h1, _⟩ := h
  exact ⟨_, fun ty => by simp [Builtin.clear_, run_underlying ht, MapKept.run_getObj_map h1, MapKept.run_setObj_map _ h1, Result.andThen]; rfl, MapG.nil (MapKept.heap_set h1).1, kept_set h1⟩
theorem map_len {X : Kx α} {w : World} {mb : Nat} {kv : List (α × Value)} (h : MapG X w mb kv) {t e ty : TypeId} (ht : Tryz.prog.underlying t = some (.map X.K e)) :
    (Builtin.len_ #[t] ty #[.map (some mb)]).run Tryz.prog w = .ok (.int .i64 (kv.length : Int)) w := by
  obtain ⟨es, clock, h1, h2⟩ := h.size
  simp [Builtin.len_, run_underlying ht, MapKept.run_getObj_map h1, Result.andThen, goInt, h2]
end
abbrev KV := List (List Int × Value)
abbrev MapAt (w : World) (mb : Nat) (kv : KV) : Prop := MapG rowKx w mb kv
theorem row_look (c : Bool) {w : World} {t e : TypeId} {mb : Nat} {kv : KV} {z : Value} (ht : Tryz.prog.underlying t = some (.map 64 e)) (hz : (zeroValue e).run Tryz.prog w = .ok z w) (h : MapAt w mb kv) {x : List Int} (hx : RowOk x) :
    (Instr.lookup t (.map (some mb)) (rowV x) c).run Tryz.prog w = .ok (if c then .tuple #[(lookKV kv x).getD z, .bool (lookKV kv x).isSome] else (lookKV kv x).getD z) w := map_look (X := rowKx) c ht hz h hx
theorem row_put {w : World} {t e : TypeId} {mb : Nat} {kv : KV} (ht : Tryz.prog.underlying t = some (.map 64 e)) (h : MapAt w mb kv) {x : List Int} (hx : RowOk x) (v : Value) :
    ∃ w', (Instr.mapUpdate t (.map (some mb)) (rowV x) v).run Tryz.prog w = .ok () w' ∧ MapAt w' mb (putKV kv x v) ∧ KeptBut (fun k => k = mb) w w' := map_put (X := rowKx) ht h hx v
theorem row_entry {w : World} {t e : TypeId} {mb : Nat} {kv : KV} {z : Value} (ht : Tryz.prog.underlying t = some (.map 64 e)) (hz : (zeroValue e).run Tryz.prog w = .ok z w) (h : MapAt w mb kv) {x : List Int} (hx : RowOk x) :
    ∃ st w', (Instr.mapEntry t (.map (some mb)) (rowV x)).run Tryz.prog w = .ok (.tuple #[(lookKV kv x).getD z, .int .i64 (st : Nat)]) w' ∧ EntryAt rowKx w' mb (entKV kv x z) x st ∧ KeptBut (fun k => k = mb) w w' := map_entry (X := rowKx) ht hz h hx
abbrev MMapAt (w : World) (mb : Nat) (kv : List (Nat × Value)) : Prop := MapG mskKx w mb kv
theorem msk_look (c : Bool) {w : World} {t e : TypeId} {mb : Nat} {kv : List (Nat × Value)} {z : Value} (ht : Tryz.prog.underlying t = some (.map 61 e)) (hz : (zeroValue e).run Tryz.prog w = .ok z w) (h : MMapAt w mb kv) {m : Nat} (hm : MskOk m) :
    (Instr.lookup t (.map (some mb)) (.int .u32 (m : Int)) c).run Tryz.prog w = .ok (if c then .tuple #[(lookKV kv m).getD z, .bool (lookKV kv m).isSome] else (lookKV kv m).getD z) w := map_look (X := mskKx) c ht hz h hm
theorem msk_put {w : World} {t e : TypeId} {mb : Nat} {kv : List (Nat × Value)} (ht : Tryz.prog.underlying t = some (.map 61 e)) (h : MMapAt w mb kv) {m : Nat} (hm : MskOk m) (v : Value) :
    ∃ w', (Instr.mapUpdate t (.map (some mb)) (.int .u32 (m : Int)) v).run Tryz.prog w = .ok () w' ∧ MMapAt w' mb (putKV kv m v) ∧ KeptBut (fun k => k = mb) w w' := map_put (X := mskKx) ht h hm v
end Go.Proofs.YtckhkfchgcdajaaGreatDoor

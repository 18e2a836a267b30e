import Derived.Test.YtiomojlcnemnhaaGreatDoorLFxZ
import Derived.Test.YtiomojlcnemnhaaGreatDoorLGxIcA
namespace Go.Ped
structure Val where
  k : Int
  n : Int
  s : List UInt8
  deriving DecidableEq, Inhabited
structure Tm where
  v : List UInt8
  x : Val
  deriving DecidableEq, Inhabited
abbrev Name := List UInt8
def us : Name := [95]
def isVar (v : Name) : Bool := v != [] && v != us
def zeroV : Val := ⟨0, 0, []⟩
def varsOn : List Name → List Name → List Name
  | acc, [] => acc
  | acc, v :: l => varsOn (if isVar v && !acc.contains v then acc ++ [v] else acc) l
theorem varsOn_append : ∀ (acc l m : List Name), varsOn acc (l ++ m) = varsOn (varsOn acc l) m
  | _, [], _ => rfl
  | acc, v :: l, m => by simp only [List.cons_append, varsOn]; exact varsOn_append _ l m
theorem mem_varsOn : ∀ {acc l : List Name} {v : Name}, v ∈ varsOn acc l ↔ v ∈ acc ∨ (isVar v = true ∧ v ∈ l)
  | acc, [], v => by simp [varsOn]
  | acc, u :: l, v => by
    simp only [varsOn]
    split
    · rename_i h
      simp only [Bool.and_eq_true] at h
      rw [mem_varsOn, List.mem_append, List.mem_singleton, List.mem_cons]
      constructor
      · rintro ((h1 | rfl) | h1)
        · exact .inl h1
        · exact .inr ⟨h.1, .inl rfl⟩
        · exact .inr ⟨h1.1, .inr h1.2⟩
      · rintro (h1 | ⟨h1, rfl | h2⟩)
        · exact .inl (.inl h1)
        · exact .inl (.inr rfl)
        · exact .inr ⟨h1, h2⟩
    · rename_i h
      rw [mem_varsOn, List.mem_cons]
      constructor
      · rintro (h1 | h1)
        · exact .inl h1
        · exact .inr ⟨h1.1, .inr h1.2⟩
      · rintro (h1 | ⟨h1, rfl | h2⟩)
        · exact .inl h1
        · simp only [h1, Bool.true_and, Bool.not_eq_true', List.contains_eq_mem, decide_eq_false_iff_not, Classical.not_not] at h
          exact .inl h
        · exact .inr ⟨h1, h2⟩
def bindOf (out : List Tm) (v : Name) : Option Val := (out.find? (·.v == v)).map (·.x)
theorem bindOf_none {out : List Tm} {v : Name} : bindOf out v = none ↔ v ∉ out.map Tm.v := by
  unfold bindOf
  rw [Option.map_eq_none_iff, List.find?_eq_none]
  simp only [beq_iff_eq, List.mem_map, not_exists, not_and]
section
variable (valOk : Val → Bool)
def goMatch : List Tm → List Tm → List Val → Option (List Tm)
  | out, t :: ts, v :: vs =>
    if !valOk v || (t.v == [] && t.x != v) then none
    else if !isVar t.v then goMatch out ts vs
    else match bindOf out t.v with
      | some o => if o != v then none else goMatch out ts vs
      | none => goMatch (out ++ [⟨t.v, v⟩]) ts vs
  | out, _, _ => some out
end
end Go.Ped

namespace Go.Ped
structure Pr where
  v : Name
  t : Tm
  deriving DecidableEq, Inhabited
def keys (c : List Pr) : List Name := c.map (·.v)
def nextOf (c : List Pr) (v : Name) : Option Tm := (c.find? (·.v == v)).map (·.t)
def endOf : List Pr → Tm → Tm
  | [], t => t
  | p :: c, t => if t.v = p.v then endOf c p.t else endOf c t
def putS (s : List Pr) (t : Tm) : Tm := if t.v = [] ∨ t.v = us then t else match s.find? (·.v == t.v) with | some p => p.t | none => t
def takes (s : List Pr) (v : Name) (t : Tm) : List Pr := (s.map fun p => if p.t.v = v then ⟨p.v, t⟩ else p) ++ [⟨v, t⟩]
def Tm.bare (t : Tm) : Prop := t.v ≠ [] → t.x = zeroV
inductive Good : List Pr → Prop
  | nil : Good []
  | snoc {c : List Pr} {v : Name} {t : Tm} (h : Good c) (h1 : v ≠ []) (h2 : v ≠ us) (h3 : v ∉ keys c) (h4 : t.v ∉ keys c) (h5 : t.v ≠ v) (h6 : t.bare) : Good (c ++ [⟨v, t⟩])
theorem endOf_snoc : ∀ (c : List Pr) (p : Pr) (t : Tm), endOf (c ++ [p]) t = if (endOf c t).v = p.v then p.t else endOf c t
  | [], p, t => rfl
  | q :: c, p, t => by
    simp only [List.cons_append, endOf]
    split <;> exact endOf_snoc c p _
theorem endOf_out : ∀ {c : List Pr} {t : Tm}, t.v ∉ keys c → endOf c t = t
  | [], _, _ => rfl
  | p :: c, t, h => by
    simp only [keys, List.map_cons, List.mem_cons, not_or] at h
    simp only [endOf]
    rw [if_neg h.1]
    exact endOf_out h.2
theorem keys_snoc (c : List Pr) (p : Pr) : keys (c ++ [p]) = keys c ++ [p.v] := by simp [keys]
theorem Good.keys_ok {c : List Pr} (h : Good c) : ∀ v ∈ keys c, v ≠ [] ∧ v ≠ us := by
  induction h with
  | nil => intro v hv; cases hv
  | snoc h h1 h2 h3 h4 h5 h6 ih =>
    intro v hv
    rw [keys_snoc, List.mem_append, List.mem_singleton] at hv
    rcases hv with hv | rfl
    · exact ih v hv
    · exact ⟨h1, h2⟩
theorem Good.end_out {c : List Pr} (h : Good c) : ∀ t, (endOf c t).v ∉ keys c := by
  induction h with
  | nil => intro t hv; cases hv
  | @snoc c v u h h1 h2 h3 h4 h5 h6 ih =>
    intro t
    rw [endOf_snoc, keys_snoc, List.mem_append, List.mem_singleton]
    split
    · rintro (h7 | h7)
      · exact h4 h7
      · exact h5 h7
    · rename_i hne
      rintro (h7 | h7)
      · exact ih t h7
      · exact hne h7
theorem Good.end_bare {c : List Pr} (h : Good c) : ∀ {t : Tm}, t.bare → (endOf c t).bare := by
  induction h with
  | nil => intro t ht; exact ht
  | snoc h h1 h2 h3 h4 h5 h6 ih =>
    intro t ht
    rw [endOf_snoc]
    split
    · exact h6
    · exact ih ht
def solve (c : List Pr) : List Pr := c.map fun p => ⟨p.v, endOf c p.t⟩
theorem solve_snoc {c : List Pr} {v : Name} {t : Tm} (h4 : t.v ∉ keys c) (h5 : t.v ≠ v) : solve (c ++ [⟨v, t⟩]) = takes (solve c) v t := by
  unfold solve takes
  simp only [List.map_append, List.map_map, List.map_cons, List.map_nil]
  congr 1
  · refine List.map_congr_left fun p _ => ?_
    simp only [endOf_snoc, Function.comp]
    split <;> rfl
  · rw [endOf_snoc, endOf_out h4, if_neg h5]
theorem find_snoc (s : List Pr) (p : Pr) (v : Name) : (s ++ [p]).find? (·.v == v) = match s.find? (·.v == v) with | some q => some q | none => if p.v = v then some p else none := by
  rw [List.find?_append]
  cases s.find? (·.v == v) with
  | some q => rfl
  | none =>
    simp only [Option.none_or, List.find?_cons, List.find?_nil]
    by_cases h : p.v = v
    · simp [h]
    · have h2 : (p.v == v) = false := by simpa using h
      simp [h, h2]
theorem find_out {s : List Pr} {v : Name} (h : v ∉ keys s) : s.find? (·.v == v) = none := by
  rw [List.find?_eq_none]
  intro p hp e
  exact h (by rw [beq_iff_eq] at e; rw [← e]; exact List.mem_map_of_mem hp)
theorem keys_solve (c : List Pr) : keys (solve c) = keys c := by simp [keys, solve, Function.comp_def]
theorem find_takes (s : List Pr) (v w : Name) (t : Tm) (h : w ≠ v) : (takes s v t).find? (·.v == w) = (s.find? (·.v == w)).map fun p => if p.t.v = v then ⟨p.v, t⟩ else p := by
  unfold takes
  rw [List.find?_append]
  have : ((s.map fun p => if p.t.v = v then (⟨p.v, t⟩ : Pr) else p).find? (·.v == w)) = (s.find? (·.v == w)).map fun p => if p.t.v = v then ⟨p.v, t⟩ else p := by
    rw [List.find?_map]
    congr 1
    congr 1
    funext p
    simp only [Function.comp]
    split <;> rfl
  rw [this]
  cases s.find? (·.v == w) with
  | some q => rfl
  | none => simp [Ne.symm h]
theorem Good.put {c : List Pr} (h : Good c) : ∀ t, putS (solve c) t = endOf c t := by
  induction h with
  | nil => intro t; simp [putS, solve, endOf]
  | @snoc c v u h h1 h2 h3 h4 h5 h6 ih =>
    intro t
    rw [solve_snoc h4 h5, endOf_snoc, ← ih t]
    unfold putS
    by_cases h0 : t.v = [] ∨ t.v = us
    · rw [if_pos h0, if_pos h0, if_neg (fun e => h0.elim (fun e2 => h1 (e.symm.trans e2)) fun e2 => h2 (e.symm.trans e2))]
    · rw [if_neg h0, if_neg h0]
      by_cases hv : t.v = v
      · have hn : (solve c).find? (·.v == t.v) = none := find_out (by rw [keys_solve, hv]; exact h3)
        have hm : ((solve c).map fun p => if p.t.v = v then (⟨p.v, u⟩ : Pr) else p).find? (·.v == t.v) = none := by
          rw [List.find?_eq_none] at hn ⊢
          intro p hp
          obtain ⟨q, hq, rfl⟩ := List.mem_map.1 hp
          have := hn q hq
          split <;> exact this
        have : (takes (solve c) v u).find? (·.v == t.v) = some ⟨v, u⟩ := by
          unfold takes
          rw [find_snoc, hm]
          simp [hv]
        rw [this, hn]
        simp only
        rw [if_pos hv]
      · rw [find_takes _ _ _ _ hv]
        cases (solve c).find? (·.v == t.v) with
        | none => simp only [Option.map_none]; rw [if_neg hv]
        | some p => simp only [Option.map_some]; split <;> rfl
end Go.Ped

namespace Go.Proofs.YtiomojlcnemnhaaGreatDoor
open Go.Fx Go.RowKit
variable {G : World → Prop}
theorem m113 (b : Bool) : Meets Tryz.prog G 187 [.one (cB b)] (.x (.one (cI .i64 (if b then 0 else 40)))) := by
  refine meets Tryz.func187 ie113 ig113 (Nat.le_of_ble_eq_true rfl) ?_
  simp [ic113, ir113]
def okN (n : Int) : Bool := decide (n ≥ 97) && decide (n ≤ 122) || decide (n ≥ 65) && decide (n ≤ 90) || decide (n ≥ 48) && decide (n ≤ 57) || n == 95
theorem m222 (n : Int) : Meets Tryz.prog G 296 [.one (cI .u8 n)] (.x (.one (cB (okN n)))) := by
  refine meets Tryz.func296 ie222 ig222 (Nat.le_of_ble_eq_true rfl) ?_
  simp [ic222, ir222, okN]
  omega
def valOk (k n : Int) (s : List UInt8) : Bool := if k = 1 then s == [] else decide (k = 2) && decide (n = 0) && decide (s.length ≤ 200)
theorem m92 (k n : Int) (s : List UInt8) : Meets Tryz.prog G 204 [.agg [cI .i8 k, cI .i64 n, cS (bs s)]] (.x (.one (cI .i64 (if valOk k n s then 0 else 10)))) := by
  refine meets Tryz.func204 ie92 ig92 (Nat.le_of_ble_eq_true rfl) ?_
  simp [ic92, ir92, valOk]
  grind
theorem m29 (k n : Int) (s : List UInt8) : Meets Tryz.prog G 243 [.agg [cI .i8 k, cI .i64 n, cS (bs s)]] (.x (.one (cI .i64 (if valOk k n s then 0 else 10)))) := by
  refine meets Tryz.func243 ie29 ig29 (Nat.le_of_ble_eq_true rfl) ?_
  simp [ic29, ir29, valOk]
  grind
def okB (b : UInt8) : Bool := okN b.toNat
def wordOk (a z : Int) : List UInt8 → Bool
  | [] => false
  | b :: l => decide ((b :: l).length ≤ 120) && decide (a ≤ b.toNat) && decide ((b.toNat : Int) ≤ z) && okB b && l.all okB
theorem m168 (s : List UInt8) (a z : Int) : Meets Tryz.prog G 259 [.one (cS (bs s)), .one (cI .u8 a), .one (cI .u8 z)] (.x (.one (cB (wordOk a z s)))) := by
  refine meets Tryz.func259 ie168 ig168 (Nat.le_of_ble_eq_true rfl) ?_
  simp [ic168, ir168]
  cases s with
  | nil => simp [wordOk]
  | cons b l =>
    have hl : (b :: l).length = l.length + 1 := rfl
    have hw : wordOk a z (b :: l) = (decide ((b :: l).length ≤ 120) && decide (a ≤ b.toNat) && decide ((b.toNat : Int) ≤ z) && ((b :: l).drop 0).all okB) := by simp [wordOk, Bool.and_assoc]
    have h0 : (b :: l)[0]? = some b := rfl
    have hne : b :: l ≠ [] := List.cons_ne_nil _ _
    generalize b :: l = L at *
    simp [h0, hne]
    refine ⟨fun hlen => by simp [hw]; omega, fun hlen => ⟨by omega, fun hb => by simp [hw]; omega, fun hb => ⟨by omega, fun hz => by simp [hw]; omega, fun hz => ⟨by unfold maxLen; omega, ?_⟩⟩⟩⟩
    refine w_loopK (fun n σ => ∃ (i : Nat) (t28 t33 t8 t61 : T), i + n = L.length ∧ wordOk a z L = (L.drop i).all okB ∧ σ = ks168 (tS L) (tI .u8 a) (tI .u8 z) t28 (tI .i64 i) (tI .i64 L.length) t33 (tL (L.map byteRow)) t8 t61 (tB false) [] [] F0)
      L.length ⟨0, _, _, _, _, by simp, by rw [hw]; simp; omega, rfl⟩ ?_
    rintro n σ1 K hK ⟨i, t28, t33, t8, t61, hi, hd, rfl⟩
    obtain hn | hn := Nat.lt_or_ge i L.length
    · obtain ⟨c, hc, hdr⟩ := at_list hn
      rw [hdr] at hd
      have hI : ∀ t28 t33 t8 t61, wordOk a z L = (L.drop (i + 1)).all okB → K (ks168 (tS L) (tI .u8 a) (tI .u8 z) t28 (tI .i64 (i + 1)) (tI .i64 L.length) t33 (tL (L.map byteRow)) t8 t61 (tB false) [] [] F0) :=
        fun t28 t33 t8 t61 h => hK _ (n - 1) (by omega) ⟨i + 1, t28, t33, t8, t61, by omega, h, rfl⟩
      clear hK
      simp only [List.all_cons] at hd
      have hb : okB c = true ∨ okB c = false := by cases okB c <;> simp
      simp [ic168l0, hn, hc, byteRow, wrap_next hn (by omega)]
      repeat' (first | apply And.intro | intro _)
      all_goals first
        | (apply hI; grind [okB, okN])
        | grind [okB, okN]
    · simp [ic168l0, Nat.not_lt.mpr hn, hd, List.drop_eq_nil_of_le hn]
def writtenOk (a z : Int) : List UInt8 → Bool
  | [] => false
  | b :: l => decide ((b :: l).length ≤ 120) && decide (a ≤ b.toNat) && decide ((b.toNat : Int) ≤ z) && l.all okB
theorem m201 (s : List UInt8) (a z : Int) : Meets Tryz.prog G 248 [.one (cS (bs s)), .one (cI .u8 a), .one (cI .u8 z)] (.x (.one (cB (writtenOk a z s)))) := by
  refine meets Tryz.func248 ie201 ig201 (Nat.le_of_ble_eq_true rfl) ?_
  cases s with
  | nil => simp [ic201, ir201, writtenOk]
  | cons b l =>
    have hl : (b :: l).length = l.length + 1 := rfl
    have hw : writtenOk a z (b :: l) = (decide ((b :: l).length ≤ 120) && decide (a ≤ b.toNat) && decide ((b.toNat : Int) ≤ z) && ((b :: l).drop 1).all okB) := by simp [writtenOk]
    have h0 : (b :: l)[0]? = some b := rfl
    have hne : b :: l ≠ [] := List.cons_ne_nil _ _
    generalize b :: l = L at *
    simp [ic201, ir201, h0, hne]
    repeat' (first | apply And.intro | intro _)
    all_goals first
      | omega
      | (simp [hw]; omega)
      | skip
    refine w_loopK (fun n σ => ∃ (i : Nat) (t27 t31 t38 : T), 1 ≤ i ∧ i + n = L.length ∧ writtenOk a z L = (L.drop i).all okB ∧ σ = ks201 (tS L) (tI .u8 a) (tI .u8 z) t27 (tI .i64 i) t31 t38 (tB false) [] [] F0)
      l.length ⟨1, _, _, _, by simp, by omega, by rw [hw]; simp; omega, rfl⟩ ?_
    rintro n σ1 K hK ⟨i, t27, t31, t38, h1, hi, hd, rfl⟩
    obtain hn | hn := Nat.lt_or_ge i L.length
    · obtain ⟨c, hc, hdr⟩ := at_list hn
      rw [hdr] at hd
      have hI : ∀ t27 t31 t38, writtenOk a z L = (L.drop (i + 1)).all okB → K (ks201 (tS L) (tI .u8 a) (tI .u8 z) t27 (tI .i64 (i + 1)) t31 t38 (tB false) [] [] F0) :=
        fun t27 t31 t38 h => hK _ (n - 1) (by omega) ⟨i + 1, t27, t31, t38, by omega, by omega, h, rfl⟩
      clear hK
      simp only [List.all_cons] at hd
      simp [ic201l0, hn, hc]
      refine r_call 296 true _ _ (m222 _) rfl rfl rfl rfl ?_
      simp [wrap_next hn (by omega)]
      repeat' (first | apply And.intro | intro _)
      all_goals first
        | (apply hI; grind [okB])
        | grind [okB]
    · simp [ic201l0, Nat.not_lt.mpr hn, hd, List.drop_eq_nil_of_le hn]
theorem written_word (a z : Int) (s : List UInt8) (h : ∀ b : UInt8, a ≤ b.toNat → (b.toNat : Int) ≤ z → okB b = true) : writtenOk a z s = wordOk a z s := by
  cases s with
  | nil => rfl
  | cons b l =>
    unfold writtenOk wordOk
    by_cases h1 : a ≤ b.toNat
    · by_cases h2 : (b.toNat : Int) ≤ z
      · simp [h1, h2, h b h1 h2]
      · simp [h2]
    · simp [h1]
theorem m203 (s : List UInt8) : Meets Tryz.prog G 297 [.one (cS (bs s))] (.x (.one (cB (wordOk 65 90 s)))) := by
  rw [← written_word _ _ _ (fun b h1 h2 => by simp [okB, okN]; omega)]
  refine meets Tryz.func297 ie203 ig203 (Nat.le_of_ble_eq_true rfl) ?_
  simp [ic203, ir203]
  refine r_call 248 true _ _ (m201 _ _ _) rfl rfl rfl rfl ?_
  simp
def termOk (v : List UInt8) (k n : Int) (s : List UInt8) : Bool := if v = [] then valOk k n s else (decide (v = [95]) || wordOk 65 90 v) && decide (k = 0) && decide (n = 0) && decide (s = [])
theorem m117 (v : List UInt8) (k n : Int) (s : List UInt8) : Meets Tryz.prog G 208 [.agg [cS (bs v), cI .i8 k, cI .i64 n, cS (bs s)]] (.x (.one (cI .i64 (if termOk v k n s then 0 else 40)))) := by
  refine meets Tryz.func208 ie117 ig117 (Nat.le_of_ble_eq_true rfl) ?_
  simp [ic117, ir117]
  repeat' (first
    | apply And.intro
    | intro _
    | (refine r_callF (.x (.one (cB false))) rfl ?_; try simp)
    | (refine r_call 259 true _ _ (m168 _ _ _) rfl rfl rfl rfl ?_; try simp)
    | (refine r_call 204 true _ _ (m92 _ _ _) rfl rfl rfl rfl ?_; try simp)
    | (refine r_call 187 true _ _ (m113 _) rfl rfl rfl rfl ?_; try simp))
  all_goals grind [termOk]
theorem m157 (v : List UInt8) (k n : Int) (s : List UInt8) : Meets Tryz.prog G 250 [.agg [cS (bs v), cI .i8 k, cI .i64 n, cS (bs s)]] (.x (.one (cB (termOk v k n s)))) := by
  refine meets Tryz.func250 ie157 ig157 (Nat.le_of_ble_eq_true rfl) ?_
  simp [ic157, ir157]
  repeat' (first
    | apply And.intro
    | intro _
    | (refine r_callF (.x (.one (cB false))) rfl ?_; try simp)
    | (refine r_call 297 true _ _ (m203 _) rfl rfl rfl rfl ?_; try simp)
    | (refine r_call 243 true _ _ (m29 _ _ _) rfl rfl rfl rfl ?_; try simp))
  all_goals grind [termOk]
end Go.Proofs.YtiomojlcnemnhaaGreatDoor

namespace Go.Proofs.YtiomojlcnemnhaaGreatDoor
open Go.Fx Go.RowKit
variable {G : World → Prop}
def kwOk (s : List UInt8) : Bool :=
  s == [110, 111, 116] || s == [99, 111, 117, 110, 116] || s == [115, 117, 109] || s == [109, 105, 110] || s == [109, 97, 120] || s == [108, 101, 110] || s == [99, 104, 97, 114, 115] || s == [98, 97, 99, 107]
def nameOk (s : List UInt8) : Bool := !kwOk s && wordOk 97 122 s
theorem m202 (s : List UInt8) : Meets Tryz.prog G 249 [.one (cS (bs s))] (.x (.one (cB (kwOk s)))) := by
  refine meets Tryz.func249 ie202 ig202 (Nat.le_of_ble_eq_true rfl) ?_
  simp [ic202, ir202]
  grind [kwOk]
theorem m114 (s : List UInt8) : Meets Tryz.prog G 184 [.one (cS (bs s))] (.x (.one (cB (nameOk s)))) := by
  refine meets Tryz.func184 ie114 ig114 (Nat.le_of_ble_eq_true rfl) ?_
  simp [ic114, ir114]
  repeat' (first
    | apply And.intro
    | intro _
    | (refine r_call 259 true _ _ (m168 _ _ _) rfl rfl rfl rfl ?_; try simp))
  all_goals grind [kwOk, nameOk]
theorem m156 (s : List UInt8) : Meets Tryz.prog G 174 [.one (cS (bs s))] (.x (.one (cB (nameOk s)))) := by
  refine meets Tryz.func174 ie156 ig156 (Nat.le_of_ble_eq_true rfl) ?_
  simp [ic156, ir156]
  have hw := written_word 97 122 s (fun b h1 h2 => by simp [okB, okN]; omega)
  repeat' (first
    | apply And.intro
    | intro _
    | (refine r_callF (.x (.one (cB false))) rfl ?_; try simp)
    | (refine r_call 248 true _ _ (m201 _ _ _) rfl rfl rfl rfl ?_; try simp)
    | (refine r_call 249 true _ _ (m202 _) rfl rfl rfl rfl ?_; try simp))
  all_goals grind [nameOk]
theorem m116 (v : List UInt8) (k n : Int) (s : List UInt8) : Meets Tryz.prog G 207 [.agg [cS (bs v), cI .i8 k, cI .i64 n, cS (bs s)]] (.x (.one (cB (!termOk v k n s)))) := by
  refine meets Tryz.func207 ie116 ig116 (Nat.le_of_ble_eq_true rfl) ?_
  simp [ic116, ir116]
  refine r_call 208 true _ _ (m117 _ _ _ _) rfl rfl rfl rfl ?_
  simp
  grind
end Go.Proofs.YtiomojlcnemnhaaGreatDoor

namespace Go.Proofs.YtiomojlcnemnhaaGreatDoor
open Go.Fx Go.RowKit Go.Ped
variable {G : World → Prop}
def _root_.Go.Ped.Val.row (x : Val) : List C := [cI .i8 x.k, cI .i64 x.n, cS (bs x.s)]
def _root_.Go.Ped.Tm.row (t : Tm) : List C := [cS (bs t.v), cI .i8 t.x.k, cI .i64 t.x.n, cS (bs t.x.s)]
def _root_.Go.Ped.Tm.ok (t : Tm) : Bool := termOk t.v t.x.k t.x.n t.x.s
def _root_.Go.Ped.Val.ok (x : Val) : Bool := valOk x.k x.n x.s
abbrev cF (f : FuncId) : C := .v (.func (.func f) #[] #[])
def idxOr {α : Type} (p : α → Bool) : Nat → List α → Int
  | _, [] => -1
  | i, t :: l => if p t then i else idxOr p (i + 1) l
theorem idxOr_nonneg {α : Type} (p : α → Bool) : ∀ (l : List α) (i : Nat), (0 ≤ idxOr p i l ↔ l.any p = true)
  | [], i => by simp [idxOr]
  | t :: l, i => by
    unfold idxOr
    by_cases h : p t = true
    · simp [h]
    · simp [h, idxOr_nonneg p l (i + 1)]
theorem m169 {H : FHp} {fv : A} (hfv : fv.only farKey (fun k => H.toks k ≠ none)) (p : List C → Bool) (l sp : List (List C)) (hl : l.length ≤ maxLen) (hs : ∀ r ∈ l, r.length = 4)
    (hf : ∀ r ∈ l, MeetsV Tryz.prog G fv [.agg (r.map A.c)] (hp [] [] H) (rB (p r)) (hp [] [] H)) :
    MeetsH Tryz.prog G 271 [.one (.c (.sl l sp)), .one fv] (hp [] [] H) (rI .i64 (idxOr p 0 l)) (hp [] [] H) := by
  refine meetsH [] Tryz.func271 ie169 ig169 (Nat.le_of_ble_eq_true rfl) (by simp) (by simp) ?_ (by simp) (by simp) (sameKeys_refl H) (by simp) (by simp) ?_
  · simp
    exact A.only_mono (fun _ => far_not_own) (fun _ h => h) hfv
  simp [ic169, ir169]
  refine w_loopK (fun n σ => ∃ (i : Nat) (t9 t5 t16 : T), i + n = l.length ∧ idxOr p 0 l = idxOr p i (l.drop i) ∧ σ = ks169 (.k true (.x (.one (.c (.sl l sp))))) (tI .i64 i) (tI .i64 l.length) t9 (.k true (.x (.one fv))) t5 t16 (tI .i64 0) [] [] H)
    l.length ⟨0, _, _, _, by simp, by simp, rfl⟩ ?_
  rintro n σ1 K hK ⟨i, t9, t5, t16, hi, hd, rfl⟩
  obtain hn | hn := Nat.lt_or_ge i l.length
  · obtain ⟨c, hc, hdr⟩ := at_list hn
    rw [hdr] at hd
    have hI : ∀ t9 t5 t16, idxOr p 0 l = idxOr p (i + 1) (l.drop (i + 1)) → K (ks169 (.k true (.x (.one (.c (.sl l sp))))) (tI .i64 (i + 1)) (tI .i64 l.length) t9 (.k true (.x (.one fv))) t5 t16 (tI .i64 0) [] [] H) :=
      fun t9 t5 t16 h => hK _ (n - 1) (by omega) ⟨i + 1, t9, t5, t16, by omega, h, rfl⟩
    clear hK
    obtain ⟨_, rfl⟩ := List.getElem?_eq_some_iff.1 hc
    have h4 := hs l[i] (List.getElem_mem hn)
    have htk : (l[i].map A.c).take 4 = l[i].map A.c := List.take_of_length_le (by simp [h4])
    simp [ic169l0, hn, h4]
    refine r_call0 (hf l[i] (List.getElem_mem hn)) rfl rfl rfl (by simp [htk]) (by simp) (by simp) ?_
    simp [wrap_next hn (by unfold maxLen at hl; omega)]
    rw [show ∀ t r, idxOr p i (t :: r) = if p t then (i : Int) else idxOr p (i + 1) r from fun _ _ => rfl] at hd
    refine ⟨fun h => ?_, fun h => ?_⟩
    · rw [if_pos h] at hd
      rw [hd]
      exact ret_st (by simp) (by simp) (by simp) (by simp) (by simp) (by simp)
    · rw [if_neg (by simp [h])] at hd; exact hI _ _ _ hd
  · simp [ic169l0, Nat.not_lt.mpr hn]
    rw [hd, List.drop_eq_nil_of_le hn]
    exact ret_st (by simp) (by simp [idxOr]) (by simp) (by simp) (by simp) (by simp)
theorem m115 {H : FHp} {fv : A} (hfv : fv.only farKey (fun k => H.toks k ≠ none)) (p : List C → Bool) (l sp : List (List C)) (hl : l.length ≤ maxLen) (hs : ∀ r ∈ l, r.length = 4)
    (hf : ∀ r ∈ l, MeetsV Tryz.prog G fv [.agg (r.map A.c)] (hp [] [] H) (rB (p r)) (hp [] [] H)) :
    MeetsH Tryz.prog G 206 [.one (.c (.sl l sp)), .one fv] (hp [] [] H) (rB (l.any p)) (hp [] [] H) := by
  refine meetsH [] Tryz.func206 ie115 ig115 (Nat.le_of_ble_eq_true rfl) (by simp) (by simp) ?_ (by simp) (by simp) (sameKeys_refl H) (by simp) (by simp) ?_
  · simp
    exact A.only_mono (fun _ => far_not_own) (fun _ h => h) hfv
  simp [ic115, ir115]
  refine r_call0 (MeetsV.of_fun (m169 hfv p l sp hl hs hf)) rfl rfl rfl (by simp) (by simp) (by simp) ?_
  simp
  refine ret_st (by simp) ?_ (by simp) (by simp) (by simp) (by simp)
  have := idxOr_nonneg p l 0
  simp
  rw [show (l.any p) = decide (0 ≤ idxOr p 0 l) from by rw [Bool.eq_iff_iff, decide_eq_true_iff, this]]
  exact X.fits_refl _
def atomOk (p : List UInt8) (l : List Tm) : Bool := nameOk p && decide (l.length ≤ 24) && l.all Tm.ok
def _root_.Go.Ped.Tm.of : List C → Tm
  | [.v (.string a), .v (.int _ k), .v (.int _ n), .v (.string b)] => ⟨a.data.toList, ⟨k, n, b.data.toList⟩⟩
  | _ => ⟨[], ⟨0, 0, []⟩⟩
@[simp] theorem _root_.Go.Ped.Tm.of_row (t : Tm) : Tm.of t.row = t := by simp [Tm.row, Tm.of]
@[simp] theorem _root_.Go.Ped.Tm.row_length (t : Tm) : t.row.length = 4 := rfl
theorem any_term {f : FuncId} {p : Tm → Bool} (hf : ∀ t, Meets Tryz.prog G f [.agg t.row] (.x (.one (cB (p t))))) (l : List Tm) (sp : List (List C)) (hl : l.length ≤ maxLen) :
    MeetsV Tryz.prog G (fnA 206) [.one (.c (.sl (l.map Tm.row) sp)), .one (fnA f)] (hp [] [] F0) (rB (l.any p)) (hp [] [] F0) := by
  have h := m115 (G := G) (H := F0) (fv := fnA f) trivial (fun r => p (Tm.of r)) (l.map Tm.row) sp (by simpa using hl) (by simp) (fun r hr => by
    obtain ⟨t, _, rfl⟩ := List.mem_map.1 hr
    simpa [CX.open, CR.open] using plainV (hf t) F0)
  have e : (l.map Tm.row).any (fun r => p (Tm.of r)) = l.any p := by simp [List.any_map, Function.comp_def]
  rw [e] at h
  exact MeetsV.of_fun h
theorem m44 (p : List UInt8) (l : List Tm) (sp : List (List C)) (hl : l.length ≤ maxLen) :
    Meets Tryz.prog G 121 [.agg [cS (bs p), .sl (l.map Tm.row) sp]] (.x (.one (cI .i64 (if atomOk p l then 0 else 40)))) := by
  refine meets Tryz.func121 ie44 ig44 (Nat.le_of_ble_eq_true rfl) ?_
  have h116 : ∀ t : Tm, Meets Tryz.prog G 207 [.agg t.row] (.x (.one (cB (!t.ok)))) := fun t => m116 t.v t.x.k t.x.n t.x.s
  have hany : (l.any fun t => !t.ok) = !l.all Tm.ok := by simp [List.any_eq_not_all_not]
  simp [ic44, ir44]
  repeat' (first
    | apply And.intro
    | intro _
    | (refine r_callF (.x (.one (cB false))) rfl ?_; try simp)
    | (refine r_callVF (rB false) rfl ?_; try simp)
    | (refine r_call 184 true _ _ (m114 _) rfl rfl rfl rfl ?_; try simp)
    | (refine r_call0 (any_term h116 l sp hl) rfl rfl rfl (by simp) (by simp) (by simp) ?_; try simp)
    | (refine r_call 187 true _ _ (m113 _) rfl rfl rfl rfl ?_; try simp))
  all_goals grind [atomOk]
end Go.Proofs.YtiomojlcnemnhaaGreatDoor

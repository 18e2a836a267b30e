/- Contracts. -/
import Derived.Test.YtjijjadddeeekaaFxW
import Derived.Test.YtjijjadddeeekaaIc
import Derived.IntWalk
namespace Go.Proofs.Ytjijjadddeeekaa
open Go.Fx Go.RowKit
variable {G : World → Prop}

theorem m6 (b : Bool) : Meets Try.prog G 6 [.one (cB b)] (.x (.one (cI .i64 (if b then 0 else 40)))) := by
  refine meets Try.func6 ie6 ig6 (Nat.le_of_ble_eq_true rfl) ?_
  simp [ic6, ir6]
theorem m9 (b : Bool) : Meets Try.prog G 9 [.one (cB b)] (.x (.one (cI .i64 (if b then 0 else 40)))) := by
  refine meets Try.func9 ie9 ig9 (Nat.le_of_ble_eq_true rfl) ?_
  simp [ic9, ir9]

/-- A letter, a digit or _. -/
def okN (n : Int) : Bool := decide (n ≥ 97) && decide (n ≤ 122) || decide (n ≥ 65) && decide (n ≤ 90) || decide (n ≥ 48) && decide (n ≤ 57) || n == 95

theorem m14 (n : Int) : Meets Try.prog G 14 [.one (cI .u8 n)] (.x (.one (cB (okN n)))) := by
  refine meets Try.func14 ie14 ig14 (Nat.le_of_ble_eq_true rfl) ?_
  simp [ic14, ir14, okN]
  omega

/-- A number or a text as values may be. -/
def valOk (k n : Int) (s : List UInt8) : Bool := if k = 1 then s == [] else decide (k = 2) && decide (n = 0) && decide (s.length ≤ 200)

theorem m7 (k n : Int) (s : List UInt8) : Meets Try.prog G 7 [.agg [cI .i8 k, cI .i64 n, cS (bs s)]] (.x (.one (cI .i64 (if valOk k n s then 0 else 10)))) := by
  refine meets Try.func7 ie7 ig7 (Nat.le_of_ble_eq_true rfl) ?_
  simp [ic7, ir7, valOk]
  grind
theorem m11 (k n : Int) (s : List UInt8) : Meets Try.prog G 11 [.agg [cI .i8 k, cI .i64 n, cS (bs s)]] (.x (.one (cI .i64 (if valOk k n s then 0 else 10)))) := by
  refine meets Try.func11 ie11 ig11 (Nat.le_of_ble_eq_true rfl) ?_
  simp [ic11, ir11, valOk]
  grind

def okB (b : UInt8) : Bool := okN b.toNat
def wordOk (a z : Int) : List UInt8 → Bool
  | [] => false
  | b :: l => decide ((b :: l).length ≤ 120) && decide (a ≤ b.toNat) && decide ((b.toNat : Int) ≤ z) && okB b && l.all okB

theorem m8 (s : List UInt8) (a z : Int) : Meets Try.prog G 8 [.one (cS (bs s)), .one (cI .u8 a), .one (cI .u8 z)] (.x (.one (cB (wordOk a z s)))) := by
  refine meets Try.func8 ie8 ig8 (Nat.le_of_ble_eq_true rfl) ?_
  simp [ic8, ir8]
  cases s with
  | nil => simp [wordOk]
  | cons b l =>
    have hl : (b :: l).length = l.length + 1 := rfl
    have hw : wordOk a z (b :: l) = (decide ((b :: l).length ≤ 120) && decide (a ≤ b.toNat) && decide ((b.toNat : Int) ≤ z) && ((b :: l).drop 0).all okB) := by simp [wordOk, Bool.and_assoc]
    have h0 : (b :: l)[0]? = some b := rfl
    have hne : b :: l ≠ [] := List.cons_ne_nil _ _
    generalize b :: l = L at *
    simp [h0, hne]
    refine ⟨fun hlen => by simp [hw]; omega, fun hlen => ⟨by omega, fun hb => by simp [hw]; omega, fun hb => ⟨by omega, fun hz => by simp [hw]; omega, fun hz => ⟨by unfold maxLen; omega, ?_⟩⟩⟩⟩
    refine w_loopK (fun n σ => ∃ (i : Nat) (t28 t33 t8 t61 : T), i + n = L.length ∧ wordOk a z L = (L.drop i).all okB ∧ σ = ks8 (tS L) (tI .u8 a) (tI .u8 z) t28 (tI .i64 i) (tI .i64 L.length) t33 (tL (L.map byteRow)) t8 t61 (tB false) [] [])
      L.length ⟨0, _, _, _, _, by simp, by rw [hw]; simp; omega, rfl⟩ ?_
    rintro n σ1 K hK ⟨i, t28, t33, t8, t61, hi, hd, rfl⟩
    obtain hn | hn := Nat.lt_or_ge i L.length
    · obtain ⟨c, hc, hdr⟩ := at_list hn
      rw [hdr] at hd
      have hI : ∀ t28 t33 t8 t61, wordOk a z L = (L.drop (i + 1)).all okB → K (ks8 (tS L) (tI .u8 a) (tI .u8 z) t28 (tI .i64 (i + 1)) (tI .i64 L.length) t33 (tL (L.map byteRow)) t8 t61 (tB false) [] []) :=
        fun t28 t33 t8 t61 h => hK _ (n - 1) (by omega) ⟨i + 1, t28, t33, t8, t61, by omega, h, rfl⟩
      clear hK
      simp only [List.all_cons] at hd
      have hb : okB c = true ∨ okB c = false := by cases okB c <;> simp
      simp [ic8l0, hn, hc, byteRow, wrap_next hn (by omega)]
      repeat' (first | apply And.intro | intro _)
      all_goals first
        | (apply hI; grind [okB, okN])
        | grind [okB, okN]
    · simp [ic8l0, Nat.not_lt.mpr hn, hd, List.drop_eq_nil_of_le hn]
end Go.Proofs.Ytjijjadddeeekaa

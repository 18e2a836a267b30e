/- Contracts, on. -/
import Derived.Test.YtjijjadddeeekaaM
namespace Go.Proofs.Ytjijjadddeeekaa
open Go.Fx Go.RowKit
variable {G : World → Prop}

def writtenOk (a z : Int) : List UInt8 → Bool
  | [] => false
  | b :: l => decide ((b :: l).length ≤ 120) && decide (a ≤ b.toNat) && decide ((b.toNat : Int) ≤ z) && l.all okB

theorem m13 (s : List UInt8) (a z : Int) : Meets Try.prog G 13 [.one (cS (bs s)), .one (cI .u8 a), .one (cI .u8 z)] (.x (.one (cB (writtenOk a z s)))) := by
  refine meets Try.func13 ie13 ig13 (Nat.le_of_ble_eq_true rfl) ?_
  cases s with
  | nil => simp [ic13, ir13, writtenOk]
  | cons b l =>
    have hl : (b :: l).length = l.length + 1 := rfl
    have hw : writtenOk a z (b :: l) = (decide ((b :: l).length ≤ 120) && decide (a ≤ b.toNat) && decide ((b.toNat : Int) ≤ z) && ((b :: l).drop 1).all okB) := by simp [writtenOk]
    have h0 : (b :: l)[0]? = some b := rfl
    have hne : b :: l ≠ [] := List.cons_ne_nil _ _
    generalize b :: l = L at *
    simp [ic13, ir13, h0, hne]
    repeat' (first | apply And.intro | intro _)
    all_goals first
      | omega
      | (simp [hw]; omega)
      | skip
    refine w_loopK (fun n σ => ∃ (i : Nat) (t27 t31 t38 : T), 1 ≤ i ∧ i + n = L.length ∧ writtenOk a z L = (L.drop i).all okB ∧ σ = ks13 (tS L) (tI .u8 a) (tI .u8 z) t27 (tI .i64 i) t31 t38 (tB false) [] [])
      l.length ⟨1, _, _, _, by simp, by omega, by rw [hw]; simp; omega, rfl⟩ ?_
    rintro n σ1 K hK ⟨i, t27, t31, t38, h1, hi, hd, rfl⟩
    obtain hn | hn := Nat.lt_or_ge i L.length
    · obtain ⟨c, hc, hdr⟩ := at_list hn
      rw [hdr] at hd
      have hI : ∀ t27 t31 t38, writtenOk a z L = (L.drop (i + 1)).all okB → K (ks13 (tS L) (tI .u8 a) (tI .u8 z) t27 (tI .i64 (i + 1)) t31 t38 (tB false) [] []) :=
        fun t27 t31 t38 h => hK _ (n - 1) (by omega) ⟨i + 1, t27, t31, t38, by omega, by omega, h, rfl⟩
      clear hK
      simp only [List.all_cons] at hd
      simp [ic13l0, hn, hc]
      refine r_call true _ _ (m14 _) rfl (fun _ => ⟨rfl, rfl⟩) ?_
      simp [wrap_next hn (by omega)]
      repeat' (first | apply And.intro | intro _)
      all_goals first
        | (apply hI; grind [okB])
        | grind [okB]
    · simp [ic13l0, Nat.not_lt.mpr hn, hd, List.drop_eq_nil_of_le hn]

theorem written_word (a z : Int) (s : List UInt8) (h : ∀ b : UInt8, a ≤ b.toNat → (b.toNat : Int) ≤ z → okB b = true) : writtenOk a z s = wordOk a z s := by
  cases s with
  | nil => rfl
  | cons b l =>
    unfold writtenOk wordOk
    by_cases h1 : a ≤ b.toNat
    · by_cases h2 : (b.toNat : Int) ≤ z
      · simp [h1, h2, h b h1 h2]
      · simp [h2]
    · simp [h1]

theorem m12 (s : List UInt8) : Meets Try.prog G 12 [.one (cS (bs s))] (.x (.one (cB (wordOk 65 90 s)))) := by
  rw [← written_word _ _ _ (fun b h1 h2 => by simp [okB, okN]; omega)]
  refine meets Try.func12 ie12 ig12 (Nat.le_of_ble_eq_true rfl) ?_
  simp [ic12, ir12]
  refine r_call true _ _ (m13 _ _ _) rfl (fun _ => ⟨rfl, rfl⟩) ?_
  simp

/-- Is it a term as it may be? -/
def termOk (v : List UInt8) (k n : Int) (s : List UInt8) : Bool := if v = [] then valOk k n s else (decide (v = [95]) || wordOk 65 90 v) && decide (k = 0) && decide (n = 0) && decide (s = [])

theorem m4 (v : List UInt8) (k n : Int) (s : List UInt8) : Meets Try.prog G 4 [.agg [cS (bs v), cI .i8 k, cI .i64 n, cS (bs s)]] (.x (.one (cI .i64 (if termOk v k n s then 0 else 40)))) := by
  refine meets Try.func4 ie4 ig4 (Nat.le_of_ble_eq_true rfl) ?_
  simp [ic4, ir4]
  repeat' (first
    | apply And.intro
    | intro _
    | (refine r_callF (.x (.one (cB false))) rfl ?_; try simp)
    | (refine r_call true _ _ (m8 _ _ _) rfl (fun _ => ⟨rfl, rfl⟩) ?_; try simp)
    | (refine r_call true _ _ (m7 _ _ _) rfl (fun _ => ⟨rfl, rfl⟩) ?_; try simp)
    | (refine r_call true _ _ (m6 _) rfl (fun _ => ⟨rfl, rfl⟩) ?_; try simp))
  all_goals grind [termOk]
theorem m10 (v : List UInt8) (k n : Int) (s : List UInt8) : Meets Try.prog G 10 [.agg [cS (bs v), cI .i8 k, cI .i64 n, cS (bs s)]] (.x (.one (cB (termOk v k n s)))) := by
  refine meets Try.func10 ie10 ig10 (Nat.le_of_ble_eq_true rfl) ?_
  simp [ic10, ir10]
  repeat' (first
    | apply And.intro
    | intro _
    | (refine r_callF (.x (.one (cB false))) rfl ?_; try simp)
    | (refine r_call true _ _ (m12 _) rfl (fun _ => ⟨rfl, rfl⟩) ?_; try simp)
    | (refine r_call true _ _ (m11 _ _ _) rfl (fun _ => ⟨rfl, rfl⟩) ?_; try simp))
  all_goals grind [termOk]
theorem m5 (v : List UInt8) (k n : Int) (s : List UInt8) : Meets Try.prog G 5 [.agg [cS (bs v), cI .i8 k, cI .i64 n, cS (bs s)]] (.x (.one (cI .i64 (if termOk v k n s then 0 else 40)))) := by
  refine meets Try.func5 ie5 ig5 (Nat.le_of_ble_eq_true rfl) ?_
  simp [ic5, ir5]
  refine r_call true _ _ (m10 _ _ _ _) rfl (fun _ => ⟨rfl, rfl⟩) ?_
  simp
  refine r_call true _ _ (m9 _) rfl (fun _ => ⟨rfl, rfl⟩) ?_
  simp
theorem m3 (v : List UInt8) (k n : Int) (s : List UInt8) : Meets Try.prog G 3 [.agg [cS (bs v), cI .i8 k, cI .i64 n, cS (bs s)]] (.x (.one (cB true))) := by
  refine meets Try.func3 ie3 ig3 (Nat.le_of_ble_eq_true rfl) ?_
  simp [ic3, ir3]
  refine r_call true _ _ (m4 _ _ _ _) rfl (fun _ => ⟨rfl, rfl⟩) ?_
  simp
  refine r_call true _ _ (m5 _ _ _ _) rfl (fun _ => ⟨rfl, rfl⟩) ?_
  simp
end Go.Proofs.Ytjijjadddeeekaa

/- Contracts, on: the document's operations. -/
import Derived.Test.YtiomojlcnemnhaaDoorKDxHa
import Derived.Test.YtiomojlcnemnhaaDoorKDxH4
namespace Go.Proofs.YtiomojlcnemnhaaDoor
open Go.Fx Go.RowKit Go.Ped
variable {G : World → Prop}

theorem bs_extract (s : List UInt8) (a b : Nat) : (bs s).extract a b = bs (bytesOf (bs s) a b) := by
  unfold bytesOf
  apply ByteArray.ext
  rw [ByteArray.data_extract]
  apply Array.ext'
  rw [Array.toList_extract, List.extract_eq_take_drop]
  rfl

theorem m227 (s : List UInt8) (hs : s.length ≤ 1048576) : Meets Tryd.prog G 227 [.one (cS (bs s))] (.x (.one (.sl ((charsB s).map nmRow) []))) := by
  refine meets Tryd.func227 ie227 ig227 (Nat.le_of_ble_eq_true rfl) ?_
  generalize hR : charsB s = R
  simp [ic227, ir227]
  refine w_loopA [.t 300 3 9 1] [24] [0, 3, 4] (by simp [ownKey])
    (fun z : Nat × List (List UInt8) => st [(0, .k true (.x (.one (.c (cS (bs s)))))), (3, .k true (.x (.one (.own 300 (z.2.map nmRow))))), (4, tI .i64 z.1)] [] [(300, ⟨9, 1, z.2.length⟩)] F0) (fun z => s.length - z.1)
    (fun z => z.1 ≤ s.length ∧ z.2.length ≤ z.1 ∧ ∃ m, s.length ≤ z.1 + m ∧ R = z.2 ++ segs (bs s) m z.1) (0, []) (by simp; try rfl) ⟨by simp, by simp, s.length, by simp, by rw [← hR]; rfl⟩ ?_
  rintro ⟨p, E⟩ K hK ⟨hp, hE, m, hm, hv⟩
  simp only at hp hE hm hv
  obtain hlt | hge := Nat.lt_or_ge p s.length
  · have hlt' : (p : Int) < s.length := by omega
    have hch := m231 (G := G) s p hlt hs
    have hw := refChar_width s p hlt
    have hd := decode_in (bs s) p (by simpa using hlt)
    have hd1 := decode_pos (bs s) p (by simpa using hlt)
    rw [bs_size] at hd
    generalize hq : refChar s p = q at hch hw
    obtain ⟨n, ok⟩ := q
    simp only at hch hw
    rw [← hw] at hd hd1
    obtain ⟨m, rfl⟩ : ∃ k, m = k + 1 := ⟨m - 1, by omega⟩
    rw [segs, if_pos (by simpa using hlt), ← hw] at hv
    simp [ic227l0, hlt, hlt']
    refine call_of hch ?_
    simp
    simp (disch := omega) only [w64]
    have e1 : ((p : Int) + n).toNat = p + n := by omega
    have e2 := bs_extract s p (p + n)
    refine ⟨⟨by omega, by omega⟩, by unfold maxLen; omega, by unfold maxBytes; omega, ?_⟩
    rw [e1, e2]
    exact hK (p + n, E ++ [bytesOf (bs s) p (p + n)]) _ (by simp) ⟨by simp only; omega, by simp; omega, m, by simp only; omega, by simp only; rw [hv]; simp⟩ (by simp only; omega)
  · have hge' : ¬ (p : Int) < s.length := by omega
    have hend : segs (bs s) m p = [] := by
      cases m with
      | zero => rfl
      | succ k => exact if_neg (by simpa using hge)
    rw [hend, List.append_nil] at hv
    subst hv
    simp [ic227l0, hge, hge', Nat.not_lt.mpr hge]

def kindsV (n k : Int) (l : List Val) : Bool := ((l.length : Int) == n) && l.all fun v => (v.k == k) && v.ok
theorem m210 (n : Nat) (k : Int) (l : List Val) (sp : Sp) (hn : n ≤ 2) : Meets Tryd.prog G 210 [.one (.sl (l.map Val.row) sp), .one (cI .i64 n), .one (cI .i8 k)] (.x (.one (cB (kindsV n k l)))) := by
  refine meets Tryd.func210 ie210 ig210 (Nat.le_of_ble_eq_true rfl) ?_
  generalize hB : kindsV n k l = B
  by_cases hl : l.length = n
  · have hB' : (l.all fun v => (v.k == k) && v.ok) = B := by rw [← hB]; simp [kindsV, hl]
    simp [ic210, ir210, hl]
    refine w_loopA [] [] [0, 1, 2, 6, 7] (by simp)
      (fun i : Nat => st [(0, .k true (.x (.one (.c (.sl (l.map Val.row) sp))))), (1, tI .i64 n), (2, tI .i8 k), (6, .k true (rB false)), (7, tI .i64 i)] [] [] F0) (fun i => l.length - i)
      (fun i => i ≤ l.length ∧ (l.drop i).all (fun v => (v.k == k) && v.ok) = B) 0 (by simp; try rfl) (by simpa using hB') ?_
    rintro i K hK ⟨hi, hd⟩
    obtain hlt | hge := Nat.lt_or_ge i l.length
    · rw [List.drop_eq_getElem_cons hlt, List.all_cons] at hd
      have hlt' : (i : Int) < n := by omega
      have hlt2 : i < n := by omega
      by_cases hk : l[i].k = k
      · have h29 := m29 (G := G) l[i].k l[i].n l[i].s
        rw [hk] at h29
        simp [ic210l0, hlt, hlt', hlt2, Val.row, hk]
        refine call_of h29 ?_
        simp
        by_cases ho : valOk k l[i].n l[i].s = true
        · simp [ho]
          have hd' : (l.drop (i + 1)).all (fun v => (v.k == k) && v.ok) = B := by rw [← hd]; simp [hk, Val.ok, ho]
          simp (disch := omega) only [w64]
          exact hK (i + 1) _ (by simp) ⟨by omega, hd'⟩ (by omega)
        · have hd' : B = false := by rw [← hd]; simp [hk, Val.ok, ho]
          simp [ho, hd']
      · have hd' : B = false := by rw [← hd]; simp [hk]
        simp [ic210l0, hlt, hlt', hlt2, Val.row, hk]
        refine call_no (.x (.one (cI .i64 0))) ?_
        simp [hd']
    · rw [List.drop_eq_nil_of_le hge] at hd
      have hlt' : ¬ (i : Int) < n := by omega
      have hlt2 : ¬ i < n := by omega
      simp [ic210l0, hlt', hlt2]
      simpa using hd
  · have : kindsV n k l = false := by
      unfold kindsV
      have : ¬ (l.length : Int) = n := by omega
      simp [this]
    rw [this] at hB
    subst hB
    have hn' : ¬ (l.length : Int) = n := by omega
    simp [ic210, ir210, hn', hl]

def quoV (a b : Int) : Int := if b = -1 then IntKind.i64.wrap (-a) else IntKind.i64.wrap (a.tdiv b)
theorem m226 (a b : Int) (hb : b ≠ 0) : Meets Tryd.prog G 226 [.one (cI .i64 a), .one (cI .i64 b)] (.x (.one (cI .i64 (quoV a b)))) := by
  refine meets Tryd.func226 ie226 ig226 (Nat.le_of_ble_eq_true rfl) ?_
  unfold quoV
  by_cases h : b = -1
  · rw [if_pos h]; simp [ic226, ir226, h]
  · rw [if_neg h]; simp [ic226, ir226, h, hb]
def numO (op a b : Int) : Option Val :=
  if op = 2 then some (numV (IntKind.i64.wrap (a + b))) else if op = 3 then some (numV (IntKind.i64.wrap (a - b))) else if op = 4 then some (numV (IntKind.i64.wrap (a * b)))
  else if b = 0 then none else if op = 5 then some (numV (quoV a b)) else some (numV (IntKind.i64.wrap (a - IntKind.i64.wrap (quoV a b * b))))
theorem m211 (op a b : Int) : Meets Tryd.prog G 211 [.one (cI .i8 op), .one (cI .i64 a), .one (cI .i64 b)] (optR (numO op a b)) := by
  refine meets Tryd.func211 ie211 ig211 (Nat.le_of_ble_eq_true rfl) ?_
  unfold numO
  by_cases h2 : op = 2
  · rw [if_pos h2]; simp [ic211, ir211, h2, numV, Val.row]
  rw [if_neg h2]
  by_cases h3 : op = 3
  · rw [if_pos h3]; simp [ic211, ir211, h3, numV, Val.row]
  rw [if_neg h3]
  by_cases h4 : op = 4
  · rw [if_pos h4]; simp [ic211, ir211, h4, numV, Val.row]
  rw [if_neg h4]
  by_cases hb : b = 0
  · rw [if_pos hb]; simp [ic211, ir211, h2, h3, h4, hb]; rfl
  rw [if_neg hb]
  by_cases h5 : op = 5
  · rw [if_pos h5]
    simp [ic211, ir211, h5, hb]
    refine call_of (m226 a b hb) ?_
    simp [numV, Val.row]
  rw [if_neg h5]
  simp [ic211, ir211, h2, h3, h4, h5, hb]
  refine call_of (m226 a b hb) ?_
  simp [h5, numV, Val.row]

theorem m212_8 (s : List UInt8) : Meets Tryd.prog G 212 [.one (cI .i8 8), .one (cS (bs s))] (optR (some (numV s.length))) := by
  refine meets Tryd.func212 ie212 ig212 (Nat.le_of_ble_eq_true rfl) ?_
  simp [ic212, ir212, numV, Val.row]
theorem m212_9 (s : List UInt8) (hs : s.length ≤ 1048576) : Meets Tryd.prog G 212 [.one (cI .i8 9), .one (cS (bs s))] (optR (some (numV (charsB s).length))) := by
  refine meets Tryd.func212 ie212 ig212 (Nat.le_of_ble_eq_true rfl) ?_
  simp [ic212, ir212]
  refine call_of (m227 s hs) ?_
  simp [numV, Val.row]
theorem segs_length (s : ByteArray) : ∀ m p, (segs s m p).length ≤ m
  | 0, _ => Nat.le_refl _
  | m + 1, p => by
    rw [segs]
    split
    · have := segs_length s m (p + (Utf8.decode s p).2)
      simp; omega
    · simp
theorem segs_flat (s : ByteArray) : ∀ m p, p ≤ s.size → (segs s m p).flatten.length ≤ s.size - p
  | 0, _, _ => by simp [segs]
  | m + 1, p, hp => by
    rw [segs]
    split
    · rename_i h
      have h1 := decode_in s p h
      have := segs_flat s m (p + (Utf8.decode s p).2) h1
      have := bytesOf_length s p (p + (Utf8.decode s p).2) h1
      simp only [List.flatten_cons, List.length_append]
      omega
    · simp
theorem m212_10 (s : List UInt8) (hs : s.length ≤ 1048576) : Meets Tryd.prog G 212 [.one (cI .i8 10), .one (cS (bs s))] (optR (some ⟨2, 0, backB s⟩)) := by
  refine meets Tryd.func212 ie212 ig212 (Nat.le_of_ble_eq_true rfl) ?_
  have hlen : (charsB s).length ≤ 1048576 := Nat.le_trans (segs_length _ _ _) hs
  have hfl : (charsB s).flatten.length ≤ 1048576 := by
    have := segs_flat (bs s) s.length 0 (Nat.zero_le _)
    rw [bs_size] at this
    unfold charsB; omega
  simp [ic212, ir212]
  refine call_of (m227 s hs) ?_
  simp
  unfold backB
  generalize charsB s = L at hlen hfl
  refine w_loopA [] [] [4, 6, 7, 8] (by simp)
    (fun k : Nat => st [(4, .k true (.x (.one (.ref 4 0 0)))), (6, .k true (.x (.one (.c (.sl (L.map nmRow) []))))), (7, .k true (rS (bs ((L.drop k).reverse.flatten)))), (8, tI .i64 ((k : Int) - 1))] [(4, ⟨39, 3, [[.c (cI .i8 0), .c (cI .i64 0), .c (cS (bs []))]], none⟩)] [] F0) (fun k => k)
    (fun k => k ≤ L.length) L.length ?_ (Nat.le_refl _) ?_
  · simp (disch := omega) only [w64]
    simp
  rintro k K hK hk
  cases k with
  | zero =>
    simp [ic212l0, Val.row]
  | succ k =>
    have hlt : k < L.length := hk
    have e1 : ((k + 1 : Nat) : Int) - 1 = (k : Int) := by omega
    rw [e1]
    have hd := List.drop_eq_getElem_cons hlt
    have hb : (L.drop k).flatten.length ≤ L.flatten.length := by
      rw [← List.take_append_drop k L, List.flatten_append, List.length_append, List.take_append_drop]
      simp
    rw [hd] at hb
    have hb2 := Nat.le_trans hb hfl
    simp only [List.flatten_cons, List.length_append, List.length_flatten, List.map_drop] at hb2
    simp [ic212l0, hlt]
    refine ⟨by omega, ?_⟩
    simp (disch := omega) only [w64]
    have hrev : (List.drop k L).reverse.flatten = (List.drop (k + 1) L).reverse.flatten ++ L[k] := by rw [hd, List.reverse_cons, List.flatten_append, List.flatten_singleton]
    exact hK k _ (by simp [hrev]) (by omega) (by omega)

theorem quo_eq {a b : Int} (hb : b ≠ 0) : quoV a b = IntKind.i64.wrap (a.tdiv b) := by
  unfold quoV
  split
  · rename_i h
    rw [h, Int.tdiv_neg, Int.tdiv_one]
  · rfl
theorem rem_eq {a b : Int} (hb : b ≠ 0) (h1 : -9223372036854775808 ≤ a) (h2 : a ≤ 9223372036854775807) : IntKind.i64.wrap (a - IntKind.i64.wrap (quoV a b * b)) = a.tmod b := by
  rw [quo_eq hb]
  have hm : a.tmod b = a - a.tdiv b * b := by
    have := Int.tmod_add_tdiv_mul a b
    omega
  have hr : -9223372036854775808 ≤ a.tmod b ∧ a.tmod b ≤ 9223372036854775807 := by
    by_cases ha : 0 ≤ a
    · have := Int.tmod_nonneg b ha
      have h3 : a.tmod b ≤ a := by
        rw [hm]
        have : 0 ≤ a.tdiv b * b := by
          rcases Int.lt_or_gt_of_ne hb with hb' | hb'
          · have := Int.tdiv_nonpos_of_nonneg_of_nonpos ha (Int.le_of_lt hb')
            exact Int.mul_nonneg_of_nonpos_of_nonpos this (Int.le_of_lt hb')
          · exact Int.mul_nonneg (Int.tdiv_nonneg ha (Int.le_of_lt hb')) (Int.le_of_lt hb')
        omega
      omega
    · have hn : 0 ≤ -a := by omega
      have e : a.tmod b = -((-a).tmod b) := by rw [Int.neg_tmod, Int.neg_neg]
      have := Int.tmod_nonneg b hn
      have h3 : (-a).tmod b ≤ -a := by
        have hm' : (-a).tmod b = -a - (-a).tdiv b * b := by
          have := Int.tmod_add_tdiv_mul (-a) b
          omega
        rw [hm']
        have : 0 ≤ (-a).tdiv b * b := by
          rcases Int.lt_or_gt_of_ne hb with hb' | hb'
          · have := Int.tdiv_nonpos_of_nonneg_of_nonpos hn (Int.le_of_lt hb')
            exact Int.mul_nonneg_of_nonpos_of_nonpos this (Int.le_of_lt hb')
          · exact Int.mul_nonneg (Int.tdiv_nonneg hn (Int.le_of_lt hb')) (Int.le_of_lt hb')
        omega
      omega
  have key : IntKind.i64.wrap (a - IntKind.i64.wrap (IntKind.i64.wrap (a.tdiv b) * b)) = IntKind.i64.wrap (a - a.tdiv b * b) := by
    generalize a.tdiv b = q
    have hq : ∃ z, IntKind.i64.wrap q = q + 18446744073709551616 * z := ⟨-((q + 9223372036854775808) / 18446744073709551616), by rw [IntKind.wrap_i64]; omega⟩
    obtain ⟨z, hz⟩ := hq
    rw [hz, Int.add_mul, Int.mul_assoc]
    generalize q * b = x
    generalize z * b = y
    simp only [IntKind.wrap_i64]
    omega
  rw [key, ← hm, w64 hr.1 hr.2]

/-- The document's division, where what is divided is a number of the machine. -/
theorem num_div {op a b : Int} (h : op = 5 ∨ op = 6) (h1 : -9223372036854775808 ≤ a) (h2 : a ≤ 9223372036854775807) : numO op a b = (divGo op a b).map numV := by
  unfold numO divGo
  rw [if_neg (by omega), if_neg (by omega), if_neg (by omega)]
  by_cases hb : b = 0
  · rw [if_pos hb, if_pos hb]; rfl
  rw [if_neg hb, if_neg hb]
  rcases h with rfl | rfl
  · rw [if_pos rfl, if_pos rfl, quo_eq hb]
    simp only [Option.map_some]
    rw [Go.IntWalk.i64_left]
  · rw [if_neg (by decide), if_neg (by decide), rem_eq hb h1 h2]
    rfl
theorem kinds_fits1 (how : Int) (l : List Val) (h : how = 1 ∨ how = 3) : kindsV 1 (if how = 4 ∨ how = 3 then 2 else 1) l = fitsV how l := by
  unfold kindsV fitsV
  have e : ((l.length : Int) == 1) = (l.length == 1) := by
    by_cases hl : l.length = 1
    · simp [hl]
    · have : ¬ (l.length : Int) = 1 := by omega
      simp [hl, this]
  rw [e]
  rcases h with rfl | rfl <;> simp
theorem kinds_fits2 (how : Int) (l : List Val) (h : how = 2 ∨ how = 4) : kindsV 2 (if how = 4 ∨ how = 3 then 2 else 1) l = fitsV how l := by
  unfold kindsV fitsV
  have e : ((l.length : Int) == 2) = (l.length == 2) := by
    by_cases hl : l.length = 2
    · simp [hl]
    · have : ¬ (l.length : Int) = 2 := by omega
      simp [hl, this]
  rw [e]
  rcases h with rfl | rfl <;> simp

/-- A number of the machine. -/
def _root_.Go.Ped.Val.fitN (x : Val) : Prop := -9223372036854775808 ≤ x.n ∧ x.n ≤ 9223372036854775807

theorem m188_1 (l : List Val) (sp : Sp) : Meets Tryd.prog G 188 [.one (cI .i8 1), .one (.sl (l.map Val.row) sp)] (optR (arithV 1 l)) := by
  refine meets Tryd.func188 ie188 ig188 (Nat.le_of_ble_eq_true rfl) ?_
  have hk := m210 (G := G) 1 1 l sp (by decide)
  rw [show ((1 : Nat) : Int) = 1 from rfl, show kindsV 1 1 l = fitsV 1 l from kinds_fits1 1 l (by decide)] at hk
  by_cases hf : fitsV 1 l = true
  · obtain ⟨a, rfl, ha, ha'⟩ := fits1 hf (by decide)
    simp at ha
    have hv : arithV 1 [a] = some (numV (IntKind.i64.wrap (-a.n))) := by simp [arithV, hf]
    rw [hf] at hk
    rw [hv]
    simp [ic188, ir188]
    refine call_of hk ?_
    simp [numV, Val.row]
  · have hf' : fitsV 1 l = false := by simpa using hf
    have hv : arithV 1 l = none := by simp [arithV, hf']
    rw [hf'] at hk
    rw [hv]
    simp [ic188, ir188]
    refine call_of hk ?_
    simp
    refine call_no (.x (.one (cB false))) ?_
    simp
    refine call_no (.x (.one (cB false))) ?_
    simp
    refine call_no (.x (.one (cB false))) ?_
    simp
    rfl

theorem m188_2 (l : List Val) (sp : Sp) : Meets Tryd.prog G 188 [.one (cI .i8 2), .one (.sl (l.map Val.row) sp)] (optR (arithV 2 l)) := by
  refine meets Tryd.func188 ie188 ig188 (Nat.le_of_ble_eq_true rfl) ?_
  have hk := m210 (G := G) 2 1 l sp (by decide)
  rw [show ((2 : Nat) : Int) = 2 from rfl, show kindsV 2 1 l = fitsV 2 l from kinds_fits2 2 l (by decide)] at hk
  by_cases hf : fitsV 2 l = true
  · obtain ⟨a, b, rfl, ⟨ha, ha'⟩, hb, hb'⟩ := fits2 hf (by decide)
    simp at ha hb
    have hv : arithV 2 [a, b] = some (numV (IntKind.i64.wrap (a.n + b.n))) := by simp [arithV, hf]
    rw [hf] at hk
    rw [hv]
    simp [ic188, ir188]
    refine call_no (.x (.one (cB false))) ?_
    simp
    refine call_of hk ?_
    simp [Val.row]
    refine call_of (m211 2 a.n b.n) ?_
    simp [numO, numV, Val.row]
  · have hf' : fitsV 2 l = false := by simpa using hf
    have hv : arithV 2 l = none := by simp [arithV, hf']
    rw [hf'] at hk
    rw [hv]
    simp [ic188, ir188]
    refine call_no (.x (.one (cB false))) ?_
    simp
    refine call_of hk ?_
    simp
    refine call_no (.x (.one (cB false))) ?_
    simp
    refine call_no (.x (.one (cB false))) ?_
    simp
    rfl

theorem m188_3 (l : List Val) (sp : Sp) : Meets Tryd.prog G 188 [.one (cI .i8 3), .one (.sl (l.map Val.row) sp)] (optR (arithV 3 l)) := by
  refine meets Tryd.func188 ie188 ig188 (Nat.le_of_ble_eq_true rfl) ?_
  have hk := m210 (G := G) 2 1 l sp (by decide)
  rw [show ((2 : Nat) : Int) = 2 from rfl, show kindsV 2 1 l = fitsV 2 l from kinds_fits2 2 l (by decide)] at hk
  by_cases hf : fitsV 2 l = true
  · obtain ⟨a, b, rfl, ⟨ha, ha'⟩, hb, hb'⟩ := fits2 hf (by decide)
    simp at ha hb
    have hv : arithV 3 [a, b] = some (numV (IntKind.i64.wrap (a.n - b.n))) := by simp [arithV, hf]
    rw [hf] at hk
    rw [hv]
    simp [ic188, ir188]
    refine call_no (.x (.one (cB false))) ?_
    simp
    refine call_of hk ?_
    simp [Val.row]
    refine call_of (m211 3 a.n b.n) ?_
    simp [numO, numV, Val.row]
  · have hf' : fitsV 2 l = false := by simpa using hf
    have hv : arithV 3 l = none := by simp [arithV, hf']
    rw [hf'] at hk
    rw [hv]
    simp [ic188, ir188]
    refine call_no (.x (.one (cB false))) ?_
    simp
    refine call_of hk ?_
    simp
    refine call_no (.x (.one (cB false))) ?_
    simp
    refine call_no (.x (.one (cB false))) ?_
    simp
    rfl

theorem m188_4 (l : List Val) (sp : Sp) : Meets Tryd.prog G 188 [.one (cI .i8 4), .one (.sl (l.map Val.row) sp)] (optR (arithV 4 l)) := by
  refine meets Tryd.func188 ie188 ig188 (Nat.le_of_ble_eq_true rfl) ?_
  have hk := m210 (G := G) 2 1 l sp (by decide)
  rw [show ((2 : Nat) : Int) = 2 from rfl, show kindsV 2 1 l = fitsV 2 l from kinds_fits2 2 l (by decide)] at hk
  by_cases hf : fitsV 2 l = true
  · obtain ⟨a, b, rfl, ⟨ha, ha'⟩, hb, hb'⟩ := fits2 hf (by decide)
    simp at ha hb
    have hv : arithV 4 [a, b] = some (numV (IntKind.i64.wrap (a.n * b.n))) := by simp [arithV, hf]
    rw [hf] at hk
    rw [hv]
    simp [ic188, ir188]
    refine call_no (.x (.one (cB false))) ?_
    simp
    refine call_of hk ?_
    simp [Val.row]
    refine call_of (m211 4 a.n b.n) ?_
    simp [numO, numV, Val.row]
  · have hf' : fitsV 2 l = false := by simpa using hf
    have hv : arithV 4 l = none := by simp [arithV, hf']
    rw [hf'] at hk
    rw [hv]
    simp [ic188, ir188]
    refine call_no (.x (.one (cB false))) ?_
    simp
    refine call_of hk ?_
    simp
    refine call_no (.x (.one (cB false))) ?_
    simp
    refine call_no (.x (.one (cB false))) ?_
    simp
    rfl

theorem m188_5 (l : List Val) (sp : Sp) (hw : ∀ v ∈ l, v.fitN) : Meets Tryd.prog G 188 [.one (cI .i8 5), .one (.sl (l.map Val.row) sp)] (optR (arithV 5 l)) := by
  refine meets Tryd.func188 ie188 ig188 (Nat.le_of_ble_eq_true rfl) ?_
  have hk := m210 (G := G) 2 1 l sp (by decide)
  rw [show ((2 : Nat) : Int) = 2 from rfl, show kindsV 2 1 l = fitsV 2 l from kinds_fits2 2 l (by decide)] at hk
  by_cases hf : fitsV 2 l = true
  · obtain ⟨a, b, rfl, ⟨ha, ha'⟩, hb, hb'⟩ := fits2 hf (by decide)
    simp at ha hb
    have hv : arithV 5 [a, b] = (divGo 5 a.n b.n).map numV := by simp [arithV, hf]
    rw [hf] at hk
    rw [hv]
    simp [ic188, ir188]
    refine call_no (.x (.one (cB false))) ?_
    simp
    refine call_of hk ?_
    have hfa := hw a (by simp)
    rw [← num_div (op := 5) (by decide) hfa.1 hfa.2]
    simp [Val.row]
    refine call_of (m211 5 a.n b.n) ?_
    simp [Val.row]
  · have hf' : fitsV 2 l = false := by simpa using hf
    have hv : arithV 5 l = none := by simp [arithV, hf']
    rw [hf'] at hk
    rw [hv]
    simp [ic188, ir188]
    refine call_no (.x (.one (cB false))) ?_
    simp
    refine call_of hk ?_
    simp
    refine call_no (.x (.one (cB false))) ?_
    simp
    refine call_no (.x (.one (cB false))) ?_
    simp
    rfl

theorem m188_6 (l : List Val) (sp : Sp) (hw : ∀ v ∈ l, v.fitN) : Meets Tryd.prog G 188 [.one (cI .i8 6), .one (.sl (l.map Val.row) sp)] (optR (arithV 6 l)) := by
  refine meets Tryd.func188 ie188 ig188 (Nat.le_of_ble_eq_true rfl) ?_
  have hk := m210 (G := G) 2 1 l sp (by decide)
  rw [show ((2 : Nat) : Int) = 2 from rfl, show kindsV 2 1 l = fitsV 2 l from kinds_fits2 2 l (by decide)] at hk
  by_cases hf : fitsV 2 l = true
  · obtain ⟨a, b, rfl, ⟨ha, ha'⟩, hb, hb'⟩ := fits2 hf (by decide)
    simp at ha hb
    have hv : arithV 6 [a, b] = (divGo 6 a.n b.n).map numV := by simp [arithV, hf]
    rw [hf] at hk
    rw [hv]
    simp [ic188, ir188]
    refine call_no (.x (.one (cB false))) ?_
    simp
    refine call_of hk ?_
    have hfa := hw a (by simp)
    rw [← num_div (op := 6) (by decide) hfa.1 hfa.2]
    simp [Val.row]
    refine call_of (m211 6 a.n b.n) ?_
    simp [Val.row]
  · have hf' : fitsV 2 l = false := by simpa using hf
    have hv : arithV 6 l = none := by simp [arithV, hf']
    rw [hf'] at hk
    rw [hv]
    simp [ic188, ir188]
    refine call_no (.x (.one (cB false))) ?_
    simp
    refine call_of hk ?_
    simp
    refine call_no (.x (.one (cB false))) ?_
    simp
    refine call_no (.x (.one (cB false))) ?_
    simp
    rfl

theorem m188_7 (l : List Val) (sp : Sp) : Meets Tryd.prog G 188 [.one (cI .i8 7), .one (.sl (l.map Val.row) sp)] (optR (arithV 7 l)) := by
  refine meets Tryd.func188 ie188 ig188 (Nat.le_of_ble_eq_true rfl) ?_
  have hk := m210 (G := G) 2 2 l sp (by decide)
  rw [show ((2 : Nat) : Int) = 2 from rfl, show kindsV 2 2 l = fitsV 4 l from kinds_fits2 4 l (by decide)] at hk
  by_cases hf : fitsV 4 l = true
  · obtain ⟨a, b, rfl, ⟨ha, ha'⟩, hb, hb'⟩ := fits2 hf (by decide)
    simp at ha hb
    have hv : arithV 7 [a, b] = txtO (a.s ++ b.s) := by simp [arithV, hf]
    rw [hf] at hk
    rw [hv]
    simp [ic188, ir188]
    refine call_no (.x (.one (cB false))) ?_
    simp
    refine call_no (.x (.one (cB false))) ?_
    simp
    refine call_of hk ?_
    have l1 := txt_len ha ha'
    have l2 := txt_len hb hb'
    simp [Val.row]
    refine ⟨by omega, ?_⟩
    by_cases hlen : a.s.length + b.s.length ≤ 200
    · have h' : ¬ (200 : Int) < (a.s.length : Int) + b.s.length := by omega
      have ht : txtO (a.s ++ b.s) = some ⟨2, 0, a.s ++ b.s⟩ := by unfold txtO; rw [if_pos (by simpa using hlen)]
      rw [ht]
      simp [h', Val.row]
    · have h' : (200 : Int) < (a.s.length : Int) + b.s.length := by omega
      have ht : txtO (a.s ++ b.s) = none := by unfold txtO; rw [if_neg (by simpa using hlen)]
      rw [ht]
      simp [h', Val.row, zeroV]
  · have hf' : fitsV 4 l = false := by simpa using hf
    have hv : arithV 7 l = none := by simp [arithV, hf']
    rw [hf'] at hk
    rw [hv]
    simp [ic188, ir188]
    refine call_no (.x (.one (cB false))) ?_
    simp
    refine call_no (.x (.one (cB false))) ?_
    simp
    refine call_of hk ?_
    simp
    refine call_no (.x (.one (cB false))) ?_
    simp
    rfl

theorem m188_8 (l : List Val) (sp : Sp) : Meets Tryd.prog G 188 [.one (cI .i8 8), .one (.sl (l.map Val.row) sp)] (optR (arithV 8 l)) := by
  refine meets Tryd.func188 ie188 ig188 (Nat.le_of_ble_eq_true rfl) ?_
  have hk := m210 (G := G) 1 2 l sp (by decide)
  rw [show ((1 : Nat) : Int) = 1 from rfl, show kindsV 1 2 l = fitsV 3 l from kinds_fits1 3 l (by decide)] at hk
  by_cases hf : fitsV 3 l = true
  · obtain ⟨a, rfl, ha, ha'⟩ := fits1 hf (by decide)
    simp at ha
    have hv : arithV 8 [a] = some (numV a.s.length) := by simp [arithV, hf]
    rw [hf] at hk
    rw [hv]
    simp [ic188, ir188]
    refine call_no (.x (.one (cB false))) ?_
    simp
    refine call_no (.x (.one (cB false))) ?_
    simp
    refine call_no (.x (.one (cB false))) ?_
    simp
    refine call_of hk ?_
    simp [Val.row]
    refine call_of (m212_8 a.s) ?_
    simp [Val.row]
  · have hf' : fitsV 3 l = false := by simpa using hf
    have hv : arithV 8 l = none := by simp [arithV, hf']
    rw [hf'] at hk
    rw [hv]
    simp [ic188, ir188]
    refine call_no (.x (.one (cB false))) ?_
    simp
    refine call_no (.x (.one (cB false))) ?_
    simp
    refine call_no (.x (.one (cB false))) ?_
    simp
    refine call_of hk ?_
    simp
    rfl

theorem m188_9 (l : List Val) (sp : Sp) : Meets Tryd.prog G 188 [.one (cI .i8 9), .one (.sl (l.map Val.row) sp)] (optR (arithV 9 l)) := by
  refine meets Tryd.func188 ie188 ig188 (Nat.le_of_ble_eq_true rfl) ?_
  have hk := m210 (G := G) 1 2 l sp (by decide)
  rw [show ((1 : Nat) : Int) = 1 from rfl, show kindsV 1 2 l = fitsV 3 l from kinds_fits1 3 l (by decide)] at hk
  by_cases hf : fitsV 3 l = true
  · obtain ⟨a, rfl, ha, ha'⟩ := fits1 hf (by decide)
    simp at ha
    have hv : arithV 9 [a] = some (numV (charsB a.s).length) := by simp [arithV, hf]
    rw [hf] at hk
    rw [hv]
    simp [ic188, ir188]
    refine call_no (.x (.one (cB false))) ?_
    simp
    refine call_no (.x (.one (cB false))) ?_
    simp
    refine call_no (.x (.one (cB false))) ?_
    simp
    refine call_of hk ?_
    simp [Val.row]
    refine call_of (m212_9 a.s (Nat.le_trans (txt_len ha ha') (by decide))) ?_
    simp [Val.row]
  · have hf' : fitsV 3 l = false := by simpa using hf
    have hv : arithV 9 l = none := by simp [arithV, hf']
    rw [hf'] at hk
    rw [hv]
    simp [ic188, ir188]
    refine call_no (.x (.one (cB false))) ?_
    simp
    refine call_no (.x (.one (cB false))) ?_
    simp
    refine call_no (.x (.one (cB false))) ?_
    simp
    refine call_of hk ?_
    simp
    rfl

theorem m188_10 (l : List Val) (sp : Sp) : Meets Tryd.prog G 188 [.one (cI .i8 10), .one (.sl (l.map Val.row) sp)] (optR (arithV 10 l)) := by
  refine meets Tryd.func188 ie188 ig188 (Nat.le_of_ble_eq_true rfl) ?_
  have hk := m210 (G := G) 1 2 l sp (by decide)
  rw [show ((1 : Nat) : Int) = 1 from rfl, show kindsV 1 2 l = fitsV 3 l from kinds_fits1 3 l (by decide)] at hk
  by_cases hf : fitsV 3 l = true
  · obtain ⟨a, rfl, ha, ha'⟩ := fits1 hf (by decide)
    simp at ha
    have hv : arithV 10 [a] = txtO (backB a.s) := by simp [arithV, hf]
    rw [hf] at hk
    rw [hv]
    simp [ic188, ir188]
    refine call_no (.x (.one (cB false))) ?_
    simp
    refine call_no (.x (.one (cB false))) ?_
    simp
    refine call_no (.x (.one (cB false))) ?_
    simp
    refine call_of hk ?_
    have l1 := txt_len ha ha'
    have hbl : (backB a.s).length ≤ 200 := by
      have h1 := segs_flat (bs a.s) a.s.length 0 (Nat.zero_le _)
      have h2 : (backB a.s).length = (charsB a.s).flatten.length := by unfold backB; simp
      rw [bs_size] at h1
      unfold charsB at h2; omega
    have ht : txtO (backB a.s) = some ⟨2, 0, backB a.s⟩ := by unfold txtO; rw [if_pos hbl]
    rw [ht]
    simp [Val.row]
    refine call_of (m212_10 a.s (Nat.le_trans l1 (by decide))) ?_
    simp [Val.row]
  · have hf' : fitsV 3 l = false := by simpa using hf
    have hv : arithV 10 l = none := by simp [arithV, hf']
    rw [hf'] at hk
    rw [hv]
    simp [ic188, ir188]
    refine call_no (.x (.one (cB false))) ?_
    simp
    refine call_no (.x (.one (cB false))) ?_
    simp
    refine call_no (.x (.one (cB false))) ?_
    simp
    refine call_of hk ?_
    simp
    rfl

theorem m188 (op : Int) (h1 : 1 ≤ op) (h2 : op ≤ 10) (l : List Val) (sp : Sp) (hw : ∀ v ∈ l, v.fitN) : Meets Tryd.prog G 188 [.one (cI .i8 op), .one (.sl (l.map Val.row) sp)] (optR (arithV op l)) := by
  have h : op = 1 ∨ op = 2 ∨ op = 3 ∨ op = 4 ∨ op = 5 ∨ op = 6 ∨ op = 7 ∨ op = 8 ∨ op = 9 ∨ op = 10 := by omega
  rcases h with rfl | rfl | rfl | rfl | rfl | rfl | rfl | rfl | rfl | rfl
  · exact m188_1 l sp
  · exact m188_2 l sp
  · exact m188_3 l sp
  · exact m188_4 l sp
  · exact m188_5 l sp hw
  · exact m188_6 l sp hw
  · exact m188_7 l sp
  · exact m188_8 l sp
  · exact m188_9 l sp
  · exact m188_10 l sp
end Go.Proofs.YtiomojlcnemnhaaDoor

/- Contracts, on: what operations give. -/
import Derived.Test.YtiomojlcnemnhaaGreatDoorWGxH3
import Derived.Test.YtiomojlcnemnhaaGreatDoorWGxW3
import Derived.Test.YtiomojlcnemnhaaGreatDoorWGxIcN
namespace Go.Proofs.YtiomojlcnemnhaaGreatDoor
open Go.Fx Go.RowKit Go.Ped
variable {G : World → Prop}

/-- Are these what an operation takes so? -/
def fitsV (how : Int) (l : List Val) : Bool := !(how == 0) && (l.length == (if how = 2 ∨ how = 4 then 2 else 1)) && l.all fun v => (v.k == (if how = 4 ∨ how = 3 then 2 else 1)) && v.ok
def numV (n : Int) : Val := ⟨1, n, []⟩
def txtO (s : List UInt8) : Option Val := if s.length ≤ 200 then some ⟨2, 0, s⟩ else none
/-- A text's characters. -/
def charsB (s : List UInt8) : List (List UInt8) := segs (bs s) s.length 0
def backB (s : List UInt8) : List UInt8 := (charsB s).reverse.flatten
/-- What an operation gives. -/
def arithV (op : Int) (l : List Val) : Option Val :=
  if op < 0 ∨ 11 ≤ op then none
  else if fitsV (takesTab.getD op.toNat 0) l = false then none
  else if op = 1 then some (numV (IntKind.i64.wrap (-(l.getD 0 zeroV).n)))
  else if op = 2 then some (numV (IntKind.i64.wrap ((l.getD 0 zeroV).n + (l.getD 1 zeroV).n)))
  else if op = 3 then some (numV (IntKind.i64.wrap ((l.getD 0 zeroV).n - (l.getD 1 zeroV).n)))
  else if op = 4 then some (numV (IntKind.i64.wrap ((l.getD 0 zeroV).n * (l.getD 1 zeroV).n)))
  else if op = 5 ∨ op = 6 then (divGo op (l.getD 0 zeroV).n (l.getD 1 zeroV).n).map numV
  else if op = 7 then txtO ((l.getD 0 zeroV).s ++ (l.getD 1 zeroV).s)
  else if op = 8 then some (numV (l.getD 0 zeroV).s.length)
  else if op = 9 then some (numV (charsB (l.getD 0 zeroV).s).length)
  else txtO (backB (l.getD 0 zeroV).s)
abbrev optR (o : Option Val) : CR := .tup [.agg (o.getD zeroV).row, .one (cB o.isSome)]

theorem m101g (how : Int) (l : List Val) (sp : Sp) (h0 : 0 ≤ how) (h4 : how ≤ 4) : Meets Tryz.prog G 319 [.one (cI .i8 how), .one (.sl (l.map Val.row) sp)] (.x (.one (cB (fitsV how l)))) := by
  refine meets Tryz.func319 ie101 ig101 (Nat.le_of_ble_eq_true rfl) ?_
  have hh : how = 0 ∨ how = 1 ∨ how = 2 ∨ how = 3 ∨ how = 4 := by omega
  generalize hB : fitsV how l = B
  rcases hh with rfl | rfl | rfl | rfl | rfl
  · obtain rfl : B = false := by rw [← hB]; rfl
    simp [ic101, ir101]
  · by_cases hn : l.length = 1
    · have hB' : (l.all fun v => (v.k == 1) && v.ok) = B := by rw [← hB]; simp [fitsV, hn]
      have hn' : (l.length : Int) = 1 := by omega
      simp [ic101, ir101, hn']
      refine w_loopA [] [8] [4, 6, 22, 23, 24] (by simp [ownKey])
        (fun i : Nat => st [(4, .k true (rB false)), (6, tI .i8 1), (22, .k true (.x (.one (.c (.sl (l.map Val.row) sp))))), (23, tI .i64 1), (24, tI .i64 i)] [] [] F0) (fun i => l.length - i)
        (fun i => i ≤ l.length ∧ (l.drop i).all (fun v => (v.k == 1) && v.ok) = B) 0 (by simp) (by simpa using hB') ?_
      rintro i K hK ⟨hi, hd⟩
      obtain hlt | hge := Nat.lt_or_ge i l.length
      · rw [List.drop_eq_getElem_cons hlt, List.all_cons] at hd
        have hlt' : (i : Int) < 1 := by omega
        by_cases hk : l[i].k = 1
        · have h92 := m92 (G := G) l[i].k l[i].n l[i].s
          rw [hk] at h92
          simp [ic101l0, hlt, hlt', Val.row, hk]
          refine call_of h92 ?_
          simp
          by_cases ho : valOk 1 l[i].n l[i].s = true
          · simp [ho]
            have hd' : (l.drop (i + 1)).all (fun v => (v.k == 1) && v.ok) = B := by rw [← hd]; simp [hk, Val.ok, ho]
            simp (disch := omega) only [wrap64]
            exact hK (i + 1) _ (by simp) ⟨by omega, hd'⟩ (by omega)
          · have hd' : B = false := by rw [← hd]; simp [hk, Val.ok, ho]
            simp [ho, hd']
        · have hd' : B = false := by rw [← hd]; simp [hk]
          simp [ic101l0, hlt, hlt', Val.row, hk]
          refine call_no (.x (.one (cI .i64 0))) ?_
          simp [hd']
      · rw [List.drop_eq_nil_of_le hge] at hd
        have hlt' : ¬ (i : Int) < 1 := by omega
        simp [ic101l0, hlt']
        simpa using hd
    · have : fitsV 1 l = false := by simp [fitsV, hn]
      rw [this] at hB
      subst hB
      have hn' : ¬ (l.length : Int) = 1 := by omega
      simp [ic101, ir101, hn']
  · by_cases hn : l.length = 2
    · have hB' : (l.all fun v => (v.k == 1) && v.ok) = B := by rw [← hB]; simp [fitsV, hn]
      have hn' : (l.length : Int) = 2 := by omega
      simp [ic101, ir101, hn']
      refine w_loopA [] [8] [4, 6, 22, 23, 24] (by simp [ownKey])
        (fun i : Nat => st [(4, .k true (rB false)), (6, tI .i8 1), (22, .k true (.x (.one (.c (.sl (l.map Val.row) sp))))), (23, tI .i64 2), (24, tI .i64 i)] [] [] F0) (fun i => l.length - i)
        (fun i => i ≤ l.length ∧ (l.drop i).all (fun v => (v.k == 1) && v.ok) = B) 0 (by simp) (by simpa using hB') ?_
      rintro i K hK ⟨hi, hd⟩
      obtain hlt | hge := Nat.lt_or_ge i l.length
      · rw [List.drop_eq_getElem_cons hlt, List.all_cons] at hd
        have hlt' : (i : Int) < 2 := by omega
        by_cases hk : l[i].k = 1
        · have h92 := m92 (G := G) l[i].k l[i].n l[i].s
          rw [hk] at h92
          simp [ic101l0, hlt, hlt', Val.row, hk]
          refine call_of h92 ?_
          simp
          by_cases ho : valOk 1 l[i].n l[i].s = true
          · simp [ho]
            have hd' : (l.drop (i + 1)).all (fun v => (v.k == 1) && v.ok) = B := by rw [← hd]; simp [hk, Val.ok, ho]
            simp (disch := omega) only [wrap64]
            exact hK (i + 1) _ (by simp) ⟨by omega, hd'⟩ (by omega)
          · have hd' : B = false := by rw [← hd]; simp [hk, Val.ok, ho]
            simp [ho, hd']
        · have hd' : B = false := by rw [← hd]; simp [hk]
          simp [ic101l0, hlt, hlt', Val.row, hk]
          refine call_no (.x (.one (cI .i64 0))) ?_
          simp [hd']
      · rw [List.drop_eq_nil_of_le hge] at hd
        have hlt' : ¬ (i : Int) < 2 := by omega
        simp [ic101l0, hlt']
        simpa using hd
    · have : fitsV 2 l = false := by simp [fitsV, hn]
      rw [this] at hB
      subst hB
      have hn' : ¬ (l.length : Int) = 2 := by omega
      simp [ic101, ir101, hn']
  · by_cases hn : l.length = 1
    · have hB' : (l.all fun v => (v.k == 2) && v.ok) = B := by rw [← hB]; simp [fitsV, hn]
      have hn' : (l.length : Int) = 1 := by omega
      simp [ic101, ir101, hn']
      refine w_loopA [] [8] [4, 6, 22, 23, 24] (by simp [ownKey])
        (fun i : Nat => st [(4, .k true (rB false)), (6, tI .i8 2), (22, .k true (.x (.one (.c (.sl (l.map Val.row) sp))))), (23, tI .i64 1), (24, tI .i64 i)] [] [] F0) (fun i => l.length - i)
        (fun i => i ≤ l.length ∧ (l.drop i).all (fun v => (v.k == 2) && v.ok) = B) 0 (by simp) (by simpa using hB') ?_
      rintro i K hK ⟨hi, hd⟩
      obtain hlt | hge := Nat.lt_or_ge i l.length
      · rw [List.drop_eq_getElem_cons hlt, List.all_cons] at hd
        have hlt' : (i : Int) < 1 := by omega
        by_cases hk : l[i].k = 2
        · have h92 := m92 (G := G) l[i].k l[i].n l[i].s
          rw [hk] at h92
          simp [ic101l0, hlt, hlt', Val.row, hk]
          refine call_of h92 ?_
          simp
          by_cases ho : valOk 2 l[i].n l[i].s = true
          · simp [ho]
            have hd' : (l.drop (i + 1)).all (fun v => (v.k == 2) && v.ok) = B := by rw [← hd]; simp [hk, Val.ok, ho]
            simp (disch := omega) only [wrap64]
            exact hK (i + 1) _ (by simp) ⟨by omega, hd'⟩ (by omega)
          · have hd' : B = false := by rw [← hd]; simp [hk, Val.ok, ho]
            simp [ho, hd']
        · have hd' : B = false := by rw [← hd]; simp [hk]
          simp [ic101l0, hlt, hlt', Val.row, hk]
          refine call_no (.x (.one (cI .i64 0))) ?_
          simp [hd']
      · rw [List.drop_eq_nil_of_le hge] at hd
        have hlt' : ¬ (i : Int) < 1 := by omega
        simp [ic101l0, hlt']
        simpa using hd
    · have : fitsV 3 l = false := by simp [fitsV, hn]
      rw [this] at hB
      subst hB
      have hn' : ¬ (l.length : Int) = 1 := by omega
      simp [ic101, ir101, hn']
  · by_cases hn : l.length = 2
    · have hB' : (l.all fun v => (v.k == 2) && v.ok) = B := by rw [← hB]; simp [fitsV, hn]
      have hn' : (l.length : Int) = 2 := by omega
      simp [ic101, ir101, hn']
      refine w_loopA [] [8] [4, 6, 22, 23, 24] (by simp [ownKey])
        (fun i : Nat => st [(4, .k true (rB false)), (6, tI .i8 2), (22, .k true (.x (.one (.c (.sl (l.map Val.row) sp))))), (23, tI .i64 2), (24, tI .i64 i)] [] [] F0) (fun i => l.length - i)
        (fun i => i ≤ l.length ∧ (l.drop i).all (fun v => (v.k == 2) && v.ok) = B) 0 (by simp) (by simpa using hB') ?_
      rintro i K hK ⟨hi, hd⟩
      obtain hlt | hge := Nat.lt_or_ge i l.length
      · rw [List.drop_eq_getElem_cons hlt, List.all_cons] at hd
        have hlt' : (i : Int) < 2 := by omega
        by_cases hk : l[i].k = 2
        · have h92 := m92 (G := G) l[i].k l[i].n l[i].s
          rw [hk] at h92
          simp [ic101l0, hlt, hlt', Val.row, hk]
          refine call_of h92 ?_
          simp
          by_cases ho : valOk 2 l[i].n l[i].s = true
          · simp [ho]
            have hd' : (l.drop (i + 1)).all (fun v => (v.k == 2) && v.ok) = B := by rw [← hd]; simp [hk, Val.ok, ho]
            simp (disch := omega) only [wrap64]
            exact hK (i + 1) _ (by simp) ⟨by omega, hd'⟩ (by omega)
          · have hd' : B = false := by rw [← hd]; simp [hk, Val.ok, ho]
            simp [ho, hd']
        · have hd' : B = false := by rw [← hd]; simp [hk]
          simp [ic101l0, hlt, hlt', Val.row, hk]
          refine call_no (.x (.one (cI .i64 0))) ?_
          simp [hd']
      · rw [List.drop_eq_nil_of_le hge] at hd
        have hlt' : ¬ (i : Int) < 2 := by omega
        simp [ic101l0, hlt']
        simpa using hd
    · have : fitsV 4 l = false := by simp [fitsV, hn]
      rw [this] at hB
      subst hB
      have hn' : ¬ (l.length : Int) = 2 := by omega
      simp [ic101, ir101, hn']

theorem m102v (n : Int) : Meets Tryz.prog G 320 [.one (cI .i64 n)] (optR (some (numV n))) := m102 n
theorem m104 (s : List UInt8) : Meets Tryz.prog G 322 [.one (cS (bs s))] (optR (txtO s)) := by
  refine meets Tryz.func322 ie104 ig104 (Nat.le_of_ble_eq_true rfl) ?_
  by_cases h : 200 < s.length
  · have h' : (200 : Int) < s.length := by omega
    have : txtO s = none := by unfold txtO; rw [if_neg (by omega)]
    rw [this]
    simp [ic104, ir104, h, h', zeroV, Val.row]
  · have h' : ¬ (200 : Int) < s.length := by omega
    have : txtO s = some ⟨2, 0, s⟩ := by unfold txtO; rw [if_pos (by omega)]
    rw [this]
    simp [ic104, ir104, h, h', Val.row]
theorem m105 (s : List UInt8) (hs : s.length ≤ 200) : Meets Tryz.prog G 323 [.one (cS (bs s))] (.x (.one (cS (bs (backB s))))) := by
  refine ⟨by kernel_rfl, fun w V vs _ _ ha => ?_⟩
  obtain ⟨v1, vs, rfl, h1, hn⟩ := ha.head
  obtain rfl := hn.nil_left
  obtain rfl : v1 = .string (bs s) := by cases h1; rfl
  have hsz : (bs s).size = s.length := by simp [bs, ByteArray.size]
  refine (back_calls w (bs s) (by rw [hsz]; exact hs)).mono fun e w' ⟨he, hw⟩ => ⟨_, he, ?_, hw⟩
  have hb : backOf (bs s) = bs (backB s) := by unfold backOf backB charsB; rw [hsz]; rfl
  rw [hb]
  exact .v _ rfl

theorem fits1 {how : Int} {l : List Val} (h : fitsV how l = true) (h1 : how = 1 ∨ how = 3) : ∃ a, l = [a] ∧ a.k = (if how = 4 ∨ how = 3 then 2 else 1) ∧ a.ok = true := by
  unfold fitsV at h
  simp only [Bool.and_eq_true, beq_iff_eq, List.all_eq_true] at h
  obtain ⟨⟨_, hl⟩, ha⟩ := h
  rw [if_neg (by omega)] at hl
  obtain ⟨a, rfl⟩ := List.length_eq_one_iff.1 hl
  exact ⟨a, rfl, ha a (List.mem_singleton.2 rfl)⟩
theorem fits2 {how : Int} {l : List Val} (h : fitsV how l = true) (h1 : how = 2 ∨ how = 4) : ∃ a b, l = [a, b] ∧ (a.k = (if how = 4 ∨ how = 3 then 2 else 1) ∧ a.ok = true) ∧ b.k = (if how = 4 ∨ how = 3 then 2 else 1) ∧ b.ok = true := by
  unfold fitsV at h
  simp only [Bool.and_eq_true, beq_iff_eq, List.all_eq_true] at h
  obtain ⟨⟨_, hl⟩, ha⟩ := h
  rw [if_pos (by omega)] at hl
  obtain ⟨a, b, rfl⟩ : ∃ a b, l = [a, b] := by
    match l, hl with
    | [a, b], _ => exact ⟨a, b, rfl⟩
  exact ⟨a, b, rfl, ha a (by simp), ha b (by simp)⟩
theorem txt_len {a : Val} (h : a.k = 2) (ho : a.ok = true) : a.s.length ≤ 200 := by
  unfold Val.ok valOk at ho
  rw [if_neg (by omega)] at ho
  simp only [Bool.and_eq_true, decide_eq_true_eq] at ho
  exact ho.2

theorem m33_1 (l : List Val) (sp : Sp) : Meets Tryz.prog GK 280 [.one (cI .i8 1), .one (.sl (l.map Val.row) sp)] (optR (arithV 1 l)) := by
  have wn : IntKind.i64.wrap 1 = 1 := by decide
  by_cases hf : fitsV 1 l = true
  · obtain ⟨a, rfl, ha, ha'⟩ := fits1 hf (by decide)
    simp at ha
    have hv : arithV 1 [a] = some (numV (IntKind.i64.wrap (-a.n))) := by simp [arithV, hf]
    rw [hv]
    refine meets Tryz.func280 ie33 ig33 (Nat.le_of_ble_eq_true rfl) ?_
    simp [ic33, ir33, zeroV, Val.row, wn]
    refine k_gload (.int .i8 1) rfl rfl rfl (takes_at 1 (by decide)) ?_
    simp
    refine call_of (m101g 1 [a] sp (by decide) (by decide)) ?_
    simp [hf, Val.row]
    refine call_of (m102v _) ?_
    simp [numV, Val.row]
  · have hf' : fitsV 1 l = false := by simpa using hf
    have hv : arithV 1 l = none := by simp [arithV, hf']
    rw [hv]
    refine meets Tryz.func280 ie33 ig33 (Nat.le_of_ble_eq_true rfl) ?_
    simp [ic33, ir33, zeroV, Val.row, wn]
    refine k_gload (.int .i8 1) rfl rfl rfl (takes_at 1 (by decide)) ?_
    simp
    refine call_of (m101g 1 l sp (by decide) (by decide)) ?_
    simp [hf']
    rfl
theorem m33_2 (l : List Val) (sp : Sp) : Meets Tryz.prog GK 280 [.one (cI .i8 2), .one (.sl (l.map Val.row) sp)] (optR (arithV 2 l)) := by
  have wn : IntKind.i64.wrap 2 = 2 := by decide
  by_cases hf : fitsV 2 l = true
  · obtain ⟨a, b, rfl, ⟨ha, ha'⟩, hb, hb'⟩ := fits2 hf (by decide)
    simp at ha hb
    have hv : arithV 2 [a, b] = some (numV (IntKind.i64.wrap (a.n + b.n))) := by simp [arithV, hf]
    rw [hv]
    refine meets Tryz.func280 ie33 ig33 (Nat.le_of_ble_eq_true rfl) ?_
    simp [ic33, ir33, zeroV, Val.row, wn]
    refine k_gload (.int .i8 2) rfl rfl rfl (takes_at 2 (by decide)) ?_
    simp
    refine call_of (m101g 2 [a, b] sp (by decide) (by decide)) ?_
    simp [hf, Val.row]
    refine call_of (m102v _) ?_
    simp [numV, Val.row]
  · have hf' : fitsV 2 l = false := by simpa using hf
    have hv : arithV 2 l = none := by simp [arithV, hf']
    rw [hv]
    refine meets Tryz.func280 ie33 ig33 (Nat.le_of_ble_eq_true rfl) ?_
    simp [ic33, ir33, zeroV, Val.row, wn]
    refine k_gload (.int .i8 2) rfl rfl rfl (takes_at 2 (by decide)) ?_
    simp
    refine call_of (m101g 2 l sp (by decide) (by decide)) ?_
    simp [hf']
    rfl
theorem m33_3 (l : List Val) (sp : Sp) : Meets Tryz.prog GK 280 [.one (cI .i8 3), .one (.sl (l.map Val.row) sp)] (optR (arithV 3 l)) := by
  have wn : IntKind.i64.wrap 3 = 3 := by decide
  by_cases hf : fitsV 2 l = true
  · obtain ⟨a, b, rfl, ⟨ha, ha'⟩, hb, hb'⟩ := fits2 hf (by decide)
    simp at ha hb
    have hv : arithV 3 [a, b] = some (numV (IntKind.i64.wrap (a.n - b.n))) := by simp [arithV, hf]
    rw [hv]
    refine meets Tryz.func280 ie33 ig33 (Nat.le_of_ble_eq_true rfl) ?_
    simp [ic33, ir33, zeroV, Val.row, wn]
    refine k_gload (.int .i8 2) rfl rfl rfl (takes_at 3 (by decide)) ?_
    simp
    refine call_of (m101g 2 [a, b] sp (by decide) (by decide)) ?_
    simp [hf, Val.row]
    refine call_of (m102v _) ?_
    simp [numV, Val.row]
  · have hf' : fitsV 2 l = false := by simpa using hf
    have hv : arithV 3 l = none := by simp [arithV, hf']
    rw [hv]
    refine meets Tryz.func280 ie33 ig33 (Nat.le_of_ble_eq_true rfl) ?_
    simp [ic33, ir33, zeroV, Val.row, wn]
    refine k_gload (.int .i8 2) rfl rfl rfl (takes_at 3 (by decide)) ?_
    simp
    refine call_of (m101g 2 l sp (by decide) (by decide)) ?_
    simp [hf']
    rfl
theorem m33_4 (l : List Val) (sp : Sp) : Meets Tryz.prog GK 280 [.one (cI .i8 4), .one (.sl (l.map Val.row) sp)] (optR (arithV 4 l)) := by
  have wn : IntKind.i64.wrap 4 = 4 := by decide
  by_cases hf : fitsV 2 l = true
  · obtain ⟨a, b, rfl, ⟨ha, ha'⟩, hb, hb'⟩ := fits2 hf (by decide)
    simp at ha hb
    have hv : arithV 4 [a, b] = some (numV (IntKind.i64.wrap (a.n * b.n))) := by simp [arithV, hf]
    rw [hv]
    refine meets Tryz.func280 ie33 ig33 (Nat.le_of_ble_eq_true rfl) ?_
    simp [ic33, ir33, zeroV, Val.row, wn]
    refine k_gload (.int .i8 2) rfl rfl rfl (takes_at 4 (by decide)) ?_
    simp
    refine call_of (m101g 2 [a, b] sp (by decide) (by decide)) ?_
    simp [hf, Val.row]
    refine call_of (m102v _) ?_
    simp [numV, Val.row]
  · have hf' : fitsV 2 l = false := by simpa using hf
    have hv : arithV 4 l = none := by simp [arithV, hf']
    rw [hv]
    refine meets Tryz.func280 ie33 ig33 (Nat.le_of_ble_eq_true rfl) ?_
    simp [ic33, ir33, zeroV, Val.row, wn]
    refine k_gload (.int .i8 2) rfl rfl rfl (takes_at 4 (by decide)) ?_
    simp
    refine call_of (m101g 2 l sp (by decide) (by decide)) ?_
    simp [hf']
    rfl
theorem m33_5 (l : List Val) (sp : Sp) : Meets Tryz.prog GK 280 [.one (cI .i8 5), .one (.sl (l.map Val.row) sp)] (optR (arithV 5 l)) := by
  have wn : IntKind.i64.wrap 5 = 5 := by decide
  by_cases hf : fitsV 2 l = true
  · obtain ⟨a, b, rfl, ⟨ha, ha'⟩, hb, hb'⟩ := fits2 hf (by decide)
    simp at ha hb
    have hv : arithV 5 [a, b] = (divGo 5 a.n b.n).map numV := by simp [arithV, hf]
    rw [hv]
    refine meets Tryz.func280 ie33 ig33 (Nat.le_of_ble_eq_true rfl) ?_
    simp [ic33, ir33, zeroV, Val.row, wn]
    refine k_gload (.int .i8 2) rfl rfl rfl (takes_at 5 (by decide)) ?_
    simp
    refine call_of (m101g 2 [a, b] sp (by decide) (by decide)) ?_
    simp [hf, Val.row]
    refine call_of (m103 5 a.n b.n) ?_
    cases hd : divGo 5 a.n b.n with
    | none => simp [hd, zeroV, Val.row]
    | some q =>
      simp [hd]
      refine call_of (m102v _) ?_
      simp [numV, Val.row]
  · have hf' : fitsV 2 l = false := by simpa using hf
    have hv : arithV 5 l = none := by simp [arithV, hf']
    rw [hv]
    refine meets Tryz.func280 ie33 ig33 (Nat.le_of_ble_eq_true rfl) ?_
    simp [ic33, ir33, zeroV, Val.row, wn]
    refine k_gload (.int .i8 2) rfl rfl rfl (takes_at 5 (by decide)) ?_
    simp
    refine call_of (m101g 2 l sp (by decide) (by decide)) ?_
    simp [hf']
    rfl
theorem m33_6 (l : List Val) (sp : Sp) : Meets Tryz.prog GK 280 [.one (cI .i8 6), .one (.sl (l.map Val.row) sp)] (optR (arithV 6 l)) := by
  have wn : IntKind.i64.wrap 6 = 6 := by decide
  by_cases hf : fitsV 2 l = true
  · obtain ⟨a, b, rfl, ⟨ha, ha'⟩, hb, hb'⟩ := fits2 hf (by decide)
    simp at ha hb
    have hv : arithV 6 [a, b] = (divGo 6 a.n b.n).map numV := by simp [arithV, hf]
    rw [hv]
    refine meets Tryz.func280 ie33 ig33 (Nat.le_of_ble_eq_true rfl) ?_
    simp [ic33, ir33, zeroV, Val.row, wn]
    refine k_gload (.int .i8 2) rfl rfl rfl (takes_at 6 (by decide)) ?_
    simp
    refine call_of (m101g 2 [a, b] sp (by decide) (by decide)) ?_
    simp [hf, Val.row]
    refine call_of (m103 6 a.n b.n) ?_
    cases hd : divGo 6 a.n b.n with
    | none => simp [hd, zeroV, Val.row]
    | some q =>
      simp [hd]
      refine call_of (m102v _) ?_
      simp [numV, Val.row]
  · have hf' : fitsV 2 l = false := by simpa using hf
    have hv : arithV 6 l = none := by simp [arithV, hf']
    rw [hv]
    refine meets Tryz.func280 ie33 ig33 (Nat.le_of_ble_eq_true rfl) ?_
    simp [ic33, ir33, zeroV, Val.row, wn]
    refine k_gload (.int .i8 2) rfl rfl rfl (takes_at 6 (by decide)) ?_
    simp
    refine call_of (m101g 2 l sp (by decide) (by decide)) ?_
    simp [hf']
    rfl
theorem m33_7 (l : List Val) (sp : Sp) : Meets Tryz.prog GK 280 [.one (cI .i8 7), .one (.sl (l.map Val.row) sp)] (optR (arithV 7 l)) := by
  have wn : IntKind.i64.wrap 7 = 7 := by decide
  by_cases hf : fitsV 4 l = true
  · obtain ⟨a, b, rfl, ⟨ha, ha'⟩, hb, hb'⟩ := fits2 hf (by decide)
    simp at ha hb
    have hv : arithV 7 [a, b] = txtO (a.s ++ b.s) := by simp [arithV, hf]
    rw [hv]
    refine meets Tryz.func280 ie33 ig33 (Nat.le_of_ble_eq_true rfl) ?_
    simp [ic33, ir33, zeroV, Val.row, wn]
    refine k_gload (.int .i8 4) rfl rfl rfl (takes_at 7 (by decide)) ?_
    simp
    refine call_of (m101g 4 [a, b] sp (by decide) (by decide)) ?_
    simp [hf, Val.row]
    refine ⟨by have := txt_len ha ha'; have := txt_len hb hb'; omega, ?_⟩
    refine call_of (m104 _) ?_
    simp [Val.row]
  · have hf' : fitsV 4 l = false := by simpa using hf
    have hv : arithV 7 l = none := by simp [arithV, hf']
    rw [hv]
    refine meets Tryz.func280 ie33 ig33 (Nat.le_of_ble_eq_true rfl) ?_
    simp [ic33, ir33, zeroV, Val.row, wn]
    refine k_gload (.int .i8 4) rfl rfl rfl (takes_at 7 (by decide)) ?_
    simp
    refine call_of (m101g 4 l sp (by decide) (by decide)) ?_
    simp [hf']
    rfl
theorem m33_8 (l : List Val) (sp : Sp) : Meets Tryz.prog GK 280 [.one (cI .i8 8), .one (.sl (l.map Val.row) sp)] (optR (arithV 8 l)) := by
  have wn : IntKind.i64.wrap 8 = 8 := by decide
  by_cases hf : fitsV 3 l = true
  · obtain ⟨a, rfl, ha, ha'⟩ := fits1 hf (by decide)
    simp at ha
    have hv : arithV 8 [a] = some (numV a.s.length) := by simp [arithV, hf]
    rw [hv]
    refine meets Tryz.func280 ie33 ig33 (Nat.le_of_ble_eq_true rfl) ?_
    simp [ic33, ir33, zeroV, Val.row, wn]
    refine k_gload (.int .i8 3) rfl rfl rfl (takes_at 8 (by decide)) ?_
    simp
    refine call_of (m101g 3 [a] sp (by decide) (by decide)) ?_
    simp [hf, Val.row]
    refine call_of (m102v _) ?_
    simp [numV, Val.row]
  · have hf' : fitsV 3 l = false := by simpa using hf
    have hv : arithV 8 l = none := by simp [arithV, hf']
    rw [hv]
    refine meets Tryz.func280 ie33 ig33 (Nat.le_of_ble_eq_true rfl) ?_
    simp [ic33, ir33, zeroV, Val.row, wn]
    refine k_gload (.int .i8 3) rfl rfl rfl (takes_at 8 (by decide)) ?_
    simp
    refine call_of (m101g 3 l sp (by decide) (by decide)) ?_
    simp [hf']
    rfl
theorem m33_9 (l : List Val) (sp : Sp) (hch : ∀ a : Val, a.k = 2 → a.ok = true → Meets Tryz.prog GK 280 [.one (cI .i8 9), .one (.sl [a.row] sp)] (optR (some (numV (charsB a.s).length)))) : Meets Tryz.prog GK 280 [.one (cI .i8 9), .one (.sl (l.map Val.row) sp)] (optR (arithV 9 l)) := by
  have wn : IntKind.i64.wrap 9 = 9 := by decide
  by_cases hf : fitsV 3 l = true
  · obtain ⟨a, rfl, ha, ha'⟩ := fits1 hf (by decide)
    simp at ha
    have hv : arithV 9 [a] = some (numV (charsB a.s).length) := by simp [arithV, hf]
    rw [hv]
    exact hch a ha ha'
  · have hf' : fitsV 3 l = false := by simpa using hf
    have hv : arithV 9 l = none := by simp [arithV, hf']
    rw [hv]
    refine meets Tryz.func280 ie33 ig33 (Nat.le_of_ble_eq_true rfl) ?_
    simp [ic33, ir33, zeroV, Val.row, wn]
    refine k_gload (.int .i8 3) rfl rfl rfl (takes_at 9 (by decide)) ?_
    simp
    refine call_of (m101g 3 l sp (by decide) (by decide)) ?_
    simp [hf']
    rfl
theorem m33_10 (l : List Val) (sp : Sp) : Meets Tryz.prog GK 280 [.one (cI .i8 10), .one (.sl (l.map Val.row) sp)] (optR (arithV 10 l)) := by
  have wn : IntKind.i64.wrap 10 = 10 := by decide
  by_cases hf : fitsV 3 l = true
  · obtain ⟨a, rfl, ha, ha'⟩ := fits1 hf (by decide)
    simp at ha
    have hv : arithV 10 [a] = txtO (backB a.s) := by simp [arithV, hf]
    rw [hv]
    refine meets Tryz.func280 ie33 ig33 (Nat.le_of_ble_eq_true rfl) ?_
    simp [ic33, ir33, zeroV, Val.row, wn]
    refine k_gload (.int .i8 3) rfl rfl rfl (takes_at 10 (by decide)) ?_
    simp
    refine call_of (m101g 3 [a] sp (by decide) (by decide)) ?_
    simp [hf, Val.row]
    refine call_of (m105 a.s (txt_len ha ha')) ?_
    simp
    refine call_of (m104 _) ?_
    simp [Val.row]
  · have hf' : fitsV 3 l = false := by simpa using hf
    have hv : arithV 10 l = none := by simp [arithV, hf']
    rw [hv]
    refine meets Tryz.func280 ie33 ig33 (Nat.le_of_ble_eq_true rfl) ?_
    simp [ic33, ir33, zeroV, Val.row, wn]
    refine k_gload (.int .i8 3) rfl rfl rfl (takes_at 10 (by decide)) ?_
    simp
    refine call_of (m101g 3 l sp (by decide) (by decide)) ?_
    simp [hf']
    rfl
end Go.Proofs.YtiomojlcnemnhaaGreatDoor

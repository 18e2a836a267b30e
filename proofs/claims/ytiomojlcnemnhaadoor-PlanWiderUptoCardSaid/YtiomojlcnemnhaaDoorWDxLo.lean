import Derived.Test.YtiomojlcnemnhaaDoorWDxLj
import Derived.Test.YtiomojlcnemnhaaDoorWDxW5
namespace Go.Proofs.YtiomojlcnemnhaaDoor
open Go.Fx Go.RowKit Go.Ped
variable {G : World → Prop}
abbrev vX : Tm := ⟨[88], zeroV⟩
abbrev vN : Tm := ⟨[78], zeroV⟩
abbrev vM : Tm := ⟨[77], zeroV⟩
def exT (t : Tm) : Ex := .mk 0 t [] []
def exSum : Ex := .mk 2 zeroT [exT vM, exT ⟨[], ⟨1, 1, []⟩⟩] []
def setN : Lit := ⟨3, [], [], [], 1, exT vN, exSum⟩
def atomE : Lit := ⟨1, [101], [vX, vM], [], 0, exK, exK⟩
def otherR : Rule := ⟨[112], [⟨0, vX⟩, ⟨0, vN⟩], [], [setN, atomE], []⟩
theorem exT_row (t : Tm) : (exT t).row = [cI .i8 0, cS (bs t.v), cI .i8 t.x.k, cI .i64 t.x.n, cS (bs t.x.s), .sl [] []] := by rw [exT, Ex.row_eq]; rfl
theorem exSum_row : exSum.row = [cI .i8 2, cS (bs []), cI .i8 0, cI .i64 0, cS (bs []), .sl [(exT vM).row, (exT ⟨[], ⟨1, 1, []⟩⟩).row] []] := by rw [exSum, Ex.row_eq]; rfl
theorem otherR_row : otherR.row = [cS (bs [112]), .sl [[cI .i8 0, cS (bs [88]), cI .i8 0, cI .i64 0, cS (bs [])], [cI .i8 0, cS (bs [78]), cI .i8 0, cI .i64 0, cS (bs [])]] [], .sl [setN.row, atomE.row] []] := rfl
theorem setN_row : setN.row = [cI .i8 3, cS (bs []), .sl [] [], cI .i8 1] ++ (exT vN).row ++ exSum.row := rfl
theorem exK_row : exK.row = [cI .i8 0, cS (bs []), cI .i8 0, cI .i64 0, cS (bs []), .sl [] []] := by rw [exK, Ex.row_eq]; rfl
theorem atomE_row : atomE.row = [cI .i8 1, cS (bs [101]), .sl [[cS (bs [88]), cI .i8 0, cI .i64 0, cS (bs [])], [cS (bs [77]), cI .i8 0, cI .i64 0, cS (bs [])]] [], cI .i8 0] ++ exK.row ++ exK.row := rfl
set_option maxRecDepth 100000 in
set_option maxHeartbeats 2000000 in
theorem m152 : Meets Tryd.prog G 152 [] (.x (.agg otherR.row)) := by
  rw [otherR_row, setN_row, atomE_row, exSum_row, exT_row, exT_row, exT_row, exK_row]
  refine meets Tryd.func152 ie152 ig152 (Nat.le_of_ble_eq_true rfl) ?_
  simp (config := { maxSteps := 4000000 }) [ic152, ir152]
  simp [zeroV]
end Go.Proofs.YtiomojlcnemnhaaDoor

namespace Go.Proofs.YtiomojlcnemnhaaDoor
open Go.Fx Go.RowKit Go.Ped
variable {G : World → Prop}
theorem low_mod {m k : Nat} (h1 : m.testBit k = true) (h0 : ∀ j, j < k → m.testBit j = false) : m % 2 ^ (k + 1) = 2 ^ k := by
  apply Nat.eq_of_testBit_eq
  intro j
  rw [Nat.testBit_mod_two_pow, Nat.testBit_two_pow]
  rcases Nat.lt_trichotomy j k with h | h | h
  · rw [h0 j h]; simp; omega
  · subst h; simp [h1]
  · have : ¬ j < k + 1 := by omega
    simp [this]; omega
theorem low_and {m k : Nat} (hk : k < 24) (hm : m < 2 ^ 24) (h1 : m.testBit k = true) (h0 : ∀ j, j < k → m.testBit j = false) : m &&& (4294967296 - m) = 2 ^ k := by
  have h2 := low_mod h1 h0
  have h3 := Nat.div_add_mod m (2 ^ (k + 1))
  rw [h2] at h3
  have hp : 2 ^ (k + 1) * 2 ^ (31 - k) = 4294967296 := by rw [← Nat.pow_add, show k + 1 + (31 - k) = 32 by omega]
  have hq : m / 2 ^ (k + 1) < 2 ^ (31 - k) := by
    apply Nat.div_lt_of_lt_mul
    rw [hp]
    have : (2 : Nat) ^ 24 < 4294967296 := by decide
    omega
  generalize m / 2 ^ (k + 1) = q at *
  have hlt : 2 ^ k < 2 ^ (k + 1) := Nat.pow_lt_pow_right (by omega) (by omega)
  have h4 : 4294967296 - m = 2 ^ (k + 1) * (2 ^ (31 - k) - (q + 1)) + 2 ^ k := by
    have h5 : 2 ^ (k + 1) * (2 ^ (31 - k) - (q + 1)) = 4294967296 - (2 ^ (k + 1) * q + 2 ^ (k + 1)) := by
      rw [Nat.mul_sub, hp, Nat.mul_add, Nat.mul_one]
    have h6 : 2 ^ (k + 1) * (q + 1) ≤ 4294967296 := by rw [← hp]; exact Nat.mul_le_mul_left _ hq
    rw [Nat.mul_add, Nat.mul_one] at h6
    have h7 : 2 ^ (k + 1) = 2 * 2 ^ k := by rw [Nat.pow_succ]; omega
    rw [h5, ← h3]
    omega
  rw [h4, ← h3]
  apply Nat.eq_of_testBit_eq
  intro j
  rw [Nat.testBit_and, Nat.testBit_two_pow_mul_add _ hlt, Nat.testBit_two_pow_mul_add _ hlt, Nat.testBit_two_pow]
  by_cases hj : j < k + 1
  · simp [hj]
  · simp only [hj, if_false]
    rw [Nat.testBit_two_pow_sub_succ hq]
    have hn : ¬ k = j := by omega
    simp [hn]
    exact fun h _ => h
abbrev bruijnTab : List Int := [0, 1, 28, 2, 29, 14, 24, 3, 30, 22, 20, 15, 25, 17, 4, 8, 31, 27, 13, 23, 21, 19, 16, 7, 26, 12, 18, 6, 11, 5, 10, 9]
abbrev GB : World → Prop := fun w => Lib.TabIs Tryd.prog w "math/bits.deBruijn32tab" .u8 bruijnTab
theorem gBruijn : Tryd.prog.globalNamed "math/bits.deBruijn32tab" = some 1 := by kernel_rfl
theorem bruijn_at (i : Nat) (hi : i < 32) : ∀ w, GB w → w.cell? ⟨1, i, none⟩ = some (.int .u8 (bruijnTab.getD i 0)) := fun _ h => h.cell gBruijn i hi
theorem neg_and (m k : Nat) (hk : k < 24) (hm : m < 2 ^ 24) (h1 : m.testBit k = true) (h0 : ∀ j, j < k → m.testBit j = false) : bits .and .u32 (m : Int) (IntKind.u32.wrap (-(m : Int))) = ((2 ^ k : Nat) : Int) := by
  have e2 := (pow24 hk).2
  have hm2 : m < 16777216 := hm
  have hpos : 0 < m := Nat.pos_of_ne_zero fun e => by rw [e] at h1; simp at h1
  have e1 : IntKind.u32.wrap (-(m : Int)) = ((4294967296 - m : Nat) : Int) := by
    simp [IntKind.wrap, IntKind.bits, IntKind.signed]
    omega
  rw [e1]
  unfold bits
  simp only [BitVec.ofInt_natCast, BitVec.toNat_and, BitVec.toNat_ofNat]
  have hb : (2 : Nat) ^ IntKind.u32.bits = 4294967296 := by decide
  rw [hb, Nat.mod_eq_of_lt (by omega), Nat.mod_eq_of_lt (by omega), low_and hk hm h1 h0, wrap_u32 _ (by omega)]
theorem m221 (m k : Nat) (hk : k < 24) (hm : m < 2 ^ 24) (h1 : m.testBit k = true) (h0 : ∀ j, j < k → m.testBit j = false) : Meets Tryd.prog GB 221 [.one (cI .u32 m)] (.x (.one (cI .i64 k))) := by
  have hand := neg_and m k hk hm h1 h0
  have hpos : ((m : Int) == 0) = false := beq_eq_false_iff_ne.2 fun e => by
    have : m = 0 := by omega
    rw [this] at h1
    simp at h1
  refine meets Tryd.func221 ie221 ig221 (Nat.le_of_ble_eq_true rfl) ?_
  simp [ic221, ir221, hpos, hand]
  obtain ⟨i, hi, hi32, hit⟩ : ∃ i : Nat, (IntKind.u32.wrap (2 ^ k * 125613361)).fdiv (2 ^ min 27 IntKind.u32.bits) = (i : Int) ∧ i < 32 ∧ bruijnTab.getD i 0 = (k : Int) := by
    have h := (by decide +kernel : ∀ q : Fin 24, ∃ i : Fin 32, (IntKind.u32.wrap (2 ^ q.val * 125613361)).fdiv (2 ^ min 27 IntKind.u32.bits) = (i.val : Int) ∧ bruijnTab.getD i.val 0 = (q.val : Int)) ⟨k, hk⟩
    obtain ⟨i, h2, h3⟩ := h
    exact ⟨i.val, h2, i.isLt, h3⟩
  rw [hi]
  refine ⟨⟨by omega, by omega⟩, ?_⟩
  refine k_gload (.int .u8 k) rfl rfl rfl (fun w hw => by
    have := bruijn_at i hi32 w hw
    rw [hit] at this
    simpa using this) ?_
  simp
  simp (disch := omega) only [wrap64]
end Go.Proofs.YtiomojlcnemnhaaDoor

namespace Go.Proofs.YtiomojlcnemnhaaDoor
open Go.Fx Go.RowKit Go.Ped
variable {G : World → Prop}
theorem m199 (m : Nat) : MeetsH Tryd.prog G 199 [.one (.c (cI .u32 m))] (hp [] [] F0) (.x (.one (.clo 220 [] [.ref 1 0 0]))) (hp [(1, ⟨202, 1, [[.c (cI .u32 m)]], none⟩)] [] F0) := by
  refine meetsH [] Tryd.func199 ie199 ig199 (Nat.le_of_ble_eq_true rfl) (by simp) (by simp) (by simp) (by simp) (by simp) (sameKeys_refl F0) (by simp) (by simp) ?_
  simp [ic199, ir199]
  exact ret_st (by simp) (by simp) (by simp) (by simp) (by simp) (by simp)
def bitsOf (m : Nat) : List Nat := (List.range 24).filter m.testBit
theorem range_at {k : Nat} (hk : k < 24) : List.range 24 = List.range k ++ k :: List.range' (k + 1) (23 - k) :=
  (by decide +kernel : ∀ q : Fin 24, List.range 24 = List.range q.val ++ q.val :: List.range' (q.val + 1) (23 - q.val)) ⟨k, hk⟩
theorem low_ex {m : Nat} (h0 : m ≠ 0) (hm : m < 2 ^ 24) : ∃ k, k < 24 ∧ m.testBit k = true ∧ ∀ j, j < k → m.testBit j = false := by
  have hex : ∃ k, m.testBit k = true := by
    apply Classical.byContradiction
    intro hn
    apply h0
    apply Nat.eq_of_testBit_eq
    intro j
    rw [Nat.zero_testBit]
    cases h : m.testBit j with
    | false => rfl
    | true => exact absurd ⟨j, h⟩ hn
  obtain ⟨k0, hk0⟩ := hex
  have hmin : ∀ n, (∃ k, k < n ∧ m.testBit k = true) → ∃ k, m.testBit k = true ∧ ∀ j, j < k → m.testBit j = false := fun n => by
    induction n with
    | zero => rintro ⟨k, hk, _⟩; exact absurd hk (Nat.not_lt_zero _)
    | succ n ih =>
      rintro ⟨k, hk, hb⟩
      by_cases hs : ∃ k, k < n ∧ m.testBit k = true
      · exact ih hs
      · have hkn : k = n := by
          apply Classical.byContradiction
          intro hne
          exact hs ⟨k, by omega, hb⟩
        refine ⟨k, hb, fun j hj => ?_⟩
        cases h : m.testBit j with
        | false => rfl
        | true => exact absurd ⟨j, by omega, h⟩ hs
  obtain ⟨k, hk, hj⟩ := hmin (k0 + 1) ⟨k0, Nat.lt_succ_self _, hk0⟩
  refine ⟨k, ?_, hk, hj⟩
  apply Classical.byContradiction
  intro hge
  have hlt : m < 2 ^ k := Nat.lt_of_lt_of_le hm (Nat.pow_le_pow_right (by omega) (by omega))
  rw [Nat.testBit_lt_two_pow hlt] at hk
  cases hk
theorem bitsOf_cons {m k : Nat} (hk : k < 24) (h1 : m.testBit k = true) (h0 : ∀ j, j < k → m.testBit j = false) : bitsOf m = k :: bitsOf (clr m k) := by
  have e1 : (List.range k).filter m.testBit = [] := List.filter_eq_nil_iff.2 fun j hj => by rw [h0 j (List.mem_range.1 hj)]; exact Bool.noConfusion
  have e2 : (List.range k).filter (clr m k).testBit = [] := List.filter_eq_nil_iff.2 fun j hj => by
    have := List.mem_range.1 hj
    rw [clr_bit hk (by omega), h0 j this]
    exact Bool.noConfusion
  have e3 : (clr m k).testBit k = false := by rw [clr_bit hk (by omega)]; simp
  have e4 : (List.range' (k + 1) (23 - k)).filter (clr m k).testBit = (List.range' (k + 1) (23 - k)).filter m.testBit := List.filter_congr fun j hj => by
    have := List.mem_range'_1.1 hj
    rw [clr_bit hk (by omega)]
    have hne : k ≠ j := by omega
    simp [hne]
  unfold bitsOf
  rw [range_at hk, List.filter_append, List.filter_append, List.filter_cons, List.filter_cons, e1, e2, h1, e3, e4]
  simp
theorem bitsOf_zero : bitsOf 0 = [] := List.filter_eq_nil_iff.2 fun j _ => by simp
theorem bitsOf_mem {m j : Nat} (h : j ∈ bitsOf m) : j < 24 ∧ m.testBit j = true := by
  obtain ⟨h1, h2⟩ := List.mem_filter.1 h
  exact ⟨List.mem_range.1 h1, h2⟩
end Go.Proofs.YtiomojlcnemnhaaDoor

namespace Go.Proofs.YtiomojlcnemnhaaDoor
open Go.Fx Go.RowKit Go.Ped
variable {G : World → Prop}
def runOn (body : List Lit) (ns : List Name) : List Nat → Int → Option Nat × Int
  | [], pos => (none, pos)
  | i :: l, pos =>
    match body[i]? with
    | none => (none, pos)
    | some x => if x.kind = 1 then runOn body ns l (if pos < 0 then i else pos) else if (stepOf ns x i).2 = true then (some i, pos) else runOn body ns l pos
abbrev ON (body : C) (ns : List Name) (r pos : Int) : List (Nat × Box) := (10002, ⟨200, 1, [[.ref 10009 0 0]], none⟩) :: (10004, ⟨3, 1, [[.c (cI .i64 r)]], none⟩) :: (10005, ⟨3, 1, [[.c (cI .i64 pos)]], none⟩) :: OS 10009 10007 body ns
attribute [simp] ON
abbrev yldN (l : Nat) (ta : Array Value) : A := .yld l ta [2, 4, 5] [.ref 10002 0 0, .ref 10004 0 0, .ref 10005 0 0]
structure Rounds (G : World → Prop) (l : Nat) (ta : Array Value) (Zn Zr : XP) (body : List Lit) (sb : Sp) (ns : List Name) (i : Nat) : Prop where
  atom : ∀ (h : i < body.length) (r pos : Int), body[i].kind = 1 → MeetsV Tryd.prog G (yldN l ta) [.one (.c (cI .i64 i))] (hp (ON (.sl (body.map Lit.row) sb) ns r pos) [] (FX Zn)) (rB true) (hp (ON (.sl (body.map Lit.row) sb) ns r (if pos < 0 then i else pos)) [] (FX Zn))
  ready : ∀ (h : i < body.length) (r pos : Int), body[i].kind ≠ 1 → (stepOf ns body[i] i).2 = true → MeetsV Tryd.prog G (yldN l ta) [.one (.c (cI .i64 i))] (hp (ON (.sl (body.map Lit.row) sb) ns r pos) [] (FX Zn)) (rB false) (hp (ON (.sl (body.map Lit.row) sb) ns i pos) [] (FX Zr))
  waits : ∀ (h : i < body.length) (r pos : Int), body[i].kind ≠ 1 → (stepOf ns body[i] i).2 = false → MeetsV Tryd.prog G (yldN l ta) [.one (.c (cI .i64 i))] (hp (ON (.sl (body.map Lit.row) sb) ns r pos) [] (FX Zn)) (rB true) (hp (ON (.sl (body.map Lit.row) sb) ns r pos) [] (FX Zn))
theorem m220n (Zn Zr : XP) (l : Nat) (ta : Array Value) (body : List Lit) (sb : Sp) (ns : List Name) (m : Nat) (hm : m < 2 ^ 24) (hin : ∀ i ∈ bitsOf m, i < body.length) (hY : ∀ i ∈ bitsOf m, Rounds GB l ta Zn Zr body sb ns i) (r pos pos' : Int) (hrun : runOn body ns (bitsOf m) pos = (none, pos')) :
    MeetsH Tryd.prog GB 220 [.one (yldN l ta), .one (.ref 10001 0 0)] (hp ((10001, ⟨202, 1, [[.c (cI .u32 m)]], none⟩) :: ON (.sl (body.map Lit.row) sb) ns r pos) [] (FX Zn)) (.tup []) (hp ((10001, ⟨202, 1, [[.c (cI .u32 0)]], none⟩) :: ON (.sl (body.map Lit.row) sb) ns r pos') [] (FX Zn)) := by
  refine meetsH [] Tryd.func220 ie220 ig220 (Nat.le_of_ble_eq_true rfl) (by simp [midKey, ownKey]) (by simp) (by simp [ownKey]) (by simp) (by simp) (sameKeys_refl _) (by simp) (by simp) ?_
  simp [ic220, ir220]
  refine w_loopA [] [] [0, 1] (by simp)
    (fun a : Nat × Int => st [(0, .k true (.x (.one (yldN l ta)))), (1, .k true (.x (.one (.ref 10001 0 0))))] ((10001, ⟨202, 1, [[.c (cI .u32 a.1)]], none⟩) :: ON (.sl (body.map Lit.row) sb) ns r a.2) [] (FX Zn)) (fun a => (bitsOf a.1).length)
    (fun a => a.1 < 2 ^ 24 ∧ (∀ i ∈ bitsOf a.1, i < body.length ∧ Rounds GB l ta Zn Zr body sb ns i) ∧ runOn body ns (bitsOf a.1) a.2 = (none, pos')) (m, pos) (by simp) ⟨hm, fun i hi => ⟨hin i hi, hY i hi⟩, hrun⟩ ?_
  rintro ⟨q, p⟩ K hK ⟨hq, hR, hr⟩
  simp only at hq hR hr
  by_cases h0 : q = 0
  · subst h0
    rw [bitsOf_zero, runOn] at hr
    injection hr with _ hr
    subst hr
    simp [ic220l0]
    exact ret_st (by simp) (by simp) (by simp) (by simp) (by simp) (by simp)
  · obtain ⟨k, hk, h1, h2⟩ := low_ex h0 hq
    have hb := bitsOf_cons hk h1 h2
    have hne : ((q : Int) == 0) = false := beq_eq_false_iff_ne.2 (by omega)
    have h221 := m221 q k hk hq h1 h2
    have hclr := andNot_bit k q hk hq
    have hcl := clr_lt (i := k) hq
    rw [hb] at hr hR
    obtain ⟨hkl, hRk⟩ := hR k (List.mem_cons_self ..)
    rw [runOn, List.getElem?_eq_getElem hkl] at hr
    simp only at hr
    simp [ic220l0, hne]
    refine call_of h221 ?_
    simp
    by_cases hkd : body[k].kind = 1
    · rw [if_pos hkd] at hr
      refine r_callW _ _ (ON (.sl (body.map Lit.row) sb) ns r p) [] _ (ON (.sl (body.map Lit.row) sb) ns r (if p < 0 then k else p)) [] (hRk.atom hkl r p hkd) rfl rfl rfl (by simp [X.fits, A.fits]) (by simp) ?_
      simp [hclr]
      exact hK (clr q k, if p < 0 then k else p) _ (by simp) ⟨hcl, fun i hi => hR i (List.mem_cons_of_mem _ hi), hr⟩ (by rw [hb, List.length_cons]; simp only; omega)
    · rw [if_neg hkd] at hr
      cases hs : (stepOf ns body[k] k).2 with
      | true => rw [hs, if_pos rfl] at hr; cases hr
      | false =>
        rw [hs] at hr
        simp only [Bool.false_eq_true, if_false] at hr
        refine r_callW _ _ (ON (.sl (body.map Lit.row) sb) ns r p) [] _ (ON (.sl (body.map Lit.row) sb) ns r p) [] (hRk.waits hkl r p hkd hs) rfl rfl rfl (by simp [X.fits, A.fits]) (by simp) ?_
        simp [hclr]
        exact hK (clr q k, p) _ (by simp) ⟨hcl, fun i hi => hR i (List.mem_cons_of_mem _ hi), hr⟩ (by rw [hb, List.length_cons]; simp only; omega)
def maskOn (body : List Lit) (ns : List Name) : List Nat → Nat → Int → Nat
  | [], m, _ => m
  | i :: l, m, pos =>
    match body[i]? with
    | none => m
    | some x => if x.kind = 1 then maskOn body ns l (clr m i) (if pos < 0 then i else pos) else if (stepOf ns x i).2 = true then m else maskOn body ns l (clr m i) pos
theorem m220s (Zn Zr : XP) (hmk : Zr.mark = Zn.mark) (l : Nat) (ta : Array Value) (body : List Lit) (sb : Sp) (ns : List Name) (m : Nat) (hm : m < 2 ^ 24) (hin : ∀ i ∈ bitsOf m, i < body.length) (hY : ∀ i ∈ bitsOf m, Rounds GB l ta Zn Zr body sb ns i) (r pos pos' : Int) (s : Nat) (hrun : runOn body ns (bitsOf m) pos = (some s, pos')) :
    MeetsH Tryd.prog GB 220 [.one (yldN l ta), .one (.ref 10001 0 0)] (hp ((10001, ⟨202, 1, [[.c (cI .u32 m)]], none⟩) :: ON (.sl (body.map Lit.row) sb) ns r pos) [] (FX Zn)) (.tup []) (hp ((10001, ⟨202, 1, [[.c (cI .u32 (maskOn body ns (bitsOf m) m pos))]], none⟩) :: ON (.sl (body.map Lit.row) sb) ns s pos') [] (FX Zr)) := by
  refine meetsH [] Tryd.func220 ie220 ig220 (Nat.le_of_ble_eq_true rfl) (by simp [midKey, ownKey]) (by simp) (by simp [ownKey]) (by simp) (by simp) ⟨fun _ => ⟨Iff.rfl, Iff.rfl⟩, hmk⟩ (by simp) (by simp) ?_
  generalize hM : maskOn body ns (bitsOf m) m pos = M
  simp [ic220, ir220]
  refine w_loopA [] [] [0, 1] (by simp)
    (fun a : Nat × Int => st [(0, .k true (.x (.one (yldN l ta)))), (1, .k true (.x (.one (.ref 10001 0 0))))] ((10001, ⟨202, 1, [[.c (cI .u32 a.1)]], none⟩) :: ON (.sl (body.map Lit.row) sb) ns r a.2) [] (FX Zn)) (fun a => (bitsOf a.1).length)
    (fun a => a.1 < 2 ^ 24 ∧ (∀ i ∈ bitsOf a.1, i < body.length ∧ Rounds GB l ta Zn Zr body sb ns i) ∧ runOn body ns (bitsOf a.1) a.2 = (some s, pos') ∧ maskOn body ns (bitsOf a.1) a.1 a.2 = M) (m, pos) (by simp) ⟨hm, fun i hi => ⟨hin i hi, hY i hi⟩, hrun, hM⟩ ?_
  rintro ⟨q, p⟩ K hK ⟨hq, hR, hr, hMq⟩
  simp only at hq hR hr hMq
  by_cases h0 : q = 0
  · subst h0
    rw [bitsOf_zero, runOn] at hr
    cases hr
  · obtain ⟨k, hk, h1, h2⟩ := low_ex h0 hq
    have hb := bitsOf_cons hk h1 h2
    have hne : ((q : Int) == 0) = false := beq_eq_false_iff_ne.2 (by omega)
    have h221 := m221 q k hk hq h1 h2
    have hclr := andNot_bit k q hk hq
    have hcl := clr_lt (i := k) hq
    rw [hb] at hr hR hMq
    obtain ⟨hkl, hRk⟩ := hR k (List.mem_cons_self ..)
    rw [runOn, List.getElem?_eq_getElem hkl] at hr
    rw [maskOn, List.getElem?_eq_getElem hkl] at hMq
    simp only at hr hMq
    simp [ic220l0, hne]
    refine call_of h221 ?_
    simp
    by_cases hkd : body[k].kind = 1
    · rw [if_pos hkd] at hr hMq
      refine r_callW _ _ (ON (.sl (body.map Lit.row) sb) ns r p) [] _ (ON (.sl (body.map Lit.row) sb) ns r (if p < 0 then k else p)) [] (hRk.atom hkl r p hkd) rfl rfl rfl (by simp [X.fits, A.fits]) (by simp) ?_
      simp [hclr]
      exact hK (clr q k, if p < 0 then k else p) _ (by simp) ⟨hcl, fun i hi => hR i (List.mem_cons_of_mem _ hi), hr, hMq⟩ (by rw [hb, List.length_cons]; simp only; omega)
    · rw [if_neg hkd] at hr hMq
      cases hs : (stepOf ns body[k] k).2 with
      | true =>
        rw [hs, if_pos rfl] at hr hMq
        injection hr with e1 e2
        injection e1 with e1
        subst e1 e2 hMq
        refine r_callV _ _ (ON (.sl (body.map Lit.row) sb) ns r p) [] _ (ON (.sl (body.map Lit.row) sb) ns k p) [] (FX Zr) (hRk.ready hkl r p hkd hs) rfl rfl rfl (by simp [X.fits, A.fits]) (by simp) (by simp) (by simp) (by simp) (by simp) (by simp) (by simp) (by simp) ⟨fun _ => ⟨Iff.rfl, Iff.rfl⟩, hmk⟩ rfl ?_
        simp
        exact ret_st (by simp) (by simp) (by simp) (by simp) (by simp) (by simp)
      | false =>
        rw [hs] at hr hMq
        simp only [Bool.false_eq_true, if_false] at hr hMq
        refine r_callW _ _ (ON (.sl (body.map Lit.row) sb) ns r p) [] _ (ON (.sl (body.map Lit.row) sb) ns r p) [] (hRk.waits hkl r p hkd hs) rfl rfl rfl (by simp [X.fits, A.fits]) (by simp) ?_
        simp [hclr]
        exact hK (clr q k, p) _ (by simp) ⟨hcl, fun i hi => hR i (List.mem_cons_of_mem _ hi), hr, hMq⟩ (by rw [hb, List.length_cons]; simp only; omega)
end Go.Proofs.YtiomojlcnemnhaaDoor

namespace Go.Proofs.YtiomojlcnemnhaaDoor
open Go.Fx Go.RowKit Go.Ped
variable {G : World → Prop}
theorem m217z (Z : XP) (body : C) (ns : List Name) (v : Name) : MeetsH Tryd.prog G 217 [.one (.ref 10009 0 0), .one (.c (cS (bs v)))] (hp (OS 10009 10007 body ns) [] (FX Z)) (rB (ns.contains v)) (hp (OS 10009 10007 body ns) [] (FX Z)) := by
  refine meetsH [] Tryd.func217 ie217 ig217 (Nat.le_of_ble_eq_true rfl) (by simp [midKey, ownKey]) (by simp) (by simp [ownKey]) (by simp) (by simp) (sameKeys_refl (FX Z)) (by simp) (by simp) ?_
  simp [ic217, ir217, kn_strike', kn_any', kn_get]
  exact ret_st (by simp) (by simp) (by simp) (by simp) (by simp) (by simp)
theorem m194z (Z : XP) (body : C) (ns l : List Name) (sp : Sp) (hl : l.length ≤ 1048576) : MeetsH Tryd.prog G 194 [.one (.ref 10009 0 0), .one (.c (.sl (l.map nmRow) sp))] (hp (OS 10009 10007 body ns) [] (FX Z)) (.x (.one (.c (.sl ((unk ns l).map nmRow) [])))) (hp (OS 10009 10007 body ns) [] (FX Z)) := by
  refine MeetsH.of_reader (res := .x (.one (.sl ((unk ns l).map nmRow) []))) (by kernel_rfl) ?_ ?_ ?_
  · intro x hx
    simp only [List.mem_cons, List.not_mem_nil, or_false] at hx
    rcases hx with rfl | rfl <;> trivial
  · intro k b hb rr hrr
    rw [hp_objs_FX] at hb
    simp only [OS, lookO_cons, lookO_nil] at hb
    split at hb
    · injection hb with hb
      subst hb
      simp only [List.mem_singleton] at hrr
      subst hrr
      exact ⟨trivial, trivial, trivial⟩
    · split at hb
      · injection hb with hb
        subst hb
        obtain ⟨v, _, rfl⟩ := List.mem_map.1 hrr
        exact ⟨trivial, trivial⟩
      · cases hb
  · intro w env F vs hG hmem ha
    obtain ⟨v0, vs', rfl, hv0, ha⟩ := ha.head
    obtain ⟨v1, vs'', rfl, hv1, ha⟩ := ha.head
    obtain rfl := ha.nil_left
    obtain ⟨b, us', g1, g2, g3, g4, g5⟩ := hmem.objs 10007 ⟨0, 1, ns.map knRow, some (.string, false)⟩ (by rw [hp_objs_FX]; simp)
    obtain ⟨sb, su, h1, h2, h3, h4, h5⟩ := hmem.objs 10009 ⟨239, 2, [[.c body, .mapr 10007]], none⟩ (by rw [hp_objs_FX]; simp)
    have hkn := known_of g2 g3
    obtain ⟨b0, s0, q1, rfl⟩ := (show ∃ b s, env.ρ 10009 = some (b, s) ∧ v0 = .pointer (some ⟨b, 0 * s + 0, none⟩) from hv0)
    rw [h1] at q1
    injection q1 with q1
    injection q1 with e1 e2
    subst e1
    obtain ⟨ob, hob, hol⟩ := h2
    obtain ⟨x0, su', rfl, _, h3'⟩ := (show All2 (RepA env (hp (OS 10009 10007 body ns) [] (FX Z)).toks w) [.c body, .mapr 10007] su from h3).head
    obtain ⟨x1, su'', rfl, hx1, h3''⟩ := h3'.head
    obtain rfl := h3''.nil_left
    obtain ⟨b1, s1, q2, rfl⟩ := (show ∃ b s, env.ρ 10007 = some (b, s) ∧ x1 = .map (some b) from hx1)
    rw [g1] at q2
    injection q2 with q2
    injection q2 with e3 e4
    subst e3
    have hcell : w.cell? ⟨sb, 1, none⟩ = some (.map (some b)) := by
      rw [World.cell?]
      simp only [hob]
      obtain ⟨ex, rfl⟩ := (show ∃ ex : List Value, ob = .cells ([x0, .map (some b)] ++ ex).toArray 239 (0, 0) from hol)
      rfl
    rw [Nat.zero_mul]
    exact (unknown_calls hkn (hmem.ρlt _ _ _ h1) hcell hl hv1).mono fun e w' h => h
theorem v217z (Z : XP) (body : C) (ns : List Name) (v : Name) : MeetsV Tryd.prog G (fnA 217) [.one (.ref 10009 0 0), .one (.c (cS (bs v)))] (hp (OS 10009 10007 body ns) [] (FX Z)) (rB (ns.contains v)) (hp (OS 10009 10007 body ns) [] (FX Z)) := MeetsV.of_fun (m217z Z body ns v)
set_option maxHeartbeats 2000000 in
theorem m195z (Z : XP) (body : C) (ns : List Name) (p : Name) (l : List Tm) (sp : Sp) (hl : l.length ≤ 24) : MeetsH Tryd.prog G 195 [.one (.ref 10009 0 0), .agg [.c (cS (bs p)), .c (.sl (l.map Tm.row) sp)]] (hp (OS 10009 10007 body ns) [] (FX Z)) (.x (.one (.c (cI .u32 (markOf ns l))))) (hp (OS 10009 10007 body ns) [] (FX Z)) := by
  refine meetsH [] Tryd.func195 ie195 ig195 (Nat.le_of_ble_eq_true rfl) (by simp [midKey, ownKey]) (by simp) (by simp [ownKey]) (by simp) (by simp) (sameKeys_refl (FX Z)) (by simp) (by simp) ?_
  simp [ic195, ir195, kn_strike']
  generalize hR : markOf ns l = R
  refine w_loopA [] [7, 20, 21, 22] [0, 3, 4, 5, 9, 10, 11] (by simp [ownKey])
    (fun i : Nat => st [(0, .k true (.x (.one (.ref 10009 0 0)))), (3, .k true (.x (.one (.ref 3 0 0)))), (4, .k true (rI .u32 0)), (5, .k true (rI .u32 (markOf ns (l.take i)))), (9, .k true (.x (.one (.c (.sl (l.map Tm.row) sp))))), (10, tI .i64 l.length), (11, tI .i64 i)]
      ((3, ⟨24, 2, [[.c (cS (bs p)), .c (.sl (l.map Tm.row) sp)]], none⟩) :: OS 10009 10007 body ns) [] (FX Z)) (fun i => l.length - i)
    (fun i => i ≤ l.length) 0 (by simp [kn_strike', markOf]) (by simp) ?_
  rintro i K hK hi
  obtain hlt | hge := Nat.lt_or_ge i l.length
  · have hr : l[i].row = [cS (bs l[i].v), cI .i8 l[i].x.k, cI .i64 l[i].x.n, cS (bs l[i].x.s)] := rfl
    have hc := v217z (G := G) Z body ns l[i].v
    have hts : markOf ns (l.take (i + 1)) = markOf ns (l.take i) + if l[i].v = [] ∨ ns.contains l[i].v = true then 2 ^ i else 0 := mark_take ns l i hlt
    have hlt2 := mark_lt ns (l.take i)
    rw [List.length_take, Nat.min_eq_left (Nat.le_of_lt hlt)] at hlt2
    by_cases h0 : l[i].v = []
    · rw [if_pos (.inl h0)] at hts
      simp [ic195l0, hlt, hr, h0, kn_strike']
      refine r_callVF (.x (.one (.c (cB true)))) rfl ?_
      simp [or_bit i _ (by omega) hlt2]
      simp (disch := omega) only [wrap64]
      refine hK (i + 1) _ (by simp [kn_strike', hts]) (by omega) (by omega)
    · have he : l[i].v.isEmpty = false := by simpa using h0
      simp [ic195l0, hlt, hr, he, kn_strike']
      refine r_callW _ _ (OS 10009 10007 body ns) [] _ (OS 10009 10007 body ns) [] hc rfl rfl rfl (by simp [X.fits, A.fits, fitsL]) (by simp) ?_
      cases hq : ns.contains l[i].v with
      | true =>
        rw [if_pos (.inr hq)] at hts
        simp [or_bit i _ (by omega) hlt2]
        simp (disch := omega) only [wrap64]
        refine hK (i + 1) _ (by simp [kn_strike', hts]) (by omega) (by omega)
      | false =>
        rw [if_neg (by rw [hq]; rintro (h | h); exact h0 h; cases h)] at hts
        simp
        simp (disch := omega) only [wrap64]
        refine hK (i + 1) _ (by simp [kn_strike', hts]) (by omega) (by omega)
  · have hi2 : i = l.length := by omega
    subst hi2
    rw [List.take_length, hR]
    simp [ic195l0]
    exact ret_st (by simp) (by simp) (by simp) (by simp) (by simp) (by simp)
set_option maxHeartbeats 4000000 in
theorem m149z (Z : XP) (body : List Lit) (sb : Sp) (ns : List Name) (i : Nat) (hi : i < body.length) (hx : body[i].small 1048576) (hl : body[i].terms.length ≤ 1048576) (ha : body[i].kind = 1 ∨ body[i].kind = 2 → body[i].l.length ≤ 24) :
    MeetsH Tryd.prog G 149 [.one (.ref 10009 0 0), .one (.c (cI .i64 i))] (hp (OS 10009 10007 (.sl (body.map Lit.row) sb) ns) [] (FX Z)) (stepX (stepOf ns body[i] i)) (hp (OS 10009 10007 (.sl (body.map Lit.row) sb) ns) [] (FX Z)) := by
  have h59 := m59 (G := G) body[i] hx (by omega)
  have hvl := tmVars_len body[i].terms
  have h194 := MeetsV.of_fun (m194z (G := G) Z (.sl (body.map Lit.row) sb) ns (tmVars body[i].terms) [] (by omega))
  have hr : body[i].row = [cI .i8 body[i].kind, cS (bs body[i].p), .sl (body[i].l.map Tm.row) body[i].sp, cI .i8 body[i].rel, cI .i8 body[i].left.op, cS (bs body[i].left.t.v), cI .i8 body[i].left.t.x.k, cI .i64 body[i].left.t.x.n, cS (bs body[i].left.t.x.s), .sl (body[i].left.kids.map Ex.row) body[i].left.sp, cI .i8 body[i].right.op, cS (bs body[i].right.t.v), cI .i8 body[i].right.t.x.k, cI .i64 body[i].right.t.x.n, cS (bs body[i].right.t.x.s), .sl (body[i].right.kids.map Ex.row) body[i].right.sp] := by
    unfold Lit.row
    rw [Ex.row_eq body[i].left, Ex.row_eq body[i].right]
    rfl
  refine meetsH [] Tryd.func149 ie149 ig149 (Nat.le_of_ble_eq_true rfl) (by simp [midKey, ownKey]) (by simp) (by simp [ownKey]) (by simp) (by simp [stepX, Stp.row]) (sameKeys_refl (FX Z)) (by simp [stepX, Stp.row]) (by simp [stepX, Stp.row]) ?_
  rw [hr] at h59
  generalize hS : stepOf ns body[i] i = S
  simp (config := { maxSteps := 4000000 }) [ic149, ir149, hi, hr, kn_strike']
  refine call_of h59 ?_
  simp (config := { maxSteps := 4000000 })
  refine r_callW _ _ (OS 10009 10007 (.sl (body.map Lit.row) sb) ns) [] _ (OS 10009 10007 (.sl (body.map Lit.row) sb) ns) [] h194 rfl rfl rfl (by simp [X.fits, A.fits, fitsL]) (by simp) ?_
  simp (config := { maxSteps := 4000000 })
  unfold stepOf at hS
  by_cases h1 : body[i].kind = 1
  · have h24 := ha (.inl h1)
    rw [if_pos h1] at hS
    have h195 := MeetsV.of_fun (m195z (G := G) Z (.sl (body.map Lit.row) sb) ns body[i].p body[i].l body[i].sp h24)
    have h148 := m148 (G := G) body[i].l.length h24
    simp (config := { maxSteps := 4000000 }) [h1]
    refine r_callW _ _ (OS 10009 10007 (.sl (body.map Lit.row) sb) ns) [] _ (OS 10009 10007 (.sl (body.map Lit.row) sb) ns) [] h195 rfl rfl rfl (by simp [X.fits, A.fits, fitsL]) (by simp) ?_
    simp (config := { maxSteps := 4000000 })
    refine call_of h148 ?_
    by_cases hf : (markOf ns body[i].l : Int) = bitsTo body[i].l.length
    · rw [if_pos hf] at hS
      subst hS
      simp (config := { maxSteps := 4000000 }) [hf]
      exact ret_st (by simp) (by simp [stepX, Stp.row, X.fits, A.fits, fitsL]) (by simp) (by simp) (by simp) (by simp)
    · by_cases h0 : (markOf ns body[i].l : Int) = 0
      · rw [if_neg hf, if_pos h0] at hS
        subst hS
        have hfb : ((markOf ns body[i].l : Int) == bitsTo body[i].l.length) = false := beq_eq_false_iff_ne.2 hf
        have h0b : ((markOf ns body[i].l : Int) == 0) = true := beq_iff_eq.2 h0
        simp (config := { maxSteps := 4000000 }) [hfb, h0b]
        exact ret_st (by simp) (by simp [stepX, Stp.row, X.fits, A.fits, fitsL]) (by simp) (by simp) (by simp) (by simp)
      · rw [if_neg hf, if_neg h0] at hS
        subst hS
        have hfb : ((markOf ns body[i].l : Int) == bitsTo body[i].l.length) = false := beq_eq_false_iff_ne.2 hf
        have h0b : ((markOf ns body[i].l : Int) == 0) = false := beq_eq_false_iff_ne.2 h0
        simp (config := { maxSteps := 4000000 }) [hfb, h0b]
        exact ret_st (by simp) (by simp [stepX, Stp.row, X.fits, A.fits, fitsL]) (by simp) (by simp) (by simp) (by simp)
  by_cases h2 : body[i].kind = 2
  · have h24 := ha (.inr h2)
    rw [if_neg h1, if_pos h2] at hS
    have h195 := MeetsV.of_fun (m195z (G := G) Z (.sl (body.map Lit.row) sb) ns body[i].p body[i].l body[i].sp h24)
    simp (config := { maxSteps := 4000000 }) [h2]
    refine r_callW _ _ (OS 10009 10007 (.sl (body.map Lit.row) sb) ns) [] _ (OS 10009 10007 (.sl (body.map Lit.row) sb) ns) [] h195 rfl rfl rfl (by simp [X.fits, A.fits, fitsL]) (by simp) ?_
    subst hS
    simp (config := { maxSteps := 4000000 })
    exact ret_st (by simp) (by simp [stepX, Stp.row, X.fits, A.fits, fitsL]) (by simp) (by simp) (by simp) (by simp)
  rw [if_neg h1, if_neg h2] at hS
  have h1b : (body[i].kind == 1) = false := beq_eq_false_iff_ne.2 h1
  have h2b : (body[i].kind == 2) = false := beq_eq_false_iff_ne.2 h2
  cases hO : unk ns (tmVars body[i].terms) with
  | nil =>
    rw [show openOf ns body[i] = _ from hO] at hS
    subst hS
    simp (config := { maxSteps := 4000000 }) [h1b, h2b]
    exact ret_st (by simp) (by simp [stepX, Stp.row, X.fits, A.fits, fitsL]) (by simp) (by simp) (by simp) (by simp)
  | cons v l =>
    have htl : body[i].left.terms.length ≤ body[i].terms.length ∧ body[i].right.terms.length ≤ body[i].terms.length := by
      unfold Lit.terms
      simp only [List.length_append]
      omega
    have hlone := m196 (G := G) body[i] v hx.2.1 hx.2.2 (by omega) (by omega)
    rw [hr] at hlone
    rw [show openOf ns body[i] = _ from hO] at hS
    simp only at hS
    generalize (isLone body[i].left body[i].right v || isLone body[i].right body[i].left v) = lo at *
    simp (config := { maxSteps := 4000000 }) [h1b, h2b]
    cases l with
    | nil =>
      by_cases hrel : body[i].rel = 1
      · have hrb : (body[i].rel == 1) = true := beq_iff_eq.2 hrel
        simp (config := { maxSteps := 4000000 }) [hrb]
        refine call_of hlone ?_
        cases lo with
        | true =>
          rw [if_pos ⟨rfl, hrel, rfl⟩] at hS
          subst hS
          simp (config := { maxSteps := 4000000 })
          exact ret_st (by simp) (by simp [stepX, Stp.row, X.fits, A.fits, fitsL]) (by simp) (by simp) (by simp) (by simp)
        | false =>
          rw [if_neg (by rintro ⟨_, _, h⟩; cases h)] at hS
          subst hS
          simp (config := { maxSteps := 4000000 })
          exact ret_st (by simp) (by simp [stepX, Stp.row, X.fits, A.fits, fitsL]) (by simp) (by simp) (by simp) (by simp)
      · have hrb : (body[i].rel == 1) = false := beq_eq_false_iff_ne.2 hrel
        rw [if_neg (fun h => hrel h.2.1)] at hS
        subst hS
        simp (config := { maxSteps := 4000000 }) [hrb]
        refine call_no (.x (.one (cB true))) ?_
        simp (config := { maxSteps := 4000000 })
        exact ret_st (by simp) (by simp [stepX, Stp.row, X.fits, A.fits, fitsL]) (by simp) (by simp) (by simp) (by simp)
    | cons u l =>
      rw [if_neg (by rintro ⟨h, _⟩; cases h)] at hS
      subst hS
      have hz0 : ((l.length : Int) + 1 + 1 == 0) = false := beq_eq_false_iff_ne.2 (by omega)
      have hz1 : ((l.length : Int) + 1 + 1 == 1) = false := beq_eq_false_iff_ne.2 (by omega)
      simp (config := { maxSteps := 4000000 }) [hz0, hz1]
      refine ⟨by omega, ?_⟩
      refine call_no (.x (.one (cB true))) ?_
      simp (config := { maxSteps := 4000000 })
      exact ret_st (by simp) (by simp [stepX, Stp.row, X.fits, A.fits, fitsL]) (by simp) (by simp) (by simp) (by simp)
end Go.Proofs.YtiomojlcnemnhaaDoor

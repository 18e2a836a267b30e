import Derived.Test.YtiomojlcnemnhaaGreatDoorWGxK1
import Derived.Test.YtiomojlcnemnhaaGreatDoorWGxIcS
import Derived.Test.YtiomojlcnemnhaaGreatDoorWGxP1
import Derived.Test.YtiomojlcnemnhaaGreatDoorWGxIcW
import Derived.Test.YtiomojlcnemnhaaGreatDoorWGxH8
import Derived.Test.YtiomojlcnemnhaaGreatDoorWGxItoa
/- Contracts, on: rules that are worked with, as far as one is refused; some answers that are fixed; equations that give a variable; the law CheckFixed. (Labels of 2000 and more: seat ZD.) -/
namespace Go.Proofs.YtiomojlcnemnhaaGreatDoor
open Go.Fx Go.RowKit Go.Ped
variable {G : World → Prop}

def firstErr : List Rule → Int
  | [] => 0
  | r :: l => if ruleErr r = 0 then firstErr l else ruleErr r

theorem m2058e (l : List Rule) (sp : Sp) (fs sq : List (List C)) (hs : ∀ r ∈ l, r.fit) (hl : l.length ≤ 1048576) (he : firstErr l ≠ 0) :
    Meets Tryz.prog G 58 [.one (.sl (l.map Rule.row) sp), .one (.sl fs sq)] (.x (.one (cI .i64 (firstErr l)))) := by
  refine meets Tryz.func58 ie2058 ig2058 (Nat.le_of_ble_eq_true rfl) ?_
  simp [ic2058, ir2058]
  refine w_loopA [] [6] [13, 14, 15] (by simp [ownKey])
    (fun i : Nat => st [(13, .k true (.x (.one (.c (.sl (l.map Rule.row) sp))))), (14, tI .i64 l.length), (15, tI .i64 i)] [] [] F0) (fun i => l.length - i)
    (fun i => i ≤ l.length ∧ firstErr l = firstErr (l.drop i)) 0 (by simp) (by simp) ?_
  rintro i K hK ⟨hi, hd⟩
  obtain hlt | hge := Nat.lt_or_ge i l.length
  · rw [List.drop_eq_getElem_cons hlt, firstErr] at hd
    simp [ic2058l0, hlt]
    refine call_of (m85 l[i] (hs _ (List.getElem_mem hlt))) ?_
    simp
    by_cases h0 : ruleErr l[i] = 0
    · rw [if_pos h0] at hd
      simp [h0]
      simp (disch := omega) only [wrap64]
      exact hK (i + 1) _ (by simp) ⟨by omega, hd⟩ (by omega)
    · rw [if_neg h0] at hd
      simp [h0, hd]
  · rw [List.drop_eq_nil_of_le hge, firstErr] at hd
    exact absurd hd he

def tX : Tm := ⟨[88], zeroV⟩
def livesQ : Lit := ⟨1, [113], [tX], [], 0, exZ, exZ⟩
def livesR : Rule := ⟨[112], [⟨0, tX⟩], [], [livesQ], []⟩
def livesB : Rule := ⟨[112], [⟨0, tX⟩], [], [], []⟩
abbrev rowX : List C := [cS (bs [88]), cI .i8 0, cI .i64 0, cS (bs [])]
abbrev rowQ : List C := [cI .i8 1, cS (bs [113]), .sl [rowX] [], cI .i8 0, cI .i8 0, cS (bs []), cI .i8 0, cI .i64 0, cS (bs []), .sl [] [], cI .i8 0, cS (bs []), cI .i8 0, cI .i64 0, cS (bs []), .sl [] []]
abbrev rowH : List C := [cI .i8 0, cS (bs [88]), cI .i8 0, cI .i64 0, cS (bs [])]
theorem livesQ_row : livesQ.row = rowQ := by
  simp [livesQ, Lit.row, exZ_row]; rfl
theorem livesR_row : livesR.row = [cS (bs [112]), .sl [rowH] [], .sl [rowQ] []] := by
  simp only [livesR, Rule.row, List.map_cons, List.map_nil, livesQ_row]; rfl
theorem livesB_row : livesB.row = [cS (bs [112]), .sl [rowH] [], .sl [] []] := rfl
theorem exZ_small : exZ.small 1048576 := Ex.small_mk.2 ⟨by simp, by simp⟩
theorem exZ_terms : exZ.terms = [zeroT] := by rw [exZ, Ex.terms_mk]; rfl
theorem livesQ_fit : livesQ.fit := ⟨⟨by simp [livesQ], exZ_small, exZ_small⟩, by simp [livesQ, exZ_terms], by simp [livesQ, exZ_terms]⟩
theorem livesR_fit : livesR.fit := ⟨⟨by simp [livesR], by simp [livesR], fun x hx => by simp [livesR] at hx; subst hx; exact livesQ_fit.1⟩, fun x hx => by simp [livesR] at hx; subst hx; exact livesQ_fit, by simp [livesR, Rule.terms, Lit.terms, livesQ, exZ_terms], by simp [livesR, livesQ]⟩
theorem livesB_fit : livesB.fit := ⟨⟨by simp [livesB], by simp [livesB], by simp [livesB]⟩, by simp [livesB], by simp [livesB, Rule.terms], by simp [livesB]⟩
theorem livesR_lim : limitsOf livesR.body = [[88]] := by
  unfold limitsOf
  rw [show eqsOf livesR.body = [] from rfl, goRounds_nil]; rfl
theorem livesR_ok : ruleOk livesR = true := by kernel_rfl
theorem livesB_ok : ruleOk livesB = true := by kernel_rfl
theorem livesR_vars : tmVars livesR.terms = [[88]] := by kernel_rfl
theorem livesB_vars : tmVars livesB.terms = [[88]] := by kernel_rfl
theorem livesR_err : ruleErr livesR = 0 := by
  unfold ruleErr
  rw [if_pos livesR_ok, livesR_lim, livesR_vars]; rfl
theorem livesB_err : ruleErr livesB = 73 := by
  unfold ruleErr
  rw [if_pos livesB_ok, livesB_vars, show limitsOf livesB.body = [] from by unfold limitsOf; rw [show eqsOf livesB.body = [] from rfl, goRounds_nil]; rfl]; rfl
theorem lives_job : firstErr [livesR, livesB] = 73 := by simp [firstErr, livesR_err, livesB_err]

theorem m2062 : Meets Tryz.prog G 62 [] (.x (.one (cB true))) := by
  have h50 := m50 (G := G) livesR.body [] livesR_fit.2.1 (by simp [livesR]) livesR_fit.2.2.2
  have hr := m85 (G := G) livesR livesR_fit
  have hb := m85 (G := G) livesB livesB_fit
  have hj := m2058e (G := G) [livesR, livesB] [] [] [] (fun r hr => by simp at hr; rcases hr with rfl | rfl; exact livesR_fit; exact livesB_fit) (by simp) (by rw [lives_job]; decide)
  rw [livesR_lim] at h50
  rw [lives_job] at hj
  rw [livesR_err] at hr
  rw [livesB_err] at hb
  simp only [List.map_cons, List.map_nil, livesR_row, livesB_row] at hr hb hj
  simp only [show livesR.body = [livesQ] from rfl, List.map_cons, List.map_nil, livesQ_row] at h50
  refine meets Tryz.func62 ie2062 ig2062 (Nat.le_of_ble_eq_true rfl) ?_
  simp [ic2062, ir2062]
  refine call_of h50 ?_
  simp
  refine call_of hr ?_
  simp
  refine call_of hb ?_
  simp
  refine k_rowg (g := true) rfl rfl rfl (by simp) ?_
  simp
  refine call_of hj ?_
  simp

end Go.Proofs.YtiomojlcnemnhaaGreatDoor

/- Contracts of CheckOneWay: comparing, holding, what a list says. (Seat ZD.) -/
namespace Go.Proofs.YtiomojlcnemnhaaGreatDoor
open Go.Fx Go.RowKit Go.Ped
variable {G : World → Prop}

def orL : List Int → Int
  | [] => 0
  | x :: l => if x = 0 then orL l else x
def cmpV (a b : Val) : Int := orL [cmpZ a.k b.k, cmpZ a.n b.n, Lib.compareBytes a.s b.s]
theorem cmpZ_zero {a b : Int} : cmpZ a b = 0 ↔ a = b := by
  unfold cmpZ
  split
  · constructor <;> intro h <;> omega
  · split
    · constructor <;> intro h <;> omega
    · constructor <;> intro h <;> omega
theorem cmpB_zero : ∀ {a b : List UInt8}, Lib.compareBytes a b = 0 ↔ a = b
  | [], [] => by simp [Lib.compareBytes]
  | [], _ :: _ => by simp [Lib.compareBytes]
  | _ :: _, [] => by simp [Lib.compareBytes]
  | x :: a, y :: b => by
    rw [Lib.compareBytes]
    by_cases h : x < y
    · rw [if_pos h]
      constructor
      · intro h2; cases h2
      · intro h2; injection h2 with h2 _; subst h2; exact absurd h (UInt8.lt_irrefl _)
    · rw [if_neg h]
      by_cases h' : y < x
      · rw [if_pos h']
        constructor
        · intro h2; cases h2
        · intro h2; injection h2 with h2 _; subst h2; exact absurd h' (UInt8.lt_irrefl _)
      · rw [if_neg h', cmpB_zero]
        have : x = y := UInt8.le_antisymm (UInt8.not_lt.1 h') (UInt8.not_lt.1 h)
        simp [this]
theorem cmpV_zero {a b : Val} : cmpV a b = 0 ↔ a = b := by
  obtain ⟨k, n, s⟩ := a
  obtain ⟨k', n', s'⟩ := b
  unfold cmpV
  simp only [orL, Val.mk.injEq]
  by_cases h1 : cmpZ k k' = 0
  · rw [if_pos h1]
    by_cases h2 : cmpZ n n' = 0
    · rw [if_pos h2]
      by_cases h3 : Lib.compareBytes s s' = 0
      · rw [if_pos h3]
        simp [cmpZ_zero.1 h1, cmpZ_zero.1 h2, cmpB_zero.1 h3]
      · rw [if_neg h3]
        constructor
        · intro h; exact absurd h h3
        · rintro ⟨_, _, h⟩; exact absurd (cmpB_zero.2 h) h3
    · rw [if_neg h2]
      constructor
      · intro h; exact absurd h h2
      · rintro ⟨_, h, _⟩; exact absurd (cmpZ_zero.2 h) h2
  · rw [if_neg h1]
    constructor
    · intro h; exact absurd h h1
    · rintro ⟨h, _, _⟩; exact absurd (cmpZ_zero.2 h) h1

theorem m2331 (a : Int) : Meets Tryz.prog G 331 [.one (cI .i8 a)] (.x (.one (cB false))) := by
  refine meets Tryz.func331 ie2331 ig2331 (Nat.le_of_ble_eq_true rfl) ?_
  simp [ic2331, ir2331]
theorem m2332 (a : Int) : Meets Tryz.prog G 332 [.one (cI .i64 a)] (.x (.one (cB false))) := by
  refine meets Tryz.func332 ie2332 ig2332 (Nat.le_of_ble_eq_true rfl) ?_
  simp [ic2332, ir2332]
theorem m2293 (a b : Int) : Meets Tryz.prog G 293 [.one (cI .i8 a), .one (cI .i8 b)] (.x (.one (cI .i64 (cmpZ a b)))) := by
  refine meets Tryz.func293 ie2293 ig2293 (Nat.le_of_ble_eq_true rfl) ?_
  unfold cmpZ
  rcases Int.lt_trichotomy a b with h | h | h
  · simp [ic2293, ir2293]
    refine call_of (m2331 a) ?_
    simp
    refine call_of (m2331 b) ?_
    simp [h]
  · subst h
    simp [ic2293, ir2293]
    refine call_of (m2331 a) ?_
    simp
    refine call_of (m2331 a) ?_
    simp
  · have h' : ¬ a < b := by omega
    simp [ic2293, ir2293]
    refine call_of (m2331 a) ?_
    simp
    refine call_of (m2331 b) ?_
    simp [h, h']
theorem m2294 (a b : Int) : Meets Tryz.prog G 294 [.one (cI .i64 a), .one (cI .i64 b)] (.x (.one (cI .i64 (cmpZ a b)))) := by
  refine meets Tryz.func294 ie2294 ig2294 (Nat.le_of_ble_eq_true rfl) ?_
  unfold cmpZ
  rcases Int.lt_trichotomy a b with h | h | h
  · simp [ic2294, ir2294]
    refine call_of (m2332 a) ?_
    simp
    refine call_of (m2332 b) ?_
    simp [h]
  · subst h
    simp [ic2294, ir2294]
    refine call_of (m2332 a) ?_
    simp
    refine call_of (m2332 a) ?_
    simp
  · have h' : ¬ a < b := by omega
    simp [ic2294, ir2294]
    refine call_of (m2332 a) ?_
    simp
    refine call_of (m2332 b) ?_
    simp [h, h']
theorem m2295 (a b : List UInt8) : Meets Tryz.prog G 295 [.one (cS (bs a)), .one (cS (bs b))] (.x (.one (cI .i64 (Lib.compareBytes a b)))) := by
  refine ⟨by kernel_rfl, fun w V vs _ _ ha => ?_⟩
  obtain ⟨v1, vs, rfl, h1, hn⟩ := ha.head
  obtain ⟨v2, vs, rfl, h2, hn⟩ := hn.head
  obtain rfl := hn.nil_left
  obtain rfl : v1 = .string (bs a) := by cases h1; rfl
  obtain rfl : v2 = .string (bs b) := by cases h2; rfl
  refine (Tryz.strings_Compare (bs a) (bs b) w).mono ?_
  rintro e w' ⟨rfl, rfl⟩
  refine ⟨_, rfl, ?_, Below.refl _ _⟩
  have e1 : ∀ l : List UInt8, (bs l).data.toList = l := fun l => by simp [bs]
  rw [e1, e1]
  exact .v _ rfl
theorem m2292 (l : List Int) (hl : l.length ≤ maxLen) : Meets Tryz.prog G 292 [.one (.sl (l.map fun x => [cI .i64 x]) [])] (.x (.one (cI .i64 (orL l)))) := by
  refine meets Tryz.func292 ie2292 ig2292 (Nat.le_of_ble_eq_true rfl) ?_
  generalize hR : orL l = R
  simp [ic2292, ir2292]
  refine w_loopA [] [] [3, 6, 7, 8] (by simp)
    (fun i : Nat => st [(3, tI .i64 0), (6, .k true (.x (.one (.c (.sl (l.map fun x => [cI .i64 x]) []))))), (7, tI .i64 l.length), (8, tI .i64 i)] [] [] F0) (fun i => l.length - i)
    (fun i => i ≤ l.length ∧ R = orL (l.drop i)) 0 (by simp) (by simp [hR]) ?_
  rintro i K hK ⟨hi, hd⟩
  unfold maxLen at hl
  obtain hlt | hge := Nat.lt_or_ge i l.length
  · rw [List.drop_eq_getElem_cons hlt, orL] at hd
    by_cases h0 : l[i] = 0
    · rw [if_pos h0] at hd
      simp [ic2292l0, hlt, h0]
      simp (disch := omega) only [wrap64]
      exact hK (i + 1) _ (by simp) ⟨by omega, hd⟩ (by omega)
    · rw [if_neg h0] at hd
      simp [ic2292l0, hlt, h0, hd]
  · rw [List.drop_eq_nil_of_le hge, orL] at hd
    simp [ic2292l0, Nat.not_lt.mpr hge, hd]
theorem m2246 (a b : Val) : Meets Tryz.prog G 246 [.agg a.row, .agg b.row] (.x (.one (cI .i64 (cmpV a b)))) := by
  have h := m2292 (G := G) [cmpZ a.k b.k, cmpZ a.n b.n, Lib.compareBytes a.s b.s] (by simp [maxLen])
  refine meets Tryz.func246 ie2246 ig2246 (Nat.le_of_ble_eq_true rfl) ?_
  unfold cmpV
  generalize orL [cmpZ a.k b.k, cmpZ a.n b.n, Lib.compareBytes a.s b.s] = R at *
  simp only [List.map_cons, List.map_nil] at h
  simp [ic2246, ir2246, Val.row]
  refine call_of (m2293 a.k b.k) ?_
  simp
  refine call_of (m2294 a.n b.n) ?_
  simp
  refine call_of (m2295 a.s b.s) ?_
  simp
  refine call_of h ?_
  simp
theorem m2168 (a b : Val) : Meets Tryz.prog G 168 [.one (cI .i8 1), .agg a.row, .agg b.row] (.x (.one (cB (same a b)))) := by
  have ha := m92 (G := G) a.k a.n a.s
  have hb := m92 (G := G) b.k b.n b.s
  have hc := m2246 (G := G) a b
  have hz := cmpV_zero (a := a) (b := b)
  generalize cmpV a b = c at *
  have hd : (c == 0) = decide (a = b) := by rw [Bool.eq_iff_iff]; simp [hz]
  refine meets Tryz.func168 ie2168 ig2168 (Nat.le_of_ble_eq_true rfl) ?_
  unfold same
  simp only [Val.ok]
  simp only [Val.row] at hc
  generalize decide (a = b) = d at *
  cases h1 : valOk a.k a.n a.s
  · rw [h1] at ha
    simp [ic2168, ir2168, Val.row]
    refine call_of ha ?_
    simp
    refine call_no (.x (.one (cI .i64 0))) ?_
    simp
  · rw [h1] at ha
    cases h2 : valOk b.k b.n b.s
    · rw [h2] at hb
      simp [ic2168, ir2168, Val.row]
      refine call_of ha ?_
      simp
      refine call_i (fun _ => hb) ?_
      simp
    · rw [h2] at hb
      simp [ic2168, ir2168, Val.row]
      refine call_of ha ?_
      simp
      refine call_i (fun _ => hb) ?_
      simp
      refine call_of hc ?_
      simp [hd]
theorem m2072 (l : List Tm) (sp : Sp) (v : Name) (hl : l.length ≤ maxLen) : Meets Tryz.prog G 72 [.one (.sl (l.map Tm.row) sp), .one (cS (bs v))] (.tup [.agg (boundOf l ⟨v, zeroV⟩).1.row, .one (cB (boundOf l ⟨v, zeroV⟩).2)]) := by
  have h := m107 (G := G) l sp ⟨v, zeroV⟩ hl
  generalize boundOf l ⟨v, zeroV⟩ = R at *
  obtain ⟨⟨k, n, s⟩, ok⟩ := R
  simp only [Tm.row, zeroV] at h
  refine meets Tryz.func72 ie2072 ig2072 (Nat.le_of_ble_eq_true rfl) ?_
  simp [ic2072, ir2072, Val.row]
  refine call_of h ?_
  simp [Val.row]
theorem bound_bok {l : List Tm} {v : Name} (hv : v ≠ []) : bokOf l v = if (boundOf l ⟨v, zeroV⟩).2 then some (boundOf l ⟨v, zeroV⟩).1 else none := by
  unfold boundOf bokOf bindOf
  rw [if_neg (show (⟨v, zeroV⟩ : Tm).v ≠ [] from hv)]
  cases l.find? fun x => x.v == v with
  | none => rfl
  | some p => rfl
end Go.Proofs.YtiomojlcnemnhaaGreatDoor

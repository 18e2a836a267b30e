import Derived.Test.YtiomojlcnemnhaaFHxQ5
import Derived.Test.YtiomojlcnemnhaaFFxWb
import Derived.Test.YtiomojlcnemnhaaProg
import Derived.KernelRfl
/- Contracts, on: prefixes, long names, sizes, facts, rules as a user may hand them in. (Labels of 2000 and more: seat ZD.) -/
namespace Go.Proofs.Ytiomojlcnemnhaa
open Go.Fx Go.RowKit Go.Ped
variable {G : World → Prop}

theorem bs_extract (s : Name) (n : Nat) : (bs s).extract 0 n = bs (s.take n) := by
  apply ByteArray.ext
  rw [ByteArray.data_extract]
  simp [bs]
theorem m2270 (s p : Name) : Meets Try.prog G 137 [.one (cS (bs s)), .one (cS (bs p))] (.x (.one (cB (p.isPrefixOf s)))) := by
  refine meets Try.func137 ie2270 ig2270 (Nat.le_of_ble_eq_true rfl) ?_
  by_cases h : p.length ≤ s.length
  · simp [ic2270, ir2270, h, bs_extract]
    rw [Bool.eq_iff_iff]
    simp only [beq_iff_eq, List.isPrefixOf_iff_prefix]
    exact ⟨fun e => e ▸ List.take_prefix _ _, fun e => (List.prefix_iff_eq_take.1 e).symm⟩
  · have : p.isPrefixOf s = false := by
      cases e : p.isPrefixOf s with
      | false => rfl
      | true => exact absurd (List.IsPrefix.length_le (List.isPrefixOf_iff_prefix.1 e)) h
    simp [ic2270, ir2270, h, this]
theorem m2205 (s p : Name) : Meets Try.prog G 117 [.one (cS (bs s)), .one (cS (bs p))] (.x (.one (cB (p.isPrefixOf s)))) := by
  refine meets Try.func117 ie2205 ig2205 (Nat.le_of_ble_eq_true rfl) ?_
  simp [ic2205, ir2205]
  refine call_of (m2270 s p) ?_
  simp

def idxOf (f : Name → Bool) : List Name → Nat → Int
  | [], _ => -1
  | v :: l, i => if f v then i else idxOf f l (i + 1)
theorem idxOf_any (f : Name → Bool) : ∀ (l : List Name) (i : Nat), decide (0 ≤ idxOf f l i) = l.any f
  | [], i => rfl
  | v :: l, i => by
    rw [idxOf, List.any_cons]
    cases f v with
    | true => simp
    | false => simpa using idxOf_any f l (i + 1)
theorem m229 (fn : FuncId) (f : Name → Bool) (hf : ∀ v, Meets Try.prog G fn [.one (cS (bs v))] (.x (.one (cB (f v))))) (l : List Name) (sp : Sp) (hl : l.length ≤ 1048576) :
    Meets Try.prog G 138 [.one (.sl (l.map nmRow) sp), .one (.v (.func (.func fn) #[] #[]))] (.x (.one (cI .i64 (idxOf f l 0)))) := by
  refine meets Try.func138 ie229 ig229 (Nat.le_of_ble_eq_true rfl) ?_
  generalize hR : idxOf f l 0 = R
  simp [ic229, ir229]
  refine w_loopA [] [] [0, 1, 7, 8] (by simp)
    (fun i : Nat => st [(0, .k true (.x (.one (.c (.sl (l.map nmRow) sp))))), (1, .k true (rF fn)), (7, tI .i64 l.length), (8, tI .i64 i)] [] [] F0) (fun i => l.length - i)
    (fun i => i ≤ l.length ∧ R = idxOf f (l.drop i) i) 0 (by simp) (by simp [hR]) ?_
  rintro i K hK ⟨hi, hd⟩
  obtain hlt | hge := Nat.lt_or_ge i l.length
  · rw [List.drop_eq_getElem_cons hlt, idxOf] at hd
    simp [ic229l0, hlt]
    refine r_call0 (plainV (hf l[i]) F0) rfl rfl rfl (by simp [CX.open]) (by simp) (by simp) ?_
    simp [CR.open, CX.open]
    refine condI_of (fun h => ?_) (fun h => ?_)
    · rw [if_pos h] at hd
      simp [hd]
    · rw [if_neg (by simp [h])] at hd
      simp
      simp (disch := omega) only [wrap64]
      exact hK (i + 1) _ (by simp) ⟨by omega, hd⟩ (by omega)
  · rw [List.drop_eq_nil_of_le hge, idxOf] at hd
    simp [ic229l0, Nat.not_lt.mpr hge, hd]
theorem m2209 (fn : FuncId) (f : Name → Bool) (hf : ∀ v, Meets Try.prog G fn [.one (cS (bs v))] (.x (.one (cB (f v))))) (l : List Name) (sp : Sp) (hl : l.length ≤ 1048576) :
    Meets Try.prog G 118 [.one (.sl (l.map nmRow) sp), .one (.v (.func (.func fn) #[] #[]))] (.x (.one (cB (l.any f)))) := by
  refine meets Try.func118 ie2209 ig2209 (Nat.le_of_ble_eq_true rfl) ?_
  simp [ic2209, ir2209]
  refine call_of (m229 fn f hf l sp hl) ?_
  simp [idxOf_any]

def longN (v : Name) : Bool := decide (v.length > 24)
theorem m2210 (v : Name) : Meets Try.prog G 119 [.one (cS (bs v))] (.x (.one (cB (longN v)))) := by
  refine meets Try.func119 ie2210 ig2210 (Nat.le_of_ble_eq_true rfl) ?_
  simp [ic2210, ir2210, longN]
  omega
theorem m2122 (l : List Name) (sp : Sp) (hl : l.length ≤ 1048576) : Meets Try.prog G 82 [.one (.sl (l.map nmRow) sp)] (.x (.one (cB (l.any longN)))) := by
  refine meets Try.func82 ie2122 ig2122 (Nat.le_of_ble_eq_true rfl) ?_
  simp [ic2122, ir2122]
  refine call_of (m2209 (fn := 119) longN m2210 l sp hl) ?_
  simp

def qq : Name := [113, 95]
def sizeErr (v : Name) (n : Int) : Int := if v.length > 24 ∨ n > 8 then 70 else if qq.isPrefixOf v then 71 else 0
theorem m2117 (v : Name) (n : Int) : Meets Try.prog G 78 [.one (cS (bs v)), .one (cI .i64 n)] (.x (.one (cI .i64 (sizeErr v n)))) := by
  refine meets Try.func78 ie2117 ig2117 (Nat.le_of_ble_eq_true rfl) ?_
  by_cases h1 : v.length > 24
  · have h1' : (24 : Int) < v.length := by omega
    simp [ic2117, ir2117, h1', sizeErr, h1]
  · have h1' : ¬ (24 : Int) < v.length := by omega
    by_cases h2 : n > 8
    · simp [ic2117, ir2117, h1', sizeErr, h2]
    · simp [ic2117, ir2117, h1', h2]
      refine call_of (m2205 v [113, 95]) ?_
      simp
      cases h3 : ([113, 95] : Name).isPrefixOf v <;> simp [sizeErr, h1, h2, qq, h3]

def factOk (p : Name) (l : List Val) : Bool := nameOk p && decide (l.length ≤ 24) && l.all Val.ok
theorem m2116 (p : Name) (l : List Val) (sp : Sp) (hl : l.length ≤ 1048576) : Meets Try.prog G 70 [.agg [cS (bs p), .sl (l.map Val.row) sp]] (.x (.one (cI .i64 (if factOk p l then 0 else 10)))) := by
  refine meets Try.func70 ie2116 ig2116 (Nat.le_of_ble_eq_true rfl) ?_
  have h44 := m44 (G := G) p [] [] (by simp [maxLen])
  have e44 : atomOk p [] = nameOk p := by simp [atomOk]
  rw [e44, List.map_nil] at h44
  simp [ic2116, ir2116]
  refine call_of h44 ?_
  simp
  by_cases h1 : nameOk p = true
  · by_cases h2 : l.length ≤ 24
    · have h2' : ¬ (24 : Int) < l.length := by omega
      have hok : factOk p l = l.all Val.ok := by simp [factOk, h1, h2]
      rw [hok]
      generalize hB : l.all Val.ok = B
      simp [h1, h2']
      refine w_loopA [] [4] [18, 19, 20] (by simp [ownKey])
        (fun i : Nat => st [(18, .k true (.x (.one (.c (.sl (l.map Val.row) sp))))), (19, tI .i64 l.length), (20, tI .i64 i)] [(1, ⟨201, 2, [[.c (cS (bs p)), .c (.sl (l.map Val.row) sp)]], none⟩)] [] F0) (fun i => l.length - i)
        (fun i => i ≤ l.length ∧ (l.take i).all Val.ok = true) 0 (by simp) (by simp) ?_
      rintro i K hK ⟨hi, hd⟩
      obtain hlt | hge := Nat.lt_or_ge i l.length
      · have hv := m92 (G := G) l[i].k l[i].n l[i].s
        have e1 : l[i].row = [cI .i8 l[i].k, cI .i64 l[i].n, cS (bs l[i].s)] := rfl
        simp [ic2116l0, hlt, e1]
        refine call_of hv ?_
        simp
        refine condI_of (fun h => ?_) (fun h => ?_)
        · simp at h
          have hb : B = false := by rw [← hB]; exact all_not (List.getElem_mem hlt) (by simpa [Val.ok] using h)
          simp [hb, h]
        · simp at h
          simp
          simp (disch := omega) only [wrap64]
          exact hK (i + 1) _ (by simp) ⟨by omega, by rw [List.take_succ_eq_append_getElem hlt, List.all_append, hd]; simp [Val.ok, h]⟩ (by omega)
      · rw [List.take_of_length_le hge, hB] at hd
        simp [ic2116l0, Nat.not_lt.mpr hge, hd]
    · have h2' : (24 : Int) < l.length := by omega
      have hok : factOk p l = false := by simp [factOk, h2]
      simp [h1, h2', hok]
  · have hok : factOk p l = false := by simp [factOk, h1]
    simp [h1, hok]
end Go.Proofs.Ytiomojlcnemnhaa

/- Contracts, on: the document's predicates: where they stand, met one behind the other. (Labels of 2000 and more: seat ZD.) -/
namespace Go.Proofs.Ytiomojlcnemnhaa
open Go.Fx Go.RowKit Go.Ped
variable {G : World → Prop}

def pdC (p : Pd) : List C := [cS (bs p.name), cI .i64 p.n]
@[simp] theorem pdC_len (p : Pd) : (pdC p).length = 2 := rfl
@[simp] theorem pdC_0 (p : Pd) : (pdC p)[0]? = some (cS (bs p.name)) := rfl
@[simp] theorem pdC_0' (p : Pd) (h : 0 < (pdC p).length) : (pdC p)[0]'h = cS (bs p.name) := rfl
@[simp] theorem pdC_1 (p : Pd) : (pdC p)[1]? = some (cI .i64 p.n) := rfl
@[simp] theorem pdC_1' (p : Pd) (h : 1 < (pdC p).length) : (pdC p)[1]'h = cI .i64 p.n := rfl
@[simp] theorem pdC_take (p : Pd) : ((pdC p).map A.c).take 2 = (pdC p).map A.c := rfl

def ltN (a b : Name) : Bool := Op.bytesLess a b
theorem insP_len (p : Pd) : ∀ l : List Pd, (insP ltN p l).length = l.length + 1
  | [] => rfl
  | q :: l => by
    rw [insP]
    split
    · simp [insP_len p l]
    · rfl

end Go.Proofs.Ytiomojlcnemnhaa

/- Functions of the seat, as the small language has them. -/
namespace Go.Proofs.Ytiomojlcnemnhaa
open Go.Fx

end Go.Proofs.Ytiomojlcnemnhaa

/- Contracts, on: a rule as a user may hand it in, the program's way and the document's. (Labels of 2000 and more: seat ZD.) -/
namespace Go.Proofs.Ytiomojlcnemnhaa
open Go.Fx Go.RowKit Go.Ped
variable {G : World → Prop}

def stepErr (w e : Int) : Int := if e = 70 ∨ w = 0 then e else w
def litsErr : Int → List Lit → Int
  | w, [] => w
  | w, x :: l => litsErr (if x.kind = 3 then w else stepErr w (sizeErr x.p x.l.length)) l
def firstW (r : Rule) : Int := if r.body.length > 12 ∨ (tmVars r.terms).any longN = true then 70 else sizeErr r.p r.head.length
def userErr (r : Rule) : Int := if ruleOk r then (if litsErr (firstW r) r.body = 0 then ruleErr r else litsErr (firstW r) r.body) else 40

theorem ok_small {r : Rule} (h : ruleOk r = true) : (tmVars r.terms).length ≤ 24 := by
  simp only [ruleOk, Bool.and_eq_true, decide_eq_true_eq] at h
  exact h.2

theorem m2110 (r : Rule) (hr : r.fit) : Meets Try.prog G 72 [.agg r.row] (.x (.one (cI .i64 (userErr r)))) := by
  have h85 := m85 (G := G) r hr
  obtain ⟨hs, hf, hl, hb⟩ := hr
  have h66 := m66 (G := G) r hs (by omega)
  have h68 := m68 (G := G) r hs (by omega)
  have hbl := hs.2.1
  refine meets Try.func72 ie2110 ig2110 (Nat.le_of_ble_eq_true rfl) ?_
  simp [ic2110, ir2110]
  refine call_of h66 ?_
  simp
  by_cases hk : ruleOk r = true
  · have h24 := ok_small hk
    have hu : userErr r = if litsErr (firstW r) r.body = 0 then ruleErr r else litsErr (firstW r) r.body := by unfold userErr; rw [if_pos hk]
    rw [hu]
    have key : ∀ (w : Int) (K : Exit → S → Prop), w = firstW r → True := fun _ _ _ => trivial
    clear key
    simp [hk]
    refine call_of (m2117 r.p r.head.length) ?_
    simp
    refine call_i (fun _ => h68) ?_
    simp
    refine call_i (fun _ => m2122 (tmVars r.terms) [] (by omega)) ?_
    simp
    refine condI_of (fun h => ?_) (fun h => ?_)
    rotate_left
    · have e : firstW r = sizeErr r.p r.head.length := by
        unfold firstW
        rw [if_neg]
        simp at h
        rintro (h1 | h1)
        · omega
        · have := h.2; simp at h1; obtain ⟨x, hx, hx2⟩ := h1; simp [this x hx] at hx2
      simp [← e]
      refine w_loopA [] [6] [1, 4, 29, 30, 31] (by simp [ownKey])
        (fun a : Nat × Int => st [(1, .k true (.x (.one (.ref 1 0 0)))), (4, tI .i64 a.2), (29, .k true (.x (.one (.c (.sl (r.body.map Lit.row) r.bsp))))), (30, tI .i64 r.body.length), (31, tI .i64 a.1)] [(1, ⟨186, 3, [r.row.map A.c], none⟩)] [] F0) (fun a => r.body.length - a.1)
        (fun a => a.1 ≤ r.body.length ∧ litsErr (firstW r) r.body = litsErr a.2 (r.body.drop a.1)) (0, firstW r) (by simp) (by simp) ?_
      rintro ⟨i, w⟩ K hK ⟨hi, hd⟩
      simp only at hi hd
      obtain hlt | hge := Nat.lt_or_ge i r.body.length
      · rw [List.drop_eq_getElem_cons hlt, litsErr] at hd
        by_cases k3 : r.body[i].kind = 3
        · rw [if_pos k3] at hd
          simp [ic2110l0, hlt, k3]
          simp (disch := omega) only [wrap64]
          exact hK (i + 1, w) _ (by simp) ⟨by simp; omega, hd⟩ (by simp; omega)
        · rw [if_neg k3] at hd
          simp [ic2110l0, hlt, k3]
          refine call_of (m2117 r.body[i].p r.body[i].l.length) ?_
          simp
          refine condI_of (fun h7 => ?_) (fun h7 => ?_)
          · have e7 : stepErr w (sizeErr r.body[i].p r.body[i].l.length) = sizeErr r.body[i].p r.body[i].l.length := by
              simp at h7; simp [stepErr, h7]
            rw [e7] at hd
            simp
            simp (disch := omega) only [wrap64]
            exact hK (i + 1, sizeErr r.body[i].p r.body[i].l.length) _ (by simp) ⟨by simp; omega, hd⟩ (by simp; omega)
          · have e7 : stepErr w (sizeErr r.body[i].p r.body[i].l.length) = w := by
              simp at h7; simp [stepErr, h7]
            rw [e7] at hd
            simp
            simp (disch := omega) only [wrap64]
            exact hK (i + 1, w) _ (by simp) ⟨by simp; omega, hd⟩ (by simp; omega)
      · rw [List.drop_eq_nil_of_le hge, litsErr] at hd
        rw [hd]
        simp [ic2110l0, Nat.not_lt.mpr hge]
        by_cases h0 : w = 0
        · simp [h0]
          refine call_of h85 ?_
          simp
        · simp [h0]
    · have e : firstW r = 70 := by
        unfold firstW
        rw [if_pos]
        simp at h
        rcases h with h | h
        · exact .inl (by omega)
        · exact .inr (by simpa using h)
      simp [← e]
      refine w_loopA [] [6] [1, 4, 29, 30, 31] (by simp [ownKey])
        (fun a : Nat × Int => st [(1, .k true (.x (.one (.ref 1 0 0)))), (4, tI .i64 a.2), (29, .k true (.x (.one (.c (.sl (r.body.map Lit.row) r.bsp))))), (30, tI .i64 r.body.length), (31, tI .i64 a.1)] [(1, ⟨186, 3, [r.row.map A.c], none⟩)] [] F0) (fun a => r.body.length - a.1)
        (fun a => a.1 ≤ r.body.length ∧ litsErr (firstW r) r.body = litsErr a.2 (r.body.drop a.1)) (0, firstW r) (by simp) (by simp) ?_
      rintro ⟨i, w⟩ K hK ⟨hi, hd⟩
      simp only at hi hd
      obtain hlt | hge := Nat.lt_or_ge i r.body.length
      · rw [List.drop_eq_getElem_cons hlt, litsErr] at hd
        by_cases k3 : r.body[i].kind = 3
        · rw [if_pos k3] at hd
          simp [ic2110l0, hlt, k3]
          simp (disch := omega) only [wrap64]
          exact hK (i + 1, w) _ (by simp) ⟨by simp; omega, hd⟩ (by simp; omega)
        · rw [if_neg k3] at hd
          simp [ic2110l0, hlt, k3]
          refine call_of (m2117 r.body[i].p r.body[i].l.length) ?_
          simp
          refine condI_of (fun h7 => ?_) (fun h7 => ?_)
          · have e7 : stepErr w (sizeErr r.body[i].p r.body[i].l.length) = sizeErr r.body[i].p r.body[i].l.length := by
              simp at h7; simp [stepErr, h7]
            rw [e7] at hd
            simp
            simp (disch := omega) only [wrap64]
            exact hK (i + 1, sizeErr r.body[i].p r.body[i].l.length) _ (by simp) ⟨by simp; omega, hd⟩ (by simp; omega)
          · have e7 : stepErr w (sizeErr r.body[i].p r.body[i].l.length) = w := by
              simp at h7; simp [stepErr, h7]
            rw [e7] at hd
            simp
            simp (disch := omega) only [wrap64]
            exact hK (i + 1, w) _ (by simp) ⟨by simp; omega, hd⟩ (by simp; omega)
      · rw [List.drop_eq_nil_of_le hge, litsErr] at hd
        rw [hd]
        simp [ic2110l0, Nat.not_lt.mpr hge]
        by_cases h0 : w = 0
        · simp [h0]
          refine call_of h85 ?_
          simp
        · simp [h0]
  · simp [hk, userErr]

end Go.Proofs.Ytiomojlcnemnhaa

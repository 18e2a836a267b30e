import Derived.Test.YtiomojlcnemnhaaGreatDoorLGxR4
namespace Go.Proofs.YtiomojlcnemnhaaGreatDoor
open Go.Fx Go.RowKit Go.Ped
variable {G : World → Prop}
def all2B {α : Type} (p : α → α → Bool) : List α → List α → Bool
  | [], [] => true
  | a :: l, b :: m => p a b && all2B p l m
  | _, _ => false
theorem all2B_len {α : Type} (p : α → α → Bool) : ∀ {l m : List α}, ¬ l.length = m.length → all2B p l m = false
  | [], [], h => absurd rfl h
  | [], _ :: _, _ => rfl
  | _ :: _, [], _ => rfl
  | a :: l, b :: m, h => by rw [all2B, all2B_len p (by simpa using h), Bool.and_false]
mutual
def Ex.shape : Ex → Ex → Bool
  | .mk op _ kids _, .mk op' _ kids' _ => op == op' && exShape kids kids'
def exShape : List Ex → List Ex → Bool
  | [], [] => true
  | e :: l, e' :: l' => e.shape e' && exShape l l'
  | _, _ => false
end
theorem exShape_all : ∀ (l m : List Ex), exShape l m = all2B Ex.shape l m
  | [], [] => rfl
  | [], _ :: _ => rfl
  | _ :: _, [] => rfl
  | a :: l, b :: m => by rw [exShape, all2B, exShape_all l m]
theorem Ex.shape_mk (op op' : Int) (t t' : Tm) (kids kids' : List Ex) (sp sp' : Sp) : (Ex.mk op t kids sp).shape (.mk op' t' kids' sp') = (op == op' && all2B Ex.shape kids kids') := by rw [Ex.shape, exShape_all]
def Arg.agg1 (a b : Arg) : Bool := a.agg == b.agg
def Lit.kin (x y : Lit) : Bool := x.kind == y.kind && x.rel == y.rel && x.p == y.p && x.l.length == y.l.length && x.left.shape y.left && x.right.shape y.right
theorem m2266 (l m : List Ex) (sp sq : Sp) (hl : l.length ≤ 1048576) (hm : m.length ≤ 1048576) (ih : ∀ k ∈ l, ∀ k' ∈ m, Meets Tryz.prog G 198 [.agg k.row, .agg k'.row] (.x (.one (cB (Ex.shape k k'))))) :
    Meets Tryz.prog G 266 [.one (.sl (l.map Ex.row) sp), .one (.sl (m.map Ex.row) sq), .one (cF 198)] (.x (.one (cB (all2B Ex.shape l m)))) := by
  refine meets Tryz.func266 ie2266 ig2266 (Nat.le_of_ble_eq_true rfl) ?_
  generalize hR : all2B Ex.shape l m = R
  by_cases hlen : l.length = m.length
  · simp [ic2266, ir2266, hlen]
    refine w_loopA [] [8, 9] [0, 1, 2, 6, 15, 16, 17] (by simp [ownKey])
      (fun i : Nat => st [(0, .k true (.x (.one (.c (.sl (l.map Ex.row) sp))))), (1, .k true (.x (.one (.c (.sl (m.map Ex.row) sq))))), (2, .k true (.x (.one (.c (cF 198))))), (6, tB false), (15, .k true (.x (.one (.c (.sl (l.map Ex.row) sp))))), (16, tI .i64 l.length), (17, tI .i64 i)] [] [] F0) (fun i => l.length - i)
      (fun i => i ≤ l.length ∧ all2B Ex.shape (l.drop i) (m.drop i) = R) 0 (by simp [hlen]; try rfl) (by simp [hR]) ?_
    rintro i K hK ⟨hi, hd⟩
    obtain hlt | hge := Nat.lt_or_ge i l.length
    · have hlt' : i < m.length := by omega
      have hc := ih l[i] (List.getElem_mem hlt) m[i] (List.getElem_mem hlt')
      rw [List.drop_eq_getElem_cons hlt, List.drop_eq_getElem_cons hlt', all2B] at hd
      have hrl : l[i].row.length = 6 := Ex.row_length _
      have hrm : m[i].row.length = 6 := Ex.row_length _
      have k1 : (l[i].row.map A.c).take 6 = l[i].row.map A.c := List.take_of_length_le (by simp)
      have k2 : (m[i].row.map A.c).take 6 = m[i].row.map A.c := List.take_of_length_le (by simp)
      generalize hb : Ex.shape l[i] m[i] = b at hc hd
      simp [ic2266l0, hlt, hlt', ← hlen, hrl, hrm, k1, k2]
      refine r_callW _ _ [] [] _ [] [] (plainV hc F0) rfl rfl rfl (by simp [CX.open, X.fits]) (by simp) ?_
      simp [CR.open, CX.open]
      cases b with
      | false =>
        simp only [Bool.false_and] at hd
        subst hd
        simp
      | true =>
        simp only [Bool.true_and] at hd
        simp
        simp (disch := omega) only [wrap64]
        exact hK (i + 1) _ (by simp [hlen]; try rfl) ⟨by omega, hd⟩ (by omega)
    · have hi2 : i = l.length := by omega
      subst hi2
      rw [List.drop_length, List.drop_of_length_le (by omega)] at hd
      subst hd
      simp [ic2266l0, hlen, all2B]
  · have hf : R = false := by rw [← hR]; exact all2B_len _ hlen
    subst hf
    have hlen' : ¬ (l.length : Int) = (m.length : Int) := by omega
    simp [ic2266, ir2266, hlen, hlen']
theorem m2101 (l m : List Arg) (sp sq : Sp) (hl : l.length ≤ 1048576) (hm : m.length ≤ 1048576) (ih : ∀ k ∈ l, ∀ k' ∈ m, Meets Tryz.prog G 100 [.agg k.row, .agg k'.row] (.x (.one (cB (Arg.agg1 k k'))))) :
    Meets Tryz.prog G 101 [.one (.sl (l.map Arg.row) sp), .one (.sl (m.map Arg.row) sq), .one (cF 100)] (.x (.one (cB (all2B Arg.agg1 l m)))) := by
  refine meets Tryz.func101 ie2101 ig2101 (Nat.le_of_ble_eq_true rfl) ?_
  generalize hR : all2B Arg.agg1 l m = R
  by_cases hlen : l.length = m.length
  · simp [ic2101, ir2101, hlen]
    refine w_loopA [] [8, 9] [0, 1, 2, 6, 15, 16, 17] (by simp [ownKey])
      (fun i : Nat => st [(0, .k true (.x (.one (.c (.sl (l.map Arg.row) sp))))), (1, .k true (.x (.one (.c (.sl (m.map Arg.row) sq))))), (2, .k true (.x (.one (.c (cF 100))))), (6, tB false), (15, .k true (.x (.one (.c (.sl (l.map Arg.row) sp))))), (16, tI .i64 l.length), (17, tI .i64 i)] [] [] F0) (fun i => l.length - i)
      (fun i => i ≤ l.length ∧ all2B Arg.agg1 (l.drop i) (m.drop i) = R) 0 (by simp [hlen]; try rfl) (by simp [hR]) ?_
    rintro i K hK ⟨hi, hd⟩
    obtain hlt | hge := Nat.lt_or_ge i l.length
    · have hlt' : i < m.length := by omega
      have hc := ih l[i] (List.getElem_mem hlt) m[i] (List.getElem_mem hlt')
      rw [List.drop_eq_getElem_cons hlt, List.drop_eq_getElem_cons hlt', all2B] at hd
      have hrl : l[i].row.length = 5 := Arg.row_length _
      have hrm : m[i].row.length = 5 := Arg.row_length _
      have k1 : (l[i].row.map A.c).take 5 = l[i].row.map A.c := List.take_of_length_le (by simp)
      have k2 : (m[i].row.map A.c).take 5 = m[i].row.map A.c := List.take_of_length_le (by simp)
      generalize hb : Arg.agg1 l[i] m[i] = b at hc hd
      simp [ic2101l0, hlt, hlt', ← hlen, hrl, hrm, k1, k2]
      refine r_callW _ _ [] [] _ [] [] (plainV hc F0) rfl rfl rfl (by simp [CX.open, X.fits]) (by simp) ?_
      simp [CR.open, CX.open]
      cases b with
      | false =>
        simp only [Bool.false_and] at hd
        subst hd
        simp
      | true =>
        simp only [Bool.true_and] at hd
        simp
        simp (disch := omega) only [wrap64]
        exact hK (i + 1) _ (by simp [hlen]; try rfl) ⟨by omega, hd⟩ (by omega)
    · have hi2 : i = l.length := by omega
      subst hi2
      rw [List.drop_length, List.drop_of_length_le (by omega)] at hd
      subst hd
      simp [ic2101l0, hlen, all2B]
  · have hf : R = false := by rw [← hR]; exact all2B_len _ hlen
    subst hf
    have hlen' : ¬ (l.length : Int) = (m.length : Int) := by omega
    simp [ic2101, ir2101, hlen, hlen']
theorem m2102 (l m : List Lit) (sp sq : Sp) (hl : l.length ≤ 1048576) (hm : m.length ≤ 1048576) (ih : ∀ k ∈ l, ∀ k' ∈ m, Meets Tryz.prog G 103 [.agg k.row, .agg k'.row] (.x (.one (cB (Lit.kin k k'))))) :
    Meets Tryz.prog G 102 [.one (.sl (l.map Lit.row) sp), .one (.sl (m.map Lit.row) sq), .one (cF 103)] (.x (.one (cB (all2B Lit.kin l m)))) := by
  refine meets Tryz.func102 ie2102 ig2102 (Nat.le_of_ble_eq_true rfl) ?_
  generalize hR : all2B Lit.kin l m = R
  by_cases hlen : l.length = m.length
  · simp [ic2102, ir2102, hlen]
    refine w_loopA [] [8, 9] [0, 1, 2, 6, 15, 16, 17] (by simp [ownKey])
      (fun i : Nat => st [(0, .k true (.x (.one (.c (.sl (l.map Lit.row) sp))))), (1, .k true (.x (.one (.c (.sl (m.map Lit.row) sq))))), (2, .k true (.x (.one (.c (cF 103))))), (6, tB false), (15, .k true (.x (.one (.c (.sl (l.map Lit.row) sp))))), (16, tI .i64 l.length), (17, tI .i64 i)] [] [] F0) (fun i => l.length - i)
      (fun i => i ≤ l.length ∧ all2B Lit.kin (l.drop i) (m.drop i) = R) 0 (by simp [hlen]; try rfl) (by simp [hR]) ?_
    rintro i K hK ⟨hi, hd⟩
    obtain hlt | hge := Nat.lt_or_ge i l.length
    · have hlt' : i < m.length := by omega
      have hc := ih l[i] (List.getElem_mem hlt) m[i] (List.getElem_mem hlt')
      rw [List.drop_eq_getElem_cons hlt, List.drop_eq_getElem_cons hlt', all2B] at hd
      have hrl : l[i].row.length = 16 := Lit.row_length _
      have hrm : m[i].row.length = 16 := Lit.row_length _
      have k1 : (l[i].row.map A.c).take 16 = l[i].row.map A.c := List.take_of_length_le (by simp)
      have k2 : (m[i].row.map A.c).take 16 = m[i].row.map A.c := List.take_of_length_le (by simp)
      generalize hb : Lit.kin l[i] m[i] = b at hc hd
      simp [ic2102l0, hlt, hlt', ← hlen, hrl, hrm, k1, k2]
      refine r_callW _ _ [] [] _ [] [] (plainV hc F0) rfl rfl rfl (by simp [CX.open, X.fits]) (by simp) ?_
      simp [CR.open, CX.open]
      cases b with
      | false =>
        simp only [Bool.false_and] at hd
        subst hd
        simp
      | true =>
        simp only [Bool.true_and] at hd
        simp
        simp (disch := omega) only [wrap64]
        exact hK (i + 1) _ (by simp [hlen]; try rfl) ⟨by omega, hd⟩ (by omega)
    · have hi2 : i = l.length := by omega
      subst hi2
      rw [List.drop_length, List.drop_of_length_le (by omega)] at hd
      subst hd
      simp [ic2102l0, hlen, all2B]
  · have hf : R = false := by rw [← hR]; exact all2B_len _ hlen
    subst hf
    have hlen' : ¬ (l.length : Int) = (m.length : Int) := by omega
    simp [ic2102, ir2102, hlen, hlen']
set_option maxHeartbeats 4000000 in
theorem m2198 : ∀ (e e' : Ex), e.small 1048576 → e'.small 1048576 → Meets Tryz.prog G 198 [.agg e.row, .agg e'.row] (.x (.one (cB (e.shape e')))) := by
  refine Ex.ind fun op t kids sp ih e' hs hs' => ?_
  obtain ⟨op', t', kids', sp'⟩ := e'
  obtain ⟨hl, hk⟩ := Ex.small_mk.1 hs
  obtain ⟨hl', hk'⟩ := Ex.small_mk.1 hs'
  have h := m2266 (G := G) kids kids' sp sp' hl hl' (fun k hm k' hm' => ih k hm k' (hk k hm) (hk' k' hm'))
  refine meets Tryz.func198 ie2198 ig2198 (Nat.le_of_ble_eq_true rfl) ?_
  rw [Ex.row_mk, Ex.row_mk, Ex.shape_mk]
  generalize all2B Ex.shape kids kids' = b at *
  generalize kids.map Ex.row = rs at *
  generalize kids'.map Ex.row = rs' at *
  simp (config := { maxSteps := 4000000 }) [ic2198, ir2198]
  by_cases ho : op = op'
  · subst ho
    simp
    refine call_of h ?_
    simp
  · have ho' : (op == op') = false := by simpa using ho
    simp [ho, ho']
    refine call_no (.x (.one (cB true))) ?_
    simp
theorem m2100 (a b : Arg) : Meets Tryz.prog G 100 [.agg a.row, .agg b.row] (.x (.one (cB (a.agg1 b)))) := by
  refine meets Tryz.func100 ie2100 ig2100 (Nat.le_of_ble_eq_true rfl) ?_
  have h1 : a.row = [cI .i8 a.agg, cS (bs a.t.v), cI .i8 a.t.x.k, cI .i64 a.t.x.n, cS (bs a.t.x.s)] := rfl
  have h2 : b.row = [cI .i8 b.agg, cS (bs b.t.v), cI .i8 b.t.x.k, cI .i64 b.t.x.n, cS (bs b.t.x.s)] := rfl
  rw [h1, h2]
  simp [ic2100, ir2100, Arg.agg1]
set_option maxHeartbeats 4000000 in
theorem m2103 (x y : Lit) (hx : x.small 1048576) (hy : y.small 1048576) : Meets Tryz.prog G 103 [.agg x.row, .agg y.row] (.x (.one (cB (x.kin y)))) := by
  have h1 := m2198 (G := G) x.left y.left hx.2.1 hy.2.1
  have h2 := m2198 (G := G) x.right y.right hx.2.2 hy.2.2
  have hxl := hx.1
  have hyl := hy.1
  unfold Lit.kin Lit.row
  rw [Ex.row_eq x.left, Ex.row_eq y.left] at h1
  rw [Ex.row_eq x.right, Ex.row_eq y.right] at h2
  rw [Ex.row_eq x.left, Ex.row_eq y.left, Ex.row_eq x.right, Ex.row_eq y.right]
  generalize x.left.shape y.left = b1 at *
  generalize x.right.shape y.right = b2 at *
  refine meets Tryz.func103 ie2103 ig2103 (Nat.le_of_ble_eq_true rfl) ?_
  simp (config := { maxSteps := 4000000 }) [ic2103, ir2103]
  have hn : ∀ (P : Prop) [Decidable P], P → decide P = true := fun P _ h => by simpa using h
  by_cases c1 : x.kind = y.kind
  · by_cases c2 : x.rel = y.rel
    · by_cases c3 : x.p = y.p
      · by_cases c4 : x.l.length = y.l.length
        · simp [c1, c2, c3, c4]
          refine call_of h1 ?_
          cases b1 with
          | false => simp; refine call_no (.x (.one (cB true))) ?_; simp
          | true => simp; refine call_of h2 ?_; simp
        · have c4' : ¬ (x.l.length : Int) = (y.l.length : Int) := by omega
          simp [c1, c2, c3, c4, c4']
          refine call_no (.x (.one (cB true))) ?_
          simp
          refine call_no (.x (.one (cB true))) ?_
          simp [c4]
      · simp [c1, c2, c3]
        refine call_no (.x (.one (cB true))) ?_
        simp
        refine call_no (.x (.one (cB true))) ?_
        simp
    · simp [c1, c2]
      refine call_no (.x (.one (cB true))) ?_
      simp
      refine call_no (.x (.one (cB true))) ?_
      simp
  · simp [c1]
    refine call_no (.x (.one (cB true))) ?_
    simp
    refine call_no (.x (.one (cB true))) ?_
    simp
end Go.Proofs.YtiomojlcnemnhaaGreatDoor

namespace Go.Proofs.YtiomojlcnemnhaaGreatDoor
open Go.Fx Go.RowKit Go.Ped
variable {G : World → Prop}
abbrev OTm (k tk : Nat) (acc : List Tm) : List (Nat × Box) := [(k, ⟨23, 1, [[.own tk (acc.map Tm.row)]], none⟩)]
abbrev UTm (tk : Nat) (acc : List Tm) : List (Nat × Fx.Tok) := [(tk, ⟨73, 4, acc.length⟩)]
theorem m2199 (es sp : List (List C)) (i off : Nat) (t : Tm) (h : PtTo es i off t) (acc : List Tm) (hl : acc.length ≤ 4000000) :
    MeetsH Tryz.prog G 199 [.one (.elem es sp i off), .one (.ref 10005 0 0)] (hp (OTm 10005 10030 acc) (UTm 10030 acc) F0) (.tup []) (hp (OTm 10005 10030 (acc ++ [t])) (UTm 10030 (acc ++ [t])) F0) := by
  refine meetsH [] Tryz.func199 ie2199 ig2199 (Nat.le_of_ble_eq_true rfl) ?_ ?_ ?_ ?_ ?_ (sameKeys_refl F0) ?_ ?_ ?_
  · intro p hp
    simp only [List.mem_cons, List.not_mem_nil, or_false] at hp
    subst hp
    exact ⟨by unfold midKey; omega, by simp [ownKey]⟩
  · intro p hp
    simp only [List.mem_cons, List.not_mem_nil, or_false] at hp
    subst hp; unfold midKey; omega
  · simp [ownKey]
  · simp
  · simp
  · intro p hp
    simp only [List.mem_cons, List.not_mem_nil, or_false] at hp
    subst hp
    simp
  · simp
  have hlen := h.len
  obtain ⟨r, h1, h2⟩ := h
  simp [h1] at hlen
  have h3 : List.take 4 (List.drop off (List.map A.c r)) = [A.c (cS (bs t.v)), A.c (cI .i8 t.x.k), A.c (cI .i64 t.x.n), A.c (cS (bs t.x.s))] := by
    rw [← List.map_drop, ← List.map_take, h2]; rfl
  have hrow : (acc ++ [t]).map Tm.row = acc.map Tm.row ++ [[cS (bs t.v), cI .i8 t.x.k, cI .i64 t.x.n, cS (bs t.x.s)]] := by rw [List.map_append]; rfl
  have hln : (acc ++ [t]).length = acc.length + 1 := by simp
  unfold OTm UTm
  rw [hrow, hln]
  simp [ic2199, ir2199, h1, hlen, h3]
  refine ⟨by unfold maxLen; omega, by unfold maxBytes; omega, ?_⟩
  exact ret_st (by simp) (by simp) (by simp) (by simp) (by simp) (by simp)
theorem m2200 (es sp : List (List C)) (i off : Nat) (t : Tm) (h : PtTo es i off t) (acc : List Tm) (hl : acc.length ≤ 4000000) :
    MeetsH Tryz.prog G 200 [.one (.elem es sp i off), .one (.ref 10006 0 0)] (hp (OTm 10006 10031 acc) (UTm 10031 acc) F0) (.tup []) (hp (OTm 10006 10031 (acc ++ [t])) (UTm 10031 (acc ++ [t])) F0) := by
  refine meetsH [] Tryz.func200 ie2200 ig2200 (Nat.le_of_ble_eq_true rfl) ?_ ?_ ?_ ?_ ?_ (sameKeys_refl F0) ?_ ?_ ?_
  · intro p hp
    simp only [List.mem_cons, List.not_mem_nil, or_false] at hp
    subst hp
    exact ⟨by unfold midKey; omega, by simp [ownKey]⟩
  · intro p hp
    simp only [List.mem_cons, List.not_mem_nil, or_false] at hp
    subst hp; unfold midKey; omega
  · simp [ownKey]
  · simp
  · simp
  · intro p hp
    simp only [List.mem_cons, List.not_mem_nil, or_false] at hp
    subst hp
    simp
  · simp
  have hlen := h.len
  obtain ⟨r, h1, h2⟩ := h
  simp [h1] at hlen
  have h3 : List.take 4 (List.drop off (List.map A.c r)) = [A.c (cS (bs t.v)), A.c (cI .i8 t.x.k), A.c (cI .i64 t.x.n), A.c (cS (bs t.x.s))] := by
    rw [← List.map_drop, ← List.map_take, h2]; rfl
  have hrow : (acc ++ [t]).map Tm.row = acc.map Tm.row ++ [[cS (bs t.v), cI .i8 t.x.k, cI .i64 t.x.n, cS (bs t.x.s)]] := by rw [List.map_append]; rfl
  have hln : (acc ++ [t]).length = acc.length + 1 := by simp
  unfold OTm UTm
  rw [hrow, hln]
  simp [ic2200, ir2200, h1, hlen, h3]
  refine ⟨by unfold maxLen; omega, by unfold maxBytes; omega, ?_⟩
  exact ret_st (by simp) (by simp) (by simp) (by simp) (by simp) (by simp)
theorem hOT (k tk : Nat) (hk : farKey k) (htk : farKey tk) (acc : List Tm) : ∀ p ∈ OTm k tk acc, farKey p.1 ∧ ∀ r ∈ p.2.rows, onlyL farKey (fun k => lookT (UTm tk acc) k ≠ none) r := by
  intro p hp
  simp only [List.mem_cons, List.not_mem_nil, or_false] at hp
  subst hp
  exact ⟨hk, by simp⟩
theorem hUT (tk : Nat) (htk : farKey tk) (acc : List Tm) : ∀ p ∈ UTm tk acc, farKey p.1 := by
  intro p hp
  simp only [List.mem_cons, List.not_mem_nil, or_false] at hp
  subst hp; exact htk
def HT (k tk : Nat) (hk : farKey k) (htk : farKey tk) (acc : List Tm) : FHp := FHp.of (OTm k tk acc) (UTm tk acc) (hOT k tk hk htk acc) (hUT tk htk acc)
theorem HT_same (k tk : Nat) (hk : farKey k) (htk : farKey tk) (a b : List Tm) : sameKeys (HT k tk hk htk a) (HT k tk hk htk b) := by
  refine ⟨fun j => ⟨?_, ?_⟩, rfl⟩
  · show lookO (OTm k tk a) j = none ↔ lookO (OTm k tk b) j = none
    simp only [lookO_cons]
    split <;> simp
  · show lookT (UTm tk a) j = none ↔ lookT (UTm tk b) j = none
    simp only [lookT_cons]
    split <;> simp
theorem far5 : farKey 15005 := by unfold farKey; omega
theorem far6 : farKey 15006 := by unfold farKey; omega
theorem far30 : farKey 15030 := by unfold farKey; omega
theorem far31 : farKey 15031 := by unfold farKey; omega
abbrev fA : A := .clo 199 [] [.ref 15005 0 0]
abbrev fB : A := .clo 200 [] [.ref 15006 0 0]
theorem c2199 (es sp : List (List C)) (i off : Nat) (t : Tm) (h : PtTo es i off t) (acc : List Tm) (hl : acc.length ≤ 4000000) :
    MeetsV Tryz.prog G fA [.one (.elem es sp i off)] (hp [] [] (HT 15005 15030 far5 far30 acc)) (.tup []) (hp [] [] (HT 15005 15030 far5 far30 (acc ++ [t]))) := by
  have h1 := (clo_of (f := 199) (fs := []) (args := [.one (.elem es sp i off)]) (cs := [.ref 10005 0 0]) rfl (m2199 (G := G) es sp i off t h acc hl)).ren (π := midFar)
  generalize acc ++ [t] = acc2 at *
  simp [mfF] at h1
  unfold HT
  rw [hp_of, hp_of]
  exact h1
theorem c2200 (es sp : List (List C)) (i off : Nat) (t : Tm) (h : PtTo es i off t) (acc : List Tm) (hl : acc.length ≤ 4000000) :
    MeetsV Tryz.prog G fB [.one (.elem es sp i off)] (hp [] [] (HT 15006 15031 far6 far31 acc)) (.tup []) (hp [] [] (HT 15006 15031 far6 far31 (acc ++ [t]))) := by
  have h1 := (clo_of (f := 200) (fs := []) (args := [.one (.elem es sp i off)]) (cs := [.ref 10006 0 0]) rfl (m2200 (G := G) es sp i off t h acc hl)).ren (π := midFar)
  generalize acc ++ [t] = acc2 at *
  simp [mfF] at h1
  unfold HT
  rw [hp_of, hp_of]
  exact h1
theorem chA : ∀ (l acc : List Tm), acc.length + l.length ≤ 4000000 → Ch G fA l (HT 15005 15030 far5 far30 acc) (HT 15005 15030 far5 far30 (acc ++ l))
  | [], acc, _ => by rw [List.append_nil]; exact .nil _
  | t :: l, acc, h => by
    simp only [List.length_cons] at h
    have := chA l (acc ++ [t]) (by simp; omega)
    rw [List.append_assoc] at this
    exact .cons (fun es sp i off hp => c2199 es sp i off t hp acc (by omega)) (HT_same _ _ _ _ _ _) this
theorem chB : ∀ (l acc : List Tm), acc.length + l.length ≤ 4000000 → Ch G fB l (HT 15006 15031 far6 far31 acc) (HT 15006 15031 far6 far31 (acc ++ l))
  | [], acc, _ => by rw [List.append_nil]; exact .nil _
  | t :: l, acc, h => by
    simp only [List.length_cons] at h
    have := chB l (acc ++ [t]) (by simp; omega)
    rw [List.append_assoc] at this
    exact .cons (fun es sp i off hp => c2200 es sp i off t hp acc (by omega)) (HT_same _ _ _ _ _ _) this
theorem m2201 (l m : List Tm) (sp sq : Sp) (hl : l.length ≤ 4000000) (hm : m.length ≤ 4000000) : Meets Tryz.prog G 201 [.one (.sl (l.map Tm.row) sp), .one (.sl (m.map Tm.row) sq)] (.x (.one (cB (decide (l = m))))) := by
  refine meets Tryz.func201 ie2201 ig2201 (Nat.le_of_ble_eq_true rfl) ?_
  generalize hR : decide (l = m) = R
  by_cases hlen : l.length = m.length
  · simp [ic2201, ir2201, hlen]
    refine w_loopA [] [] [0, 1, 4, 12, 13] (by simp [ownKey])
      (fun i : Nat => st [(0, .k true (.x (.one (.c (.sl (l.map Tm.row) sp))))), (1, .k true (.x (.one (.c (.sl (m.map Tm.row) sq))))), (4, tB false), (12, tI .i64 l.length), (13, tI .i64 i)] [] [] F0) (fun i => l.length - i)
      (fun i => i ≤ l.length ∧ decide (l.drop i = m.drop i) = R) 0 (by simp [hlen]; try rfl) (by simp [hR]) ?_
    rintro i K hK ⟨hi, hd⟩
    obtain hlt | hge := Nat.lt_or_ge i l.length
    · have hlt' : i < m.length := by omega
      rw [List.drop_eq_getElem_cons hlt, List.drop_eq_getElem_cons hlt'] at hd
      have hr1 : l[i].row = [cS (bs l[i].v), cI .i8 l[i].x.k, cI .i64 l[i].x.n, cS (bs l[i].x.s)] := rfl
      have hr2 : m[i].row = [cS (bs m[i].v), cI .i8 m[i].x.k, cI .i64 m[i].x.n, cS (bs m[i].x.s)] := rfl
      simp [ic2201l0, hlt, hlt', ← hlen, hr1, hr2]
      by_cases he : l[i] = m[i]
      · rw [he] at hd
        simp [he]
        simp (disch := omega) only [wrap64]
        exact hK (i + 1) _ (by simp [hlen]; try rfl) ⟨by omega, by rw [← hd]; exact decide_eq_decide.2 ⟨fun h => by rw [h], fun h => (List.cons.inj h).2⟩⟩ (by omega)
      · have hb : (!l[i].v == m[i].v || (!l[i].x.k == m[i].x.k || (!l[i].x.n == m[i].x.n || !l[i].x.s == m[i].x.s))) = true := by
          generalize l[i] = a at *
          generalize m[i] = b at *
          obtain ⟨v, k, n, s⟩ := a
          obtain ⟨v', k', n', s'⟩ := b
          simp only [Tm.mk.injEq, Val.mk.injEq] at he
          simp
          grind
        have hd2 : R = false := by rw [← hd]; exact decide_eq_false fun h => he (List.cons.inj h).1
        subst hd2
        rw [hb]
        simp
    · have hi2 : i = l.length := by omega
      subst hi2
      rw [List.drop_length, List.drop_of_length_le (by omega)] at hd
      simp at hd
      subst hd
      simp [ic2201l0, hlen]
  · have hf : R = false := by rw [← hR]; simp; exact fun e => hlen (by rw [e])
    subst hf
    have hlen' : ¬ (l.length : Int) = (m.length : Int) := by omega
    simp [ic2201, ir2201, hlen, hlen']
set_option maxRecDepth 20000 in
theorem m2104 (x y : A) (l m : List Tm) (hx : x.only (fun _ => False) (fun _ => False)) (hxr : ∀ f, x.ren f = x) (hxs : ∀ ks, x.strike ks = x) (hy : y.only (fun _ => False) (fun _ => False)) (hyr : ∀ f, y.ren f = y) (hys : ∀ ks, y.strike ks = y)
    (hl : l.length ≤ 4000000) (hm : m.length ≤ 4000000) (hw : Walks G x l) (hv : Walks G y m) :
    MeetsH Tryz.prog G 104 [.one x, .one y] (hp [] [] F0) (.x (.one (.c (cB (decide (l = m)))))) (hp [] [] F0) := by
  have h1 := (MeetsV.of_fun (hw fA _ _ ⟨trivial, by simp [farKey]⟩ (chA (G := G) l [] (by simpa using hl)))).ren (π := nearFar)
  have h2 := (MeetsV.of_fun (hv fB _ _ ⟨trivial, by simp [farKey]⟩ (chB (G := G) m [] (by simpa using hm)))).ren (π := nearFar)
  unfold HT at h1 h2
  rw [hp_of, hp_of] at h1 h2
  simp [nfF, hxr, hyr] at h1 h2
  have h3 := m2201 (G := G) l m [] [] hl hm
  refine meetsH [] Tryz.func104 ie2104 ig2104 (Nat.le_of_ble_eq_true rfl) (by simp) (by simp) ?_ (by simp) (by simp) (sameKeys_refl F0) (by simp) (by simp) ?_
  · simp
    exact ⟨A.only_mono (fun _ h => h.elim) (fun _ h => h.elim) hx, A.only_mono (fun _ h => h.elim) (fun _ h => h.elim) hy⟩
  simp [ic2104, ir2104, hxs, hys]
  refine r_callV _ _ _ _ _ _ _ _ h1 rfl rfl rfl (by simp) (by simp) (by simp) (by simp) (by simp) (by simp) (by simp) (by simp) (by simp) (sameKeys_refl F0) rfl ?_
  simp
  refine r_callV _ _ _ _ _ _ _ _ h2 rfl rfl rfl (by simp) (by simp) (by simp) (by simp) (by simp) (by simp) (by simp) (by simp) (by simp) (sameKeys_refl F0) rfl ?_
  simp
  refine call_of h3 ?_
  simp
  exact ret_st (by simp) (by simp) (by simp) (by simp) (by simp) (by simp)
end Go.Proofs.YtiomojlcnemnhaaGreatDoor

namespace Go.Proofs.YtiomojlcnemnhaaGreatDoor
open Go.Fx Go.RowKit Go.Ped
variable {G : World → Prop}
theorem canF_app : ∀ (l : List Name) (n : Nat) (v : Name), canF n (l ++ [v]) = canF n l ++ [⟨v, ⟨vName (n + l.length), zeroV⟩⟩]
  | [], n, v => rfl
  | u :: l, n, v => by
    rw [List.cons_append, canF, canF, canF_app l (n + 1) v, List.length_cons]
    simp [Nat.add_comm, Nat.add_left_comm]
theorem canF_keys : ∀ (l : List Name) (n : Nat), keys (canF n l) = l
  | [], _ => rfl
  | v :: l, n => by
    have := canF_keys l (n + 1)
    unfold keys at this ⊢
    rw [canF, List.map_cons, this]
theorem putP_can (l : List Tm) : putP (canS (varsOf l)) = putS (canS (varsOf l)) := by
  funext t
  rw [putS_can]
  unfold putP nextOf
  rw [canF_find]
  by_cases hm : t.v ∈ varsOf l
  · rw [if_pos hm, if_pos ⟨vars_isVar hm, hm⟩, Nat.zero_add]; rfl
  · rw [if_neg hm, if_neg fun h => hm h.2]; rfl
theorem itoa_nat (i : Nat) : Lib.itoa (i : Int) = Lib.decDigits i := by
  unfold Lib.itoa
  rw [if_neg (by omega), Int.toNat_natCast]
def canonR (r : Rule) : CR := if ruleOk r = true then .tup [.agg (canon r).row, .one (cI .i64 0)] else .tup [.agg zeroRule, .one (cI .i64 40)]
theorem applyR_can (r : Rule) : applyR (putS (canS (varsOf r.terms))) r = canonR r := by
  unfold applyR canonR
  by_cases h : ruleOk r = true
  · rw [if_pos ⟨h, canon_ok h⟩, if_pos h]; rfl
  · rw [if_neg fun x => h x.1, if_neg h]
theorem v138c (k : Nat) (hk : k < 5000) (m : List Pr) (r : Rule) (hs : r.small 1048576) (hle : r.terms.length ≤ 2000000) : MeetsV Tryz.prog G (fnA 83) [.one (.mapr k), .agg (r.row.map A.c)] (hp (OP k m) [] F0) (applyR (putP m) r).open (hp (OP k m) [] F0) := by
  have h0 := v138 (G := G) m r hs hle
  obtain ⟨cells, n, hres⟩ := applyR_form (putP m) r
  rw [hres] at h0 ⊢
  by_cases e : k = 8
  · subst e; exact h0
  have h := h0.ren (π := swR 8 k)
  simp [swF, nx_ren2, CR.open, CX.open] at h
  simpa [CR.open, CX.open] using h
set_option maxHeartbeats 1000000 in
theorem m2032 (r : Rule) (hs : r.small 1048576) (hle : r.terms.length ≤ 1048576) : Meets Tryz.prog GT 32 [.agg r.row] (canonR r) := by
  have hvl : (varsOf r.terms).length ≤ 1048576 := by
    have h2 := varsOn_length (r.terms.map Tm.v) []
    simp only [List.length_nil, List.length_map, Nat.zero_add] at h2
    exact Nat.le_trans h2 hle
  have h96 : Meets Tryz.prog GT 96 [.agg r.row] (.x (.one (.sl ((varsOf r.terms).map nmRow) []))) := m68 (G := GT) r hs (by omega)
  have h83 := v138c (G := GT) 7 (by omega) (canS (varsOf r.terms)) r hs (by omega)
  rw [putP_can, applyR_can] at h83
  have hnd := vars_nodup r.terms
  have hrow : r.row = [cS (bs r.p), .sl (r.head.map Arg.row) r.hsp, .sl (r.body.map Lit.row) r.bsp] := rfl
  have hres : ∃ a b c n, canonR r = .tup [.agg [a, b, c], .one (cI .i64 n)] := by
    unfold canonR
    split
    · exact ⟨_, _, _, _, rfl⟩
    · exact ⟨_, _, _, _, rfl⟩
  obtain ⟨c1, c2, c3, n, hres⟩ := hres
  rw [hres] at h83 ⊢
  generalize varsOf r.terms = vs at *
  rw [hrow] at h96 h83 ⊢
  refine meets Tryz.func32 ie2032 ig2032 (Nat.le_of_ble_eq_true rfl) ?_
  simp [ic2032, ir2032]
  refine call_of h96 ?_
  simp
  refine w_loopA [] [] [1, 2, 3, 4, 9, 10, 11] (by simp [ownKey])
    (fun i : Nat => st [(1, .k true (.x (.one (.ref 1 0 0)))), (2, .k true (.x (.one (.ref 2 0 0)))), (3, tI .i64 0), (4, .k true (.x (.one (.mapr 7)))), (9, .k true (.x (.one (.c (.sl (vs.map nmRow) []))))), (10, tI .i64 vs.length), (11, tI .i64 i)]
      [(7, ⟨0, 5, (canS (vs.take i)).map nxRow, some (.string, false)⟩), (2, ⟨29, 3, [[.c (cS (bs [])), .nil, .nil]], none⟩), (1, ⟨29, 3, [[.c (cS (bs r.p)), .c (.sl (r.head.map Arg.row) r.hsp), .c (.sl (r.body.map Lit.row) r.bsp)]], none⟩)] [] F0) (fun i => vs.length - i)
    (fun i => i ≤ vs.length) 0 (by simp [canF]; try rfl) (by simp) ?_
  rintro i K hK hi
  obtain hlt | hge := Nat.lt_or_ge i vs.length
  · have h99 := m207 (i : Int) (by omega) (by omega)
    rw [itoa_nat] at h99
    have hnot : vs[i] ∉ keys (canS (vs.take i)) := by
      rw [canF_keys]
      intro hm
      obtain ⟨j, hj, e⟩ := List.mem_iff_getElem.1 hm
      rw [List.length_take] at hj
      rw [List.getElem_take] at e
      have := (List.getElem_inj hnd).1 e
      omega
    have hput := nx_put vs[i] ⟨vName i, zeroV⟩ (canS (vs.take i)) hnot
    have hnext : canS (vs.take (i + 1)) = canS (vs.take i) ++ [⟨vs[i], ⟨vName i, zeroV⟩⟩] := by
      rw [List.take_succ_eq_append_getElem hlt]
      show canF 0 _ = _
      rw [canF_app, List.length_take, Nat.min_eq_left (Nat.le_of_lt hlt), Nat.zero_add]
    rw [← hnext] at hput
    have hy : (⟨vName i, zeroV⟩ : Tm).row = [cS (bs (86 :: Lib.decDigits i)), cI .i8 0, cI .i64 0, cS (bs [])] := rfl
    rw [hy] at hput
    simp only [List.map_cons, List.map_nil] at hput
    have hdl := dec_len 19 i (by omega)
    simp [ic2032l0, hlt]
    refine call_of h99 ?_
    simp
    refine ⟨by omega, ?_⟩
    rw [hput]
    simp (disch := omega) only [wrap64]
    exact hK (i + 1) _ (by simp [nx_strike']; try rfl) (by omega) (by omega)
  · have hi2 : i = vs.length := by omega
    subst hi2
    simp [ic2032l0]
    refine r_callW _ _ (OP 7 (canS vs)) [] _ (OP 7 (canS vs)) [] h83 rfl rfl rfl (by simp [X.fits, A.fits]) (by simp) ?_
    simp [CR.open, CX.open]
end Go.Proofs.YtiomojlcnemnhaaGreatDoor

namespace Go.Proofs.YtiomojlcnemnhaaGreatDoor
open Go.Fx Go.RowKit Go.Ped
variable {G : World → Prop}
theorem exSame_all : ∀ (l m : List Ex), exSame l m = all2B Ex.same l m
  | [], [] => rfl
  | [], _ :: _ => rfl
  | _ :: _, [] => rfl
  | a :: l, b :: m => by rw [exSame, all2B, exSame_all l m]
theorem Ex.same_mk (op op' : Int) (t t' : Tm) (kids kids' : List Ex) (sp sp' : Sp) : (Ex.mk op t kids sp).same (.mk op' t' kids' sp') = (op == op' && t == t' && all2B Ex.same kids kids') := by rw [Ex.same, exSame_all]
def Lit.sameB (x y : Lit) : Bool := x.kind == y.kind && x.rel == y.rel && (x.p == y.p && decide (x.l = y.l)) && x.left.same y.left && x.right.same y.right
def Rule.sameB (r q : Rule) : Bool := r.p == q.p && decide (r.head = q.head) && all2B Lit.sameB r.body q.body
end Go.Proofs.YtiomojlcnemnhaaGreatDoor

namespace Go.Proofs.YtiomojlcnemnhaaGreatDoor
open Go.Fx Go.RowKit Go.Ped
variable {G : World → Prop}
def alikeB (a b : Rule) : Bool := ruleOk a && ruleOk b && (canon a).sameB (canon b)
theorem canon_small {r : Rule} (h : r.small 1048576) : (canon r).small 1048576 := Rule.mapT_small _ h
theorem canon_terms_len (r : Rule) : (canon r).terms.length = r.terms.length := by unfold canon; rw [Rule.mapT_terms, List.length_map]
theorem canonR_row (r : Rule) (h : ruleOk r = true) : canonR r = .tup [.agg [cS (bs (canon r).p), .sl ((canon r).head.map Arg.row) [], .sl ((canon r).body.map Lit.row) []], .one (cI .i64 0)] := by
  unfold canonR; rw [if_pos h]; rfl
theorem canonR_no (r : Rule) (h : ¬ ruleOk r = true) : canonR r = .tup [.agg zeroRule, .one (cI .i64 40)] := by
  unfold canonR; rw [if_neg h]
end Go.Proofs.YtiomojlcnemnhaaGreatDoor

namespace Go.Proofs.YtiomojlcnemnhaaGreatDoor
open Go.Fx Go.RowKit Go.Ped
variable {G : World → Prop}
theorem all2_flat {α β : Type} {p q : α → α → Bool} {f : α → List β} : ∀ {l m : List α}, (∀ a ∈ l, ∀ b ∈ m, p a b = true → (f a).length = (f b).length ∧ (f a = f b ↔ q a b = true)) → all2B p l m = true → (l.flatMap f).length = (m.flatMap f).length ∧ (l.flatMap f = m.flatMap f ↔ all2B q l m = true)
  | [], [], _, _ => by simp [all2B]
  | [], _ :: _, _, h => by cases h
  | _ :: _, [], _, h => by cases h
  | a :: l, b :: m, hf, h => by
    rw [all2B, Bool.and_eq_true] at h
    obtain ⟨h1, h2⟩ := hf a (List.mem_cons_self ..) b (List.mem_cons_self ..) h.1
    obtain ⟨h3, h4⟩ := all2_flat (l := l) (m := m) (fun x hx y hy => hf x (List.mem_cons_of_mem _ hx) y (List.mem_cons_of_mem _ hy)) h.2
    rw [List.flatMap_cons, List.flatMap_cons, all2B, Bool.and_eq_true]
    refine ⟨by rw [List.length_append, List.length_append, h1, h3], fun e => ?_, fun e => ?_⟩
    · obtain ⟨e1, e2⟩ := List.append_inj e h1
      exact ⟨h2.1 e1, h4.1 e2⟩
    · rw [h2.2 e.1, h4.2 e.2]
theorem all2_imp {α : Type} {p q : α → α → Bool} : ∀ {l m : List α}, (∀ a ∈ l, ∀ b ∈ m, p a b = true → q a b = true) → all2B p l m = true → all2B q l m = true
  | [], [], _, _ => rfl
  | [], _ :: _, _, h => by cases h
  | _ :: _, [], _, h => by cases h
  | a :: l, b :: m, hf, h => by
    rw [all2B, Bool.and_eq_true] at h ⊢
    exact ⟨hf a (List.mem_cons_self ..) b (List.mem_cons_self ..) h.1, all2_imp (fun x hx y hy => hf x (List.mem_cons_of_mem _ hx) y (List.mem_cons_of_mem _ hy)) h.2⟩
theorem ex_shape_same : ∀ (e e' : Ex), e.shape e' = true → e.terms.length = e'.terms.length ∧ (e.terms = e'.terms ↔ e.same e' = true) := by
  refine Ex.ind fun op t kids sp ih e' h => ?_
  obtain ⟨op', t', kids', sp'⟩ := e'
  rw [Ex.shape_mk, Bool.and_eq_true, beq_iff_eq] at h
  obtain ⟨h1, h2⟩ := all2_flat (q := Ex.same) (f := Ex.terms) (fun a ha b _ hs => ih a ha b hs) h.2
  rw [Ex.terms_mk, Ex.terms_mk, Ex.same_mk]
  simp only [List.length_cons, h1, List.cons.injEq, h2, h.1, BEq.rfl, Bool.true_and, Bool.and_eq_true, beq_iff_eq, true_and]
theorem ex_same_shape : ∀ (e e' : Ex), e.same e' = true → e.shape e' = true := by
  refine Ex.ind fun op t kids sp ih e' h => ?_
  obtain ⟨op', t', kids', sp'⟩ := e'
  rw [Ex.same_mk, Bool.and_eq_true, Bool.and_eq_true] at h
  rw [Ex.shape_mk, Bool.and_eq_true]
  exact ⟨h.1.1, all2_imp (fun a ha b _ hs => ih a ha b hs) h.2⟩
theorem lit_kin_same (x y : Lit) (h : x.kin y = true) : x.terms.length = y.terms.length ∧ (x.terms = y.terms ↔ x.sameB y = true) := by
  unfold Lit.kin at h
  simp only [Bool.and_eq_true, beq_iff_eq] at h
  obtain ⟨⟨⟨⟨⟨h1, h2⟩, h3⟩, h4⟩, h5⟩, h6⟩ := h
  obtain ⟨l1, l2⟩ := ex_shape_same _ _ h5
  obtain ⟨r1, r2⟩ := ex_shape_same _ _ h6
  unfold Lit.terms Lit.sameB
  simp only [h1, h2, h3, BEq.rfl, Bool.true_and, Bool.and_eq_true, decide_eq_true_eq]
  refine ⟨by simp only [List.length_append, h4, l1, r1], fun e => ?_, fun e => ?_⟩
  · obtain ⟨e1, e2⟩ := List.append_inj e (by rw [List.length_append, List.length_append, h4, l1])
    obtain ⟨e3, e4⟩ := List.append_inj e1 h4
    exact ⟨⟨e3, l2.1 e4⟩, r2.1 e2⟩
  · rw [e.1.1, l2.2 e.1.2, r2.2 e.2]
theorem lit_same_kin (x y : Lit) (h : x.sameB y = true) : x.kin y = true := by
  unfold Lit.sameB at h
  unfold Lit.kin
  simp only [Bool.and_eq_true, beq_iff_eq, decide_eq_true_eq] at h ⊢
  exact ⟨⟨⟨⟨⟨h.1.1.1.1, h.1.1.1.2⟩, h.1.1.2.1⟩, by rw [h.1.1.2.2]⟩, ex_same_shape _ _ h.1.2⟩, ex_same_shape _ _ h.2⟩
theorem head_agg : ∀ (l m : List Arg), all2B Arg.agg1 l m = true → (l.map Arg.t).length = (m.map Arg.t).length ∧ (l.map Arg.t = m.map Arg.t ↔ l = m)
  | [], [], _ => by simp
  | [], _ :: _, h => by cases h
  | _ :: _, [], h => by cases h
  | a :: l, b :: m, h => by
    rw [all2B, Bool.and_eq_true] at h
    obtain ⟨h1, h2⟩ := head_agg l m h.2
    obtain ⟨g, t⟩ := a
    obtain ⟨g', t'⟩ := b
    have hg : g = g' := by simpa [Arg.agg1] using h.1
    subst hg
    simp only [List.map_cons, List.length_cons, h1, List.cons.injEq, h2, Arg.mk.injEq, true_and]
theorem head_refl : ∀ l : List Arg, all2B Arg.agg1 l l = true
  | [] => rfl
  | a :: l => by rw [all2B, head_refl l]; simp [Arg.agg1]
theorem prog_same (X Y : Rule) : (X.p == Y.p && all2B Arg.agg1 X.head Y.head && all2B Lit.kin X.body Y.body && decide (X.terms = Y.terms)) = X.sameB Y := by
  rw [Bool.eq_iff_iff]
  unfold Rule.sameB Rule.terms
  simp only [Bool.and_eq_true, beq_iff_eq, decide_eq_true_eq]
  constructor
  · rintro ⟨⟨⟨h1, h2⟩, h3⟩, h4⟩
    obtain ⟨g1, g2⟩ := head_agg _ _ h2
    obtain ⟨e1, e2⟩ := List.append_inj h4 g1
    exact ⟨⟨h1, g2.1 e1⟩, (all2_flat (fun a _ b _ hs => lit_kin_same a b hs) h3).2.1 e2⟩
  · rintro ⟨⟨h1, h2⟩, h3⟩
    have hk := all2_imp (fun a _ b _ hs => lit_same_kin a b hs) h3
    exact ⟨⟨⟨h1, by rw [h2]; exact head_refl _⟩, hk⟩, by rw [h2, (all2_flat (fun a _ b _ hs => lit_kin_same a b hs) hk).2.2 h3]⟩
set_option maxHeartbeats 4000000 in
theorem m2033 (a b : Rule) (ha : a.small 1048576) (hb : b.small 1048576) (hla : a.terms.length ≤ 1048576) (hlb : b.terms.length ≤ 1048576) : Meets Tryz.prog GT 33 [.agg a.row, .agg b.row] (.x (.one (cB (alikeB a b)))) := by
  have h1 := m2032 a ha hla
  have h2 := m2032 b hb hlb
  have sa := canon_small ha
  have sb := canon_small hb
  have h3 := m2101 (G := GT) (canon a).head (canon b).head [] [] sa.1 sb.1 (fun k _ k' _ => m2100 k k')
  have h4 := m2102 (G := GT) (canon a).body (canon b).body [] [] sa.2.1 sb.2.1 (fun k hk k' hk' => m2103 k k' (sa.2.2 k hk) (sb.2.2 k' hk'))
  have rca : (canon a).row = [cS (bs (canon a).p), .sl ((canon a).head.map Arg.row) [], .sl ((canon a).body.map Lit.row) []] := rfl
  have rcb : (canon b).row = [cS (bs (canon b).p), .sl ((canon b).head.map Arg.row) [], .sl ((canon b).body.map Lit.row) []] := rfl
  have hwa : Walks GT (.ifc 143 (.elem [(canon a).row] [] 0 0)) (canon a).terms := fun fv H H' hfv hc => m126_rule hfv (canon a) sa [(canon a).row] [] 0 0 H H' ⟨(canon a).row, rfl, rfl⟩ hc
  have hwb : Walks GT (.ifc 143 (.elem [(canon b).row] [] 0 0)) (canon b).terms := fun fv H H' hfv hc => m126_rule hfv (canon b) sb [(canon b).row] [] 0 0 H H' ⟨(canon b).row, rfl, rfl⟩ hc
  have h5 := m2104 (G := GT) (.ifc 143 (.elem [(canon a).row] [] 0 0)) (.ifc 143 (.elem [(canon b).row] [] 0 0)) _ _ trivial (fun _ => rfl) (fun _ => rfl) trivial (fun _ => rfl) (fun _ => rfl) (by rw [canon_terms_len]; omega) (by rw [canon_terms_len]; omega) hwa hwb
  have ra : a.row = [cS (bs a.p), .sl (a.head.map Arg.row) a.hsp, .sl (a.body.map Lit.row) a.bsp] := rfl
  have rb : b.row = [cS (bs b.p), .sl (b.head.map Arg.row) b.hsp, .sl (b.body.map Lit.row) b.bsp] := rfl
  unfold alikeB
  rw [← prog_same]
  rw [ra] at h1 ⊢
  rw [rb] at h2 ⊢
  rw [rca, rcb] at h5
  refine meets Tryz.func33 ie2033 ig2033 (Nat.le_of_ble_eq_true rfl) ?_
  by_cases oa : ruleOk a = true
  · by_cases ob : ruleOk b = true
    · rw [canonR_row a oa] at h1
      rw [canonR_row b ob] at h2
      rw [oa, ob]
      generalize all2B Arg.agg1 (canon a).head (canon b).head = s1 at *
      generalize all2B Lit.kin (canon a).body (canon b).body = s2 at *
      generalize decide ((canon a).terms = (canon b).terms) = s3 at *
      generalize (canon a).p = a1 at *
      generalize (canon a).head.map Arg.row = a2 at *
      generalize (canon a).body.map Lit.row = a3 at *
      generalize (canon b).p = b1 at *
      generalize (canon b).head.map Arg.row = b2 at *
      generalize (canon b).body.map Lit.row = b3 at *
      simp [ic2033, ir2033]
      refine call_of h1 ?_
      simp
      refine call_of h2 ?_
      by_cases hp : a1 = b1
      · subst hp
        simp [freeze_st, fzL, freezeO, maxLen, closeL, A.close]
        refine call_of h3 ?_
        cases s1 with
        | true =>
          simp
          refine call_of h4 ?_
          cases s2 with
          | true =>
            simp
            refine r_callW _ _ [] [] _ [] [] (MeetsV.of_fun h5) rfl rfl rfl (by simp [CX.open, X.fits, A.fits]) (by simp) ?_
            simp
          | false =>
            simp
            refine r_callVF (.x (.one (.c (cB true)))) rfl ?_
            simp
        | false =>
          simp
          refine call_no (.x (.one (cB true))) ?_
          simp
          refine r_callVF (.x (.one (.c (cB true)))) rfl ?_
          simp
      · simp [hp]
    · rw [canonR_row a oa] at h1
      rw [canonR_no b ob] at h2
      simp only [Bool.not_eq_true] at ob
      rw [oa, ob]
      generalize (canon a).p = a1 at *
      generalize (canon a).head.map Arg.row = a2 at *
      generalize (canon a).body.map Lit.row = a3 at *
      simp [ic2033, ir2033]
      refine call_of h1 ?_
      simp
      refine call_of h2 ?_
      simp
  · rw [canonR_no a oa] at h1
    simp only [Bool.not_eq_true] at oa
    rw [oa]
    simp [ic2033, ir2033]
    refine call_of h1 ?_
    simp
    by_cases ob : ruleOk b = true
    · rw [canonR_row b ob] at h2
      generalize (canon b).p = b1 at *
      generalize (canon b).head.map Arg.row = b2 at *
      generalize (canon b).body.map Lit.row = b3 at *
      refine call_of h2 ?_
      simp
    · rw [canonR_no b ob] at h2
      refine call_of h2 ?_
      simp
end Go.Proofs.YtiomojlcnemnhaaGreatDoor

import Derived.Test.YtiomojlcnemnhaaDoorGDxLd
import Derived.Test.YtiomojlcnemnhaaDoorGDxLa
namespace Go.Proofs
def Tryd.lays216_ren : Go.Shelf.Ren := ⟨fun | 41 => 216 | n => n, fun | 22 => 52 | 23 => 9 | 4 => 4 | n => n, fun | n => n⟩
theorem Tryd.lays216 : Go.Proofs.SlLaysE0.n41 Tryd.prog Tryd.lays216_ren := {
  mixed := by kernel_rfl
  f41 := ⟨Tryd.f216.name, by decide, Tryd.func216.trans (congrArg some (by kernel_rfl))⟩
  t4 := Tryd.underlying4
  a4 := Tryd.isAgg4
  z4 := Tryd.sizeOf4
  v4 := Tryd.zeroValue4
  t22 := Tryd.underlying52
  a22 := Tryd.isAgg52
  z22 := Tryd.sizeOf52
  v22 := Tryd.zeroValue52 }
end Go.Proofs
namespace Go.Proofs.YtiomojlcnemnhaaDoor
open Go.Fx Go.RowKit Go.Ped
variable {G : World → Prop}
theorem info9 : ∃ i0 z, Tryd.prog.info? 9 = some i0 ∧ i0.zero = some z ∧ i0.size = 1 ∧ i0.bytes = 16 ∧ z.cells.size = 1 := by
  have e1 : (Tryd.prog.info? 9).map (·.bytes) = some 16 := by kernel_rfl
  have e2 : (Tryd.prog.info? 9).map (·.size) = some 1 := by kernel_rfl
  have e3 : ((Tryd.prog.info? 9).bind fun i => i.zero.map fun z => z.cells.size) = some 1 := by kernel_rfl
  obtain ⟨i0, h, h1⟩ := Option.map_eq_some_iff.1 e1
  rw [h] at e2 e3
  obtain ⟨z, h3, h4⟩ := Option.map_eq_some_iff.1 (show i0.zero.map (fun z => z.cells.size) = some 1 from e3)
  exact ⟨i0, z, h, h3, by simpa using e2, h1, h4⟩
set_option maxRecDepth 100000 in
set_option maxHeartbeats 1000000 in
theorem delete_none {w : World} {sb mb cap : Nat} {ns : List Name} {ad : Option Addr} (hk : KnownAt w mb ns) (hsb : sb < w.heap.size) (hc : w.cell? ⟨sb, 1, none⟩ = some (.map (some mb))) :
    Calls Tryd.prog 215 #[.slice ad 0 cap, fvHas sb] w fun e w' => e = .returned (.slice ad 0 cap) ∧ Below w.heap.size w w' := by
  have hidx := index_calls (w := w) (sb := sb) (blk := 0) (cap := cap) (l := []) (ad := ad) hk hsb hc (fun h => absurd rfl h) (fun h => absurd rfl h) (fun j hj => absurd hj (Nat.not_lt_zero _)) (by simp [maxLen]) (Nat.zero_le _)
  rw [first_none (fun v hv => by cases hv)] at hidx
  simp only [List.length_nil] at hidx
  go_enter Tryd.func215, Tryd.ntmps215
  go_wp2_with fail
  refine hidx.mono ?_
  rintro e w1 ⟨rfl, hb1⟩
  go_wp2_with fail
  simp [bodyPost, results, Tryd.results215, go_sem]
  exact hb1
theorem names_of {V : Nat → Nat → Prop} {w : World} : ∀ {l : List Name} {xs : List Value}, All2 (RepC V w) (l.map nmRow).flatten xs → xs = l.map strV
  | [], xs, h => h.nil_left
  | v :: l, xs, h => by
    have h' : All2 (RepC V w) (cS (bs v) :: (l.map nmRow).flatten) xs := h
    obtain ⟨u, xs', rfl, hu, h''⟩ := h'.head
    rw [names_of h'']
    cases hu
    rfl
theorem names_flat : ∀ m : List Name, (m.map nmRow).flatten = m.map fun v => cS (bs v)
  | [] => rfl
  | v :: m => by rw [List.map_cons, List.flatten_cons, names_flat m]; rfl
theorem kept_belowU {N b : Nat} {w w1 w2 : World} (h : Below N w w1) (hN : N ≤ b) (hN2 : N ≤ w1.heap.size) (k : KeptBut (fun c => c = b) w1 w2) : Below N w w2 :=
  ⟨by rw [k.os, h.os], by rw [k.tape, h.tape], by rw [k.output, h.output], Nat.le_trans h.size k.size, fun i hi => by rw [k.block i (by omega) (by omega), h.block i hi]⟩
theorem names_rep {V : Nat → Nat → Prop} {w : World} {g cap : Nat} {m : List Name} {rest : List Value} (hg : w.heap[g]? = some (.cells (m.map strV ++ rest).toArray 9 (0, 0))) (hc : m.length ≤ cap) (hm : cap ≤ maxLen) (hV : ∀ o, V g o) :
    RepC V w (.sl (m.map nmRow) []) (.slice (some ⟨g, 0, none⟩) m.length cap) := by
  have hfl : (m.map nmRow ++ []).flatten = m.map fun v => cS (bs v) := by
    rw [List.append_nil, names_flat]
  refine .sl _ _ 1 g 0 m.length cap (m.map strV) (by rw [List.length_map]) (by simpa using hc) hm ?_ ?_ (fun j u hj => ⟨?_, hV _⟩) (fun j c u hj hu => ?_)
  · intro e he
    rw [List.append_nil] at he
    obtain ⟨v, _, rfl⟩ := List.mem_map.1 he
    rfl
  · rw [hfl, List.length_map, List.length_map]
  · have hlt : j < m.length := by have := (List.getElem?_eq_some_iff.1 hj).1; rwa [List.length_map] at this
    simp only [World.cell?, hg, Nat.zero_add]
    simp only [List.getElem?_toArray]
    rw [List.getElem?_append_left (by rwa [List.length_map])]
    exact hj
  · rw [hfl, List.getElem?_map] at hj
    rw [List.getElem?_map] at hu
    cases h : m[j]? with
    | none => rw [h] at hj; cases hj
    | some v =>
      rw [h] at hj hu
      cases hj
      cases hu
      exact .v _ rfl
set_option maxRecDepth 100000 in
set_option maxHeartbeats 2000000 in
theorem unknown_calls {w : World} {V : Nat → Nat → Prop} {sb mb : Nat} {ns l : List Name} {sp : Sp} {v : Value} (hk : KnownAt w mb ns) (hsb : sb < w.heap.size) (hc : w.cell? ⟨sb, 1, none⟩ = some (.map (some mb))) (hl : l.length ≤ 1048576) (hv : RepC V w (.sl (l.map nmRow) sp) v) :
    Calls Tryd.prog 194 #[.pointer (some ⟨sb, 0, none⟩), v] w fun e w' => ∃ v', e = .returned v' ∧ RepC (fun b o => V b o ∨ w.heap.size ≤ b) w' (.sl ((unk ns l).map nmRow) []) v' ∧ Below w.heap.size w w' := by
  obtain ⟨i0, z, hi, hz0, hz1, hz2, hzs⟩ := info9
  have hcl := clone_any Tryd.lays216 i0 z 1 16 hi hz0 hz1 hz2 hzs (by decide) (fun w => Tryd.sizeOf9 w) (l.map nmRow) sp (fun r hr => by obtain ⟨v, _, rfl⟩ := List.mem_map.1 hr; rfl) (by rw [List.length_map]; omega) hv
  have hone := hv.oneCell
  go_enter Tryd.func194, Tryd.ntmps194
  go_wp2_with fail
  refine hcl.mono ?_
  rintro e w1 ⟨v1, xs, rfl, hown, hxs, hb1⟩
  rw [names_of hxs, List.length_map] at hown
  have hk1 := hk.frame (hb1.block mb hk.lt)
  have hc1 : w1.cell? ⟨sb, 1, none⟩ = some (.map (some mb)) := (hb1.cell (p := ⟨sb, 1, none⟩) hsb).trans hc
  have hsb1 : sb < w1.heap.size := Nat.lt_of_lt_of_le hsb hb1.size
  obtain ⟨_, ⟨rfl, hn0⟩ | ⟨g, cap, cur, rfl, hbase, hg, hnc, hm, hsz, htk⟩⟩ := hown
  · have hd := delete_none (cap := 0) (ad := none) hk1 hsb1 hc1
    have hl0 : l = [] := List.length_eq_zero_iff.1 hn0
    subst hl0
    go_wp2_with fail
    refine hd.mono ?_
    rintro e w2 ⟨rfl, hb2⟩
    go_wp2_with fail
    simp [bodyPost, results, Tryd.results194, go_sem]
    exact ⟨.nil 0, hb1.trans (hb2.mono hb1.size)⟩
  · rw [Nat.mul_one] at htk
    have hcur : cur = (l.map strV ++ cur.toList.drop l.length).toArray := by
      rw [← htk, List.take_append_drop, Array.toArray_toList]
    rw [hcur] at hg
    have hd := delete_calls hk1 hsb1 hc1 (blk := g) (by omega) (by have := hk.lt; omega) hg hnc hm
    clear hg htk hcur
    go_wp2_with fail
    refine hd.mono ?_
    rintro e w2 ⟨rfl, hg2, hk2⟩
    have hrep : RepC (fun b o => V b o ∨ w.heap.size ≤ b) w2 (.sl ((unk ns l).map nmRow) []) (.slice (some ⟨g, 0, none⟩) (unk ns l).length cap) :=
      names_rep (rest := List.replicate (l.length - (unk ns l).length) (strV []) ++ cur.toList.drop l.length) (by rw [hg2, List.append_assoc]) (Nat.le_trans (List.length_filter_le _ _) hnc) hm (fun o => .inr hbase)
    have hbw := kept_belowU hb1 hbase hb1.size hk2
    clear hg2
    go_wp2_with fail
    simp [bodyPost, results, Tryd.results194, go_sem]
    exact ⟨by simpa using hrep, hbw⟩
theorem m194 (body : C) (ns l : List Name) (sp : Sp) (hl : l.length ≤ 1048576) : MeetsH Tryd.prog G 194 [.one (.ref 10009 0 0), .one (.c (.sl (l.map nmRow) sp))] (hp (OS 10009 10007 body ns) [] F0) (.x (.one (.c (.sl ((unk ns l).map nmRow) [])))) (hp (OS 10009 10007 body ns) [] F0) := by
  refine MeetsH.of_reader (res := .x (.one (.sl ((unk ns l).map nmRow) []))) (by kernel_rfl) ?_ ?_ ?_
  · intro x hx
    simp only [List.mem_cons, List.not_mem_nil, or_false] at hx
    rcases hx with rfl | rfl <;> trivial
  · intro k b hb rr hrr
    rw [hp_objs0] at hb
    simp only [OS, lookO_cons, lookO_nil] at hb
    split at hb
    · injection hb with hb
      subst hb
      simp only [List.mem_singleton] at hrr
      subst hrr
      exact ⟨trivial, trivial, trivial⟩
    · split at hb
      · injection hb with hb
        subst hb
        obtain ⟨v, _, rfl⟩ := List.mem_map.1 hrr
        exact ⟨trivial, trivial⟩
      · cases hb
  · intro w env F vs hG hmem ha
    obtain ⟨v0, vs', rfl, hv0, ha⟩ := ha.head
    obtain ⟨v1, vs'', rfl, hv1, ha⟩ := ha.head
    obtain rfl := ha.nil_left
    obtain ⟨b, us', g1, g2, g3, g4, g5⟩ := hmem.objs 10007 ⟨0, 1, ns.map knRow, some (.string, false)⟩ (by rw [hp_objs0]; simp)
    obtain ⟨sb, su, h1, h2, h3, h4, h5⟩ := hmem.objs 10009 ⟨239, 2, [[.c body, .mapr 10007]], none⟩ (by rw [hp_objs0]; simp)
    have hkn := known_of g2 g3
    obtain ⟨b0, s0, q1, rfl⟩ := (show ∃ b s, env.ρ 10009 = some (b, s) ∧ v0 = .pointer (some ⟨b, 0 * s + 0, none⟩) from hv0)
    rw [h1] at q1
    injection q1 with q1
    injection q1 with e1 e2
    subst e1
    obtain ⟨ob, hob, hol⟩ := h2
    obtain ⟨x0, su', rfl, _, h3'⟩ := (show All2 (RepA env (hp (OS 10009 10007 body ns) [] F0).toks w) [.c body, .mapr 10007] su from h3).head
    obtain ⟨x1, su'', rfl, hx1, h3''⟩ := h3'.head
    obtain rfl := h3''.nil_left
    obtain ⟨b1, s1, q2, rfl⟩ := (show ∃ b s, env.ρ 10007 = some (b, s) ∧ x1 = .map (some b) from hx1)
    rw [g1] at q2
    injection q2 with q2
    injection q2 with e3 e4
    subst e3
    have hcell : w.cell? ⟨sb, 1, none⟩ = some (.map (some b)) := by
      rw [World.cell?]
      simp only [hob]
      obtain ⟨ex, rfl⟩ := (show ∃ ex : List Value, ob = .cells ([x0, .map (some b)] ++ ex).toArray 239 (0, 0) from hol)
      rfl
    rw [Nat.zero_mul]
    exact (unknown_calls hkn (hmem.ρlt _ _ _ h1) hcell hl hv1).mono fun e w' h => h
end Go.Proofs.YtiomojlcnemnhaaDoor

namespace Go.Proofs.YtiomojlcnemnhaaDoor
open Go.Fx Go.RowKit Go.Ped
variable {G : World → Prop}
def bitsTo (n : Nat) : Int := 2 ^ n - 1
theorem m148 (n : Nat) (hn : n ≤ 24) : Meets Tryd.prog G 148 [.one (cI .i64 n)] (.x (.one (cI .u32 (bitsTo n)))) := by
  refine meets Tryd.func148 ie148 ig148 (Nat.le_of_ble_eq_true rfl) ?_
  simp [ic148, ir148]
  have h : ∀ m : Fin 25, IntKind.u32.wrap (IntKind.u32.wrap (2 ^ min m.val IntKind.u32.bits) - 1) = 2 ^ m.val - 1 := by decide +kernel
  exact h ⟨n, by omega⟩
theorem m214 (l : List Name) (v : Name) (sp : Sp) (hl : l.length ≤ maxLen) : Meets Tryd.prog G 214 [.one (.sl (l.map nmRow) sp), .one (cS (bs v))] (.x (.one (cI .i64 (if l.contains v then (l.idxOf v : Int) else -1)))) := by
  unfold maxLen at hl
  refine meets Tryd.func214 ie214 ig214 (Nat.le_of_ble_eq_true rfl) ?_
  generalize hR : (if l.contains v then (l.idxOf v : Int) else -1) = R
  simp [ic214, ir214]
  refine w_loopA [] [] [0, 1, 4, 7, 8] (by simp [ownKey])
    (fun i : Nat => st [(0, .k true (.x (.one (.c (.sl (l.map nmRow) sp))))), (1, .k true (.x (.one (.c (cS (bs v)))))), (4, tI .i64 0), (7, tI .i64 l.length), (8, tI .i64 i)] [] [] F0) (fun i => l.length - i)
    (fun i => i ≤ l.length ∧ v ∉ l.take i) 0 (by simp) (by simp) ?_
  rintro i K hK ⟨hi, hd⟩
  obtain hlt | hge := Nat.lt_or_ge i l.length
  · by_cases hv : v = l[i]
    · have hc : l.contains v = true := by rw [List.contains_iff_mem]; rw [hv]; exact List.getElem_mem hlt
      have hx : l.idxOf v = i := by
        have hsp : l = l.take i ++ l[i] :: l.drop (i + 1) := by rw [← List.drop_eq_getElem_cons hlt, List.take_append_drop]
        rw [hsp, List.idxOf_append, if_neg hd, ← hv, List.idxOf_cons_self, List.length_take]
        omega
      rw [if_pos hc, hx] at hR
      subst hR
      simp [ic214l0, hlt, ← hv]
    · simp [ic214l0, hlt, hv]
      simp (disch := omega) only [wrap64]
      refine hK (i + 1) _ (by simp) ⟨by omega, ?_⟩ (by omega)
      intro h
      rw [List.take_succ_eq_append_getElem hlt, List.mem_append, List.mem_singleton] at h
      exact h.elim hd hv
  · rw [List.take_of_length_le hge] at hd
    rw [if_neg (by simpa using hd)] at hR
    subst hR
    simp [ic214l0, Nat.not_lt.mpr hge]
theorem m192 (l : List Name) (v : Name) (sp : Sp) (hl : l.length ≤ maxLen) : Meets Tryd.prog G 192 [.one (.sl (l.map nmRow) sp), .one (cS (bs v))] (.x (.one (cB (l.contains v)))) := by
  have h := m214 (G := G) l v sp hl
  refine meets Tryd.func192 ie192 ig192 (Nat.le_of_ble_eq_true rfl) ?_
  simp [ic192, ir192]
  refine call_of h ?_
  by_cases hc : l.contains v = true
  · simp only [hc, if_true]
    simp
    simpa using hc
  · simp only [Bool.not_eq_true] at hc
    simp only [hc]
    simp
    simpa using hc
theorem m80 (l : List Name) (v : Name) (sp : Sp) (hl : l.length ≤ maxLen) : Meets Tryd.prog G 80 [.one (.sl (l.map nmRow) sp), .one (cS (bs v))] (.x (.one (cB (l.contains v)))) := by
  unfold maxLen at hl
  refine meets Tryd.func80 ie80 ig80 (Nat.le_of_ble_eq_true rfl) ?_
  generalize hR : l.contains v = R
  simp [ic80, ir80]
  refine w_loopA [] [] [0, 1, 4, 5] (by simp [ownKey])
    (fun i : Nat => st [(0, .k true (.x (.one (.c (.sl (l.map nmRow) sp))))), (1, .k true (.x (.one (.c (cS (bs v)))))), (4, tB false), (5, tI .i64 i)] [] [] F0) (fun i => l.length - i)
    (fun i => i ≤ l.length ∧ v ∉ l.take i) 0 (by simp) (by simp) ?_
  rintro i K hK ⟨hi, hd⟩
  obtain hlt | hge := Nat.lt_or_ge i l.length
  · by_cases hv : l[i] = v
    · have hc : l.contains v = true := by rw [List.contains_iff_mem, ← hv]; exact List.getElem_mem hlt
      rw [hc] at hR
      subst hR
      simp [ic80l0, hlt, hv]
    · simp [ic80l0, hlt, hv]
      simp (disch := omega) only [wrap64]
      refine hK (i + 1) _ (by simp) ⟨by omega, ?_⟩ (by omega)
      intro h
      rw [List.take_succ_eq_append_getElem hlt, List.mem_append, List.mem_singleton] at h
      exact h.elim hd fun e => hv e.symm
  · rw [List.take_of_length_le hge] at hd
    have hc : l.contains v = false := by simpa using hd
    rw [hc] at hR
    subst hR
    simp [ic80l0, Nat.not_lt.mpr hge]
theorem m150 (l m : List Name) (sp sq : Sp) (hl : l.length ≤ maxLen) : Meets Tryd.prog G 150 [.one (.sl (l.map nmRow) sp), .one (.sl (m.map nmRow) sq)] (.x (.one (cB (decide (l = m))))) := by
  unfold maxLen at hl
  refine meets Tryd.func150 ie150 ig150 (Nat.le_of_ble_eq_true rfl) ?_
  by_cases hlen : l.length = m.length
  · generalize hR : decide (l = m) = R
    simp [ic150, ir150, hlen]
    refine w_loopA [] [] [0, 1, 4, 12, 13] (by simp [ownKey])
      (fun i : Nat => st [(0, .k true (.x (.one (.c (.sl (l.map nmRow) sp))))), (1, .k true (.x (.one (.c (.sl (m.map nmRow) sq))))), (4, tB false), (12, tI .i64 l.length), (13, tI .i64 i)] [] [] F0) (fun i => l.length - i)
      (fun i => i ≤ l.length ∧ l.take i = m.take i) 0 (by simp [hlen]) (by simp) ?_
    rintro i K hK ⟨hi, hd⟩
    obtain hlt | hge := Nat.lt_or_ge i l.length
    · have hlt' : i < m.length := by omega
      by_cases hv : l[i] = m[i]
      · simp [ic150l0, hlt, hlt', hv]
        simp (disch := omega) only [wrap64]
        refine hK (i + 1) _ (by simp) ⟨by omega, ?_⟩ (by omega)
        rw [List.take_succ_eq_append_getElem hlt, List.take_succ_eq_append_getElem hlt', hd, hv]
      · have hne : l ≠ m := fun e => hv (by subst e; rfl)
        rw [decide_eq_false hne] at hR
        subst hR
        simp [ic150l0, hlt, hlt', hv]
    · rw [List.take_of_length_le hge, List.take_of_length_le (by omega)] at hd
      rw [decide_eq_true hd] at hR
      subst hR
      simp [ic150l0, Nat.not_lt.mpr hge]
  · have hne : l ≠ m := fun e => hlen (by rw [e])
    rw [decide_eq_false hne]
    have hb : ((l.length : Int) == (m.length : Int)) = false := by rw [beq_eq_false_iff_ne]; omega
    simp [ic150, ir150, hb]
end Go.Proofs.YtiomojlcnemnhaaDoor

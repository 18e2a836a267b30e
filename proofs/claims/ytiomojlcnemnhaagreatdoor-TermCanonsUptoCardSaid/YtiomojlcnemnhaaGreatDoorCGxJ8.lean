import Derived.Test.YtiomojlcnemnhaaGreatDoorCGxJ3
import Derived.Test.YtiomojlcnemnhaaGreatDoorCGxX11
import Derived.Test.YtiomojlcnemnhaaGreatDoorCGxJ4
import Derived.Test.YtiomojlcnemnhaaGreatDoorCGxY3
namespace Go.Proofs.YtiomojlcnemnhaaGreatDoor
open Go.Fx Go.RowKit Go.Ped
variable {G : World → Prop}
theorem nx_ren2 (r : Nat → Nat) : renL r ∘ nxRow = nxRow := funext fun p => by simp [nxRow]
end Go.Proofs.YtiomojlcnemnhaaGreatDoor

namespace Go.Fx
open Go.RowKit
section
variable {P : Program} {G : World → Prop}
theorem MeetsH.of_reader {f : FuncId} {args : List X} {res : CR} {h : Hp} (hcl : callable P f = true) (hx : ∀ x ∈ args, x.only (fun _ => True) (fun k => h.toks k ≠ none)) (ho : h.only (fun _ => True) (fun k => h.toks k ≠ none))
    (hm : ∀ (w : World) (env : Env) (F : Nat → Prop) (vs : List Value), HeldM G (Owned env h F) w → HMem env h F w → All2 (RepX env h.toks w) args vs →
      Calls P f vs.toArray w fun e w' => ∃ v, e = .returned v ∧ RepCR (fun b o => env.V b o ∨ w.heap.size ≤ b) w' res v ∧ Below w.heap.size w w') : MeetsH P G f args h res.open h := by
  refine ⟨hcl, hx, ho, fun w env F vs hG hmem hfr ha => ?_⟩
  refine (hm w env F vs hG hmem ha).mono ?_
  rintro e w' ⟨v, rfl, hr, hb⟩
  have hcell : ∀ b o, env.V b o → w'.cell? ⟨b, o, none⟩ = w.cell? ⟨b, o, none⟩ := fun b o hv => hb.cell (p := ⟨b, o, none⟩) (hmem.vlt b o hv)
  let env' : Env := { env with V := fun b o => env.V b o ∨ (w.heap.size ≤ b ∧ b < w'.heap.size) }
  have hle : env.Le env' h.toks h.toks w w' := ⟨fun _ _ x => .inl x, hcell, fun _ _ x => x, fun _ t x => ⟨t, x, rfl, Nat.le_refl _, fun _ => rfl⟩⟩
  have hV : ∀ b o, b < w.heap.size → env'.V b o → env.V b o := fun b o hlt hv => hv.elim id fun h => absurd hlt (Nat.not_lt.mpr h.1)
  refine ⟨v, env', F, rfl, openR_rep (fun b o h => h.1.elim .inl fun hh => .inr ⟨hh, h.2⟩) hr.bound, {
    mem := {
      vlt := fun b o hv => hv.elim (fun h => Nat.lt_of_lt_of_le (hmem.vlt b o h) hb.size) fun h => h.2
      ρlt := fun k b s hk => Nat.lt_of_lt_of_le (hmem.ρlt k b s hk) hb.size
      τlt := fun k v b hk hv => Nat.lt_of_lt_of_le (hmem.τlt k v b hk hv) hb.size
      objs := fun k x hk => by
        obtain ⟨b, us, g1, g2, g3, g4, g5⟩ := hmem.objs k x hk
        exact ⟨b, us, g1, g2.of (hb.block b g2.lt), g3.imp fun _ _ _ => RepA.mono hle, g4, fun o hv => g5 o (hV b o g2.lt hv)⟩
      inj := hmem.inj
      toks := fun k t hk => by
        obtain ⟨v, xs, g1, g2, g3⟩ := hmem.toks k t hk
        exact ⟨v, xs, g1, ownsRow_of_block g2 fun b hv => hb.block b (g2.lt b hv).2, fun b hv => ⟨fun o ho hh => (g3 b hv).1 o ho (hV b o (g2.lt b hv).2 hh), (g3 b hv).2⟩⟩
      tinj := hmem.tinj
      sep := hmem.sep
      ext := h.ext.mono (w := w) (fun _ _ x => .inl x) hcell (fun b hF => hb.block b (hmem.flt b hF).1) hmem.ext
      flt := fun b hF => by
        obtain ⟨g1, g2, g3, g4⟩ := hmem.flt b hF
        exact ⟨Nat.lt_of_lt_of_le g1 hb.size, fun o hv => g2 o (hV b o g1 hv), g3, g4⟩ }
    kept := KeptBut.of_below hb
    owned := fun b hb => .inr hb
    vold := fun b o hv => .inl hv
    vcell := hcell
    vnew := fun b o hv => hv.imp id fun h => .inl h.1
    ρold := fun _ _ x => x
    ρnew := fun _ _ x => .inl x
    τold := fun _ _ _ => rfl
    τnew := fun k v hk => .inl (by rw [show env.τ k = some v from hk]; simp)
    tok := fun k t t' h1 h2 => by rw [h1] at h2; injection h2 with h2; subst h2; exact ⟨rfl, Nat.le_refl _, fun _ => rfl⟩ }⟩
end
end Go.Fx

namespace Go.Proofs.YtiomojlcnemnhaaGreatDoor
open Go.Fx Go.RowKit Go.Ped
variable {G : World → Prop}
def Lit.mapT (f : Tm → Tm) (x : Lit) : Lit := ⟨x.kind, x.p, x.l.map f, [], x.rel, x.left.mapT f, x.right.mapT f⟩
def Arg.mapT (f : Tm → Tm) (a : Arg) : Arg := { a with t := f a.t }
def Rule.mapT (f : Tm → Tm) (r : Rule) : Rule := ⟨r.p, r.head.map (Arg.mapT f), [], r.body.map (Lit.mapT f), []⟩
theorem Ex.mapT_bare (f : Tm → Tm) : ∀ e : Ex, e.bare.mapT f = e.mapT f := by
  refine Ex.ind fun op t kids sp ih => ?_
  rw [Ex.bare_mk, Ex.mapT_mk, Ex.mapT_mk, List.map_map]
  congr 1
  exact List.map_congr_left ih
theorem LitM.put_lit (m : List Pr) (x : LitM) : (x.put m).lit = x.lit.mapT (putP m) := by
  unfold LitM.put LitM.lit Lit.mapT
  simp only [Nd.put_ex]
theorem Lit.mapT_bareL (f : Tm → Tm) (x : Lit) : x.bareL.mapT f = x.mapT f := by
  unfold Lit.bareL Lit.mapT
  simp only [Ex.mapT_bare]
theorem RuleM.put_rule (m : List Pr) (r : RuleM) : (r.put m).rule = r.rule.mapT (putP m) := by
  unfold RuleM.put RuleM.rule Rule.mapT
  simp only [List.map_map]
  congr 1
  exact List.map_congr_left fun x _ => LitM.put_lit m x
theorem Rule.mapT_bareR (f : Tm → Tm) (r : Rule) : r.bareR.mapT f = r.mapT f := by
  unfold Rule.bareR Rule.mapT
  simp only [List.map_map]
  congr 1
  exact List.map_congr_left fun x _ => Lit.mapT_bareL f x
theorem Ex.mapT_terms (f : Tm → Tm) : ∀ e : Ex, (e.mapT f).terms = e.terms.map f := by
  refine Ex.ind fun op t kids sp ih => ?_
  rw [Ex.mapT_mk, Ex.terms_mk, Ex.terms_mk, List.map_cons, List.flatMap_map, List.map_flatMap]
  congr 1
  rw [List.flatMap_def, List.flatMap_def, List.map_congr_left ih]
theorem Ex.mapT_small (f : Tm → Tm) {N : Nat} : ∀ e : Ex, e.small N → (e.mapT f).small N := by
  refine Ex.ind fun op t kids sp ih h => ?_
  obtain ⟨h1, h2⟩ := Ex.small_mk.1 h
  rw [Ex.mapT_mk]
  refine Ex.small_mk.2 ⟨by rw [List.length_map]; exact h1, fun k hk => ?_⟩
  obtain ⟨y, hy, rfl⟩ := List.mem_map.1 hk
  exact ih y hy (h2 y hy)
theorem Lit.mapT_terms (f : Tm → Tm) (x : Lit) : (x.mapT f).terms = x.terms.map f := by
  unfold Lit.mapT Lit.terms
  simp only [Ex.mapT_terms, List.map_append]
theorem Rule.mapT_terms (f : Tm → Tm) (r : Rule) : (r.mapT f).terms = r.terms.map f := by
  unfold Rule.mapT Rule.terms
  simp only [List.map_append, List.map_map, List.flatMap_map, List.map_flatMap]
  congr 1
  rw [List.flatMap_def, List.flatMap_def]
  congr 1
  exact List.map_congr_left fun x _ => Lit.mapT_terms f x
theorem Rule.mapT_small (f : Tm → Tm) {N : Nat} {r : Rule} (h : r.small N) : (r.mapT f).small N := by
  obtain ⟨h1, h2, h3⟩ := h
  refine ⟨by simpa [Rule.mapT] using h1, by simpa [Rule.mapT] using h2, fun x hx => ?_⟩
  obtain ⟨y, hy, rfl⟩ := List.mem_map.1 (show x ∈ r.body.map (Lit.mapT f) from hx)
  obtain ⟨a, b, c⟩ := h3 y hy
  exact ⟨by simpa [Lit.mapT] using a, Ex.mapT_small f _ b, Ex.mapT_small f _ c⟩
abbrev zeroRule : List C := [cS (bs []), .sl [] [], .sl [] []]
theorem three_set {W : World} {b : Nat} {ty : TypeId} {x0 x1 x2 : Value} (v0 v1 v2 : Value) (hb : W.heap[b]? = some (.cells [x0, x1, x2].toArray ty (0, 0))) :
    ∃ A1 A2 A3, W.setCell ⟨b, 0, none⟩ v0 = A1 ∧ A1.setCell ⟨b, 1, none⟩ v1 = A2 ∧ A2.setCell ⟨b, 2, none⟩ v2 = A3 ∧
      W.cell? ⟨b, 0, none⟩ = some x0 ∧ W.frozen? ⟨b, 0, none⟩ = false ∧ A1.cell? ⟨b, 1, none⟩ = some x1 ∧ A1.frozen? ⟨b, 1, none⟩ = false ∧ A2.cell? ⟨b, 2, none⟩ = some x2 ∧ A2.frozen? ⟨b, 2, none⟩ = false ∧
      A3.cell? ⟨b, 0, none⟩ = some v0 ∧ A3.cell? ⟨b, 1, none⟩ = some v1 ∧ A3.cell? ⟨b, 2, none⟩ = some v2 ∧
      A3.heap[b]? = some (.cells [v0, v1, v2].toArray ty (0, 0)) ∧ KeptBut (fun c => c = b) W A3 := by
  obtain ⟨h1, c1, f1, k1⟩ := cells_set (W := W) (n := 0) (pre := []) (post := [x1, x2]) (v := v0) rfl hb
  obtain ⟨h2, c2, f2, k2⟩ := cells_set (n := 1) (pre := [v0]) (post := [x2]) (v := v1) rfl h1
  obtain ⟨h3, c3, f3, k3⟩ := cells_set (n := 2) (pre := [v0, v1]) (post := []) (v := v2) rfl h2
  exact ⟨_, _, _, rfl, rfl, rfl, c1, f1, c2, f2, c3, f3, by simp [World.cell?, h3], by simp [World.cell?, h3], by simp [World.cell?, h3], h3, kept_same (kept_same k1 k2) k3⟩
theorem kept_below {N b : Nat} {w w1 w2 : World} (h : Below N w w1) (hN : N ≤ b) (hN2 : N ≤ w1.heap.size) (k : KeptBut (fun c => c = b) w1 w2) : Below N w w2 :=
  ⟨by rw [k.os, h.os], by rw [k.tape, h.tape], by rw [k.output, h.output], Nat.le_trans h.size k.size, fun i hi => by rw [k.block i (by omega) (by omega), h.block i hi]⟩
theorem zero_rule_rep {V : Nat → Nat → Prop} {w : World} (n : Int) : RepCR V w (.tup [.agg zeroRule, .one (cI .i64 n)]) (.tuple #[.agg #[.string ⟨#[]⟩, .slice none 0 0, .slice none 0 0], .int .i64 n]) :=
  ⟨[.agg #[.string ⟨#[]⟩, .slice none 0 0, .slice none 0 0], .int .i64 n], rfl, .cons ⟨[.string ⟨#[]⟩, .slice none 0 0, .slice none 0 0], rfl, .cons (.v _ rfl) (.cons (.nil 0) (.cons (.nil 0) .nil))⟩ (.cons (.v _ rfl) .nil)⟩
def applyR (f : Tm → Tm) (r : Rule) : CR :=
  if ruleOk r = true ∧ ruleOk (r.mapT f) = true then .tup [.agg (r.mapT f).row, .one (cI .i64 0)] else .tup [.agg zeroRule, .one (cI .i64 40)]
set_option maxRecDepth 100000 in
set_option maxHeartbeats 4000000 in
theorem apply_calls (m : List Pr) (r : Rule) (hs : r.small 1048576) (hle : r.terms.length ≤ 2000000) (w : World) (V : Nat → Nat → Prop) (mb : Nat) (v1 v2 : Value) (hG : Held G w) (hV : ∀ b o, V b o → b < w.heap.size) (hm : MapAt w mb m)
    (h1 : RepC V w (.sl (r.head.map Arg.row) r.hsp) v1) (h2 : RepC V w (.sl (r.body.map Lit.row) r.bsp) v2) :
    Calls Tryz.prog 83 #[.map (some mb), .agg #[.string (bs r.p), v1, v2]] w fun e w' => ∃ v, e = .returned v ∧ RepCR (fun b o => V b o ∨ w.heap.size ≤ b) w' (applyR (putP m) r) v ∧ Below w.heap.size w w' := by
  have o1 := h1.oneCell
  have o2 := h2.oneCell
  have k2 : Below w.heap.size w ((w.alloc (.cells #[.string (bs r.p), v1, v2] 29)).alloc (.cells #[.string ⟨#[]⟩, .slice none 0 0, .slice none 0 0] 29)) := Below.alloc (Below.alloc (Below.refl _ _) (Nat.le_refl _) _) (by rw [alloc_size]; omega) _
  have hcheck : ∀ (w1 : World) (u1 u2 : Value) (V1 : Nat → Nat → Prop) (r1 : Rule), r1.small 1048576 → r1.terms.length ≤ 2000000 → Below w.heap.size w w1 → (∀ b o, V1 b o → b < w1.heap.size) → All2 (RepC V1 w1) r1.row [.string (bs r1.p), u1, u2] →
      Calls Tryz.prog 93 #[.agg #[.string (bs r1.p), u1, u2]] w1 fun e w' => e = .returned (.int .i64 (if ruleOk r1 then 0 else 40)) ∧ Below w1.heap.size w1 w' := fun w1 u1 u2 V1 r1 q1 q2 q3 q4 q5 => by
    refine ((m66 (G := G) r1 q1 q2).2 w1 V1 [.agg #[.string (bs r1.p), u1, u2]] (hG.later q3) q4 (.cons ⟨_, rfl, q5⟩ .nil)).mono ?_
    rintro e w' ⟨v, rfl, hv, hb⟩
    refine ⟨?_, hb⟩
    have hv' : RepC _ w' (.v _) v := hv
    cases hv'
    rfl
  go_enter Tryz.func83, Tryz.ntmps83
  go_wp2_with fail
  have hN0 : ((w.alloc (.cells #[.string (bs r.p), v1, v2] 29)).alloc (.cells #[.string ⟨#[]⟩, .slice none 0 0, .slice none 0 0] 29)).heap[w.heap.size]? = some (.cells [.string (bs r.p), v1, v2].toArray 29 (0, 0)) := by
    rw [alloc_heap, if_neg (by rw [alloc_size]; omega), alloc_heap, if_pos rfl]
  have hN1 : ((w.alloc (.cells #[.string (bs r.p), v1, v2] 29)).alloc (.cells #[.string ⟨#[]⟩, .slice none 0 0, .slice none 0 0] 29)).heap[w.heap.size + 1]? = some (.cells [.string ⟨#[]⟩, .slice none 0 0, .slice none 0 0].toArray 29 (0, 0)) := by
    rw [alloc_heap, if_pos (by rw [alloc_size])]
  have hNs : ((w.alloc (.cells #[.string (bs r.p), v1, v2] 29)).alloc (.cells #[.string ⟨#[]⟩, .slice none 0 0, .slice none 0 0] 29)).heap.size = w.heap.size + 2 := by
    rw [alloc_size, alloc_size]
  generalize (w.alloc (.cells #[.string (bs r.p), v1, v2] 29)).alloc (.cells #[.string ⟨#[]⟩, .slice none 0 0, .slice none 0 0] 29) = wa at *
  refine (hcheck wa v1 v2 V r hs hle k2 (fun b o h => by have := hV b o h; omega) (.cons (.v _ rfl) (.cons (RepC.mono (fun _ _ h => h) (fun b o h => below_cell k2 (hV b o h) o) h1) (.cons (RepC.mono (fun _ _ h => h) (fun b o h => below_cell k2 (hV b o h) o) h2) .nil)))).mono ?_
  rintro e wb ⟨rfl, kb⟩
  rw [hNs] at kb
  have kwb : Below w.heap.size w wb := k2.trans (kb.mono (by omega))
  have szb : w.heap.size + 2 ≤ wb.heap.size := by have := kb.size; omega
  have hb0 : wb.heap[w.heap.size]? = some (.cells [.string (bs r.p), v1, v2].toArray 29 (0, 0)) := by rw [kb.block _ (by omega)]; exact hN0
  have hb1 : wb.heap[w.heap.size + 1]? = some (.cells [.string ⟨#[]⟩, .slice none 0 0, .slice none 0 0].toArray 29 (0, 0)) := by rw [kb.block _ (by omega)]; exact hN1
  clear hN0 hN1 hNs kb k2
  by_cases hok : ruleOk r = true
  · rw [if_pos hok]
    have p0 : wb.cell? ⟨w.heap.size, 0, none⟩ = some (.string (bs r.p)) := by simp [World.cell?, hb0]
    have p1 : wb.cell? ⟨w.heap.size, 1, none⟩ = some v1 := by simp [World.cell?, hb0]
    have p2 : wb.cell? ⟨w.heap.size, 2, none⟩ = some v2 := by simp [World.cell?, hb0]
    go_wp2_with fail
    refine (cloneR r hs wb V v1 v2 (fun b o h => by have := hV b o h; omega) (RepC.mono (fun _ _ h => h) (fun b o h => below_cell kwb (hV b o h) o) h1) (RepC.mono (fun _ _ h => h) (fun b o h => below_cell kwb (hV b o h) o) h2)).mono ?_
    rintro e wc ⟨rm, rfl, hrm, hin, hlo, kc⟩
    have szc := kc.size
    obtain ⟨ha, hcp, hhv, _⟩ := ownsRow_len hin.head
    obtain ⟨ba, bcp, hbv, _⟩ := ownsRow_len hin.body
    have hrp : rm.p = r.p := congrArg Rule.p hrm
    have hcellsR : rm.cells.toArray = #[.string (bs r.p), .slice ha rm.hs.length hcp, .slice ba rm.ls.length bcp] := by
      unfold RuleM.cells; rw [hrp, hhv, hbv]
    obtain ⟨A1, A2, A3, e1, e2, e3, c1, f1, c2, f2, c3, f3, c4, c5, c6, hA, kA⟩ := three_set (W := wc) (b := w.heap.size) (ty := 29) (.string (bs r.p)) (.slice ha rm.hs.length hcp) (.slice ba rm.ls.length bcp) ((kc.block _ (by omega)).trans hb0)
    have hkA : Below w.heap.size w A3 := kept_below (kwb.trans (kc.mono (by omega))) (Nat.le_refl _) (by omega) kA
    have hA1 : A3.heap[w.heap.size + 1]? = some (.cells [.string ⟨#[]⟩, .slice none 0 0, .slice none 0 0].toArray 29 (0, 0)) := by rw [kA.block _ (by omega) (by omega), kc.block _ (by omega)]; exact hb1
    rw [hcellsR]
    go_wp2_with fail
    have hinA : rm.In A3 := hin.frame fun b hb => kA.block b (by
        rcases List.mem_append.1 hb with hb | hb
        · exact (ownsRow_block hin.head b (svB_mem.1 hb)).2
        · rcases List.mem_append.1 hb with hb | hb
          · exact (ownsRow_block hin.body b (svB_mem.1 hb)).2
          · obtain ⟨x, hx, hb2⟩ := List.mem_flatMap.1 hb
            exact (hin.lits x hx).lt b hb2) (by have := hlo b hb; omega)
    have hwalk := walkR m mb rm A3 w.heap.size (hm.frame (hkA.block mb hm.lt)) (by have := hm.lt; omega) (fun h => by have := hlo mb h; have := hm.lt; omega) (by rw [hA, hcellsR]) hinA (fun h => by have := hlo _ h; omega)
    refine hwalk.mono ?_
    rintro e wd ⟨rfl, hd0, hind, kd⟩
    have hkd : Below w.heap.size w wd := ⟨by rw [kd.os, hkA.os], by rw [kd.tape, hkA.tape], by rw [kd.output, hkA.output], Nat.le_trans hkA.size kd.size, fun i hi => by rw [kd.block i (by have := hkA.size; omega) fun h => by have := hlo i h; omega, hkA.block i hi]⟩
    have szA := kA.size
    have szd := kd.size
    have hd1 : wd.heap[w.heap.size + 1]? = some (.cells [.string ⟨#[]⟩, .slice none 0 0, .slice none 0 0].toArray 29 (0, 0)) := by rw [kd.block _ (by omega) fun h => by have := hlo _ h; omega]; exact hA1
    rw [hA] at hd0
    have p0' : wd.cell? ⟨w.heap.size, 0, none⟩ = some (.string (bs r.p)) := by simp [World.cell?, hd0]
    have p1' : wd.cell? ⟨w.heap.size, 1, none⟩ = some (.slice ha rm.hs.length hcp) := by simp [World.cell?, hd0]
    have p2' : wd.cell? ⟨w.heap.size, 2, none⟩ = some (.slice ba rm.ls.length bcp) := by simp [World.cell?, hd0]
    go_wp2_with fail
    have hrule : (rm.put m).rule = r.mapT (putP m) := by rw [RuleM.put_rule, hrm, Rule.mapT_bareR]
    have hrepd : All2 (RepC (fun b _ => b ∈ rm.blks) wd) (r.mapT (putP m)).row [.string (bs r.p), .slice ha rm.hs.length hcp, .slice ba rm.ls.length bcp] := by
      have h := RuleM.rep (V := fun b _ => b ∈ rm.blks) hind (fun b hb _ => by rw [RuleM.put_blks] at hb; exact hb)
      rw [hrule] at h
      have hc : (rm.put m).cells = [.string (bs r.p), .slice ha rm.hs.length hcp, .slice ba rm.ls.length bcp] := by
        show [Value.string (bs rm.p), rm.hv, rm.bv] = _
        rw [hrp, hhv, hbv]
      rwa [hc] at h
    have hblt : ∀ b ∈ rm.blks, b < wd.heap.size := fun b hb => by
      have : b < wc.heap.size := by
        rcases List.mem_append.1 hb with hb | hb
        · exact (ownsRow_block hin.head b (svB_mem.1 hb)).2
        · rcases List.mem_append.1 hb with hb | hb
          · exact (ownsRow_block hin.body b (svB_mem.1 hb)).2
          · obtain ⟨x, hx, hb2⟩ := List.mem_flatMap.1 hb
            exact (hin.lits x hx).lt b hb2
      omega
    refine (hcheck wd _ _ (fun b _ => b ∈ rm.blks) (r.mapT (putP m)) (Rule.mapT_small _ hs) (by rw [Rule.mapT_terms, List.length_map]; exact hle) hkd (fun b o h => hblt b h) hrepd).mono ?_
    rintro e we ⟨rfl, ke⟩
    have hke : Below w.heap.size w we := hkd.trans (ke.mono hkd.size)
    have sze := ke.size
    have he1 : we.heap[w.heap.size + 1]? = some (.cells [.string ⟨#[]⟩, .slice none 0 0, .slice none 0 0].toArray 29 (0, 0)) := by rw [ke.block _ (by omega)]; exact hd1
    have he0 : we.heap[w.heap.size]? = some (.cells [.string (bs r.p), .slice ha rm.hs.length hcp, .slice ba rm.ls.length bcp].toArray 29 (0, 0)) := by rw [ke.block _ (by omega)]; exact hd0
    by_cases hok2 : ruleOk (r.mapT (putP m)) = true
    · rw [if_pos hok2]
      have p0'' : we.cell? ⟨w.heap.size, 0, none⟩ = some (.string (bs r.p)) := by simp [World.cell?, he0]
      have p1'' : we.cell? ⟨w.heap.size, 1, none⟩ = some (.slice ha rm.hs.length hcp) := by simp [World.cell?, he0]
      have p2'' : we.cell? ⟨w.heap.size, 2, none⟩ = some (.slice ba rm.ls.length bcp) := by simp [World.cell?, he0]
      obtain ⟨B1, B2, B3, e1, e2, e3, c1, f1, c2, f2, c3, f3, c4, c5, c6, hB, kB⟩ := three_set (.string (bs r.p)) (.slice ha rm.hs.length hcp) (.slice ba rm.ls.length bcp) he1
      have hkB : Below w.heap.size w B3 := kept_below hke (by omega) (by omega) kB
      go_wp2_with fail
      have happ : applyR (putP m) r = .tup [.agg (r.mapT (putP m)).row, .one (cI .i64 0)] := by unfold applyR; rw [if_pos ⟨hok, hok2⟩]
      simp [bodyPost, results, Tryz.results138, go_sem, c4, c5, c6]
      rw [happ]
      refine ⟨⟨[.agg #[.string (bs r.p), .slice ha rm.hs.length hcp, .slice ba rm.ls.length bcp], .int .i64 0], rfl, .cons ⟨_, rfl, hrepd.imp fun c u _ h => RepC.mono (fun b o h => .inr (by have := hlo b h; omega)) (fun b o h => ?_) h⟩ (.cons (.v _ rfl) .nil)⟩, hkB⟩
      have hb := hblt b h
      have hh : B3.heap[b]? = wd.heap[b]? := (kB.block b (by omega) (by have := hlo b h; omega)).trans (ke.block b hb)
      simp only [World.cell?, hh]
    · rw [if_neg hok2]
      obtain ⟨B1, B2, B3, e1, e2, e3, c1, f1, c2, f2, c3, f3, c4, c5, c6, hB, kB⟩ := three_set (.string ⟨#[]⟩) (.slice none 0 0) (.slice none 0 0) he1
      have hkB : Below w.heap.size w B3 := kept_below hke (by omega) (by omega) kB
      go_wp2_with fail
      have happ : applyR (putP m) r = .tup [.agg zeroRule, .one (cI .i64 40)] := by unfold applyR; rw [if_neg fun h => hok2 h.2]
      simp [bodyPost, results, Tryz.results138, go_sem, c4, c5, c6]
      rw [happ]
      exact ⟨zero_rule_rep 40, hkB⟩
  · rw [if_neg hok]
    obtain ⟨B1, B2, B3, e1, e2, e3, c1, f1, c2, f2, c3, f3, c4, c5, c6, hB, kB⟩ := three_set (.string ⟨#[]⟩) (.slice none 0 0) (.slice none 0 0) hb1
    have hkB : Below w.heap.size w B3 := kept_below kwb (by omega) (by omega) kB
    go_wp2_with fail
    have happ : applyR (putP m) r = .tup [.agg zeroRule, .one (cI .i64 40)] := by unfold applyR; rw [if_neg fun h => hok h.1]
    simp [bodyPost, results, Tryz.results138, go_sem, c4, c5, c6]
    rw [happ]
    exact ⟨zero_rule_rep 40, hkB⟩
theorem m138 (m : List Pr) (r : Rule) (hs : r.small 1048576) (hle : r.terms.length ≤ 2000000) : MeetsH Tryz.prog G 83 [.one (.mapr 10008), .agg (r.row.map A.c)] (hp (OP 10008 m) [] F0) (applyR (putP m) r).open (hp (OP 10008 m) [] F0) := by
  refine MeetsH.of_reader (by kernel_rfl) ?_ ?_ ?_
  · intro x hx
    simp only [List.mem_cons, List.not_mem_nil, or_false] at hx
    rcases hx with rfl | rfl
    · trivial
    · exact onlyL_c _
  · intro k b hb rr hrr
    rw [hp_objs0] at hb
    simp only [OP, lookO_cons, lookO_nil] at hb
    split at hb
    · injection hb with hb
      subst hb
      exact onlyN rr hrr
    · cases hb
  · intro w env F vs hG hmem ha
    obtain ⟨v0, vs', rfl, hv0, ha⟩ := ha.head
    obtain ⟨v1, vs'', rfl, hv1, ha⟩ := ha.head
    obtain rfl := ha.nil_left
    obtain ⟨mb, s, hρ, rfl⟩ := (show ∃ b s, env.ρ 10008 = some (b, s) ∧ v0 = .map (some b) from hv0)
    obtain ⟨us, rfl, hus⟩ := hv1
    obtain ⟨b, us', g1, g2, g3, g4, g5⟩ := hmem.objs 10008 ⟨0, 5, m.map nxRow, some (.string, false)⟩ (by rw [hp_objs0]; simp)
    rw [g1] at hρ
    injection hρ with hρ
    injection hρ with e1 e2
    subst e1
    have hm := mapAt_of g2 g3
    have hrow : All2 (RepC env.V w) r.row us := All2.of_map_left (f := A.c) hus
    obtain ⟨u0, us, rfl, q0, hrow⟩ := hrow.head
    obtain ⟨u1, us, rfl, q1, hrow⟩ := hrow.head
    obtain ⟨u2, us, rfl, q2, hrow⟩ := hrow.head
    obtain rfl := hrow.nil_left
    cases q0
    exact apply_calls m r hs hle w env.V b u1 u2 (fun w' hb => hG w' (KeptBut.of_below hb)) hmem.vlt hm q1 q2
end Go.Proofs.YtiomojlcnemnhaaGreatDoor

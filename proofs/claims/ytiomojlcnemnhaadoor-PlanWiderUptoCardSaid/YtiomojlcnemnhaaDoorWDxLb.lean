import Derived.Test.YtiomojlcnemnhaaDoorWDxJ3
import Derived.Test.YtiomojlcnemnhaaDoorWDxLa
import Derived.Shelf.SlicesE.DeleteFunc
namespace Go.Proofs.YtiomojlcnemnhaaDoor
open Go.Fx Go.RowKit Go.Ped
theorem cells_set {W : World} {b n : Nat} {ty : TypeId} {pre post : List Value} {x v : Value} (hn : n = pre.length) (hb : W.heap[b]? = some (.cells (pre ++ x :: post).toArray ty (0, 0))) :
    (W.setCell ⟨b, n, none⟩ v).heap[b]? = some (.cells (pre ++ v :: post).toArray ty (0, 0)) ∧ W.cell? ⟨b, n, none⟩ = some x ∧ W.frozen? ⟨b, n, none⟩ = false ∧ KeptBut (fun c => c = b) W (W.setCell ⟨b, n, none⟩ v) := by
  subst hn
  refine ⟨?_, ?_, ?_, ⟨rfl, rfl, rfl, ?_, fun i hi hne => ?_⟩⟩
  · simp [World.setCell, Array.getElem?_modify, hb]
  · simp [World.cell?, hb]
  · simp [World.frozen?, hb]
  · simp [World.setCell, Array.size_modify]
  · have hb' : ¬ b = i := fun e => hne e.symm
    simp only [World.setCell, Array.getElem?_modify, hb', if_false]
theorem kept_same {M : Nat → Prop} {w w1 w2 : World} (h : KeptBut M w w1) (h' : KeptBut M w1 w2) : KeptBut M w w2 := h.trans h' fun _ h => .inr h
end Go.Proofs.YtiomojlcnemnhaaDoor

namespace Go.Fx
open Go.RowKit
section
variable {P : Program} {G : World → Prop}
theorem MeetsH.of_reader {f : FuncId} {args : List X} {res : CR} {h : Hp} (hcl : callable P f = true) (hx : ∀ x ∈ args, x.only (fun _ => True) (fun k => h.toks k ≠ none)) (ho : h.only (fun _ => True) (fun k => h.toks k ≠ none))
    (hm : ∀ (w : World) (env : Env) (F : Nat → Prop) (vs : List Value), HeldM G (Owned env h F) w → HMem env h F w → All2 (RepX env h.toks w) args vs →
      Calls P f vs.toArray w fun e w' => ∃ v, e = .returned v ∧ RepCR (fun b o => env.V b o ∨ w.heap.size ≤ b) w' res v ∧ Below w.heap.size w w') : MeetsH P G f args h res.open h := by
  refine ⟨hcl, hx, ho, fun w env F vs hG hmem hfr ha => ?_⟩
  refine (hm w env F vs hG hmem ha).mono ?_
  rintro e w' ⟨v, rfl, hr, hb⟩
  have hcell : ∀ b o, env.V b o → w'.cell? ⟨b, o, none⟩ = w.cell? ⟨b, o, none⟩ := fun b o hv => hb.cell (p := ⟨b, o, none⟩) (hmem.vlt b o hv)
  let env' : Env := { env with V := fun b o => env.V b o ∨ (w.heap.size ≤ b ∧ b < w'.heap.size) }
  have hle : env.Le env' h.toks h.toks w w' := ⟨fun _ _ x => .inl x, hcell, fun _ _ x => x, fun _ t x => ⟨t, x, rfl, Nat.le_refl _, fun _ => rfl⟩⟩
  have hV : ∀ b o, b < w.heap.size → env'.V b o → env.V b o := fun b o hlt hv => hv.elim id fun h => absurd hlt (Nat.not_lt.mpr h.1)
  refine ⟨v, env', F, rfl, openR_rep (fun b o h => h.1.elim .inl fun hh => .inr ⟨hh, h.2⟩) hr.bound, {
    mem := {
      vlt := fun b o hv => hv.elim (fun h => Nat.lt_of_lt_of_le (hmem.vlt b o h) hb.size) fun h => h.2
      ρlt := fun k b s hk => Nat.lt_of_lt_of_le (hmem.ρlt k b s hk) hb.size
      τlt := fun k v b hk hv => Nat.lt_of_lt_of_le (hmem.τlt k v b hk hv) hb.size
      objs := fun k x hk => by
        obtain ⟨b, us, g1, g2, g3, g4, g5⟩ := hmem.objs k x hk
        exact ⟨b, us, g1, g2.of (hb.block b g2.lt), g3.imp fun _ _ _ => RepA.mono hle, g4, fun o hv => g5 o (hV b o g2.lt hv)⟩
      inj := hmem.inj
      toks := fun k t hk => by
        obtain ⟨v, xs, g1, g2, g3⟩ := hmem.toks k t hk
        exact ⟨v, xs, g1, ownsRow_of_block g2 fun b hv => hb.block b (g2.lt b hv).2, fun b hv => ⟨fun o ho hh => (g3 b hv).1 o ho (hV b o (g2.lt b hv).2 hh), (g3 b hv).2⟩⟩
      tinj := hmem.tinj
      sep := hmem.sep
      ext := h.ext.mono (w := w) (fun _ _ x => .inl x) hcell (fun b hF => hb.block b (hmem.flt b hF).1) hmem.ext
      flt := fun b hF => by
        obtain ⟨g1, g2, g3, g4⟩ := hmem.flt b hF
        exact ⟨Nat.lt_of_lt_of_le g1 hb.size, fun o hv => g2 o (hV b o g1 hv), g3, g4⟩ }
    kept := KeptBut.of_below hb
    owned := fun b hb => .inr hb
    vold := fun b o hv => .inl hv
    vcell := hcell
    vnew := fun b o hv => hv.imp id fun h => .inl h.1
    ρold := fun _ _ x => x
    ρnew := fun _ _ x => .inl x
    τold := fun _ _ _ => rfl
    τnew := fun k v hk => .inl (by rw [show env.τ k = some v from hk]; simp)
    tok := fun k t t' h1 h2 => by rw [h1] at h2; injection h2 with h2; subst h2; exact ⟨rfl, Nat.le_refl _, fun _ => rfl⟩ }⟩
end
end Go.Fx

namespace Go.Proofs.YtiomojlcnemnhaaDoor
open Go.Fx Go.RowKit Go.Ped
def KnownAt (w : World) (mb : Nat) (ns : List Name) : Prop :=
  ∃ ob, w.heap[mb]? = some ob ∧ ∀ w' : World, w'.heap[mb]? = some ob → ∀ v : Name, (Instr.lookup 237 (.map (some mb)) (.string (bs v)) true).run Tryd.prog w' = .ok (.tuple #[.agg #[], .bool (ns.contains v)]) w'
theorem KnownAt.frame {w w' : World} {mb : Nat} {ns : List Name} (h : KnownAt w mb ns) (hb : w'.heap[mb]? = w.heap[mb]?) : KnownAt w' mb ns := by
  obtain ⟨ob, h1, h2⟩ := h
  exact ⟨ob, hb.trans h1, h2⟩
theorem KnownAt.run {w : World} {mb : Nat} {ns : List Name} (h : KnownAt w mb ns) (v : Name) : (Instr.lookup 237 (.map (some mb)) (.string (bs v)) true).run Tryd.prog w = .ok (.tuple #[.agg #[], .bool (ns.contains v)]) w := by
  obtain ⟨ob, h1, h2⟩ := h
  exact h2 w h1 v
theorem KnownAt.lt {w : World} {mb : Nat} {ns : List Name} (h : KnownAt w mb ns) : mb < w.heap.size := by
  obtain ⟨ob, h1, _⟩ := h
  exact (Array.getElem?_eq_some_iff.1 h1).1
theorem kn_find (v : Name) (ns : List Name) : (ns.map knRow).find? (keyEq (.string (bs v))) = if ns.contains v then some (knRow v) else none := by
  have h := kn_any v ns
  rw [← List.isSome_find?] at h
  split
  · rename_i hc
    rw [hc] at h
    obtain ⟨r, hr⟩ := Option.isSome_iff_exists.1 h
    rw [hr]
    obtain ⟨u, _, rfl⟩ := List.mem_map.1 (List.mem_of_find?_eq_some hr)
    have := List.find?_some hr
    rw [kn_key, beq_iff_eq] at this
    rw [this]
  · rename_i hc
    simp only [Bool.not_eq_true] at hc
    rw [hc] at h
    exact Option.isNone_iff_eq_none.1 (by rw [← Option.not_isSome, h]; rfl)
set_option maxRecDepth 100000 in
theorem known_of {env : Env} {toks : Nat → Option Fx.Tok} {w : World} {mb : Nat} {us : List Value} {ns : List Name} (hb : BoxIn w ⟨0, 1, ns.map knRow, some (.string, false)⟩ mb us)
    (hr : All2 (RepA env toks w) ((ns.map knRow).flatten) us) : KnownAt w mb ns := by
  obtain ⟨ob, g3, g3'⟩ := hb
  refine ⟨ob, g3, fun w' g3 v => ?_⟩
  obtain ⟨⟨es, clock, rfl, rfl, hl, _, hes⟩, hrows⟩ := g3'
  have hd : Tryd.prog.underlying 9 = some .string := Tryd.underlying9
  have ht : Tryd.prog.underlying 237 = some (.map 9 243) := Tryd.underlying237
  have hx : MapKept.IsKey .string (.string (bs v)) := by simp [MapKept.IsKey]
  have hal := aligned (by simpa using hl.symm) (fun r hr => by obtain ⟨p, _, rfl⟩ := List.mem_map.1 hr; rfl) (fun e he => (hes e he).2.1) hrows hr
  have hzr : (zeroValue 243).run Tryd.prog w' = .ok (.agg #[]) w' := Tryd.zeroValue243 w'
  have hfind := kn_find v ns
  rcases find_aligned hx 0 hal (fun e he => (hes e he).1) with ⟨q1, q2⟩ | ⟨j, r, e, q1, _, q3, _, q5, ⟨tl, q6, q7⟩, _⟩
  · have hrun := run_mlook true ht hd g3 hx hzr q2
    rw [hfind] at q1
    have hn : ns.contains v = false := by
      cases h : ns.contains v with
      | false => rfl
      | true => rw [h, if_pos rfl] at q1; cases q1
    rw [hrun, hn]
    rfl
  · have hrun := run_mlook true ht hd g3 hx hzr q3
    have he : e ∈ es.toList := List.mem_of_getElem? q5
    rw [hfind] at q1
    have hn : ns.contains v = true := by
      cases h : ns.contains v with
      | true => rfl
      | false => rw [h] at q1; cases q1
    rw [hn, if_pos rfl] at q1
    injection q1 with q1
    subst q1
    obtain ⟨cs, hcs⟩ := (hes e he).2.2.2 rfl
    have hval : e.val = .agg #[] := by
      have htl : tl = [] := (List.cons.inj q6).2.symm
      have h4 := q7.2
      rw [htl, hcs] at h4
      have h5 := h4.nil_left
      rw [hcs]
      congr 1
      exact Array.toList_eq_nil_iff.1 h5
    refine hrun.trans ?_
    rw [hn, hval]
    rfl
set_option maxRecDepth 100000 in
set_option maxHeartbeats 1000000 in
theorem has_calls {w : World} {sb mb : Nat} {ns : List Name} (hk : KnownAt w mb ns) (hc : w.cell? ⟨sb, 1, none⟩ = some (.map (some mb))) (v : Name) :
    Calls Tryd.prog 217 #[.pointer (some ⟨sb, 0, none⟩), .string (bs v)] w fun e w' => e = .returned (.bool (ns.contains v)) ∧ Below w.heap.size w w' := by
  have hrun := hk.run v
  go_enter Tryd.func217, Tryd.ntmps217
  go_wp2_with fail
  simp [bodyPost, results, Tryd.results217, go_sem]
  exact (Below.refl _ w).alloc (Nat.le_refl _) _
def firstIn (ns l : List Name) : Int := if l.findIdx ns.contains < l.length then (l.findIdx ns.contains : Int) else -1
theorem first_hit {ns l : List Name} {i : Nat} (hlt : i < l.length) (hno : ∀ v ∈ l.take i, ns.contains v = false) (h : ns.contains l[i] = true) : l.findIdx ns.contains = i := by
  rw [List.findIdx_eq hlt]
  refine ⟨h, fun j hj => ?_⟩
  exact hno _ (List.mem_take_iff_getElem.2 ⟨j, by omega, rfl⟩)
theorem first_none {ns l : List Name} (hno : ∀ v ∈ l, ns.contains v = false) : firstIn ns l = -1 := by
  unfold firstIn
  rw [if_neg]
  rw [List.findIdx_lt_length]
  rintro ⟨v, hv, h⟩
  rw [hno v hv] at h
  cases h
abbrev fvHas (sb : Nat) : Value := .func (.func 217) #[.pointer (some ⟨sb, 0, none⟩)] #[]
set_option maxRecDepth 100000 in
set_option maxHeartbeats 1000000 in
theorem index_calls {w : World} {sb mb blk cap : Nat} {ns l : List Name} {ad : Option Addr} (hk : KnownAt w mb ns) (hsb : sb < w.heap.size) (hc : w.cell? ⟨sb, 1, none⟩ = some (.map (some mb))) (hblk : l ≠ [] → blk < w.heap.size) (had : l ≠ [] → ad = some ⟨blk, 0, none⟩)
    (hl : ∀ (j : Nat) (hj : j < l.length), w.cell? ⟨blk, j, none⟩ = some (.string (bs l[j]))) (hn : l.length ≤ maxLen) (hcap : l.length ≤ cap) :
    Calls Tryd.prog 229 #[.slice ad l.length cap, fvHas sb] w fun e w' => e = .returned (.int .i64 (firstIn ns l)) ∧ Below w.heap.size w w' := by
  unfold maxLen at hn
  go_enter Tryd.func229, Tryd.ntmps229
  go_wp2_with fail
  go_loopw [8] (fun n w' => ∃ i : Nat, n = .int .i64 (i : Int) ∧ i ≤ l.length ∧ Below w.heap.size w w' ∧ ∀ v ∈ l.take i, ns.contains v = false) (fun n _ => match n with | .int _ k => l.length - k.toNat | _ => 0)
  case atStart => exact ⟨0, rfl, Nat.zero_le _, Below.refl _ _, by simp⟩
  case round =>
    obtain ⟨i, rfl, hi, hb, hno⟩ := hrel
    by_cases hlt : i < l.length
    · have hlt' : (i : Int) < (l.length : Int) := by omega
      have hne : l ≠ [] := fun e => by rw [e] at hlt; exact absurd hlt (Nat.not_lt_zero _)
      obtain rfl := had hne
      have hcl : wr.cell? ⟨blk, i, none⟩ = some (.string (bs l[i])) := (hb.cell (p := ⟨blk, i, none⟩) (hblk hne)).trans (hl i hlt)
      have hcall := has_calls (w := wr) (sb := sb) (hk.frame (hb.block mb hk.lt)) ((hb.cell (p := ⟨sb, 1, none⟩) hsb).trans hc) l[i]
      go_wp2_with fail
      refine hcall.mono ?_
      rintro e w2 ⟨rfl, hb2⟩
      have hb3 : Below w.heap.size w w2 := hb.trans (hb2.mono hb.size)
      cases hk1 : ns.contains l[i] with
      | true =>
        have hf : firstIn ns l = i := by unfold firstIn; rw [first_hit hlt hno hk1, if_pos hlt]
        go_wp2_with fail
        simp [bodyPost, results, Tryd.results229, go_sem]
        exact ⟨hf.symm, hb3⟩
      | false =>
        go_wp2_with fail
        refine ⟨⟨i + 1, congrArg (Value.int .i64) (by omega), by omega, hb3, fun v hv => ?_⟩, ?_⟩
        · rw [List.take_succ_eq_append_getElem hlt] at hv
          rcases List.mem_append.1 hv with hv | hv
          · exact hno v hv
          · rw [List.mem_singleton.1 hv]; exact hk1
        · show l.length - ((i : Int) + 1).toNat < l.length - (i : Int).toNat
          omega
    · have hf : firstIn ns l = -1 := first_none fun v hv => hno v (by rw [List.take_of_length_le (by omega)]; exact hv)
      go_wp2_with fail
      simp [bodyPost, results, Tryd.results229, go_sem]
      exact ⟨hf.symm, hb⟩
end Go.Proofs.YtiomojlcnemnhaaDoor

namespace Go.Proofs.YtiomojlcnemnhaaDoor
open Go.Fx Go.RowKit Go.Ped
abbrev strV (v : Name) : Value := .string (bs v)
theorem cells_fill {b : Nat} {ty : TypeId} (z : Value) : ∀ (old : List Value) {W : World} {n : Nat} {pre post : List Value}, n = pre.length → W.heap[b]? = some (.cells (pre ++ old ++ post).toArray ty (0, 0)) →
    (W.setCells b n (List.replicate old.length z)).heap[b]? = some (.cells (pre ++ List.replicate old.length z ++ post).toArray ty (0, 0)) ∧ KeptBut (fun c => c = b) W (W.setCells b n (List.replicate old.length z))
  | [], W, n, pre, post, _, hb => ⟨by simpa [World.setCells] using hb, KeptBut.refl _ _⟩
  | x :: old, W, n, pre, post, hn, hb => by
    obtain ⟨h1, _, _, k1⟩ := cells_set (ty := ty) (v := z) (pre := pre) (x := x) (post := old ++ post) hn (by rw [hb]; simp)
    obtain ⟨h2, k2⟩ := cells_fill (ty := ty) z old (W := W.setCell ⟨b, n, none⟩ z) (n := n + 1) (pre := pre ++ [z]) (post := post) (by rw [List.length_append, hn]; rfl) (by rw [h1]; simp)
    rw [List.length_cons, List.replicate_succ, World.setCells]
    exact ⟨by rw [h2]; simp, kept_same k1 k2⟩
abbrev unk (ns l : List Name) : List Name := l.filter fun v => !ns.contains v
theorem unk_all {ns l : List Name} (h : ∀ v ∈ l, ns.contains v = false) : unk ns l = l := List.filter_eq_self.2 fun v hv => by rw [h v hv]; rfl
theorem unk_in {ns l : List Name} {u : Name} (h : ns.contains u = true) : unk ns (l ++ [u]) = unk ns l := by
  unfold unk
  rw [List.filter_append, List.filter_cons, h]
  exact List.append_nil _
theorem unk_out {ns l : List Name} {u : Name} (h : ns.contains u = false) : unk ns (l ++ [u]) = unk ns l ++ [u] := by
  unfold unk
  rw [List.filter_append, List.filter_cons, h]
  rfl
def DelAt (ns l : List Name) (rest : List Value) (blk : Nat) (w : World) (i j : Nat) : Prop :=
  ∃ M : List Name, i = (unk ns (l.take j)).length ∧ i + M.length = j ∧ M ≠ [] ∧ j ≤ l.length ∧ w.heap[blk]? = some (.cells ((unk ns (l.take j)).map strV ++ M.map strV ++ (l.drop j).map strV ++ rest).toArray 9 (0, 0))
set_option maxRecDepth 100000 in
set_option maxHeartbeats 2000000 in
theorem delete_calls {w : World} {sb mb blk cap : Nat} {ns l : List Name} {rest : List Value} (hk : KnownAt w mb ns) (hsb : sb < w.heap.size) (hc : w.cell? ⟨sb, 1, none⟩ = some (.map (some mb))) (hnb : sb ≠ blk) (hnm : mb ≠ blk)
    (hb : w.heap[blk]? = some (.cells (l.map strV ++ rest).toArray 9 (0, 0))) (hcap : l.length ≤ cap) (hmx : cap ≤ maxLen) :
    Calls Tryd.prog 215 #[.slice (some ⟨blk, 0, none⟩) l.length cap, fvHas sb] w fun e w' => e = .returned (.slice (some ⟨blk, 0, none⟩) (unk ns l).length cap) ∧
      w'.heap[blk]? = some (.cells ((unk ns l).map strV ++ List.replicate (l.length - (unk ns l).length) (strV []) ++ rest).toArray 9 (0, 0)) ∧ KeptBut (fun c => c = blk) w w' := by
  unfold maxLen at hmx
  have hlt0 : blk < w.heap.size := (Array.getElem?_eq_some_iff.1 hb).1
  have hidx := index_calls (w := w) (sb := sb) (blk := blk) (cap := cap) (l := l) (ad := some ⟨blk, 0, none⟩) hk hsb hc (fun _ => hlt0) (fun _ => rfl)
    (fun j hj => by simp [World.cell?, hb, List.getElem?_append_left, hj]) (by unfold maxLen; omega) (by omega)
  by_cases hall : ∀ v ∈ l, ns.contains v = false
  · rw [first_none hall] at hidx
    go_enter Tryd.func215, Tryd.ntmps215
    go_wp2_with fail
    refine hidx.mono ?_
    rintro e w1 ⟨rfl, hb1⟩
    go_wp2_with fail
    simp [bodyPost, results, Tryd.results215, go_sem]
    rw [unk_all hall]
    refine ⟨rfl, ?_, KeptBut.of_below hb1⟩
    rw [hb1.block blk hlt0, hb]
    simp
  · obtain ⟨k0, hk0, hkn, hno⟩ : ∃ k0, ∃ h : k0 < l.length, ns.contains l[k0] = true ∧ ∀ v ∈ l.take k0, ns.contains v = false := by
      refine ⟨l.findIdx ns.contains, List.findIdx_lt_length_of_exists ?_, List.findIdx_getElem, fun v hv => ?_⟩
      · apply Classical.byContradiction
        intro hn
        exact hall fun v hv => by
          cases h : ns.contains v with
          | false => rfl
          | true => exact absurd ⟨v, hv, h⟩ hn
      · obtain ⟨j, hj, rfl⟩ := List.mem_take_iff_getElem.1 hv
        exact List.not_of_lt_findIdx (by omega)
    have hf : firstIn ns l = k0 := by unfold firstIn; rw [first_hit hk0 hno hkn, if_pos hk0]
    rw [hf] at hidx
    have hk1 : unk ns (l.take (k0 + 1)) = l.take k0 := by
      rw [List.take_succ_eq_append_getElem hk0, unk, List.filter_append]
      rw [show List.filter (fun v => !ns.contains v) (l.take k0) = l.take k0 from unk_all hno]
      simp
      simpa using hkn
    have hne1 : ((k0 : Int) == -1) = false := beq_eq_false_iff_ne.2 (by omega)
    go_enter Tryd.func215, Tryd.ntmps215
    go_wp2_with fail
    refine hidx.mono ?_
    rintro e w1 ⟨rfl, hb1⟩
    go_wp2_with fail
    go_loopw [5, 6, 7] (fun n5 n6 _ w' => ∃ i j : Nat, n5 = .int .i64 (i : Int) ∧ n6 = .int .i64 (j : Int) ∧ DelAt ns l rest blk w' i j ∧ KeptBut (fun c => c = blk) w w') (fun _ n _ _ => match n with | .int _ k => l.length - k.toNat | _ => 0)
    case atStart =>
      refine ⟨k0, k0 + 1, rfl, congrArg (Value.int .i64) (by omega), ⟨[l[k0]], ?_, rfl, by simp, by omega, ?_⟩, KeptBut.of_below hb1⟩
      · rw [hk1, List.length_take]; omega
      · rw [hb1.block blk hlt0, hb, hk1]
        congr 4
        rw [← List.map_append, ← List.map_append]
        congr 1
        rw [List.append_assoc, List.singleton_append, ← List.drop_eq_getElem_cons hk0, List.take_append_drop]
    case round =>
      obtain ⟨i, j, rfl, rfl, ⟨M, hi, hij, hM, hj, hw⟩, hkw⟩ := hrel
      have hsz := hkw.size
      by_cases hlt : j < l.length
      · have hlt' : (j : Int) < (l.length : Int) := by omega
        have hcl : wr.cell? ⟨blk, j, none⟩ = some (strV l[j]) := by
          rw [List.drop_eq_getElem_cons hlt] at hw
          have hp : ((unk ns (l.take j)).map strV ++ M.map strV).length = j := by simp; omega
          have hw2 : wr.heap[blk]? = some (.cells (((unk ns (l.take j)).map strV ++ M.map strV) ++ strV l[j] :: ((l.drop (j + 1)).map strV ++ rest)).toArray 9 (0, 0)) := by rw [hw, List.map_cons]; simp only [List.append_assoc, List.cons_append]
          exact (cells_set (v := strV []) hp.symm hw2).2.1
        have hcall := has_calls (w := wr) (sb := sb) (hk.frame (hkw.block mb hk.lt hnm)) ((show wr.cell? ⟨sb, 1, none⟩ = w.cell? ⟨sb, 1, none⟩ by simp [World.cell?, hkw.block sb hsb hnb]).trans hc) l[j]
        generalize hu : l[j] = u at hcl hcall
        have hH : Aside (DelAt ns l rest blk wr i j) := ⟨M, hi, hij, hM, hj, hw⟩
        clear hw hi
        go_wp2_with fail
        refine hcall.mono ?_
        rintro e w2 ⟨rfl, hb2⟩
        have hlt1 : blk < wr.heap.size := by omega
        have hw2 : w2.heap[blk]? = wr.heap[blk]? := hb2.block blk hlt1
        have hk2 : KeptBut (fun c => c = blk) w w2 := kept_same hkw (KeptBut.of_below hb2)
        obtain ⟨M, hi, hij, hM, hj, hw⟩ := hH.out
        rw [← hw2, List.drop_eq_getElem_cons hlt, hu] at hw
        obtain ⟨x, M', rfl⟩ := List.exists_cons_of_ne_nil hM
        have htk : l.take (j + 1) = l.take j ++ [u] := by rw [List.take_succ_eq_append_getElem hlt, hu]
        rw [List.length_cons] at hij
        cases hq : ns.contains u with
        | true =>
          have hun : unk ns (l.take (j + 1)) = unk ns (l.take j) := by rw [htk, unk_in hq]
          have hD : Aside (DelAt ns l rest blk w2 i (j + 1)) := ⟨x :: M' ++ [u], by rw [hun]; exact hi, by rw [List.length_append, List.length_cons, List.length_singleton]; omega, by simp, by omega, by rw [hun, hw]; simp⟩
          clear hw hw2 hi
          go_wp2_with fail
          refine ⟨⟨i, j + 1, rfl, congrArg (Value.int .i64) (by omega), hD.out, hk2⟩, ?_⟩
          show l.length - ((j : Int) + 1).toNat < l.length - (j : Int).toNat
          omega
        | false =>
          have hun : unk ns (l.take (j + 1)) = unk ns (l.take j) ++ [u] := by rw [htk, unk_out hq]
          have hw3 : w2.heap[blk]? = some (.cells ((unk ns (l.take j)).map strV ++ strV x :: (M'.map strV ++ strV u :: ((l.drop (j + 1)).map strV ++ rest))).toArray 9 (0, 0)) := by
            rw [hw, List.map_cons, List.map_cons]; simp only [List.append_assoc, List.cons_append]
          obtain ⟨h1, c1, f1, k1⟩ := cells_set (v := strV u) (n := i) (by rw [List.length_map]; exact hi) hw3
          have hD : Aside (DelAt ns l rest blk (w2.setCell ⟨blk, i, none⟩ (strV u)) (i + 1) (j + 1)) := ⟨M' ++ [u], by rw [hun, List.length_append, ← hi]; rfl, by rw [List.length_append, List.length_singleton]; omega, by simp, by omega, by rw [h1, hun]; simp⟩
          have hk3 := kept_same hk2 k1
          clear hw hw2 hw3 h1 k1 hi
          go_wp2_with fail
          refine ⟨⟨i + 1, j + 1, congrArg (Value.int .i64) (by omega), congrArg (Value.int .i64) (by omega), hD.out, hk3⟩, ?_⟩
          show l.length - ((j : Int) + 1).toNat < l.length - (j : Int).toNat
          omega
      · obtain rfl : j = l.length := by omega
        rw [List.take_length, List.drop_length] at hw
        rw [List.take_length] at hi
        have hcut : l.length - i = M.length := by omega
        have hMp : 0 < M.length := List.length_pos_iff.2 hM
        have hw2 : wr.heap[blk]? = some (.cells ((unk ns l).map strV ++ M.map strV ++ rest).toArray 9 (0, 0)) := by rw [hw]; simp
        obtain ⟨h1, k1⟩ := cells_fill (strV []) (M.map strV) (n := i) (by rw [List.length_map]; exact hi) hw2
        rw [List.length_map] at h1 k1
        have hcells : ∀ t, t < M.length → wr.cell? ⟨blk, i + t, none⟩ = some (strV (M.getD t [])) ∧ wr.frozen? ⟨blk, i + t, none⟩ = false := fun t ht => by
          have hp : i + t = ((unk ns l).map strV).length + t := by rw [List.length_map, hi]
          simp [World.cell?, World.frozen?, hw2, hp, List.getElem?_append_right, List.getElem?_append_left, ht, List.getD_eq_getElem?_getD]
        have hclr : ∀ ty, (Builtin.clear_ #[52] ty #[.slice (some ⟨blk, i, none⟩) M.length (cap - i)]).run Tryd.prog wr = .ok (.tuple #[]) (wr.setCells blk i (List.replicate M.length (strV []))) := fun ty => by
          exact Lib.run_clear_slice wr _ _ ty _ Tryd.underlying52 (fun w => Tryd.zeroValue9 w) rfl rfl blk i _ _ hMp (fun t ht => by rw [(hcells t ht).1]; rfl) (fun t ht => (hcells t ht).2)
        have hk3 := kept_same hkw k1
        have hi3 : Aside (i = (unk ns l).length) := hi
        have hile : i ≤ l.length := by omega
        clear hw hw2 k1 hcells hi
        go_wp2_with fail
        trace_state
        simp [bodyPost, results, Tryd.results215, go_sem]
        have hi4 := hi3.out
        subst hi4
        rw [hcut]
        exact ⟨rfl, by simpa using h1, hk3⟩
end Go.Proofs.YtiomojlcnemnhaaDoor

namespace Go.Proofs
def Tryd.lays216_ren : Go.Shelf.Ren := ⟨fun | 41 => 216 | n => n, fun | 22 => 52 | 23 => 9 | 4 => 4 | n => n, fun | n => n⟩
theorem Tryd.lays216 : Go.Proofs.SlLaysE0.n41 Tryd.prog Tryd.lays216_ren := {
  mixed := by kernel_rfl
  f41 := ⟨Tryd.f216.name, by decide, Tryd.func216.trans (congrArg some (by kernel_rfl))⟩
  t4 := Tryd.underlying4
  a4 := Tryd.isAgg4
  z4 := Tryd.sizeOf4
  v4 := Tryd.zeroValue4
  t22 := Tryd.underlying52
  a22 := Tryd.isAgg52
  z22 := Tryd.sizeOf52
  v22 := Tryd.zeroValue52 }
end Go.Proofs
namespace Go.Proofs.YtiomojlcnemnhaaDoor
open Go.Fx Go.RowKit Go.Ped
variable {G : World → Prop}
theorem info9 : ∃ i0 z, Tryd.prog.info? 9 = some i0 ∧ i0.zero = some z ∧ i0.size = 1 ∧ i0.bytes = 16 ∧ z.cells.size = 1 := by
  have e1 : (Tryd.prog.info? 9).map (·.bytes) = some 16 := by kernel_rfl
  have e2 : (Tryd.prog.info? 9).map (·.size) = some 1 := by kernel_rfl
  have e3 : ((Tryd.prog.info? 9).bind fun i => i.zero.map fun z => z.cells.size) = some 1 := by kernel_rfl
  obtain ⟨i0, h, h1⟩ := Option.map_eq_some_iff.1 e1
  rw [h] at e2 e3
  obtain ⟨z, h3, h4⟩ := Option.map_eq_some_iff.1 (show i0.zero.map (fun z => z.cells.size) = some 1 from e3)
  exact ⟨i0, z, h, h3, by simpa using e2, h1, h4⟩
set_option maxRecDepth 100000 in
set_option maxHeartbeats 1000000 in
theorem delete_none {w : World} {sb mb cap : Nat} {ns : List Name} {ad : Option Addr} (hk : KnownAt w mb ns) (hsb : sb < w.heap.size) (hc : w.cell? ⟨sb, 1, none⟩ = some (.map (some mb))) :
    Calls Tryd.prog 215 #[.slice ad 0 cap, fvHas sb] w fun e w' => e = .returned (.slice ad 0 cap) ∧ Below w.heap.size w w' := by
  have hidx := index_calls (w := w) (sb := sb) (blk := 0) (cap := cap) (l := []) (ad := ad) hk hsb hc (fun h => absurd rfl h) (fun h => absurd rfl h) (fun j hj => absurd hj (Nat.not_lt_zero _)) (by simp [maxLen]) (Nat.zero_le _)
  rw [first_none (fun v hv => by cases hv)] at hidx
  simp only [List.length_nil] at hidx
  go_enter Tryd.func215, Tryd.ntmps215
  go_wp2_with fail
  refine hidx.mono ?_
  rintro e w1 ⟨rfl, hb1⟩
  go_wp2_with fail
  simp [bodyPost, results, Tryd.results215, go_sem]
  exact hb1
theorem names_of {V : Nat → Nat → Prop} {w : World} : ∀ {l : List Name} {xs : List Value}, All2 (RepC V w) (l.map nmRow).flatten xs → xs = l.map strV
  | [], xs, h => h.nil_left
  | v :: l, xs, h => by
    have h' : All2 (RepC V w) (cS (bs v) :: (l.map nmRow).flatten) xs := h
    obtain ⟨u, xs', rfl, hu, h''⟩ := h'.head
    rw [names_of h'']
    cases hu
    rfl
theorem names_flat : ∀ m : List Name, (m.map nmRow).flatten = m.map fun v => cS (bs v)
  | [] => rfl
  | v :: m => by rw [List.map_cons, List.flatten_cons, names_flat m]; rfl
theorem kept_belowU {N b : Nat} {w w1 w2 : World} (h : Below N w w1) (hN : N ≤ b) (hN2 : N ≤ w1.heap.size) (k : KeptBut (fun c => c = b) w1 w2) : Below N w w2 :=
  ⟨by rw [k.os, h.os], by rw [k.tape, h.tape], by rw [k.output, h.output], Nat.le_trans h.size k.size, fun i hi => by rw [k.block i (by omega) (by omega), h.block i hi]⟩
theorem names_rep {V : Nat → Nat → Prop} {w : World} {g cap : Nat} {m : List Name} {rest : List Value} (hg : w.heap[g]? = some (.cells (m.map strV ++ rest).toArray 9 (0, 0))) (hc : m.length ≤ cap) (hm : cap ≤ maxLen) (hV : ∀ o, V g o) :
    RepC V w (.sl (m.map nmRow) []) (.slice (some ⟨g, 0, none⟩) m.length cap) := by
  have hfl : (m.map nmRow ++ []).flatten = m.map fun v => cS (bs v) := by
    rw [List.append_nil, names_flat]
  refine .sl _ _ 1 g 0 m.length cap (m.map strV) (by rw [List.length_map]) (by simpa using hc) hm ?_ ?_ (fun j u hj => ⟨?_, hV _⟩) (fun j c u hj hu => ?_)
  · intro e he
    rw [List.append_nil] at he
    obtain ⟨v, _, rfl⟩ := List.mem_map.1 he
    rfl
  · rw [hfl, List.length_map, List.length_map]
  · have hlt : j < m.length := by have := (List.getElem?_eq_some_iff.1 hj).1; rwa [List.length_map] at this
    simp only [World.cell?, hg, Nat.zero_add]
    simp only [List.getElem?_toArray]
    rw [List.getElem?_append_left (by rwa [List.length_map])]
    exact hj
  · rw [hfl, List.getElem?_map] at hj
    rw [List.getElem?_map] at hu
    cases h : m[j]? with
    | none => rw [h] at hj; cases hj
    | some v =>
      rw [h] at hj hu
      cases hj
      cases hu
      exact .v _ rfl
set_option maxRecDepth 100000 in
set_option maxHeartbeats 2000000 in
theorem unknown_calls {w : World} {V : Nat → Nat → Prop} {sb mb : Nat} {ns l : List Name} {sp : Sp} {v : Value} (hk : KnownAt w mb ns) (hsb : sb < w.heap.size) (hc : w.cell? ⟨sb, 1, none⟩ = some (.map (some mb))) (hl : l.length ≤ 1048576) (hv : RepC V w (.sl (l.map nmRow) sp) v) :
    Calls Tryd.prog 194 #[.pointer (some ⟨sb, 0, none⟩), v] w fun e w' => ∃ v', e = .returned v' ∧ RepC (fun b o => V b o ∨ w.heap.size ≤ b) w' (.sl ((unk ns l).map nmRow) []) v' ∧ Below w.heap.size w w' := by
  obtain ⟨i0, z, hi, hz0, hz1, hz2, hzs⟩ := info9
  have hcl := clone_any Tryd.lays216 i0 z 1 16 hi hz0 hz1 hz2 hzs (by decide) (fun w => Tryd.sizeOf9 w) (l.map nmRow) sp (fun r hr => by obtain ⟨v, _, rfl⟩ := List.mem_map.1 hr; rfl) (by rw [List.length_map]; omega) hv
  have hone := hv.oneCell
  go_enter Tryd.func194, Tryd.ntmps194
  go_wp2_with fail
  refine hcl.mono ?_
  rintro e w1 ⟨v1, xs, rfl, hown, hxs, hb1⟩
  rw [names_of hxs, List.length_map] at hown
  have hk1 := hk.frame (hb1.block mb hk.lt)
  have hc1 : w1.cell? ⟨sb, 1, none⟩ = some (.map (some mb)) := (hb1.cell (p := ⟨sb, 1, none⟩) hsb).trans hc
  have hsb1 : sb < w1.heap.size := Nat.lt_of_lt_of_le hsb hb1.size
  obtain ⟨_, ⟨rfl, hn0⟩ | ⟨g, cap, cur, rfl, hbase, hg, hnc, hm, hsz, htk⟩⟩ := hown
  · have hd := delete_none (cap := 0) (ad := none) hk1 hsb1 hc1
    have hl0 : l = [] := List.length_eq_zero_iff.1 hn0
    subst hl0
    go_wp2_with fail
    refine hd.mono ?_
    rintro e w2 ⟨rfl, hb2⟩
    go_wp2_with fail
    simp [bodyPost, results, Tryd.results194, go_sem]
    exact ⟨.nil 0, hb1.trans (hb2.mono hb1.size)⟩
  · rw [Nat.mul_one] at htk
    have hcur : cur = (l.map strV ++ cur.toList.drop l.length).toArray := by
      rw [← htk, List.take_append_drop, Array.toArray_toList]
    rw [hcur] at hg
    have hd := delete_calls hk1 hsb1 hc1 (blk := g) (by omega) (by have := hk.lt; omega) hg hnc hm
    clear hg htk hcur
    go_wp2_with fail
    refine hd.mono ?_
    rintro e w2 ⟨rfl, hg2, hk2⟩
    have hrep : RepC (fun b o => V b o ∨ w.heap.size ≤ b) w2 (.sl ((unk ns l).map nmRow) []) (.slice (some ⟨g, 0, none⟩) (unk ns l).length cap) :=
      names_rep (rest := List.replicate (l.length - (unk ns l).length) (strV []) ++ cur.toList.drop l.length) (by rw [hg2, List.append_assoc]) (Nat.le_trans (List.length_filter_le _ _) hnc) hm (fun o => .inr hbase)
    have hbw := kept_belowU hb1 hbase hb1.size hk2
    clear hg2
    go_wp2_with fail
    simp [bodyPost, results, Tryd.results194, go_sem]
    exact ⟨by simpa using hrep, hbw⟩
theorem m194 (body : C) (ns l : List Name) (sp : Sp) (hl : l.length ≤ 1048576) : MeetsH Tryd.prog G 194 [.one (.ref 10009 0 0), .one (.c (.sl (l.map nmRow) sp))] (hp (OS 10009 10007 body ns) [] F0) (.x (.one (.c (.sl ((unk ns l).map nmRow) [])))) (hp (OS 10009 10007 body ns) [] F0) := by
  refine MeetsH.of_reader (res := .x (.one (.sl ((unk ns l).map nmRow) []))) (by kernel_rfl) ?_ ?_ ?_
  · intro x hx
    simp only [List.mem_cons, List.not_mem_nil, or_false] at hx
    rcases hx with rfl | rfl <;> trivial
  · intro k b hb rr hrr
    rw [hp_objs0] at hb
    simp only [OS, lookO_cons, lookO_nil] at hb
    split at hb
    · injection hb with hb
      subst hb
      simp only [List.mem_singleton] at hrr
      subst hrr
      exact ⟨trivial, trivial, trivial⟩
    · split at hb
      · injection hb with hb
        subst hb
        obtain ⟨v, _, rfl⟩ := List.mem_map.1 hrr
        exact ⟨trivial, trivial⟩
      · cases hb
  · intro w env F vs hG hmem ha
    obtain ⟨v0, vs', rfl, hv0, ha⟩ := ha.head
    obtain ⟨v1, vs'', rfl, hv1, ha⟩ := ha.head
    obtain rfl := ha.nil_left
    obtain ⟨b, us', g1, g2, g3, g4, g5⟩ := hmem.objs 10007 ⟨0, 1, ns.map knRow, some (.string, false)⟩ (by rw [hp_objs0]; simp)
    obtain ⟨sb, su, h1, h2, h3, h4, h5⟩ := hmem.objs 10009 ⟨239, 2, [[.c body, .mapr 10007]], none⟩ (by rw [hp_objs0]; simp)
    have hkn := known_of g2 g3
    obtain ⟨b0, s0, q1, rfl⟩ := (show ∃ b s, env.ρ 10009 = some (b, s) ∧ v0 = .pointer (some ⟨b, 0 * s + 0, none⟩) from hv0)
    rw [h1] at q1
    injection q1 with q1
    injection q1 with e1 e2
    subst e1
    obtain ⟨ob, hob, hol⟩ := h2
    obtain ⟨x0, su', rfl, _, h3'⟩ := (show All2 (RepA env (hp (OS 10009 10007 body ns) [] F0).toks w) [.c body, .mapr 10007] su from h3).head
    obtain ⟨x1, su'', rfl, hx1, h3''⟩ := h3'.head
    obtain rfl := h3''.nil_left
    obtain ⟨b1, s1, q2, rfl⟩ := (show ∃ b s, env.ρ 10007 = some (b, s) ∧ x1 = .map (some b) from hx1)
    rw [g1] at q2
    injection q2 with q2
    injection q2 with e3 e4
    subst e3
    have hcell : w.cell? ⟨sb, 1, none⟩ = some (.map (some b)) := by
      rw [World.cell?]
      simp only [hob]
      obtain ⟨ex, rfl⟩ := (show ∃ ex : List Value, ob = .cells ([x0, .map (some b)] ++ ex).toArray 239 (0, 0) from hol)
      rfl
    rw [Nat.zero_mul]
    exact (unknown_calls hkn (hmem.ρlt _ _ _ h1) hcell hl hv1).mono fun e w' h => h
end Go.Proofs.YtiomojlcnemnhaaDoor

namespace Go.Proofs.YtiomojlcnemnhaaDoor
open Go.Fx Go.RowKit Go.Ped
variable {G : World → Prop}
def bitsTo (n : Nat) : Int := 2 ^ n - 1
theorem m148 (n : Nat) (hn : n ≤ 24) : Meets Tryd.prog G 148 [.one (cI .i64 n)] (.x (.one (cI .u32 (bitsTo n)))) := by
  refine meets Tryd.func148 ie148 ig148 (Nat.le_of_ble_eq_true rfl) ?_
  simp [ic148, ir148]
  have h : ∀ m : Fin 25, IntKind.u32.wrap (IntKind.u32.wrap (2 ^ min m.val IntKind.u32.bits) - 1) = 2 ^ m.val - 1 := by decide +kernel
  exact h ⟨n, by omega⟩
theorem m214 (l : List Name) (v : Name) (sp : Sp) (hl : l.length ≤ maxLen) : Meets Tryd.prog G 214 [.one (.sl (l.map nmRow) sp), .one (cS (bs v))] (.x (.one (cI .i64 (if l.contains v then (l.idxOf v : Int) else -1)))) := by
  unfold maxLen at hl
  refine meets Tryd.func214 ie214 ig214 (Nat.le_of_ble_eq_true rfl) ?_
  generalize hR : (if l.contains v then (l.idxOf v : Int) else -1) = R
  simp [ic214, ir214]
  refine w_loopA [] [] [0, 1, 4, 7, 8] (by simp [ownKey])
    (fun i : Nat => st [(0, .k true (.x (.one (.c (.sl (l.map nmRow) sp))))), (1, .k true (.x (.one (.c (cS (bs v)))))), (4, tI .i64 0), (7, tI .i64 l.length), (8, tI .i64 i)] [] [] F0) (fun i => l.length - i)
    (fun i => i ≤ l.length ∧ v ∉ l.take i) 0 (by simp) (by simp) ?_
  rintro i K hK ⟨hi, hd⟩
  obtain hlt | hge := Nat.lt_or_ge i l.length
  · by_cases hv : v = l[i]
    · have hc : l.contains v = true := by rw [List.contains_iff_mem]; rw [hv]; exact List.getElem_mem hlt
      have hx : l.idxOf v = i := by
        have hsp : l = l.take i ++ l[i] :: l.drop (i + 1) := by rw [← List.drop_eq_getElem_cons hlt, List.take_append_drop]
        rw [hsp, List.idxOf_append, if_neg hd, ← hv, List.idxOf_cons_self, List.length_take]
        omega
      rw [if_pos hc, hx] at hR
      subst hR
      simp [ic214l0, hlt, ← hv]
    · simp [ic214l0, hlt, hv]
      simp (disch := omega) only [wrap64]
      refine hK (i + 1) _ (by simp) ⟨by omega, ?_⟩ (by omega)
      intro h
      rw [List.take_succ_eq_append_getElem hlt, List.mem_append, List.mem_singleton] at h
      exact h.elim hd hv
  · rw [List.take_of_length_le hge] at hd
    rw [if_neg (by simpa using hd)] at hR
    subst hR
    simp [ic214l0, Nat.not_lt.mpr hge]
theorem m192 (l : List Name) (v : Name) (sp : Sp) (hl : l.length ≤ maxLen) : Meets Tryd.prog G 192 [.one (.sl (l.map nmRow) sp), .one (cS (bs v))] (.x (.one (cB (l.contains v)))) := by
  have h := m214 (G := G) l v sp hl
  refine meets Tryd.func192 ie192 ig192 (Nat.le_of_ble_eq_true rfl) ?_
  simp [ic192, ir192]
  refine call_of h ?_
  by_cases hc : l.contains v = true
  · simp only [hc, if_true]
    simp
    simpa using hc
  · simp only [Bool.not_eq_true] at hc
    simp only [hc]
    simp
    simpa using hc
theorem m80 (l : List Name) (v : Name) (sp : Sp) (hl : l.length ≤ maxLen) : Meets Tryd.prog G 80 [.one (.sl (l.map nmRow) sp), .one (cS (bs v))] (.x (.one (cB (l.contains v)))) := by
  unfold maxLen at hl
  refine meets Tryd.func80 ie80 ig80 (Nat.le_of_ble_eq_true rfl) ?_
  generalize hR : l.contains v = R
  simp [ic80, ir80]
  refine w_loopA [] [] [0, 1, 4, 5] (by simp [ownKey])
    (fun i : Nat => st [(0, .k true (.x (.one (.c (.sl (l.map nmRow) sp))))), (1, .k true (.x (.one (.c (cS (bs v)))))), (4, tB false), (5, tI .i64 i)] [] [] F0) (fun i => l.length - i)
    (fun i => i ≤ l.length ∧ v ∉ l.take i) 0 (by simp) (by simp) ?_
  rintro i K hK ⟨hi, hd⟩
  obtain hlt | hge := Nat.lt_or_ge i l.length
  · by_cases hv : l[i] = v
    · have hc : l.contains v = true := by rw [List.contains_iff_mem, ← hv]; exact List.getElem_mem hlt
      rw [hc] at hR
      subst hR
      simp [ic80l0, hlt, hv]
    · simp [ic80l0, hlt, hv]
      simp (disch := omega) only [wrap64]
      refine hK (i + 1) _ (by simp) ⟨by omega, ?_⟩ (by omega)
      intro h
      rw [List.take_succ_eq_append_getElem hlt, List.mem_append, List.mem_singleton] at h
      exact h.elim hd fun e => hv e.symm
  · rw [List.take_of_length_le hge] at hd
    have hc : l.contains v = false := by simpa using hd
    rw [hc] at hR
    subst hR
    simp [ic80l0, Nat.not_lt.mpr hge]
theorem m150 (l m : List Name) (sp sq : Sp) (hl : l.length ≤ maxLen) : Meets Tryd.prog G 150 [.one (.sl (l.map nmRow) sp), .one (.sl (m.map nmRow) sq)] (.x (.one (cB (decide (l = m))))) := by
  unfold maxLen at hl
  refine meets Tryd.func150 ie150 ig150 (Nat.le_of_ble_eq_true rfl) ?_
  by_cases hlen : l.length = m.length
  · generalize hR : decide (l = m) = R
    simp [ic150, ir150, hlen]
    refine w_loopA [] [] [0, 1, 4, 12, 13] (by simp [ownKey])
      (fun i : Nat => st [(0, .k true (.x (.one (.c (.sl (l.map nmRow) sp))))), (1, .k true (.x (.one (.c (.sl (m.map nmRow) sq))))), (4, tB false), (12, tI .i64 l.length), (13, tI .i64 i)] [] [] F0) (fun i => l.length - i)
      (fun i => i ≤ l.length ∧ l.take i = m.take i) 0 (by simp [hlen]) (by simp) ?_
    rintro i K hK ⟨hi, hd⟩
    obtain hlt | hge := Nat.lt_or_ge i l.length
    · have hlt' : i < m.length := by omega
      by_cases hv : l[i] = m[i]
      · simp [ic150l0, hlt, hlt', hv]
        simp (disch := omega) only [wrap64]
        refine hK (i + 1) _ (by simp) ⟨by omega, ?_⟩ (by omega)
        rw [List.take_succ_eq_append_getElem hlt, List.take_succ_eq_append_getElem hlt', hd, hv]
      · have hne : l ≠ m := fun e => hv (by subst e; rfl)
        rw [decide_eq_false hne] at hR
        subst hR
        simp [ic150l0, hlt, hlt', hv]
    · rw [List.take_of_length_le hge, List.take_of_length_le (by omega)] at hd
      rw [decide_eq_true hd] at hR
      subst hR
      simp [ic150l0, Nat.not_lt.mpr hge]
  · have hne : l ≠ m := fun e => hlen (by rw [e])
    rw [decide_eq_false hne]
    have hb : ((l.length : Int) == (m.length : Int)) = false := by rw [beq_eq_false_iff_ne]; omega
    simp [ic150, ir150, hb]
end Go.Proofs.YtiomojlcnemnhaaDoor

/- Fx, part M: slice literals, appends, made slices, stores. -/
import Derived.Test.YtiomojlcnemnhaaDoorFxLb
namespace Go.Fx
open Go.RowKit

section
variable {P : Program} {w0 : World} {V0 : Base} {N : Nat} {env : Env} {σ σ' : S} {a : Act} {w : World} {o : Oper} {toks : Nat → Option Tok}

theorem RepT.tt {r : R} {v : Value} (h : RepT env toks w (.k true r) v) : RepR env toks w r v := by simpa [RepT] using h
theorem RepT.mk {r : R} {v : Value} (h : RepR env toks w r v) : RepT env toks w (.k true r) v := by simpa [RepT] using h

theorem splice_mid {L1 M L2 new : List A} {p off : Nat} (h1 : L1.length = p) (h2 : off + new.length ≤ M.length) : splice (L1 ++ (M ++ L2)) (p + off) new = L1 ++ (splice M off new ++ L2) := by
  subst h1
  unfold splice
  have e1 : (L1 ++ (M ++ L2)).take (L1.length + off) = L1 ++ M.take off := by
    rw [List.take_append, List.take_of_length_le (by omega), Nat.add_sub_cancel_left, List.take_append_of_le_length (by omega)]
  have e2 : (L1 ++ (M ++ L2)).drop (L1.length + off + new.length) = M.drop (off + new.length) ++ L2 := by
    rw [Nat.add_assoc, List.drop_append, List.drop_eq_nil_of_le (by omega), Nat.add_sub_cancel_left, List.drop_append_of_le_length h2, List.nil_append]
  rw [e1, e2]
  simp

theorem over_append {us ex : List Value} {o : Nat} {vs : List Value} (h : o + vs.length ≤ us.length) : over (us ++ ex) o vs = over us o vs ++ ex := by
  unfold over
  rw [List.take_append_of_le_length (by omega), List.drop_append_of_le_length h]
  simp only [List.append_assoc]

theorem good_store (hd : ∀ n, o.dst = some n → n < N) {t : TypeId} {i : TypeInfo} {x y : Operand} {dx dy : D} (hop : o.op = .store t x y) (hi : P.info? t = some i) (hx : cmpD x = some dx) (hy : cmpD y = some dy)
    {k r off : Nat} {b : Box} {yv : X} (h1 : dx.val σ = .k true (.x (.one (.ref k r off)))) (hk : σ.objs k = some b) (hmp : b.mp = none) (h2 : dy.val σ = .k true (.x yv)) (hr : r < b.rows.length)
    (hoff : off + yv.cells.length ≤ (b.rows.getD r []).length) (hsz : yv.cells.length = i.size) :
    Good P w0 V0 N o σ ((σ.setObj k { b with rows := b.rows.set r (splice (b.rows.getD r []) off yv.cells) }).put o.dst nothing) := fun rd rn env a w K Q hs hK => by
  have g1 := hs.opd hx
  rw [h1] at g1
  obtain ⟨bl, s, hρ, ea⟩ := (g1.tt : RepA env σ.toks w (.ref k r off) (a.eval x))
  have g2 := hs.opd hy
  rw [h2] at g2
  have hc := RepX.cells (x := yv) (g2.tt : RepX env σ.toks w yv (a.eval y))
  obtain ⟨b', us, e1, e2, e3, e4, e5, e6⟩ := hs.objs k b hk
  obtain ⟨ex, e3⟩ := e3.cells hmp
  rw [e1] at hρ
  injection hρ with hρ; injection hρ with hb hs2
  subst hb; subst hs2
  have hri : b.rows[r]? = some (b.rows.getD r []) := by rw [List.getD_eq_getElem?_getD, List.getElem?_eq_getElem hr]; rfl
  have hlen : (b.rows.getD r []).length = b.size := e5 _ (List.mem_of_getElem? hri)
  have hul : us.length = b.rows.length * b.size := by rw [← e4.1, length_flatten b.rows e5]
  have hfull : r * b.size + off + yv.cells.length ≤ us.length := by
    have : (r + 1) * b.size ≤ b.rows.length * b.size := Nat.mul_le_mul_right _ (by omega)
    rw [Nat.succ_mul] at this
    omega
  have hvs : (a.eval y).cells.size = yv.cells.length := by rw [hc.1]; simp
  obtain ⟨w', q1, q2, q3, q4⟩ := run_storeAt (P := P) (w := w) (t := t) (b := b') (o := r * b.size + off) (v := a.eval y) hi (by rw [hvs, hsz]) e3 (by rw [hvs, List.length_append]; omega)
    (fun u hu => by obtain ⟨j, hj⟩ := List.getElem?_of_mem hu; obtain ⟨x, _, hx⟩ := hc.get' hj; exact RepA.oneCell hx)
  rw [over_append (by rw [Array.length_toList, hvs]; exact hfull)] at q2
  -- the row written over is the flattened rows written over
  have hfl : (b.rows.set r (splice (b.rows.getD r []) off yv.cells)).flatten = splice b.rows.flatten (r * b.size + off) yv.cells := by
    have hset : b.rows.set r (splice (b.rows.getD r []) off yv.cells) = b.rows.take r ++ splice (b.rows.getD r []) off yv.cells :: b.rows.drop (r + 1) := by
      rw [List.set_eq_take_append_cons_drop, if_pos hr]
    have hsplit : b.rows = b.rows.take r ++ b.rows.getD r [] :: b.rows.drop (r + 1) := by
      conv => lhs; rw [← List.take_append_drop r b.rows]
      congr 1
      rw [List.drop_eq_getElem_cons hr]
      congr 1
      rw [List.getD_eq_getElem?_getD, List.getElem?_eq_getElem hr]; rfl
    have htl : (b.rows.take r).flatten.length = r * b.size := by
      rw [length_flatten _ (fun x hx => e5 x (List.mem_of_mem_take hx)), List.length_take, Nat.min_eq_left (by omega)]
    have hfl0 : b.rows.flatten = (b.rows.take r).flatten ++ (b.rows.getD r [] ++ (b.rows.drop (r + 1)).flatten) := by
      conv => lhs; rw [hsplit]
      rw [List.flatten_append, List.flatten_cons]
    rw [hset, hfl0, List.flatten_append, List.flatten_cons, splice_mid htl hoff]
  have hrows : ∀ q ∈ b.rows.set r (splice (b.rows.getD r []) off yv.cells), q.length = b.size := fun q hq => by
    rcases List.mem_or_eq_of_mem_set hq with h | h
    · exact e5 q h
    · subst h
      unfold splice
      simp only [List.length_append, List.length_take, List.length_drop]
      omega
  have hrun : (execOp a.eval o).run P w = .ok .skip w' := by
    have ea' : a.eval x = .pointer (some ⟨b', r * b.size + off, none⟩) := ea
    simp [execOp, hop, ea', q1]
  refine wp_skipped hrun (hK _ _ _ ((hs.write hk e1 q3 q4 (BoxIn.mk (x := { b with rows := b.rows.set r (splice (b.rows.getD r []) off yv.cells) }) ex hmp q2) ?_ hrows).put hd (by simp [nothing, RepT])))
  rw [hfl]
  exact e4.splice hc

theorem madeCells_at (z : Array Value) (n s : Nat) (hz : z.size = s) : (madeCells z (n * s)).toList = (List.replicate n z.toList).flatten := by
  subst hz
  apply List.ext_getElem?
  intro j
  have hall : ∀ e ∈ List.replicate n z.toList, e.length = z.size := fun e he => by rw [(List.mem_replicate.1 he).2]; simp
  have hlen : (List.replicate n z.toList).flatten.length = n * z.size := by rw [length_flatten _ hall, List.length_replicate]
  by_cases hj : j < n * z.size
  · have hs : 0 < z.size := by
      rcases Nat.eq_zero_or_pos z.size with h | h
      · rw [h] at hj; omega
      · exact h
    have hdm : j = j / z.size * z.size + j % z.size := by rw [Nat.mul_comm]; exact (Nat.div_add_mod j z.size).symm
    have hm : j % z.size < z.size := Nat.mod_lt _ hs
    have hd : j / z.size < n := Nat.div_lt_of_lt_mul (by rw [Nat.mul_comm]; exact hj)
    have h1 : (List.replicate n z.toList).flatten[j]? = some (z[j % z.size]) := by
      conv => lhs; rw [hdm]
      rw [flatten_at _ _ _ hall hm, List.getElem?_replicate, if_pos hd]
      simp [hm]
    rw [h1]
    simp only [madeCells, Array.toList_map, List.getElem?_map, Array.toList_range]
    rw [List.getElem?_range hj]
    simp [hm]
  · rw [List.getElem?_eq_none (by simp [madeCells]; omega), List.getElem?_eq_none (by rw [hlen]; omega)]

theorem All2.flatten_replicate {p : A → Value → Prop} {z : List A} {us : List Value} (h : All2 p z us) : ∀ n, All2 p (List.replicate n z).flatten (List.replicate n us).flatten
  | 0 => All2.nil
  | n + 1 => by
    rw [List.replicate_succ, List.replicate_succ, List.flatten_cons, List.flatten_cons]
    exact h.append (All2.flatten_replicate h n)

theorem good_make (hd : ∀ n, o.dst = some n → n < N) {t e : TypeId} {i : TypeInfo} {z : List A} {l c : Operand} {dl dc : D} {d : Nat} {n m : Int} (hop : o.op = .makeSlice t l c) (ht : P.underlying t = some (.slice e)) (hi : P.info? e = some i)
    (hz : zeroIn P e = some z) (hl : cmpD l = some dl) (hc : cmpD c = some dc) (hdst : o.dst = some d) (hn : σ.objs d = none) (h1 : dl.val σ = .k true (rI .i64 n)) (h2 : dc.val σ = .k true (rI .i64 m))
    (h0 : 0 ≤ n) (hnm : n ≤ m) (hm : m ≤ maxLen) (hb : i.bytes * m ≤ maxBytes) (hzl : z.length = i.size) :
    Good P w0 V0 N o σ ((σ.setObj d ⟨e, i.size, List.replicate m.toNat z, none⟩).put o.dst (.k true (.x (.one (.arr d 0 n.toNat m.toNat))))) := fun rd rn env a w K Q hs hK => by
  have g1 := hs.opd hl
  rw [h1] at g1
  have e1 := rep_int g1.tt
  have g2 := hs.opd hc
  rw [h2] at g2
  have e2 := rep_int g2.tt
  obtain ⟨i', v, hi', hv, hcz⟩ := zeroIn_rep (env := env) (toks := σ.toks) (w := w) hz
  rw [hi] at hi'; injection hi' with hi'; subst hi'
  have hsz : v.cells.size = i.size := by rw [← hzl, hcz.1]; simp
  have hrun := run_make (P := P) w t e i v ht hi hv .i64 .i64 n m h0 hnm (by unfold maxBytes at hb; omega) (by unfold maxLen at hm; omega)
  have hcells : madeCells v.cells (m.toNat * i.size) = (List.replicate m.toNat v.cells.toList).flatten.toArray := Array.toList_inj.1 (by rw [madeCells_at v.cells m.toNat i.size hsz])
  rw [hcells] at hrun
  refine wp_value (v := .slice (some ⟨w.heap.size, 0, none⟩) n.toNat m.toNat) (w' := w.alloc (.cells (List.replicate m.toNat v.cells.toList).flatten.toArray e)) ?_
    (hK _ _ _ ((hs.alloc hn (own_dst hd hs.nn hdst) e i.size (List.replicate m.toNat z) _ (hcz.flatten_replicate m.toNat) (fun r hr => by rw [(List.mem_replicate.1 hr).2, hzl])).put hd ?_))
  · simp only [execOp, hop, e1, e2, Sem.run_bind, hrun, Result.andThen_ok, Sem.run_pure]
  · refine RepT.mk ?_
    exact ⟨w.heap.size, i.size, m.toNat, by simp, by simp, Nat.le_refl _, by omega⟩

end
end Go.Fx

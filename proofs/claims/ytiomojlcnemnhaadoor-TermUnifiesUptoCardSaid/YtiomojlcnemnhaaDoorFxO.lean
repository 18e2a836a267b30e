/- Fx, part O: slice literals. -/
import Derived.Test.YtiomojlcnemnhaaDoorFxN
namespace Go.Fx
open Go.RowKit

section
variable {P : Program} {w0 : World} {V0 : Base} {N : Nat} {env : Env} {σ σ' : S} {a : Act} {w : World} {o : Oper} {toks : Nat → Option Tok}

theorem over_take {us vs : List Value} {o : Nat} (h : o ≤ us.length) : (over us o vs).take o = us.take o := by
  unfold over
  rw [List.append_assoc, List.take_append_of_le_length (by rw [List.length_take]; omega), List.take_take, Nat.min_self]

theorem over_mid {us vs : List Value} {o : Nat} (h : o ≤ us.length) : ((over us o vs).drop o).take vs.length = vs := by
  unfold over
  have : (us.take o).length = o := by rw [List.length_take]; omega
  rw [List.append_assoc, List.drop_left' this, List.take_left' rfl]

theorem row_fill {size : Nat} (hs : Sim w0 V0 N env σ a w) : ∀ (parts : List (Nat × Operand)) (k : Nat) (ds : List D) (es : List (List C)) (us : Array Value), cmpRow k parts = some ds → (ds.all fun d => (d.val σ).g) = true →
    rowsO (ds.map fun d => (d.val σ).r) = some es → (∀ e ∈ es, e.length = size) → (k + parts.length) * size ≤ us.size →
    ∃ us', Instr.fill (fun i => some (i * size, size)) us (parts.map fun p => (p.1, a.eval p.2)) = some us' ∧ us'.size = us.size ∧ us'.toList.take (k * size) = us.toList.take (k * size) ∧ es.length = parts.length ∧
      All2 (RepC env.V w) es.flatten ((us'.toList.drop (k * size)).take (es.length * size))
  | [], k, ds, es, us, h, _, hr, _, _ => by
    simp [cmpRow] at h; subst h
    simp [rowsO] at hr; subst hr
    exact ⟨us, rfl, rfl, rfl, rfl, by simpa using All2.nil⟩
  | (j, x) :: parts, k, ds, es, us, h, hg, hr, hw, hsz => by
    unfold cmpRow at h
    split at h
    · rename_i hj
      subst hj
      split at h
      · rename_i d ds' hx hds
        injection h with h; subst h
        simp only [List.all_cons, Bool.and_eq_true] at hg
        simp only [List.map_cons, rowsO] at hr
        split at hr
        · rename_i e es' he hes
          injection hr with hr; subst hr
          cases hcl : (d.val σ).r.cells with
          | none => rw [hcl] at he; cases he
          | some l =>
            rw [hcl] at he
            have hc := closeL_rep ((hs.opr hx hg.1).cells hcl) he
            have hel : e.length = size := hw e (by simp)
            have hvs : (a.eval x).cells.size = size := by rw [← hel, hc.1]; simp
            have hlen : parts.length + 1 = (List.length ((j, x) :: parts)) := rfl
            have hjs : j * size + size ≤ us.size := by
              have : (j + 1) * size ≤ (j + List.length ((j, x) :: parts)) * size := Nat.mul_le_mul_right _ (by simp)
              rw [Nat.succ_mul] at this
              omega
            have hov : ((a.eval x).cells.zipIdx.foldl (fun cs (x : Value × Nat) => cs.setIfInBounds (j * size + x.2) x.1) us).toList = over us.toList (j * size) (a.eval x).cells.toList := by
              have := foldl_over (a.eval x).cells.toList 0 (j * size) us (by simp [hvs]; omega)
              rw [← Array.foldl_toList, Array.toList_zipIdx]
              simpa using this
            have husl : us.toList.length = us.size := by simp
            have hcsl : (a.eval x).cells.toList.length = size := by simpa using hvs
            have hsz' : ((a.eval x).cells.zipIdx.foldl (fun cs (x : Value × Nat) => cs.setIfInBounds (j * size + x.2) x.1) us).size = us.size := by
              rw [← Array.length_toList, hov, length_over (by omega), Array.length_toList]
            obtain ⟨us', hf, h1, h2, h3, h4⟩ := row_fill hs parts (j + 1) ds' es' _ hds hg.2 hes (fun q hq => hw q (List.mem_cons_of_mem _ hq)) (by
              rw [hsz']
              have e1 : j + 1 + parts.length = j + List.length ((j, x) :: parts) := by simp; omega
              rw [e1]; exact hsz)
            refine ⟨us', ?_, by rw [h1, hsz'], ?_, by simp [h3], ?_⟩
            · simp only [List.map_cons, Instr.fill]
              rw [if_neg (by rw [hvs]; simp; omega)]
              exact hf
            · have : (us'.toList.take ((j + 1) * size)).take (j * size) = us'.toList.take (j * size) := by
                rw [List.take_take, Nat.min_eq_left (Nat.mul_le_mul_right _ (by omega))]
              rw [← this, h2, hov, List.take_take, Nat.min_eq_left (Nat.mul_le_mul_right _ (by omega)), over_take (by omega)]
            · -- the first row, then the others
              have hfirst : (us'.toList.drop (j * size)).take size = (a.eval x).cells.toList := by
                have e1 : (us'.toList.drop (j * size)).take size = (us'.toList.take ((j + 1) * size)).drop (j * size) := by
                  rw [List.drop_take]; congr 1; rw [Nat.succ_mul]; omega
                have e2 : ((over us.toList (j * size) (a.eval x).cells.toList).take ((j + 1) * size)).drop (j * size) = ((over us.toList (j * size) (a.eval x).cells.toList).drop (j * size)).take size := by
                  rw [List.drop_take]; congr 1; rw [Nat.succ_mul]; omega
                rw [e1, h2, hov, e2]
                have := over_mid (us := us.toList) (vs := (a.eval x).cells.toList) (o := j * size) (by omega)
                rw [hcsl] at this
                exact this
              have hsplit : (us'.toList.drop (j * size)).take ((es'.length + 1) * size) = (us'.toList.drop (j * size)).take size ++ (us'.toList.drop ((j + 1) * size)).take (es'.length * size) := by
                rw [Nat.succ_mul, Nat.add_comm, List.take_add, List.drop_drop]
                congr 3
                rw [Nat.succ_mul]
              rw [List.length_cons, hsplit, hfirst, List.flatten_cons]
              exact hc.append h4
        · cases hr
      · cases h
    · cases h

theorem run_row {t e : TypeId} {i : TypeInfo} {z : List A} {len : Nat} {parts : Array (Nat × Operand)} {ds : List D} {es : List (List C)} (hs : Sim w0 V0 N env σ a w) (ht : P.underlying t = some (.slice e)) (hi : P.info? e = some i)
    (hz : zeroIn P e = some z) (hb : len * i.size ≤ 16777216) (hlen : parts.size = len) (_h0 : 0 < i.size) (hc : cmpRow 0 parts.toList = some ds) (hg : (ds.all fun d => (d.val σ).g) = true)
    (hr : rowsO (ds.map fun d => (d.val σ).r) = some es) (hw : ∀ q ∈ es, q.length = i.size) :
    ∃ us : List Value, (Instr.buildSlice t len (parts.map fun p => (p.1, a.eval p.2))).run P w = .ok (.slice (some ⟨w.heap.size, 0, none⟩) len len) (w.alloc (.cells us.toArray e)) ∧ us.length = len * i.size ∧
      es.length = len ∧ All2 (RepC env.V w) es.flatten us := by
  obtain ⟨i', v, hi', hv, _⟩ := zeroIn_rep (env := env) (toks := σ.toks) (w := w) hz
  rw [hi] at hi'; injection hi' with hi'; subst hi'
  have main : ∀ zc : Array Value, ∃ us' : Array Value, Instr.fill (fun j => some (j * i.size, i.size)) ((Array.range (len * i.size)).map (zc[· % zc.size]!)) (parts.toList.map fun p => (p.1, a.eval p.2)) = some us' ∧ us'.toList.length = len * i.size ∧
      es.length = len ∧ All2 (RepC env.V w) es.flatten us'.toList := fun zc => by
    obtain ⟨us', h1, h2, _, h4, h5⟩ := row_fill (size := i.size) hs parts.toList 0 ds es ((Array.range (len * i.size)).map (zc[· % zc.size]!)) hc hg hr hw (by simp [hlen])
    have hl : es.length = len := by rw [h4]; simp [hlen]
    have hsz : us'.toList.length = len * i.size := by rw [Array.length_toList, h2]; simp
    refine ⟨us', h1, hsz, hl, ?_⟩
    rw [Nat.zero_mul, List.drop_zero, hl, List.take_of_length_le (by omega)] at h5
    exact h5
  by_cases hl0 : len * i.size = 0
  · obtain ⟨us', h1, h2, h3, h4⟩ := main #[]
    refine ⟨us'.toList, ?_, h2, h3, h4⟩
    have hbig : ¬ 16777216 < len * i.size := by omega
    simp [Instr.buildSlice, run_underlying ht, sizeOf, typeInfo, hi, hl0]
    simp [hl0] at h1
    rw [h1]
    simp [newRow]
  · obtain ⟨us', h1, h2, h3, h4⟩ := main v.cells
    refine ⟨us'.toList, ?_, h2, h3, h4⟩
    have hbig : ¬ 16777216 < len * i.size := by omega
    simp [Instr.buildSlice, run_underlying ht, sizeOf, typeInfo, hi, hbig, hl0, zeroValue, hv]
    rw [h1]
    simp [newRow]

theorem good_row (hd : ∀ n, o.dst = some n → n < N) {t e : TypeId} {i : TypeInfo} {z : List A} {len d : Nat} {parts : Array (Nat × Operand)} {ds : List D} {es : List (List C)} (hop : o.op = .buildSlice t len parts) (ht : P.underlying t = some (.slice e)) (hi : P.info? e = some i)
    (hz : zeroIn P e = some z) (hb : len * i.size ≤ 16777216) (hlen : parts.size = len) (h0 : 0 < i.size) (hc : cmpRow 0 parts.toList = some ds) (hg : (ds.all fun d => (d.val σ).g) = true)
    (hr : rowsO (ds.map fun d => (d.val σ).r) = some es) (hw : ∀ q ∈ es, q.length = i.size) (hdst : o.dst = some d) (hn : σ.toks d = none) :
    Good P w0 V0 N o σ ((σ.setTok d ⟨e, i.size, es.length⟩).put o.dst (.k true (.x (.one (.own d es))))) := fun rd rn env a w K Q hs hK => by
  obtain ⟨us, hrun, hul, hel, hrep⟩ := run_row hs ht hi hz hb hlen h0 hc hg hr hw
  have hlm : len ≤ maxLen := by
    have : len * 1 ≤ len * i.size := Nat.mul_le_mul_left _ h0
    unfold maxLen; omega
  have hgr : w.grownBy (w.alloc (.cells us.toArray e)) none := World.grownBy_alloc w _ none
  have hown : (w.alloc (.cells us.toArray e)).ownsRow 0 e i.size (.slice (some ⟨w.heap.size, 0, none⟩) len len) es.length us := by
    refine ⟨by rw [hel, hul], .inr ⟨w.heap.size, len, us.toArray, by rw [hel], Nat.zero_le _, heap_alloc_new w _, by omega, hlm, by simp [hul], ?_⟩⟩
    rw [hel, ← hul]
    exact List.take_length
  have hcells : ∀ b o, env.V b o → (w.alloc (.cells us.toArray e)).cell? ⟨b, o, none⟩ = w.cell? ⟨b, o, none⟩ := fun b o hv => World.cell?_of_block (a := ⟨b, o, none⟩) (hgr.block b (hs.vlt b o hv) (by simp))
  have hsim := hs.token (k := d) (hk := fun _ => own_dst hd hs.nn hdst) (t' := ⟨e, i.size, es.length⟩) (v := .slice none 0 0) (v' := .slice (some ⟨w.heap.size, 0, none⟩) len len) (xs' := us) (.inl ⟨hn, rfl, rfl⟩) hgr hown hcells (.inr rfl)
  refine wp_value (v := .slice (some ⟨w.heap.size, 0, none⟩) len len) (w' := w.alloc (.cells us.toArray e)) ?_ (hK _ _ _ (hsim.put hd (RepT.mk ?_)))
  · simp only [execOp, hop, Sem.run_bind, hrun, Result.andThen_ok, Sem.run_pure]
  · refine ⟨?_, ⟨e, i.size, es.length⟩, by simp [S.setTok], Nat.le_refl _, hw, fun _ => by simp⟩
    refine .sl _ _ i.size w.heap.size 0 len len us hel.symm (by simp [hel]) hlm (by simpa using hw) (by rw [List.append_nil]; exact hrep.1.symm) (fun j u hj => ?_) (fun j c u hcj hu => ?_)
    · refine ⟨?_, .inr ⟨rfl, ?_⟩⟩
      · rw [Nat.zero_add, cell_of_row _ w.heap.size j _ e _ (heap_alloc_new w _)]
        simpa using hj
      · have := (List.getElem?_eq_some_iff.1 hj).1
        simp only [Nat.zero_add, hel]
        omega
    · rw [List.append_nil] at hcj
      exact RepC.mono (fun _ _ h => .inl h) hcells (hrep.2 j c u hcj hu)

theorem good_row_closed (hd : ∀ n, o.dst = some n → n < N) {t e : TypeId} {i : TypeInfo} {z : List A} {len : Nat} {parts : Array (Nat × Operand)} {ds : List D} {es : List (List C)} (hop : o.op = .buildSlice t len parts) (ht : P.underlying t = some (.slice e)) (hi : P.info? e = some i)
    (hz : zeroIn P e = some z) (hb : len * i.size ≤ 16777216) (hlen : parts.size = len) (h0 : 0 < i.size) (hc : cmpRow 0 parts.toList = some ds) (hg : (ds.all fun d => (d.val σ).g) = true)
    (hr : rowsO (ds.map fun d => (d.val σ).r) = some es) (hw : ∀ q ∈ es, q.length = i.size) : Good P w0 V0 N o σ (σ.put o.dst (.k true (.x (.one (.c (.sl es [])))))) := by
  refine Good.grown hd fun env a w hs => ?_
  obtain ⟨us, hrun, hul, hel, hrep⟩ := run_row hs ht hi hz hb hlen h0 hc hg hr hw
  have hlm : len ≤ maxLen := by
    have : len * 1 ≤ len * i.size := Nat.mul_le_mul_left _ h0
    unfold maxLen; omega
  have hbel : Below w.heap.size w (w.alloc (.cells us.toArray e)) := (Below.refl _ _).alloc (Nat.le_refl _) _
  refine ⟨_, _, by simp only [execOp, hop, Sem.run_bind, hrun, Result.andThen_ok, Sem.run_pure]; rfl, hbel, ?_⟩
  refine .sl _ _ i.size w.heap.size 0 len len us hel.symm (by simp [hel]) hlm (by simpa using hw) (by rw [List.append_nil]; exact hrep.1.symm) (fun j u hj => ?_) (fun j c u hcj hu => ?_)
  · refine ⟨?_, .inr ⟨Nat.le_refl _, heap_lt (heap_alloc_new w _)⟩⟩
    rw [Nat.zero_add, cell_of_row _ w.heap.size j _ e _ (heap_alloc_new w _)]
    simpa using hj
  · rw [List.append_nil] at hcj
    exact RepC.mono (fun _ _ h => .inl h) (fun b o hv => World.cell?_of_block (a := ⟨b, o, none⟩) (hbel.block b (hs.vlt b o hv))) (hrep.2 j c u hcj hu)

end
end Go.Fx

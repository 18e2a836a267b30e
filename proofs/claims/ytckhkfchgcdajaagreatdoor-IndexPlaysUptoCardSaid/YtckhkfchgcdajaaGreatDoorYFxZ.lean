import Derived.Test.YtckhkfchgcdajaaGreatDoorYFxSd
import Derived.ProofKit
namespace Go.Fx
open Go.RowKit Go.ChangeShapes
mutual
def C.bulk : C → Nat
  | .v (.string s) => s.size + 1
  | .v _ => 1
  | .sl es sp => rowsBulk es + rowsBulk sp + 1
def rowBulk : List C → Nat
  | [] => 0
  | c :: l => c.bulk + rowBulk l
def rowsBulk : List (List C) → Nat
  | [] => 0
  | r :: l => rowBulk r + rowsBulk l
end
mutual
def bulkD {H : Type} : DataW H → Nat
  | .lit (.string bytes) => bytes.length + 1
  | .lit _ => 1
  | .slice elems spare => bulkDs elems + bulkDs spare + 1
  | .agg parts => bulkDs parts + 1
  | .nil => 1
  | _ => 0
def bulkDs {H : Type} : List (DataW H) → Nat
  | [] => 0
  | d :: r => bulkD d + bulkDs r
end
theorem rowBulk_append : ∀ (a b : List C), rowBulk (a ++ b) = rowBulk a + rowBulk b
  | [], b => by simp [rowBulk]
  | c :: a, b => by simp only [List.cons_append, rowBulk, rowBulk_append a b]; omega
theorem rowBulk_flatten : ∀ (a : List (List C)), rowBulk a.flatten = rowsBulk a
  | [] => by simp [rowBulk, rowsBulk]
  | c :: a => by simp only [List.flatten_cons, rowBulk_append, rowsBulk, rowBulk_flatten a]
theorem rowsBulk_le {H : Type} : ∀ {l : List (List C)} {ds : List (DataW H)}, l.length = ds.length → (∀ (j : Nat) (r : List C) (d : DataW H), l[j]? = some r → ds[j]? = some d → rowBulk r ≤ bulkD d) → rowsBulk l ≤ bulkDs ds
  | [], [], _, _ => by simp [rowsBulk]
  | r :: l, d :: ds, hl, h => by
    have h0 := h 0 r d rfl rfl
    have h1 := rowsBulk_le (l := l) (ds := ds) (by simpa using hl) fun j r d h2 h3 => h (j + 1) r d (by simpa using h2) (by simpa using h3)
    simp only [rowsBulk, bulkDs]; omega
  | [], _ :: _, hl, _ => by simp at hl
  | _ :: _, [], hl, _ => by simp at hl
inductive Typed (P : Program) : TypeId → List C → Prop
  | int {t : TypeId} {k : IntKind} {n : Int} (h : P.underlying t = some (.int k)) (wf : (Lit.int k n).wf = true) : Typed P t [.v (.int k n)]
  | bool {t : TypeId} {b : Bool} (h : P.underlying t = some .bool) : Typed P t [.v (.bool b)]
  | str {t : TypeId} {s : List UInt8} (h : P.underlying t = some .string) (hs : s.length ≤ maxLen) : Typed P t [.v (.string (bs s))]
  | sl {t e : TypeId} {es sp : List (List C)} (h : P.underlying t = some (.slice e)) (hes : ∀ x ∈ es ++ sp, Typed P e x) (hn : es.length + sp.length ≤ maxLen) : Typed P t [.sl es sp]
  | struct {t : TypeId} {fs : Array Field} {css : List (List C)} (h : P.underlying t = some (.struct fs)) (hl : css.length = fs.toList.length)
      (hf : ∀ (j : Nat) (f : Field) (cs : List C), fs.toList[j]? = some f → css[j]? = some cs → Typed P f.type cs) : Typed P t css.flatten
  | arr {t e : TypeId} {n : Nat} {css : List (List C)} (h : P.underlying t = some (.array n e)) (hl : css.length = n) (hf : ∀ cs ∈ css, Typed P e cs) : Typed P t css.flatten
def tiles (P : Program) : List Field → Nat → Nat → Bool
  | [], off, n => off == n
  | f :: l, off, n => f.offset == off && tiles P l (off + P.cellsOf f.type) n
def plainB (P : Program) (ts : List TypeId) : Bool := ts.all fun t =>
  match P.underlying t with
  | some .bool => P.cellsOf t == 1
  | some .string => P.cellsOf t == 1
  | some (.int _) => P.cellsOf t == 1
  | some (.slice e) => P.cellsOf t == 1 && decide (0 < P.cellsOf e) && ts.contains e
  | some (.struct fs) => tiles P fs.toList 0 (P.cellsOf t) && fs.toList.all fun f => ts.contains f.type
  | some (.array n e) => P.cellsOf t == n * P.cellsOf e && ts.contains e
  | _ => false
def Old (w : World) : Nat → Nat → Prop := fun b _ => b < w.heap.size
section
variable {H : Type} {enc : TypeId × Value → H} {P : Program} {w : World} {base : Nat} {spare : Nat → Bool} {held : Bool}
theorem open_fields {ts : List TypeId} {r : TypeId → List Value → Option (DataW H × List MemPlace)}
    (hr : ∀ t vs d, t ∈ ts → r t vs = some d → ∃ cs, Typed P t cs ∧ All2 (RepC (Old w) w) cs vs ∧ vs.length = P.cellsOf t ∧ rowBulk cs ≤ bulkD d.1) (vs : List Value) :
    ∀ {fs : List Field} {off : Nat} {xs : List (DataW H × List MemPlace)}, tiles P fs off vs.length = true → (∀ f ∈ fs, f.type ∈ ts) → fs.mapM (fun f => r f.type ((vs.drop f.offset).take (P.cellsOf f.type))) = some xs →
      ∃ css : List (List C), css.length = fs.length ∧ (∀ (j : Nat) (f : Field) (cs : List C), fs[j]? = some f → css[j]? = some cs → Typed P f.type cs) ∧ All2 (RepC (Old w) w) css.flatten (vs.drop off) ∧ rowsBulk css ≤ bulkDs (xs.map (·.1))
  | [], off, xs, ht, _, _ => by
    simp only [tiles, beq_iff_eq] at ht
    refine ⟨[], rfl, fun j f cs h => by simp at h, ?_, by simp [rowsBulk]⟩
    rw [List.drop_eq_nil_of_le (by omega)]
    exact All2.nil
  | f :: fs, off, xs, ht, hm, hx => by
    simp only [tiles, Bool.and_eq_true, beq_iff_eq] at ht
    obtain ⟨hoff, ht⟩ := ht
    rw [List.mapM_cons] at hx
    cases h1 : r f.type ((vs.drop f.offset).take (P.cellsOf f.type)) with
    | none => rw [h1] at hx; cases hx
    | some d =>
      rw [h1] at hx
      cases h2 : fs.mapM (fun f => r f.type ((vs.drop f.offset).take (P.cellsOf f.type))) with
      | none => rw [h2] at hx; cases hx
      | some ys =>
        obtain ⟨cs, hc, ha, hl, hbk⟩ := hr _ _ _ (hm f (List.mem_cons_self ..)) h1
        obtain ⟨css, hcl, hct, hca, hbks⟩ := open_fields hr vs ht (fun g hg => hm g (List.mem_cons_of_mem _ hg)) h2
        have hxs : xs = d :: ys := by rw [h2] at hx; exact (Option.some.inj hx).symm
        refine ⟨cs :: css, by simp [hcl], ?_, ?_, by rw [hxs]; simp only [rowsBulk, List.map_cons, bulkDs]; omega⟩
        · intro j g ds hg hd
          cases j with
          | zero => simp at hg hd; subst hg; subst hd; exact hc
          | succ j => simp at hg hd; exact hct j g ds hg hd
        · rw [hoff] at ha
          rw [List.flatten_cons, ← List.take_append_drop (P.cellsOf f.type) (vs.drop off), List.drop_drop]
          exact All2.append ha hca
theorem rows_of {V : Nat → Nat → Prop} {s b o : Nat} {Q : List C → Prop} {g : Nat → Nat} : ∀ n : Nat,
    (∀ i, i < n → ∃ (cs : List C) (us : List Value), (Q cs ∧ rowBulk cs ≤ g i) ∧ All2 (RepC V w) cs us ∧ us.length = s ∧ ∀ j, j < s → w.cell? ⟨b, o + (i * s + j), none⟩ = us[j]?) →
    ∃ (rows : List (List C)) (us : List Value), rows.length = n ∧ (∀ x ∈ rows, Q x ∧ x.length = s) ∧ us.length = n * s ∧ All2 (RepC V w) rows.flatten us ∧ (∀ j, j < n * s → w.cell? ⟨b, o + j, none⟩ = us[j]?) ∧ ∀ (j : Nat) (r : List C), rows[j]? = some r → rowBulk r ≤ g j
  | 0, _ => ⟨[], [], rfl, fun x hx => by simp at hx, by simp, All2.nil, fun j hj => by simp at hj, fun j r h => by simp at h⟩
  | n + 1, h => by
    obtain ⟨rows, us, h1, h2, h3, h4, h5, h6⟩ := rows_of n fun i hi => h i (Nat.lt_succ_of_lt hi)
    obtain ⟨cs, vs, ⟨g1, g5⟩, g2, g3, g4⟩ := h n (Nat.lt_succ_self n)
    refine ⟨rows ++ [cs], us ++ vs, by simp [h1], fun x hx => ?_, by rw [List.length_append, h3, g3, Nat.add_mul, Nat.one_mul], ?_, fun j hj => ?_, fun j r hr => ?_⟩
    · rcases List.mem_append.1 hx with hx | hx
      · exact h2 x hx
      · simp only [List.mem_singleton] at hx; subst hx; exact ⟨g1, by rw [g2.1, g3]⟩
    · rw [List.flatten_append, List.flatten_cons, List.flatten_nil, List.append_nil]
      exact h4.append g2
    · rw [Nat.add_mul, Nat.one_mul] at hj
      rcases Nat.lt_or_ge j (n * s) with hlt | hge
      · rw [List.getElem?_append_left (by omega)]; exact h5 j hlt
      · rw [List.getElem?_append_right (by omega), h3, ← g4 (j - n * s) (by omega)]
        rw [show n * s + (j - n * s) = j by omega]
    · rcases Nat.lt_or_ge j rows.length with hlt | hge
      · rw [List.getElem?_append_left hlt] at hr; exact h6 j r hr
      · rw [List.getElem?_append_right hge] at hr
        have hj : j - rows.length = 0 := by
          rcases Nat.eq_zero_or_pos (j - rows.length) with h0 | h0
          · exact h0
          · rw [List.getElem?_eq_none (by simp; omega)] at hr; cases hr
        rw [hj] at hr
        simp at hr; subst hr
        have : j = n := by omega
        subst this; exact g5
theorem open_elems {ts : List TypeId} {e : TypeId} (he : e ∈ ts) {r : TypeId → List Value → Option (DataW H × List MemPlace)}
    (hr : ∀ t vs d, t ∈ ts → r t vs = some d → ∃ cs, Typed P t cs ∧ All2 (RepC (Old w) w) cs vs ∧ vs.length = P.cellsOf t ∧ rowBulk cs ≤ bulkD d.1) (vs : List Value) :
    ∀ (n k : Nat) (xs : List (DataW H × List MemPlace)), vs.length = (k + n) * P.cellsOf e → (List.range' k n).mapM (fun i => r e ((vs.drop (i * P.cellsOf e)).take (P.cellsOf e))) = some xs →
      ∃ css : List (List C), css.length = n ∧ (∀ cs ∈ css, Typed P e cs) ∧ All2 (RepC (Old w) w) css.flatten (vs.drop (k * P.cellsOf e)) ∧ rowsBulk css ≤ bulkDs (xs.map (·.1))
  | 0, k, xs, hl, _ => ⟨[], rfl, fun cs h => by simp at h, by rw [List.drop_eq_nil_of_le (by rw [hl]; simp)]; exact All2.nil, by simp [rowsBulk]⟩
  | n + 1, k, xs, hl, hx => by
    rw [List.range'_succ, List.mapM_cons] at hx
    cases h1 : r e ((vs.drop (k * P.cellsOf e)).take (P.cellsOf e)) with
    | none => rw [h1] at hx; cases hx
    | some d =>
      rw [h1] at hx
      cases h2 : (List.range' (k + 1) n).mapM (fun i => r e ((vs.drop (i * P.cellsOf e)).take (P.cellsOf e))) with
      | none => rw [h2] at hx; cases hx
      | some ys =>
        obtain ⟨cs, hc, ha, hlen, hbk⟩ := hr _ _ _ he h1
        obtain ⟨css, hcl, hct, hca, hbks⟩ := open_elems he hr vs n (k + 1) ys (by rw [hl]; congr 1; omega) h2
        have hxs : xs = d :: ys := by rw [h2] at hx; exact (Option.some.inj hx).symm
        refine ⟨cs :: css, by simp [hcl], ?_, ?_, by rw [hxs]; simp only [rowsBulk, List.map_cons, bulkDs]; omega⟩
        · intro x hx
          rcases List.mem_cons.1 hx with rfl | hx
          · exact hc
          · exact hct x hx
        · rw [List.flatten_cons, ← List.take_append_drop (P.cellsOf e) (vs.drop (k * P.cellsOf e)), List.drop_drop]
          rw [Nat.add_mul, Nat.one_mul] at hca
          exact All2.append ha hca
theorem open_cells {ts : List TypeId} (hp : plainB P ts = true) : ∀ (fuel : Nat) {t : TypeId} {vs : List Value} {d : DataW H × List MemPlace}, t ∈ ts → DataW.trod enc P w base (fun _ => true) held fuel t vs = some d →
    ∃ cs, Typed P t cs ∧ All2 (RepC (Old w) w) cs vs ∧ vs.length = P.cellsOf t ∧ rowBulk cs ≤ bulkD d.1
  | 0, _, _, _, _, h => by unfold DataW.trod at h; cases h
  | fuel + 1, t, vs, d, ht, h => by
    have hpt := List.all_eq_true.mp hp t ht
    unfold DataW.trod at h
    cases hu : P.underlying t with
    | none => rw [hu] at hpt; cases hpt
    | some u =>
      rw [hu] at hpt h
      cases u with
      | bool =>
        obtain ⟨b, rfl, hd⟩ : ∃ b, vs = [.bool b] ∧ d.1 = .lit (.bool b) := by split at h <;> simp_all <;> (subst h; rfl)
        exact ⟨[.v (.bool b)], .bool hu, All2.cons (.v _ rfl) All2.nil, (beq_iff_eq.mp hpt).symm, by rw [hd]; simp [rowBulk, C.bulk, bulkD]⟩
      | int k =>
        obtain ⟨n, rfl, wf, hd⟩ : ∃ n, vs = [.int k n] ∧ (Lit.int k n).wf = true ∧ d.1 = .lit (.int k n) := by
          split at h <;> simp_all <;> (obtain ⟨_, rfl⟩ := h; rfl)
        exact ⟨[.v (.int k n)], .int hu wf, All2.cons (.v _ rfl) All2.nil, (beq_iff_eq.mp hpt).symm, by rw [hd]; simp [rowBulk, C.bulk, bulkD]⟩
      | string =>
        obtain ⟨s, rfl, hs, hd⟩ : ∃ s, vs = [.string s] ∧ s.size ≤ maxLen ∧ d.1 = .lit (.string s.data.toList) := by
          split at h <;> simp_all <;> (obtain ⟨_, rfl⟩ := h; rfl)
        exact ⟨[.v (.string (bs s.data.toList))], .str hu hs, All2.cons (.v _ rfl) All2.nil, (beq_iff_eq.mp hpt).symm, by rw [hd]; simp [rowBulk, C.bulk, bulkD]⟩
      | slice e =>
        simp only [Bool.and_eq_true, beq_iff_eq, decide_eq_true_eq] at hpt
        obtain ⟨⟨hc1, hpos⟩, hin⟩ := hpt
        have hin : e ∈ ts := by simpa using hin
        have hsf : DataW.trodStep enc P w base (fun _ => true) held (DataW.trod enc P w base (fun _ => true) held fuel) t vs = some d := by unfold DataW.trodStep; rw [hu]; exact h
        have key : ∀ vs, DataW.trodStep enc P w base (fun _ => true) held (DataW.trod enc P w base (fun _ => true) held fuel) t vs = some d → (vs = [.slice none 0 0] ∧ d.1 = .nil) ∨ ∃ (a : Addr) (len cap : Nat) (elems rest : List (DataW H × List MemPlace)), vs = [.slice (some a) len cap] ∧ len ≤ cap ∧ cap ≤ maxLen ∧
            d.1 = .slice (elems.map (·.1)) (rest.map (·.1)) ∧ elems.length = len ∧ rest.length = cap - len ∧
            ∀ i, i < cap → ∃ x y, w.cells? base (a.add (i * P.cellsOf e)) (P.cellsOf e) = some x ∧ DataW.trod enc P w base (fun _ => true) held fuel e x = some y ∧ (if i < len then elems[i]? = some y else rest[i - len]? = some y) := by
          intro vs h
          unfold DataW.trodStep at h
          rw [hu] at h
          match vs, h with
          | [.slice none 0 0], h => exact .inl ⟨rfl, by simp only at h; injection h with h; subst h; rfl⟩
          | [.slice (some a) len cap], h =>
            simp only at h
            split at h
            · rename_i hk
              generalize hel : (fun i => (w.cells? base (a.add (i * P.cellsOf e)) (P.cellsOf e)).bind (DataW.trod enc P w base (fun _ => true) held fuel e)) = elemAt at h
              have hb : ∀ j, (w.cells? base (a.add ((len + j) * P.cellsOf e)) (P.cellsOf e)).bind (DataW.trod enc P w base (fun _ => true) held fuel e) = elemAt (len + j) := fun j => by rw [← hel]
              simp only [hb] at h
              cases hm : (List.range len).mapM elemAt with
              | none => rw [hm] at h; cases h
              | some l1 =>
                rw [hm] at h
                simp only [Option.bind_some, if_true] at h
                cases hm2 : (List.range (cap - len)).mapM (fun j => elemAt (len + j)) with
                | none => rw [hm2] at h; cases h
                | some l2 =>
                  rw [hm2] at h
                  simp only [Option.map_some, Option.some.injEq] at h
                  have h41 := mapM_some_length hm
                  have h42 := mapM_some_length hm2
                  rw [List.length_range] at h41 h42
                  refine .inr ⟨a, len, cap, l1, l2, rfl, hk.2.1, hk.2.2, by rw [← h], h41, h42, fun i hi => ?_⟩
                  have hsome : ∃ y, elemAt i = some y ∧ (if i < len then l1[i]? = some y else l2[i - len]? = some y) := by
                    rcases Nat.lt_or_ge i len with hlt | hge
                    · have h3 := mapM_some_get hm i i (by simp [hlt])
                      refine ⟨l1[i], ?_, ?_⟩
                      · rw [h3]; exact List.getElem?_eq_getElem (by omega)
                      · rw [if_pos hlt]; exact List.getElem?_eq_getElem (by omega)
                    · have h3 := mapM_some_get hm2 (i - len) (i - len) (by rw [List.getElem?_range (by omega)])
                      simp only [show len + (i - len) = i by omega] at h3
                      refine ⟨l2[i - len]'(by omega), ?_, ?_⟩
                      · rw [h3]; exact List.getElem?_eq_getElem (by omega)
                      · rw [if_neg (by omega)]; exact List.getElem?_eq_getElem (by omega)
                  obtain ⟨y, hy, hy2⟩ := hsome
                  rw [← hel] at hy
                  simp only [Option.bind_eq_some_iff] at hy
                  obtain ⟨x, hx1, hx2⟩ := hy
                  exact ⟨x, y, hx1, hx2, hy2⟩
            · cases h
        rcases key vs hsf with ⟨rfl, hd⟩ | ⟨a, len, cap, elems, rest, rfl, hlc, hcm, hd, hdl1, hdl2, hel⟩
        · exact ⟨[.sl [] []], .sl hu (fun x hx => by simp at hx) (by simp), All2.cons (.nil 0) All2.nil, by simpa using hc1.symm, by rw [hd]; simp [rowBulk, C.bulk, rowsBulk, bulkD]⟩
        · rcases Nat.eq_zero_or_pos cap with h0 | h0
          · subst h0
            obtain rfl : len = 0 := by omega
            exact ⟨[.sl [] []], .sl hu (fun x hx => by simp at hx) (by simp), All2.cons (.emp a) All2.nil, by simpa using hc1.symm, by rw [hd]; simp [rowBulk, C.bulk, rowsBulk, bulkD]⟩
          · obtain ⟨b, o, sp⟩ := a
            have hspot : sp = none := by
              obtain ⟨x, y, hx, _, _⟩ := hel 0 h0
              obtain ⟨_, hxl, hxc⟩ := World.cells?_some hx
              have h1 := hxc 0 hpos
              rw [List.getElem?_eq_getElem (by omega)] at h1
              cases sp with
              | none => rfl
              | some k =>
                simp only [Nat.zero_mul, Addr.add, if_true] at h1
                unfold World.cell? at h1
                split at h1
                · simp at h1
                · cases h1
            subst hspot
            let gB : Nat → Nat := fun i => ((if i < len then elems[i]? else rest[i - len]?).map fun y => bulkD y.1).getD 0
            obtain ⟨rows, us, h1, h2, h3, h4, h5, h6⟩ := rows_of (w := w) (V := Old w) (s := P.cellsOf e) (b := b) (o := o) (Q := Typed P e) (g := gB) cap fun i hi => by
              obtain ⟨x, y, hx, hy, hy2⟩ := hel i hi
              obtain ⟨cs, g1, g2, g3, g4⟩ := open_cells hp fuel hin hy
              obtain ⟨_, hxl, hxc⟩ := World.cells?_some hx
              have hg : gB i = bulkD y.1 := by
                simp only [gB]
                by_cases hlt : i < len
                · rw [if_pos hlt] at hy2 ⊢; rw [hy2]; rfl
                · rw [if_neg hlt] at hy2 ⊢; rw [hy2]; rfl
              refine ⟨cs, x, ⟨g1, by rw [hg]; exact g4⟩, g2, g3, fun j hj => ?_⟩
              rw [← hxc j hj, add_at, add_at, Nat.add_assoc]
            have hrl : (rows.take len ++ rows.drop len) = rows := List.take_append_drop len rows
            refine ⟨[.sl (rows.take len) (rows.drop len)], .sl hu (fun x hx => (h2 x (by rw [hrl] at hx; exact hx)).1) (by rw [List.length_take, List.length_drop]; omega), All2.cons ?_ All2.nil, by simpa using hc1.symm, ?_⟩
            case refine_2 =>
              have k1 : rowsBulk (rows.take len) ≤ bulkDs (elems.map (·.1)) := rowsBulk_le (by rw [List.length_take, List.length_map]; omega) fun j r d hr hd => by
                have hj : j < len := by have := (List.getElem?_eq_some_iff.1 hr).1; rw [List.length_take] at this; omega
                rw [List.getElem?_take, if_pos hj] at hr
                have := h6 j r hr
                rw [List.getElem?_map] at hd
                simp only [gB, if_pos hj] at this
                cases he : elems[j]? with
                | none => rw [he] at hd; cases hd
                | some y => rw [he] at hd this; simp at hd; subst hd; exact this
              have k2 : rowsBulk (rows.drop len) ≤ bulkDs (rest.map (·.1)) := rowsBulk_le (by rw [List.length_drop, List.length_map]; omega) fun j r d hr hd => by
                rw [List.getElem?_drop] at hr
                have := h6 (len + j) r hr
                rw [List.getElem?_map] at hd
                simp only [gB, if_neg (show ¬ len + j < len by omega), show len + j - len = j by omega] at this
                cases he : rest[j]? with
                | none => rw [he] at hd; cases hd
                | some y => rw [he] at hd this; simp at hd; subst hd; exact this
              rw [hd]
              simp only [rowBulk, C.bulk, bulkD]; omega
            refine .sl _ _ (P.cellsOf e) b o len cap us (by rw [List.length_take]; omega) (by rw [List.length_take, List.length_drop]; omega) hcm (fun x hx => (h2 x (by rw [hrl] at hx; exact hx)).2) (by rw [hrl]; exact h4.1.symm) (fun j u hj => ?_) (fun j c u hc hj => ?_)
            · have hlt : j < cap * P.cellsOf e := by rw [← h3]; exact (List.getElem?_eq_some_iff.1 hj).1
              have h6 := (h5 j hlt).trans hj
              exact ⟨h6, World.block_lt_of_cell? w _ h6⟩
            · rw [hrl] at hc; exact h4.2 j c u hc hj
      | struct fs =>
        simp only [Bool.and_eq_true, List.all_eq_true] at hpt
        have hsf : DataW.trodStep enc P w base (fun _ => true) held (DataW.trod enc P w base (fun _ => true) held fuel) t vs = some d := by unfold DataW.trodStep; rw [hu]; exact h
        have key : ∀ vs, DataW.trodStep enc P w base (fun _ => true) held (DataW.trod enc P w base (fun _ => true) held fuel) t vs = some d → vs.length = P.cellsOf t ∧ ∃ xs, fs.toList.mapM (fun f => DataW.trod enc P w base (fun _ => true) held fuel f.type ((vs.drop f.offset).take (P.cellsOf f.type))) = some xs ∧ d.1 = .agg (xs.map (·.1)) := by
          intro vs h
          unfold DataW.trodStep at h
          rw [hu] at h
          simp only at h
          split at h
          · rename_i hk
            refine ⟨hk, ?_⟩
            cases hm : fs.toList.mapM (fun f => DataW.trod enc P w base (fun _ => true) held fuel f.type ((vs.drop f.offset).take (P.cellsOf f.type))) with
            | none => rw [hm] at h; cases h
            | some xs => rw [hm] at h; simp only [Option.map_some, Option.some.injEq] at h; exact ⟨xs, rfl, by rw [← h]⟩
          · cases h
        obtain ⟨hl, xs, hx, hd⟩ := key vs hsf
        obtain ⟨css, h1, h2, h3, h4⟩ := open_fields (ts := ts) (fun t vs d ht h => open_cells hp fuel ht h) vs (by rw [hl]; exact hpt.1) (fun f hf => by simpa using hpt.2 f hf) hx
        exact ⟨css.flatten, .struct hu h1 h2, h3, hl, by rw [hd, rowBulk_flatten]; simp only [bulkD]; omega⟩
      | array n e =>
        simp only [Bool.and_eq_true, beq_iff_eq] at hpt
        obtain ⟨hcn, hin⟩ := hpt
        have hin : e ∈ ts := by simpa using hin
        have hsf : DataW.trodStep enc P w base (fun _ => true) held (DataW.trod enc P w base (fun _ => true) held fuel) t vs = some d := by unfold DataW.trodStep; rw [hu]; exact h
        have key : ∀ vs, DataW.trodStep enc P w base (fun _ => true) held (DataW.trod enc P w base (fun _ => true) held fuel) t vs = some d → vs.length = P.cellsOf t ∧ ∃ xs, (List.range n).mapM (fun i => DataW.trod enc P w base (fun _ => true) held fuel e ((vs.drop (i * P.cellsOf e)).take (P.cellsOf e))) = some xs ∧ d.1 = .agg (xs.map (·.1)) := by
          intro vs h
          unfold DataW.trodStep at h
          rw [hu] at h
          simp only at h
          split at h
          · rename_i hk
            refine ⟨hk, ?_⟩
            cases hm : (List.range n).mapM (fun i => DataW.trod enc P w base (fun _ => true) held fuel e ((vs.drop (i * P.cellsOf e)).take (P.cellsOf e))) with
            | none => rw [hm] at h; cases h
            | some xs => rw [hm] at h; simp only [Option.map_some, Option.some.injEq] at h; exact ⟨xs, rfl, by rw [← h]⟩
          · cases h
        obtain ⟨hl, xs, hx, hd⟩ := key vs hsf
        rw [List.range_eq_range'] at hx
        obtain ⟨css, h1, h2, h3, h4⟩ := open_elems (ts := ts) hin (fun t vs d ht h => open_cells hp fuel ht h) vs n 0 xs (by rw [hl, hcn]; simp) hx
        exact ⟨css.flatten, .arr hu h1 h2, by simpa using h3, hl, by rw [hd, rowBulk_flatten]; simp only [bulkD]; omega⟩
      | _ => cases hpt
theorem Typed.asInt {t : TypeId} {k : IntKind} {cs : List C} (hu : P.underlying t = some (.int k)) (h : Typed P t cs) : ∃ n, cs = [.v (.int k n)] ∧ (Lit.int k n).wf = true := by
  cases h with
  | int h wf => rw [hu] at h; injection h with h; injection h with h; subst h; exact ⟨_, rfl, wf⟩
  | bool h => rw [hu] at h; cases h
  | str h => rw [hu] at h; cases h
  | sl h => rw [hu] at h; cases h
  | struct h => rw [hu] at h; cases h
  | arr h => rw [hu] at h; cases h
theorem Typed.asSlice {t e : TypeId} {cs : List C} (hu : P.underlying t = some (.slice e)) (h : Typed P t cs) : ∃ es sp, cs = [.sl es sp] ∧ (∀ x ∈ es ++ sp, Typed P e x) ∧ es.length + sp.length ≤ maxLen := by
  cases h with
  | int h => rw [hu] at h; cases h
  | bool h => rw [hu] at h; cases h
  | str h hs => rw [hu] at h; cases h
  | sl h h1 h2 => rw [hu] at h; injection h with h; injection h with h; subst h; exact ⟨_, _, rfl, h1, h2⟩
  | struct h => rw [hu] at h; cases h
  | arr h => rw [hu] at h; cases h
def TypedAll (P : Program) : List Field → List C → Prop
  | [], cs => cs = []
  | f :: fs, cs => ∃ a b, cs = a ++ b ∧ Typed P f.type a ∧ TypedAll P fs b
theorem typedAll_of : ∀ {fs : List Field} {css : List (List C)}, css.length = fs.length → (∀ (j : Nat) (f : Field) (cs : List C), fs[j]? = some f → css[j]? = some cs → Typed P f.type cs) → TypedAll P fs css.flatten
  | [], [], _, _ => rfl
  | f :: fs, cs :: css, hl, h => ⟨cs, css.flatten, rfl, h 0 f cs rfl rfl, typedAll_of (by simpa using hl) fun j g c h1 h2 => h (j + 1) g c (by simpa using h1) (by simpa using h2)⟩
  | [], _ :: _, hl, _ => by simp at hl
  | _ :: _, [], hl, _ => by simp at hl
theorem Typed.asStruct {t : TypeId} {fs : Array Field} {cs : List C} (hu : P.underlying t = some (.struct fs)) (h : Typed P t cs) : TypedAll P fs.toList cs := by
  cases h with
  | int h => rw [hu] at h; cases h
  | bool h => rw [hu] at h; cases h
  | str h hs => rw [hu] at h; cases h
  | sl h h1 h2 => rw [hu] at h; cases h
  | struct h hl hf => rw [hu] at h; injection h with h; injection h with h; subst h; exact typedAll_of hl hf
  | arr h => rw [hu] at h; cases h
theorem Typed.asArr {t e : TypeId} {n : Nat} {cs : List C} (hu : P.underlying t = some (.array n e)) (h : Typed P t cs) : ∃ css : List (List C), cs = css.flatten ∧ css.length = n ∧ ∀ c ∈ css, Typed P e c := by
  cases h with
  | int h => rw [hu] at h; cases h
  | bool h => rw [hu] at h; cases h
  | str h hs => rw [hu] at h; cases h
  | sl h h1 h2 => rw [hu] at h; cases h
  | struct h => rw [hu] at h; cases h
  | arr h hl hf => rw [hu] at h; injection h with h; injection h with h1 h2; subst h1; subst h2; exact ⟨_, rfl, hl, hf⟩
def isAggTy (P : Program) (t : TypeId) : Prop := (∃ fs, P.underlying t = some (.struct fs)) ∨ ∃ n e, P.underlying t = some (.array n e)
def TypedX (P : Program) (t : TypeId) : CX → Prop
  | .one c => Typed P t [c] ∧ ¬ isAggTy P t
  | .agg cs => Typed P t cs ∧ isAggTy P t
def CX.bulk : CX → Nat
  | .one c => c.bulk
  | .agg cs => rowBulk cs
theorem TypedX.asArr {t e : TypeId} {n : Nat} {x : CX} (hu : P.underlying t = some (.array n e)) (h : TypedX P t x) : ∃ cs, x = .agg cs ∧ Typed P t cs := by
  cases x with
  | one c => exact (h.2 (.inr ⟨n, e, hu⟩)).elim
  | agg cs => exact ⟨cs, rfl, h.1⟩
theorem TypedX.asOne {t : TypeId} {x : CX} (hu : ¬ isAggTy P t) (h : TypedX P t x) : ∃ c, x = .one c ∧ Typed P t [c] := by
  cases x with
  | one c => exact ⟨c, rfl, h.1⟩
  | agg cs => exact (hu h.2).elim
theorem open_arg {ts : List TypeId} (hp : plainB P ts = true) {t : TypeId} (ht : t ∈ ts) {v : Value} {d : DataW H} {ps : List MemPlace} {r : Reach} {b0 : Nat}
    (hv : Value.okWide P w r b0 t v) (h : DataW.Trod enc P w base (fun _ => true) held t v d ps) : ∃ x, TypedX P t x ∧ RepCX (Old w) w x v ∧ x.bulk ≤ bulkD d := by
  obtain ⟨fuel, h⟩ := h
  obtain ⟨cs, h1, h2, h3, h4⟩ := open_cells hp fuel ht h
  have hpt := List.all_eq_true.mp hp t ht
  unfold Value.okWide at hv
  cases hu : P.underlying t with
  | none => rw [hu] at hpt; cases hpt
  | some u =>
    rw [hu] at hpt hv
    by_cases hs : (∃ fs, u = .struct fs) ∨ ∃ n e, u = .array n e
    · have hag : isAggTy P t := hs.imp (fun ⟨fs, e⟩ => ⟨fs, by rw [hu, e]⟩) fun ⟨n, e, h⟩ => ⟨n, e, by rw [hu, h]⟩
      obtain ⟨vs, rfl⟩ : ∃ vs, v = .agg vs := by
        rcases hs with ⟨fs, rfl⟩ | ⟨n, e, rfl⟩
        · obtain ⟨vs, e, _⟩ := hv; exact ⟨vs, e⟩
        · obtain ⟨vs, e, _⟩ := hv; exact ⟨vs, e⟩
      exact ⟨.agg cs, ⟨h1, hag⟩, ⟨vs.toList, by simp, h2⟩, h4⟩
    · have hns : ∀ fs, u ≠ .struct fs := fun fs e => hs (.inl ⟨fs, e⟩)
      have hna : ∀ n e, u ≠ .array n e := fun n e h => hs (.inr ⟨n, e, h⟩)
      have h1c : P.cellsOf t = 1 := by
        cases u <;> first | exact (hns _ rfl).elim | exact (hna _ _ rfl).elim | exact beq_iff_eq.mp hpt | (simp only [Bool.and_eq_true, beq_iff_eq] at hpt; exact hpt.1.1) | cases hpt
      have hvc : v.oneCell' = true := by
        cases v with
        | agg cs => cases u <;> first | exact (hns _ rfl).elim | exact (hna _ _ rfl).elim | (simp [Cell.okWide, hu, Cell.ok] at hv; done) | cases hpt
        | tuple cs => cases u <;> first | exact (hns _ rfl).elim | exact (hna _ _ rfl).elim | (simp [Cell.okWide, hu, Cell.ok] at hv; done) | cases hpt
        | _ => rfl
      have hvs : v.cells.toList = [v] := by cases v <;> first | rfl | cases hvc
      rw [hvs] at h2
      obtain ⟨c, hc⟩ : ∃ c, cs = [c] := by
        match cs, h2.1 with
        | [c], _ => exact ⟨c, rfl⟩
      subst hc
      refine ⟨.one c, ⟨h1, fun h => ?_⟩, (h2.2 0 c v rfl rfl), by simp only [rowBulk, CX.bulk] at h4 ⊢; omega⟩
      rcases h with ⟨fs, h⟩ | ⟨n, e, h⟩
      · exact hns fs (by rw [hu] at h; exact Option.some.inj h)
      · exact hna n e (by rw [hu] at h; exact Option.some.inj h)
end
end Go.Fx

namespace Go.Fx
open Go.RowKit Go.ChangeShapes
section
variable {H : Type} {enc : TypeId × Value → H} {P : Program}
theorem open_args {w : World} {ts : List TypeId} (hp : plainB P ts = true) {r : Reach} {b0 : Nat} : ∀ {us : List TypeId} {vs : List Value} {ds : List (DataW H)} {ps : List MemPlace}, (∀ t ∈ us, t ∈ ts) →
    (∀ (j : Nat) (t : TypeId) (v : Value), us[j]? = some t → vs[j]? = some v → Value.okWide P w r b0 t v) → DataW.TrodAll enc P w 0 (fun _ => true) true us vs ds ps →
    ∃ cs, All2 (TypedX P) us cs ∧ All2 (RepCX (Old w) w) cs vs ∧ (cs.map CX.bulk).sum ≤ bulkDs ds
  | [], [], [], _, _, _, _ => ⟨[], All2.nil, All2.nil, Nat.zero_le _⟩
  | t :: us, v :: vs, d :: ds, _, hm, hv, h => by
    obtain ⟨p, q, h1, h2, _⟩ := h
    obtain ⟨x, hx, hr, hb⟩ := open_arg hp (hm t (List.mem_cons_self ..)) (hv 0 t v rfl rfl) h1
    obtain ⟨cs, hc, hc2, hb2⟩ := open_args hp (fun t ht => hm t (List.mem_cons_of_mem _ ht)) (fun j t v h1 h2 => hv (j + 1) t v (by simpa using h1) (by simpa using h2)) h2
    exact ⟨x :: cs, All2.cons hx hc, All2.cons hr hc2, by simp only [List.map_cons, List.sum_cons, bulkDs]; omega⟩
  | [], _ :: _, _, _, _, _, h => h.elim
  | [], [], _ :: _, _, _, _, h => h.elim
  | _ :: _, [], _, _, _, _, h => h.elim
  | _ :: _, _ :: _, [], _, _, _, h => h.elim
theorem trodAll_later (hl : laidOutB P = true) {w w' : World} (hb : Below w.heap.size w w') {sp : Nat → Bool} : ∀ {us : List TypeId} {vs : List Value} {ds : List (DataW H)} {ps : List MemPlace},
    (us.all fun t => P.readableRec t && decide (t < P.types.size)) = true → (∀ p ∈ ps, p.block < w.heap.size) → (∀ p ∈ ps, sp p.block = true) →
    DataW.TrodAll enc P w 0 (fun _ => true) true us vs ds ps → DataW.TrodAll enc P w' 0 sp true us vs ds ps
  | [], [], [], _, _, _, _, h => h
  | t :: us, v :: vs, d :: ds, _, hr, hlt, hsp, h => by
    obtain ⟨p, q, h1, h2, rfl⟩ := h
    simp only [List.all_cons, Bool.and_eq_true, decide_eq_true_eq] at hr
    refine ⟨p, q, WideElems.Trod_stays hl hr.1.1 hr.1.2 h1 (fun x hx => hb.same (hlt x (List.mem_append_left _ hx))) (fun x hx => hsp x (List.mem_append_left _ hx)), ?_, rfl⟩
    exact trodAll_later hl hb hr.2 (fun x hx => hlt x (List.mem_append_right _ hx)) (fun x hx => hsp x (List.mem_append_right _ hx)) h2
  | [], _ :: _, _, _, _, _, _, h => h.elim
  | [], [], _ :: _, _, _, _, _, h => h.elim
  | _ :: _, [], _, _, _, _, _, h => h.elim
  | _ :: _, _ :: _, [], _, _, _, _, h => h.elim
theorem law_calls {G : World → Prop} {N : Nat} {f : FuncId} {fn : Func} {s : ChangeSpec} {apart fresh handsOn again : Bool} {W : World} {base : Nat} {args : Array Value} {ds gs : List (DataW H)} {before : List MemPlace} {ts : List TypeId} {tb : TypeId}
    (hl : laidOutB P = true) (hread : (fn.params.toList.all fun t => P.readableRec t && decide (t < P.types.size)) = true) (hp : plainB P ts = true) (hin : (fn.params.toList.all fun t => ts.contains t) = true)
    (hres : fn.resultTypes = #[tb]) (htb : P.underlying tb = some .bool) (hvars : s.vars = [])
    (hs : ∀ ds : List (DataW H), ds.length = fn.params.toList.length → s.fn H ds = { results := [.lit (.bool true)], args := ds })
    (hval : ∀ (j : Nat) t v, fn.params[j]? = some t → args[j]? = some v → Value.okWide P W .any base t v)
    (hW : DataW.Whole enc P fn.params.toList s.vars apart W args.toList ds gs before)
    (hG : Held G W) (hN : bulkDs ds ≤ N) (hm : ∀ cs, All2 (TypedX P) fn.params.toList cs → (cs.map CX.bulk).sum ≤ N → Meets P G f cs (.x (.one (cB true)))) :
    Calls P f args W fun e W' => ∃ v, e = .returned v ∧ s.post enc P fn apart fresh handsOn again W args v W' := by
  have hlt := hW.lt
  obtain ⟨p, q, hA, hV, hpq, hz, hn⟩ := id hW
  rw [hvars] at hV
  have hgq : gs = [] ∧ q = [] := by
    cases gs with
    | nil => exact ⟨rfl, hV⟩
    | cons g gs => exact hV.elim
  obtain ⟨rfl, rfl⟩ := hgq
  rw [List.append_nil] at hpq
  subst hpq
  obtain ⟨cs, hc, hr, hbk⟩ := open_args hp (fun t ht => by simpa using List.all_eq_true.mp hin t ht) (fun j t v h1 h2 => hval j t v (by simpa using h1) (by simpa using h2)) hA
  have hcall := (hm cs hc (Nat.le_trans hbk hN)).2 W (Old W) args.toList hG (fun _ _ h => h) hr
  have hdl : ∀ {us : List TypeId} {vs : List Value} {ds : List (DataW H)} {ps : List MemPlace}, DataW.TrodAll enc P W 0 (fun _ => true) true us vs ds ps → ds.length = us.length := by
    intro us
    induction us with
    | nil => intro vs ds ps h; match vs, ds, h with | [], [], _ => rfl
    | cons t us ih =>
      intro vs ds ps h
      match vs, ds, h with
      | _ :: _, _ :: _, ⟨_, _, _, h2, _⟩ => simp [ih h2]
  refine (show Calls P f args W _ from hcall).mono fun e W' ⟨v, he, hrep, hbelow⟩ => ⟨v, he, ?_⟩
  have hv : v = .bool true := by cases hrep; rfl
  subst hv
  have hfn := hs (ds ++ []) (by rw [List.append_nil]; exact hdl hA)
  have hargs : ∀ sp : Nat → Bool, (∀ x ∈ before, sp x.block = true) → DataW.TrodAll enc P W' 0 sp true fn.params.toList args.toList (s.fn H (ds ++ [])).args before := fun sp hsp => by
    rw [hfn]; simp only [List.append_nil]
    exact trodAll_later hl hbelow hread hlt hsp hA
  have hrl : Value.resultList fn.resultTypes.size (.bool true) = [.bool true] := by rw [hres]; rfl
  have hresults : ∀ (b : Nat) (sp : Nat → Bool) (hd : Bool), DataW.TrodAll enc P W' b sp hd fn.resultTypes.toList (Value.resultList fn.resultTypes.size (.bool true)) (s.fn H (ds ++ [])).results [] := fun b sp hd => by
    rw [hrl, hres, hfn]
    exact ⟨[], [], shut_bool htb true, rfl, rfl⟩
  have hvs : ∀ sp : Nat → Bool, DataW.TrodVars enc P W' sp s.vars (s.fn H (ds ++ [])).vars [] := fun sp => by
    rw [hfn, hvars]; exact rfl
  refine ⟨ds, [], before, [], before, [], hW, hresults _ _ _, hargs _ (fun x hx => by simpa using hlt x hx), hvs _, World.keptBut_mono (fun x hx => ⟨hx, .inr (.inl hx)⟩) (hbelow.frame (· ∈ before)), fun _ => ⟨?_, ?_⟩⟩
  · intro j t r h1 h2
    rw [hrl] at h2
    rw [hres] at h1
    cases j with
    | zero => simp at h1 h2; subst h1; subst h2; exact okWide_bool_mk htb true
    | succ j => simp at h2
  · refine ⟨_, _, ([] ++ before) ++ [], ⟨[] ++ before, [], trodAll_append (hargs _ (fun _ _ => rfl)) (hresults _ _ _), hvs _, rfl, ?_, ?_⟩, ?_⟩
    · intro b off hx
      have hx : MemPlace.cell b off ∈ before := by simpa using hx
      rw [hbelow.frozen (hlt _ hx)]
      exact hz b off hx
    · intro ha
      simpa using hn ha
    · intro x hx _
      simpa using hx
end
end Go.Fx

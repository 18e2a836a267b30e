/- Fx, part Y: what a row's arguments are, opened by their types once and for all. -/
import Derived.Test.YtjijjadddeeekaaFxW
import Derived.ProofKit
namespace Go.Fx
open Go.RowKit Go.ChangeShapes

/-- Cells that are of a type. -/
inductive Typed (P : Program) : TypeId → List C → Prop
  | int {t : TypeId} {k : IntKind} {n : Int} (h : P.underlying t = some (.int k)) (wf : (Lit.int k n).wf = true) : Typed P t [.v (.int k n)]
  | bool {t : TypeId} {b : Bool} (h : P.underlying t = some .bool) : Typed P t [.v (.bool b)]
  | str {t : TypeId} {s : List UInt8} (h : P.underlying t = some .string) (hs : s.length ≤ maxLen) : Typed P t [.v (.string (bs s))]
  | sl {t e : TypeId} {es sp : List (List C)} (h : P.underlying t = some (.slice e)) (hes : ∀ x ∈ es ++ sp, Typed P e x) (hn : es.length + sp.length ≤ maxLen) : Typed P t [.sl es sp]
  | struct {t : TypeId} {fs : Array Field} {css : List (List C)} (h : P.underlying t = some (.struct fs)) (hl : css.length = fs.toList.length)
      (hf : ∀ (j : Nat) (f : Field) (cs : List C), fs.toList[j]? = some f → css[j]? = some cs → Typed P f.type cs) : Typed P t css.flatten

/-- Do the fields lie one behind the other, from here to there? -/
def tiles (P : Program) : List Field → Nat → Nat → Bool
  | [], off, n => off == n
  | f :: l, off, n => f.offset == off && tiles P l (off + P.cellsOf f.type) n

/-- Are these types plain, and is what they are made of among them? -/
def plainB (P : Program) (ts : List TypeId) : Bool := ts.all fun t =>
  match P.underlying t with
  | some .bool => P.cellsOf t == 1
  | some .string => P.cellsOf t == 1
  | some (.int _) => P.cellsOf t == 1
  | some (.struct fs) => tiles P fs.toList 0 (P.cellsOf t) && fs.toList.all fun f => ts.contains f.type
  | _ => false

def Old (w : World) : Nat → Nat → Prop := fun b _ => b < w.heap.size

section
variable {H : Type} {enc : TypeId × Value → H} {P : Program} {w : World} {base : Nat} {spare : Nat → Bool} {held : Bool}

theorem open_fields {ts : List TypeId} {r : TypeId → List Value → Option (DataW H × List MemPlace)}
    (hr : ∀ t vs d, t ∈ ts → r t vs = some d → ∃ cs, Typed P t cs ∧ All2 (RepC (Old w) w) cs vs ∧ vs.length = P.cellsOf t) (vs : List Value) :
    ∀ {fs : List Field} {off : Nat} {xs : List (DataW H × List MemPlace)}, tiles P fs off vs.length = true → (∀ f ∈ fs, f.type ∈ ts) → fs.mapM (fun f => r f.type ((vs.drop f.offset).take (P.cellsOf f.type))) = some xs →
      ∃ css : List (List C), css.length = fs.length ∧ (∀ (j : Nat) (f : Field) (cs : List C), fs[j]? = some f → css[j]? = some cs → Typed P f.type cs) ∧ All2 (RepC (Old w) w) css.flatten (vs.drop off)
  | [], off, xs, ht, _, _ => by
    simp only [tiles, beq_iff_eq] at ht
    refine ⟨[], rfl, fun j f cs h => by simp at h, ?_⟩
    rw [List.drop_eq_nil_of_le (by omega)]
    exact All2.nil
  | f :: fs, off, xs, ht, hm, hx => by
    simp only [tiles, Bool.and_eq_true, beq_iff_eq] at ht
    obtain ⟨hoff, ht⟩ := ht
    rw [List.mapM_cons] at hx
    cases h1 : r f.type ((vs.drop f.offset).take (P.cellsOf f.type)) with
    | none => rw [h1] at hx; cases hx
    | some d =>
      rw [h1] at hx
      cases h2 : fs.mapM (fun f => r f.type ((vs.drop f.offset).take (P.cellsOf f.type))) with
      | none => rw [h2] at hx; cases hx
      | some ys =>
        obtain ⟨cs, hc, ha, hl⟩ := hr _ _ _ (hm f (List.mem_cons_self ..)) h1
        obtain ⟨css, hcl, hct, hca⟩ := open_fields hr vs ht (fun g hg => hm g (List.mem_cons_of_mem _ hg)) h2
        refine ⟨cs :: css, by simp [hcl], ?_, ?_⟩
        · intro j g ds hg hd
          cases j with
          | zero => simp at hg hd; subst hg; subst hd; exact hc
          | succ j => simp at hg hd; exact hct j g ds hg hd
        · rw [hoff] at ha
          rw [List.flatten_cons, ← List.take_append_drop (P.cellsOf f.type) (vs.drop off), List.drop_drop]
          exact All2.append ha hca

theorem open_cells {ts : List TypeId} (hp : plainB P ts = true) : ∀ (fuel : Nat) {t : TypeId} {vs : List Value} {d : DataW H × List MemPlace}, t ∈ ts → DataW.trod enc P w base spare held fuel t vs = some d →
    ∃ cs, Typed P t cs ∧ All2 (RepC (Old w) w) cs vs ∧ vs.length = P.cellsOf t
  | 0, _, _, _, _, h => by unfold DataW.trod at h; cases h
  | fuel + 1, t, vs, d, ht, h => by
    have hpt := List.all_eq_true.mp hp t ht
    unfold DataW.trod at h
    cases hu : P.underlying t with
    | none => rw [hu] at hpt; cases hpt
    | some u =>
      rw [hu] at hpt h
      cases u with
      | bool =>
        obtain ⟨b, rfl⟩ : ∃ b, vs = [.bool b] := by split at h <;> simp_all
        exact ⟨[.v (.bool b)], .bool hu, All2.cons (.v _ rfl) All2.nil, (beq_iff_eq.mp hpt).symm⟩
      | int k =>
        obtain ⟨n, rfl, wf⟩ : ∃ n, vs = [.int k n] ∧ (Lit.int k n).wf = true := by
          split at h <;> simp_all
        exact ⟨[.v (.int k n)], .int hu wf, All2.cons (.v _ rfl) All2.nil, (beq_iff_eq.mp hpt).symm⟩
      | string =>
        obtain ⟨s, rfl, hs⟩ : ∃ s, vs = [.string s] ∧ s.size ≤ maxLen := by
          split at h <;> simp_all
        exact ⟨[.v (.string (bs s.data.toList))], .str hu hs, All2.cons (.v _ rfl) All2.nil, (beq_iff_eq.mp hpt).symm⟩
      | struct fs =>
        simp only [Bool.and_eq_true, List.all_eq_true] at hpt
        have hsf : DataW.trodStep enc P w base spare held (DataW.trod enc P w base spare held fuel) t vs = some d := by unfold DataW.trodStep; rw [hu]; exact h
        have key : ∀ vs, DataW.trodStep enc P w base spare held (DataW.trod enc P w base spare held fuel) t vs = some d → vs.length = P.cellsOf t ∧ ∃ xs, fs.toList.mapM (fun f => DataW.trod enc P w base spare held fuel f.type ((vs.drop f.offset).take (P.cellsOf f.type))) = some xs := by
          intro vs h
          unfold DataW.trodStep at h
          rw [hu] at h
          simp only at h
          split at h
          · rename_i hk
            refine ⟨hk, ?_⟩
            cases hm : fs.toList.mapM (fun f => DataW.trod enc P w base spare held fuel f.type ((vs.drop f.offset).take (P.cellsOf f.type))) with
            | none => rw [hm] at h; cases h
            | some xs => exact ⟨xs, rfl⟩
          · cases h
        obtain ⟨hl, xs, hx⟩ := key vs hsf
        obtain ⟨css, h1, h2, h3⟩ := open_fields (ts := ts) (fun t vs d ht h => open_cells hp fuel ht h) vs (by rw [hl]; exact hpt.1) (fun f hf => by simpa using hpt.2 f hf) hx
        exact ⟨css.flatten, .struct hu h1 h2, h3, hl⟩
      | _ => cases hpt

theorem Typed.asInt {t : TypeId} {k : IntKind} {cs : List C} (hu : P.underlying t = some (.int k)) (h : Typed P t cs) : ∃ n, cs = [.v (.int k n)] ∧ (Lit.int k n).wf = true := by
  cases h with
  | int h wf => rw [hu] at h; injection h with h; injection h with h; subst h; exact ⟨_, rfl, wf⟩
  | bool h => rw [hu] at h; cases h
  | str h => rw [hu] at h; cases h
  | sl h => rw [hu] at h; cases h
  | struct h => rw [hu] at h; cases h
theorem Typed.asBool {t : TypeId} {cs : List C} (hu : P.underlying t = some .bool) (h : Typed P t cs) : ∃ b, cs = [.v (.bool b)] := by
  cases h with
  | int h => rw [hu] at h; cases h
  | bool h => exact ⟨_, rfl⟩
  | str h => rw [hu] at h; cases h
  | sl h => rw [hu] at h; cases h
  | struct h => rw [hu] at h; cases h
theorem Typed.asStr {t : TypeId} {cs : List C} (hu : P.underlying t = some .string) (h : Typed P t cs) : ∃ s, cs = [.v (.string (bs s))] ∧ s.length ≤ maxLen := by
  cases h with
  | int h => rw [hu] at h; cases h
  | bool h => rw [hu] at h; cases h
  | str h hs => exact ⟨_, rfl, hs⟩
  | sl h => rw [hu] at h; cases h
  | struct h => rw [hu] at h; cases h
theorem Typed.asSlice {t e : TypeId} {cs : List C} (hu : P.underlying t = some (.slice e)) (h : Typed P t cs) : ∃ es sp, cs = [.sl es sp] ∧ (∀ x ∈ es ++ sp, Typed P e x) ∧ es.length + sp.length ≤ maxLen := by
  cases h with
  | int h => rw [hu] at h; cases h
  | bool h => rw [hu] at h; cases h
  | str h hs => rw [hu] at h; cases h
  | sl h h1 h2 => rw [hu] at h; injection h with h; injection h with h; subst h; exact ⟨_, _, rfl, h1, h2⟩
  | struct h => rw [hu] at h; cases h
/-- The fields' cells, one behind the other. -/
def TypedAll (P : Program) : List Field → List C → Prop
  | [], cs => cs = []
  | f :: fs, cs => ∃ a b, cs = a ++ b ∧ Typed P f.type a ∧ TypedAll P fs b
theorem typedAll_of : ∀ {fs : List Field} {css : List (List C)}, css.length = fs.length → (∀ (j : Nat) (f : Field) (cs : List C), fs[j]? = some f → css[j]? = some cs → Typed P f.type cs) → TypedAll P fs css.flatten
  | [], [], _, _ => rfl
  | f :: fs, cs :: css, hl, h => ⟨cs, css.flatten, rfl, h 0 f cs rfl rfl, typedAll_of (by simpa using hl) fun j g c h1 h2 => h (j + 1) g c (by simpa using h1) (by simpa using h2)⟩
  | [], _ :: _, hl, _ => by simp at hl
  | _ :: _, [], hl, _ => by simp at hl
theorem Typed.asStruct {t : TypeId} {fs : Array Field} {cs : List C} (hu : P.underlying t = some (.struct fs)) (h : Typed P t cs) : TypedAll P fs.toList cs := by
  cases h with
  | int h => rw [hu] at h; cases h
  | bool h => rw [hu] at h; cases h
  | str h hs => rw [hu] at h; cases h
  | sl h h1 h2 => rw [hu] at h; cases h
  | struct h hl hf => rw [hu] at h; injection h with h; injection h with h; subst h; exact typedAll_of hl hf

/-- The cells of an argument, as it is handed over. -/
def TypedX (P : Program) (t : TypeId) : CX → Prop
  | .one c => Typed P t [c] ∧ ∀ fs, P.underlying t ≠ some (.struct fs)
  | .agg cs => Typed P t cs ∧ ∃ fs, P.underlying t = some (.struct fs)

theorem TypedX.asAgg {t : TypeId} {fs : Array Field} {x : CX} (hu : P.underlying t = some (.struct fs)) (h : TypedX P t x) : ∃ cs, x = .agg cs ∧ Typed P t cs := by
  cases x with
  | one c => exact (h.2 fs hu).elim
  | agg cs => exact ⟨cs, rfl, h.1⟩
theorem TypedX.asOne {t : TypeId} {x : CX} (hu : ∀ fs, P.underlying t ≠ some (.struct fs)) (h : TypedX P t x) : ∃ c, x = .one c ∧ Typed P t [c] := by
  cases x with
  | one c => exact ⟨c, rfl, h.1⟩
  | agg cs => obtain ⟨fs, h2⟩ := h.2; exact (hu fs h2).elim

theorem open_arg {ts : List TypeId} (hp : plainB P ts = true) {t : TypeId} (ht : t ∈ ts) {v : Value} {d : DataW H} {ps : List MemPlace} {r : Reach} {b0 : Nat}
    (hv : Value.okWide P w r b0 t v) (h : DataW.Trod enc P w base spare held t v d ps) : ∃ x, TypedX P t x ∧ RepCX (Old w) w x v := by
  obtain ⟨fuel, h⟩ := h
  obtain ⟨cs, h1, h2, h3⟩ := open_cells hp fuel ht h
  have hpt := List.all_eq_true.mp hp t ht
  unfold Value.okWide at hv
  cases hu : P.underlying t with
  | none => rw [hu] at hpt; cases hpt
  | some u =>
    rw [hu] at hpt hv
    by_cases hs : ∃ fs, u = .struct fs
    · obtain ⟨fs, rfl⟩ := hs
      obtain ⟨vs, rfl, _⟩ := hv
      exact ⟨.agg cs, ⟨h1, fs, hu⟩, vs.toList, by simp, h2⟩
    · have h1c : P.cellsOf t = 1 := by
        cases u <;> first | exact (hs ⟨_, rfl⟩).elim | exact beq_iff_eq.mp hpt | cases hpt
      have hvc : v.oneCell' = true := by
        cases v with
        | agg cs => cases u <;> first | exact (hs ⟨_, rfl⟩).elim | (simp [Cell.okWide, hu, Cell.ok] at hv; done) | cases hpt
        | tuple cs => cases u <;> first | exact (hs ⟨_, rfl⟩).elim | (simp [Cell.okWide, hu, Cell.ok] at hv; done) | cases hpt
        | _ => rfl
      have hvs : v.cells.toList = [v] := by cases v <;> first | rfl | cases hvc
      rw [hvs] at h2
      obtain ⟨c, hc⟩ : ∃ c, cs = [c] := by
        match cs, h2.1 with
        | [c], _ => exact ⟨c, rfl⟩
      subst hc
      exact ⟨.one c, ⟨h1, fun fs e => hs ⟨fs, by rw [hu] at e; exact Option.some.inj e⟩⟩, (h2.2 0 c v rfl rfl)⟩

end
end Go.Fx

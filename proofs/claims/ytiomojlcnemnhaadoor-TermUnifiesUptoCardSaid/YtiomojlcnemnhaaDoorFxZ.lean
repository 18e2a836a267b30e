/- Fx, part Z: from a law's contract to what its row asks. -/
import Derived.Test.YtiomojlcnemnhaaDoorFxY
namespace Go.Fx
open Go.RowKit Go.ChangeShapes

section
variable {H : Type} {enc : TypeId × Value → H} {P : Program}

theorem open_args {w : World} {ts : List TypeId} (hp : plainB P ts = true) {r : Reach} {b0 : Nat} : ∀ {us : List TypeId} {vs : List Value} {ds : List (DataW H)} {ps : List MemPlace}, (∀ t ∈ us, t ∈ ts) →
    (∀ (j : Nat) (t : TypeId) (v : Value), us[j]? = some t → vs[j]? = some v → Value.okWide P w r b0 t v) → DataW.TrodAll enc P w 0 (fun _ => true) true us vs ds ps →
    ∃ cs, All2 (TypedX P) us cs ∧ All2 (RepCX (Old w) w) cs vs ∧ (cs.map CX.bulk).sum ≤ bulkDs ds
  | [], [], [], _, _, _, _ => ⟨[], All2.nil, All2.nil, Nat.zero_le _⟩
  | t :: us, v :: vs, d :: ds, _, hm, hv, h => by
    obtain ⟨p, q, h1, h2, _⟩ := h
    obtain ⟨x, hx, hr, hb⟩ := open_arg hp (hm t (List.mem_cons_self ..)) (hv 0 t v rfl rfl) h1
    obtain ⟨cs, hc, hc2, hb2⟩ := open_args hp (fun t ht => hm t (List.mem_cons_of_mem _ ht)) (fun j t v h1 h2 => hv (j + 1) t v (by simpa using h1) (by simpa using h2)) h2
    exact ⟨x :: cs, All2.cons hx hc, All2.cons hr hc2, by simp only [List.map_cons, List.sum_cons, bulkDs]; omega⟩
  | [], _ :: _, _, _, _, _, h => h.elim
  | [], [], _ :: _, _, _, _, h => h.elim
  | _ :: _, [], _, _, _, _, h => h.elim
  | _ :: _, _ :: _, [], _, _, _, h => h.elim

/-- Each argument reads later as it read, where below the heap's old size nothing has turned. -/
theorem trodAll_later (hl : laidOutB P = true) {w w' : World} (hb : Below w.heap.size w w') {sp : Nat → Bool} : ∀ {us : List TypeId} {vs : List Value} {ds : List (DataW H)} {ps : List MemPlace},
    (us.all fun t => P.readableRec t && decide (t < P.types.size)) = true → (∀ p ∈ ps, p.block < w.heap.size) → (∀ p ∈ ps, sp p.block = true) →
    DataW.TrodAll enc P w 0 (fun _ => true) true us vs ds ps → DataW.TrodAll enc P w' 0 sp true us vs ds ps
  | [], [], [], _, _, _, _, h => h
  | t :: us, v :: vs, d :: ds, _, hr, hlt, hsp, h => by
    obtain ⟨p, q, h1, h2, rfl⟩ := h
    simp only [List.all_cons, Bool.and_eq_true, decide_eq_true_eq] at hr
    refine ⟨p, q, WideElems.Trod_stays hl hr.1.1 hr.1.2 h1 (fun x hx => hb.same (hlt x (List.mem_append_left _ hx))) (fun x hx => hsp x (List.mem_append_left _ hx)), ?_, rfl⟩
    exact trodAll_later hl hb hr.2 (fun x hx => hlt x (List.mem_append_right _ hx)) (fun x hx => hsp x (List.mem_append_right _ hx)) h2
  | [], _ :: _, _, _, _, _, _, h => h.elim
  | [], [], _ :: _, _, _, _, _, h => h.elim
  | _ :: _, [], _, _, _, _, _, h => h.elim
  | _ :: _, _ :: _, [], _, _, _, _, h => h.elim

/-- A law over plain arguments that answers true whatever it is given: its row's step (d) and (e). -/
theorem law_calls {G : World → Prop} {N : Nat} {f : FuncId} {fn : Func} {s : ChangeSpec} {apart fresh handsOn again : Bool} {W : World} {base : Nat} {args : Array Value} {ds gs : List (DataW H)} {before : List MemPlace} {ts : List TypeId} {tb : TypeId}
    (hl : laidOutB P = true) (hread : (fn.params.toList.all fun t => P.readableRec t && decide (t < P.types.size)) = true) (hp : plainB P ts = true) (hin : (fn.params.toList.all fun t => ts.contains t) = true)
    (hres : fn.resultTypes = #[tb]) (htb : P.underlying tb = some .bool) (hvars : s.vars = [])
    (hs : ∀ ds : List (DataW H), ds.length = fn.params.toList.length → s.fn H ds = { results := [.lit (.bool true)], args := ds })
    (hval : ∀ (j : Nat) t v, fn.params[j]? = some t → args[j]? = some v → Value.okWide P W .any base t v)
    (hW : DataW.Whole enc P fn.params.toList s.vars apart W args.toList ds gs before)
    (hG : Held G W) (hN : bulkDs ds ≤ N) (hm : ∀ cs, All2 (TypedX P) fn.params.toList cs → (cs.map CX.bulk).sum ≤ N → Meets P G f cs (.x (.one (cB true)))) :
    Calls P f args W fun e W' => ∃ v, e = .returned v ∧ s.post enc P fn apart fresh handsOn again W args v W' := by
  have hlt := hW.lt
  obtain ⟨p, q, hA, hV, hpq, hz, hn⟩ := id hW
  rw [hvars] at hV
  have hgq : gs = [] ∧ q = [] := by
    cases gs with
    | nil => exact ⟨rfl, hV⟩
    | cons g gs => exact hV.elim
  obtain ⟨rfl, rfl⟩ := hgq
  rw [List.append_nil] at hpq
  subst hpq
  obtain ⟨cs, hc, hr, hbk⟩ := open_args hp (fun t ht => by simpa using List.all_eq_true.mp hin t ht) (fun j t v h1 h2 => hval j t v (by simpa using h1) (by simpa using h2)) hA
  have hcall := (hm cs hc (Nat.le_trans hbk hN)).2 W (Old W) args.toList hG (fun _ _ h => h) hr
  have hdl : ∀ {us : List TypeId} {vs : List Value} {ds : List (DataW H)} {ps : List MemPlace}, DataW.TrodAll enc P W 0 (fun _ => true) true us vs ds ps → ds.length = us.length := by
    intro us
    induction us with
    | nil => intro vs ds ps h; match vs, ds, h with | [], [], _ => rfl
    | cons t us ih =>
      intro vs ds ps h
      match vs, ds, h with
      | _ :: _, _ :: _, ⟨_, _, _, h2, _⟩ => simp [ih h2]
  refine (show Calls P f args W _ from hcall).mono fun e W' ⟨v, he, hrep, hbelow⟩ => ⟨v, he, ?_⟩
  have hv : v = .bool true := by cases hrep; rfl
  subst hv
  have hfn := hs (ds ++ []) (by rw [List.append_nil]; exact hdl hA)
  have hargs : ∀ sp : Nat → Bool, (∀ x ∈ before, sp x.block = true) → DataW.TrodAll enc P W' 0 sp true fn.params.toList args.toList (s.fn H (ds ++ [])).args before := fun sp hsp => by
    rw [hfn]; simp only [List.append_nil]
    exact trodAll_later hl hbelow hread hlt hsp hA
  have hrl : Value.resultList fn.resultTypes.size (.bool true) = [.bool true] := by rw [hres]; rfl
  have hresults : ∀ (b : Nat) (sp : Nat → Bool) (hd : Bool), DataW.TrodAll enc P W' b sp hd fn.resultTypes.toList (Value.resultList fn.resultTypes.size (.bool true)) (s.fn H (ds ++ [])).results [] := fun b sp hd => by
    rw [hrl, hres, hfn]
    exact ⟨[], [], shut_bool htb true, rfl, rfl⟩
  have hvs : ∀ sp : Nat → Bool, DataW.TrodVars enc P W' sp s.vars (s.fn H (ds ++ [])).vars [] := fun sp => by
    rw [hfn, hvars]; exact rfl
  refine ⟨ds, [], before, [], before, [], hW, hresults _ _ _, hargs _ (fun x hx => by simpa using hlt x hx), hvs _, World.keptBut_mono (fun x hx => ⟨hx, .inr (.inl hx)⟩) (hbelow.frame (· ∈ before)), fun _ => ⟨?_, ?_⟩⟩
  · intro j t r h1 h2
    rw [hrl] at h2
    rw [hres] at h1
    cases j with
    | zero => simp at h1 h2; subst h1; subst h2; exact okWide_bool_mk htb true
    | succ j => simp at h2
  · refine ⟨_, _, ([] ++ before) ++ [], ⟨[] ++ before, [], trodAll_append (hargs _ (fun _ _ => rfl)) (hresults _ _ _), hvs _, rfl, ?_, ?_⟩, ?_⟩
    · intro b off hx
      have hx : MemPlace.cell b off ∈ before := by simpa using hx
      rw [hbelow.frozen (hlt _ hx)]
      exact hz b off hx
    · intro ha
      simpa using hn ha
    · intro x hx _
      simpa using hx

end
end Go.Fx

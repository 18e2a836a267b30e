import Derived.Test.YtiomojlcnemnhaaDoorKDxW9
import Derived.Test.YtiomojlcnemnhaaDoorKDxN3
import Derived.Test.YtiomojlcnemnhaaDoorKDxW2
/- Contracts, on: the terms of an atom replaced in their places. -/
namespace Go.Proofs.YtiomojlcnemnhaaDoor
open Go.Fx Go.RowKit Go.Ped
variable {G : World → Prop}

abbrev OW (a b c : Nat) (p : Name) (n : Nat) (l : List Tm) (m : List Pr) : List (Nat × Box) := [(a, ⟨24, 2, [[.c (cS (bs p)), .arr b 0 n n]], none⟩), (b, bxT l), (c, ⟨0, 5, m.map nxRow, some (.string, false)⟩)]
attribute [simp] OW
theorem onlyW {p : Name} {n : Nat} {l : List Tm} {m : List Pr} : ∀ z ∈ OW 10003 10016 10008 p n l m, midKey z.1 ∧ ∀ r ∈ z.2.rows, onlyL (fun k => ¬ ownKey k) (fun k => (lookT [] k).or (F0.toks k) ≠ none) r := fun z hz => by
  simp only [OW, List.mem_cons, List.not_mem_nil, or_false] at hz
  rcases hz with rfl | rfl | rfl
  · simp [midKey, ownKey]
  · exact ⟨by unfold midKey; omega, onlyT⟩
  · exact ⟨by unfold midKey; omega, onlyN⟩
theorem onlyW2 {p : Name} {n : Nat} {l : List Tm} {m : List Pr} {O2 : List (Nat × Box)} : ∀ z ∈ OW 10003 10016 10008 p n l m, ∀ r ∈ z.2.rows, onlyL (fun k => ¬ ownKey k ∨ lookO O2 k ≠ none) (fun k => (lookT [] k).or (F0.toks k) ≠ none) r := fun z hz => by
  simp only [OW, List.mem_cons, List.not_mem_nil, or_false] at hz
  rcases hz with rfl | rfl | rfl
  · simp [ownKey]
  · exact onlyT
  · exact onlyN

/-- Replaced, up to a column. -/
abbrev upP (m : List Pr) (l : List Tm) (i : Nat) : List Tm := (l.take i).map (putP m) ++ l.drop i
theorem up_len {m : List Pr} {l : List Tm} {i : Nat} : (upP m l i).length = l.length := by simp [upP]; omega
theorem up_at {m : List Pr} {l : List Tm} {i : Nat} (hi : i < l.length) : (upP m l i)[i]'(by rw [up_len]; exact hi) = l[i] := by
  simp [upP, List.getElem_append_right, Nat.min_eq_left (Nat.le_of_lt hi)]
theorem up_next {m : List Pr} {l : List Tm} {i : Nat} (hi : i < l.length) : (upP m l i).set i (putP m l[i]) = upP m l (i + 1) := by
  have hlen : ((l.take i).map (putP m)).length = i := by simp; omega
  unfold upP
  rw [List.set_append_right _ _ (by rw [hlen]; exact Nat.le_refl i), hlen, Nat.sub_self, List.drop_eq_getElem_cons hi, List.take_succ_eq_append_getElem hi, List.map_append, List.append_assoc]
  rfl
theorem v128 (m : List Pr) (l : List Tm) (i : Nat) (hi : i < l.length) : MeetsV Tryd.prog G (.clo 128 [.mapr 10008] []) [.one (.ref 10016 i 0)] (hp ((10016, bxT l) :: OP 10008 m) [] F0) (.tup []) (hp ((10016, bxT (l.set i (putP m l[i]))) :: OP 10008 m) [] F0) :=
  clo_of (f := 128) (fs := [.mapr 10008]) (args := [.one (.ref 10016 i 0)]) (cs := []) rfl (m128 m l i hi)

theorem w126 (p : Name) (l : List Tm) (m : List Pr) (hl : l.length ≤ maxLen) : MeetsH Tryd.prog G 126 [.one (.ifc 169 (.ref 10003 0 0)), .one (.clo 128 [.mapr 10008] [])] (hp (OW 10003 10016 10008 p l.length l m) [] F0) (.tup []) (hp (OW 10003 10016 10008 p l.length (l.map (putP m)) m) [] F0) := by
  unfold maxLen at hl
  refine meetsH [] Tryd.func126 ie126 ig126 (Nat.le_of_ble_eq_true rfl) onlyW (by simp) (by simp [ownKey]) (by simp) (by simp) (sameKeys_refl F0) onlyW2 (by simp) ?_
  simp [ic126, ir126, nx_strike']
  refine w_loopA [] [] [1, 10, 106, 107] (by simp)
    (fun i : Nat => st [(1, .k true (.x (.one (.clo 128 [.mapr 10008] [])))), (10, .k true (.x (.one (.ref 10003 0 0)))), (106, tI .i64 l.length), (107, tI .i64 i)] (OW 10003 10016 10008 p l.length (upP m l i) m) [] F0) (fun i => l.length - i)
    (fun i => i ≤ l.length) 0 (by simp [upP]) (by simp) ?_
  rintro i K hK hi
  obtain hlt | hge := Nat.lt_or_ge i l.length
  · have hv := v128 (G := G) m (upP m l i) i (by rw [up_len]; exact hlt)
    rw [up_at hlt, up_next hlt] at hv
    have hul : (upP m l i).length = l.length := up_len
    generalize upP m l i = A' at *
    simp [ic126l3, hlt]
    refine r_callW _ _ ((10016, bxT A') :: OP 10008 m) [] _ ((10016, bxT (upP m l (i + 1))) :: OP 10008 m) [] hv rfl rfl rfl (by simp [X.fits, A.fits]) (by simp) ?_
    simp
    simp (disch := omega) only [wrap64]
    exact hK (i + 1) _ (by simp [nx_strike']) (by omega) (by omega)
  · have hu : upP m l i = l.map (putP m) := by
      have : i = l.length := by omega
      subst this
      simp [upP]
    simp [ic126l3, Nat.not_lt.mpr hge]
    exact ret_st (by simp) (by simp) (by simp [hu]) (by simp) (by simp) (by simp)
end Go.Proofs.YtiomojlcnemnhaaDoor

/- Fx, part Wf: a call that makes a block of its own, out of what it does to worlds. -/
namespace Go.Fx
open Go.RowKit

section
variable {P : Program} {G : World → Prop}

/-- It hands back new memory, and leaves all as it was. -/
theorem MeetsH.of_new {f : FuncId} {args : List X} {k : Nat} {ty : TypeId} {size : Nat} {rows : List (List C)} (hcl : callable P f = true) (hx : ∀ x ∈ args, x.only (fun _ => True) (fun _ => False)) (hs : ∀ r ∈ rows, r.length = size)
    (hm : ∀ (w : World) (env : Env) (vs : List Value), (∀ b o, env.V b o → b < w.heap.size) → All2 (RepX env (fun _ => none) w) args vs →
      Calls P f vs.toArray w fun e w' => ∃ v us, e = .returned v ∧ v ≠ .slice none 0 0 ∧ w'.ownsRow w.heap.size ty size v rows.length us ∧ All2 (RepC env.V w) rows.flatten us ∧ Below w.heap.size w w') :
    MeetsH P G f args (hp [] [] F0) (.x (.one (.arr k 0 rows.length rows.length))) (hp [(k, ⟨ty, size, rows.map (·.map A.c), none⟩)] [] F0) := by
  have ht0 : (hp [] [] F0).toks = fun _ => none := funext fun j => by rw [hp_toks0]; rfl
  have ho0 : ∀ j, (hp [] [] F0).objs j = none := fun j => by rw [hp_objs0]; rfl
  have ht1 : (hp [(k, ⟨ty, size, rows.map (·.map A.c), none⟩)] [] F0).toks = fun _ => none := funext fun j => by rw [hp_toks0]; rfl
  have ho1 : ∀ j, (hp [(k, ⟨ty, size, rows.map (·.map A.c), none⟩)] [] F0).objs j = if j = k then some ⟨ty, size, rows.map (·.map A.c), none⟩ else none := fun j => by rw [hp_objs0, lookO_cons, lookO_nil]
  refine ⟨hcl, fun x h => ?_, fun j b h => (by rw [ho0] at h; cases h), fun w env F vs _ hmem hfr ha => ?_⟩
  · rw [ht0]
    have := hx x h
    cases x with
    | one a => exact A.only_mono (fun _ h => h) (fun _ h => h.elim) this
    | agg l => exact onlyL_mono (fun _ h => h) (fun _ h => h.elim) this
  rw [ht0] at ha
  have hρ : env.ρ k = none := hfr.1 k (by rw [ho1]; simp) (ho0 k)
  have hF : ∀ b, ¬ F b := hmem.ext
  refine (hm w env vs hmem.vlt ha).mono ?_
  rintro e w' ⟨v, us, rfl, hne, hown, hus, hb⟩
  obtain ⟨hlen, ⟨rfl, _⟩ | ⟨g, cap, cur, rfl, hbase, hg, hn, hmx, hsz, htk⟩⟩ := hown
  · exact absurd rfl hne
  have hcell : ∀ b o, env.V b o → w'.cell? ⟨b, o, none⟩ = w.cell? ⟨b, o, none⟩ := fun b o hv => hb.cell (p := ⟨b, o, none⟩) (hmem.vlt b o hv)
  have hgl : g < w'.heap.size := (Array.getElem?_eq_some_iff.1 hg).1
  let env' : Env := ⟨env.V, fun j => if j = k then some (g, size) else env.ρ j, env.τ⟩
  have hρ' : ∀ j, env'.ρ j = if j = k then some (g, size) else env.ρ j := fun _ => rfl
  have hold : ∀ j b s, env.ρ j = some (b, s) → b < w.heap.size := hmem.ρlt
  refine ⟨_, env', F, rfl, ⟨g, size, cap, by rw [hρ', if_pos rfl], by simp, hn, hmx⟩, {
    mem := {
      vlt := fun b o hv => Nat.lt_of_lt_of_le (hmem.vlt b o hv) hb.size
      ρlt := fun j b s hk => by
        rw [hρ'] at hk
        split at hk
        · injection hk with hk; injection hk with hk; subst hk; exact hgl
        · exact Nat.lt_of_lt_of_le (hold j b s hk) hb.size
      τlt := fun j v b hk hv => Nat.lt_of_lt_of_le (hmem.τlt j v b hk hv) hb.size
      objs := fun j x hk => by
        rw [ho1] at hk
        split at hk
        · rename_i hj
          injection hk with hk
          subst hk
          refine ⟨g, us, by rw [hρ', if_pos hj], ⟨.cells cur ty (0, 0), hg, cur.toList.drop (rows.length * size), ?_⟩, ?_, fun r hr => ?_, fun o hv => absurd (hmem.vlt g o hv) (Nat.not_lt.mpr hbase)⟩
          · rw [← htk, List.take_append_drop]
          · rw [ht1]
            rw [← List.map_flatten]
            exact All2.map_left (hus.imp fun c u _ h => RepC.mono (fun _ _ h => h) hcell h)
          · obtain ⟨r', hr', rfl⟩ := List.mem_map.1 hr
            rw [List.length_map]
            exact hs r' hr'
        · cases hk
      inj := fun j j' b s s' h1 h2 => by
        rw [hρ'] at h1 h2
        split at h1 <;> split at h2
        · rename_i e1 e2; rw [e1, e2]
        · injection h1 with h1; injection h1 with h1; subst h1; exact absurd (hold _ _ _ h2) (Nat.not_lt.mpr hbase)
        · injection h2 with h2; injection h2 with h2; subst h2; exact absurd (hold _ _ _ h1) (Nat.not_lt.mpr hbase)
        · exact hmem.inj j j' b s s' h1 h2
      toks := fun j t hk => by rw [ht1] at hk; cases hk
      tinj := hmem.tinj
      sep := fun j j' v b s hk hv he => by
        rw [hρ'] at he
        split at he
        · injection he with he; injection he with he; subst he; exact absurd (hmem.τlt j v _ hk hv) (Nat.not_lt.mpr hbase)
        · exact hmem.sep j j' v b s hk hv he
      ext := hF
      flt := fun b h => absurd h (hF b) }
    kept := KeptBut.of_below hb
    owned := fun b hb' => by
      rcases hb' with ⟨j, s, h1, h2⟩ | ⟨j, v, h1, _⟩ | h
      · rw [ho1] at h1
        rw [hρ'] at h2
        split at h2
        · injection h2 with h2; injection h2 with h2; subst h2; exact .inl hbase
        · rename_i hj; rw [if_neg hj] at h1; exact absurd rfl h1
      · rw [ht1] at h1; exact absurd rfl h1
      · exact absurd h (hF b)
    vold := fun b o hv => hv
    vcell := hcell
    vnew := fun b o hv => .inl hv
    ρold := fun j p hj => by
      rw [hρ']
      split
      · rename_i e; rw [e, hρ] at hj; cases hj
      · exact hj
    ρnew := fun j p hj => by
      rw [hρ'] at hj
      split at hj
      · rename_i e; exact .inr ⟨by rw [ho1, if_pos e]; simp, ho0 j⟩
      · exact .inl hj
    τold := fun _ _ _ => rfl
    τnew := fun j v hk => .inl (by rw [show env.τ j = some v from hk]; simp)
    tok := fun j t t' h1 _ => by rw [ht0] at h1; cases h1 }⟩
end
end Go.Fx

import Derived.Test.YtiomojlcnemnhaaDoorTDxW5
import Derived.Test.YtiomojlcnemnhaaDoorTPedO
import Derived.Test.YtiomojlcnemnhaaDoorTDxN3
import Derived.Test.YtiomojlcnemnhaaDoorTDxCardK
import Derived.Test.YtiomojlcnemnhaaDoorTDxItoa
import Derived.Shelf.SlicesE.Clone
/- Contracts, on: pairs as a map; a term replaced in its place. -/
namespace Go.Proofs.YtiomojlcnemnhaaDoor
open Go.Fx Go.RowKit Go.Ped
variable {G : World → Prop}

/-- The map of pairs, on. -/
def pairsOn : List Pr → List Pr → List Pr
  | m, [] => m
  | m, p :: l => pairsOn (if nextOf m p.v = none ∧ p.v ≠ [] ∧ p.v ≠ us then m ++ [p] else m) l
abbrev OP (k : Nat) (m : List Pr) : List (Nat × Box) := [(k, ⟨0, 5, m.map nxRow, some (.string, false)⟩)]
attribute [simp] OP
theorem next_keys {m : List Pr} {v : Name} (h : nextOf m v = none) : v ∉ keys m := by
  unfold nextOf at h
  rw [Option.map_eq_none_iff, List.find?_eq_none] at h
  intro hm
  obtain ⟨p, hp, rfl⟩ := List.mem_map.1 hm
  exact h p hp (by simp)

theorem m127 (s : List Pr) (sp : Sp) (hl : s.length ≤ maxLen) : MeetsH Tryd.prog G 127 [.one (.c (.sl (s.map Pr.row) sp))] (hp [] [] F0) (.x (.one (.mapr 8))) (hp (OP 8 (pairsOn [] s)) [] F0) := by
  unfold maxLen at hl
  refine meetsH [] Tryd.func127 ie127 ig127 (Nat.le_of_ble_eq_true rfl) (by simp) (by simp) (by simp) (by simp) (by simp) (sameKeys_refl F0) (by simp [nxRow, Tm.row]) (by simp) ?_
  generalize hR : pairsOn [] s = R
  simp [ic127, ir127]
  refine w_loopA [] [5, 6] [3, 9, 10, 11] (by simp [ownKey])
    (fun z : Nat × List Pr => st [(3, .k true (.x (.one (.mapr 8)))), (9, .k true (.x (.one (.c (.sl (s.map Pr.row) sp))))), (10, tI .i64 s.length), (11, tI .i64 z.1)] [(8, ⟨0, 5, z.2.map nxRow, some (.string, false)⟩)] [] F0) (fun z => s.length - z.1)
    (fun z => z.1 ≤ s.length ∧ R = pairsOn z.2 (s.drop z.1)) (0, []) (by simp) (by simp [hR]) ?_
  rintro ⟨i, m⟩ K hK ⟨hi, hd⟩
  simp only at hi hd
  obtain hlt | hge := Nat.lt_or_ge i s.length
  · have hr : s[i].row = [cS (bs s[i].v), cS (bs s[i].t.v), cI .i8 s[i].t.x.k, cI .i64 s[i].t.x.n, cS (bs s[i].t.x.s)] := rfl
    rw [List.drop_eq_getElem_cons hlt, pairsOn] at hd
    have hput := nx_put s[i].v s[i].t m
    cases hb : nextOf m s[i].v with
    | some y =>
      rw [if_neg (by simp [hb])] at hd
      simp [ic127l0, hlt, hr, nx_get', nx_any', nx_strike', hb]
      simp (disch := omega) only [wrap64]
      exact hK (i + 1, m) _ (by simp [nx_strike']) ⟨by simp only; omega, hd⟩ (by simp only; omega)
    | none =>
      by_cases h0 : s[i].v = []
      · rw [if_neg (by simp [h0])] at hd
        simp [ic127l0, hlt, hr, nx_get', nx_any', nx_strike', hb, h0]
        simp (disch := omega) only [wrap64]
        exact hK (i + 1, m) _ (by simp [nx_strike']) ⟨by simp only; omega, hd⟩ (by simp only; omega)
      by_cases h1 : s[i].v = [95]
      · rw [if_neg (by simp [h1, us])] at hd
        simp [ic127l0, hlt, hr, nx_get', nx_any', nx_strike', hb, h1]
        simp (disch := omega) only [wrap64]
        exact hK (i + 1, m) _ (by simp [nx_strike']) ⟨by simp only; omega, hd⟩ (by simp only; omega)
      · rw [if_pos ⟨hb, h0, h1⟩] at hd
        have hne : s[i].v.isEmpty = false := by simpa using h0
        have hput' : mapPut (m.map nxRow) (.string (bs s[i].v)) [.c (cS (bs s[i].t.v)), .c (cI .i8 s[i].t.x.k), .c (cI .i64 s[i].t.x.n), .c (cS (bs s[i].t.x.s))] = (m ++ [s[i]]).map nxRow := hput (next_keys hb)
        simp [ic127l0, hlt, hr, nx_get', nx_any', nx_strike', hb, h0, h1, hne]
        simp (disch := omega) only [wrap64]
        exact hK (i + 1, m ++ [s[i]]) _ (by simp [nx_strike', nx_strike, hput']) ⟨by simp only; omega, hd⟩ (by simp only; omega)
  · rw [List.drop_eq_nil_of_le hge] at hd
    have hd' : R = m := hd
    subst hd'
    simp [ic127l0, Nat.not_lt.mpr hge]
    exact ret_st (by simp) (by simp) (by simp) (by simp) (by simp) (by simp)

/-- What a term becomes by the map. -/
def putP (m : List Pr) (t : Tm) : Tm := (nextOf m t.v).getD t
abbrev bxT (l : List Tm) : Box := ⟨41, 4, l.map fun t => t.row.map A.c, none⟩
@[simp] theorem strike_tm (ks : List Nat) : (strikeL ks ∘ fun t : Tm => t.row.map A.c) = fun t => t.row.map A.c := funext fun t => strikeL_c ks _
theorem onlyT {p q : Nat → Prop} {l : List Tm} : ∀ r ∈ (bxT l).rows, onlyL p q r := fun r hr => by
  obtain ⟨t, _, rfl⟩ := List.mem_map.1 hr
  exact onlyL_c _
theorem onlyN {p q : Nat → Prop} {m : List Pr} : ∀ r ∈ m.map nxRow, onlyL p q r := fun r hr => by
  obtain ⟨t, _, rfl⟩ := List.mem_map.1 hr
  exact ⟨trivial, onlyL_c _⟩
theorem m128 (m : List Pr) (l : List Tm) (i : Nat) (hi : i < l.length) : MeetsH Tryd.prog G 128 [.one (.mapr 10008), .one (.ref 10016 i 0)] (hp ((10016, bxT l) :: OP 10008 m) [] F0) (.tup []) (hp ((10016, bxT (l.set i (putP m l[i]))) :: OP 10008 m) [] F0) := by
  refine meetsH [] Tryd.func128 ie128 ig128 (Nat.le_of_ble_eq_true rfl) ?_ (by simp) (by simp [ownKey]) (by simp) (by simp) (sameKeys_refl F0) ?_ (by simp) ?_
  · intro z hz
    simp only [OP, List.mem_cons, List.not_mem_nil, or_false] at hz
    rcases hz with rfl | rfl
    · exact ⟨by unfold midKey; omega, onlyT⟩
    · exact ⟨by unfold midKey; omega, onlyN⟩
  · intro z hz
    simp only [OP, List.mem_cons, List.not_mem_nil, or_false] at hz
    rcases hz with rfl | rfl
    · exact onlyT
    · exact onlyN
  have hr : l[i].row = [cS (bs l[i].v), cI .i8 l[i].x.k, cI .i64 l[i].x.n, cS (bs l[i].x.s)] := rfl
  cases hb : nextOf m l[i].v with
  | some y =>
    have hp : putP m l[i] = y := by simp [putP, hb]
    have hn : nxt m l[i].v = y := by simp [nxt, hb]
    simp [ic128, ir128, hi, hr, nx_get', nx_any', nx_strike', hb]
    exact ret_st (by simp) (by simp) (by simp [hp, hn, Tm.row]) (by simp) (by simp) (by simp)
  | none =>
    have hp : putP m l[i] = l[i] := by simp [putP, hb]
    simp [ic128, ir128, hi, hr, nx_get', nx_any', nx_strike', hb]
    exact ret_st (by simp) (by simp) (by simp [hp]) (by simp) (by simp) (by simp)
end Go.Proofs.YtiomojlcnemnhaaDoor

/- Contracts, on: the terms of an atom replaced in their places. -/
namespace Go.Proofs.YtiomojlcnemnhaaDoor
open Go.Fx Go.RowKit Go.Ped
variable {G : World → Prop}

abbrev OW (a b c : Nat) (p : Name) (n : Nat) (l : List Tm) (m : List Pr) : List (Nat × Box) := [(a, ⟨24, 2, [[.c (cS (bs p)), .arr b 0 n n]], none⟩), (b, bxT l), (c, ⟨0, 5, m.map nxRow, some (.string, false)⟩)]
attribute [simp] OW
theorem onlyW {p : Name} {n : Nat} {l : List Tm} {m : List Pr} : ∀ z ∈ OW 10003 10016 10008 p n l m, midKey z.1 ∧ ∀ r ∈ z.2.rows, onlyL (fun k => ¬ ownKey k) (fun k => (lookT [] k).or (F0.toks k) ≠ none) r := fun z hz => by
  simp only [OW, List.mem_cons, List.not_mem_nil, or_false] at hz
  rcases hz with rfl | rfl | rfl
  · simp [midKey, ownKey]
  · exact ⟨by unfold midKey; omega, onlyT⟩
  · exact ⟨by unfold midKey; omega, onlyN⟩
theorem onlyW2 {p : Name} {n : Nat} {l : List Tm} {m : List Pr} {O2 : List (Nat × Box)} : ∀ z ∈ OW 10003 10016 10008 p n l m, ∀ r ∈ z.2.rows, onlyL (fun k => ¬ ownKey k ∨ lookO O2 k ≠ none) (fun k => (lookT [] k).or (F0.toks k) ≠ none) r := fun z hz => by
  simp only [OW, List.mem_cons, List.not_mem_nil, or_false] at hz
  rcases hz with rfl | rfl | rfl
  · simp [ownKey]
  · exact onlyT
  · exact onlyN

/-- Replaced, up to a column. -/
abbrev upP (m : List Pr) (l : List Tm) (i : Nat) : List Tm := (l.take i).map (putP m) ++ l.drop i
theorem up_len {m : List Pr} {l : List Tm} {i : Nat} : (upP m l i).length = l.length := by simp [upP]; omega
theorem up_at {m : List Pr} {l : List Tm} {i : Nat} (hi : i < l.length) : (upP m l i)[i]'(by rw [up_len]; exact hi) = l[i] := by
  simp [upP, List.getElem_append_right, Nat.min_eq_left (Nat.le_of_lt hi)]
theorem up_next {m : List Pr} {l : List Tm} {i : Nat} (hi : i < l.length) : (upP m l i).set i (putP m l[i]) = upP m l (i + 1) := by
  have hlen : ((l.take i).map (putP m)).length = i := by simp; omega
  unfold upP
  rw [List.set_append_right _ _ (by rw [hlen]; exact Nat.le_refl i), hlen, Nat.sub_self, List.drop_eq_getElem_cons hi, List.take_succ_eq_append_getElem hi, List.map_append, List.append_assoc]
  rfl
theorem v128 (m : List Pr) (l : List Tm) (i : Nat) (hi : i < l.length) : MeetsV Tryd.prog G (.clo 128 [.mapr 10008] []) [.one (.ref 10016 i 0)] (hp ((10016, bxT l) :: OP 10008 m) [] F0) (.tup []) (hp ((10016, bxT (l.set i (putP m l[i]))) :: OP 10008 m) [] F0) :=
  clo_of (f := 128) (fs := [.mapr 10008]) (args := [.one (.ref 10016 i 0)]) (cs := []) rfl (m128 m l i hi)

theorem w126 (p : Name) (l : List Tm) (m : List Pr) (hl : l.length ≤ maxLen) : MeetsH Tryd.prog G 126 [.one (.ifc 169 (.ref 10003 0 0)), .one (.clo 128 [.mapr 10008] [])] (hp (OW 10003 10016 10008 p l.length l m) [] F0) (.tup []) (hp (OW 10003 10016 10008 p l.length (l.map (putP m)) m) [] F0) := by
  unfold maxLen at hl
  refine meetsH [] Tryd.func126 ie126 ig126 (Nat.le_of_ble_eq_true rfl) onlyW (by simp) (by simp [ownKey]) (by simp) (by simp) (sameKeys_refl F0) onlyW2 (by simp) ?_
  simp [ic126, ir126, nx_strike']
  refine w_loopA [] [] [1, 10, 106, 107] (by simp)
    (fun i : Nat => st [(1, .k true (.x (.one (.clo 128 [.mapr 10008] [])))), (10, .k true (.x (.one (.ref 10003 0 0)))), (106, tI .i64 l.length), (107, tI .i64 i)] (OW 10003 10016 10008 p l.length (upP m l i) m) [] F0) (fun i => l.length - i)
    (fun i => i ≤ l.length) 0 (by simp [upP]) (by simp) ?_
  rintro i K hK hi
  obtain hlt | hge := Nat.lt_or_ge i l.length
  · have hv := v128 (G := G) m (upP m l i) i (by rw [up_len]; exact hlt)
    rw [up_at hlt, up_next hlt] at hv
    have hul : (upP m l i).length = l.length := up_len
    generalize upP m l i = A' at *
    simp [ic126l3, hlt]
    refine r_callW _ _ ((10016, bxT A') :: OP 10008 m) [] _ ((10016, bxT (upP m l (i + 1))) :: OP 10008 m) [] hv rfl rfl rfl (by simp [X.fits, A.fits]) (by simp) ?_
    simp
    simp (disch := omega) only [wrap64]
    exact hK (i + 1) _ (by simp [nx_strike']) (by omega) (by omega)
  · have hu : upP m l i = l.map (putP m) := by
      have : i = l.length := by omega
      subst this
      simp [upP]
    simp [ic126l3, Nat.not_lt.mpr hge]
    exact ret_st (by simp) (by simp) (by simp [hu]) (by simp) (by simp) (by simp)
end Go.Proofs.YtiomojlcnemnhaaDoor

/- Fx, part Wf: a call that makes a block of its own, out of what it does to worlds. -/
namespace Go.Fx
open Go.RowKit

section
variable {P : Program} {G : World → Prop}

/-- It hands back new memory, and leaves all as it was. -/
theorem MeetsH.of_new {f : FuncId} {args : List X} {k : Nat} {ty : TypeId} {size : Nat} {rows : List (List C)} (hcl : callable P f = true) (hx : ∀ x ∈ args, x.only (fun _ => True) (fun _ => False)) (hs : ∀ r ∈ rows, r.length = size)
    (hm : ∀ (w : World) (env : Env) (vs : List Value), (∀ b o, env.V b o → b < w.heap.size) → All2 (RepX env (fun _ => none) w) args vs →
      Calls P f vs.toArray w fun e w' => ∃ v us, e = .returned v ∧ v ≠ .slice none 0 0 ∧ w'.ownsRow w.heap.size ty size v rows.length us ∧ All2 (RepC env.V w) rows.flatten us ∧ Below w.heap.size w w') :
    MeetsH P G f args (hp [] [] F0) (.x (.one (.arr k 0 rows.length rows.length))) (hp [(k, ⟨ty, size, rows.map (·.map A.c), none⟩)] [] F0) := by
  have ht0 : (hp [] [] F0).toks = fun _ => none := funext fun j => by rw [hp_toks0]; rfl
  have ho0 : ∀ j, (hp [] [] F0).objs j = none := fun j => by rw [hp_objs0]; rfl
  have ht1 : (hp [(k, ⟨ty, size, rows.map (·.map A.c), none⟩)] [] F0).toks = fun _ => none := funext fun j => by rw [hp_toks0]; rfl
  have ho1 : ∀ j, (hp [(k, ⟨ty, size, rows.map (·.map A.c), none⟩)] [] F0).objs j = if j = k then some ⟨ty, size, rows.map (·.map A.c), none⟩ else none := fun j => by rw [hp_objs0, lookO_cons, lookO_nil]
  refine ⟨hcl, fun x h => ?_, fun j b h => (by rw [ho0] at h; cases h), fun w env F vs _ hmem hfr ha => ?_⟩
  · rw [ht0]
    have := hx x h
    cases x with
    | one a => exact A.only_mono (fun _ h => h) (fun _ h => h.elim) this
    | agg l => exact onlyL_mono (fun _ h => h) (fun _ h => h.elim) this
  rw [ht0] at ha
  have hρ : env.ρ k = none := hfr.1 k (by rw [ho1]; simp) (ho0 k)
  have hF : ∀ b, ¬ F b := hmem.ext
  refine (hm w env vs hmem.vlt ha).mono ?_
  rintro e w' ⟨v, us, rfl, hne, hown, hus, hb⟩
  obtain ⟨hlen, ⟨rfl, _⟩ | ⟨g, cap, cur, rfl, hbase, hg, hn, hmx, hsz, htk⟩⟩ := hown
  · exact absurd rfl hne
  have hcell : ∀ b o, env.V b o → w'.cell? ⟨b, o, none⟩ = w.cell? ⟨b, o, none⟩ := fun b o hv => hb.cell (p := ⟨b, o, none⟩) (hmem.vlt b o hv)
  have hgl : g < w'.heap.size := (Array.getElem?_eq_some_iff.1 hg).1
  let env' : Env := ⟨env.V, fun j => if j = k then some (g, size) else env.ρ j, env.τ⟩
  have hρ' : ∀ j, env'.ρ j = if j = k then some (g, size) else env.ρ j := fun _ => rfl
  have hold : ∀ j b s, env.ρ j = some (b, s) → b < w.heap.size := hmem.ρlt
  refine ⟨_, env', F, rfl, ⟨g, size, cap, by rw [hρ', if_pos rfl], by simp, hn, hmx⟩, {
    mem := {
      vlt := fun b o hv => Nat.lt_of_lt_of_le (hmem.vlt b o hv) hb.size
      ρlt := fun j b s hk => by
        rw [hρ'] at hk
        split at hk
        · injection hk with hk; injection hk with hk; subst hk; exact hgl
        · exact Nat.lt_of_lt_of_le (hold j b s hk) hb.size
      τlt := fun j v b hk hv => Nat.lt_of_lt_of_le (hmem.τlt j v b hk hv) hb.size
      objs := fun j x hk => by
        rw [ho1] at hk
        split at hk
        · rename_i hj
          injection hk with hk
          subst hk
          refine ⟨g, us, by rw [hρ', if_pos hj], ⟨.cells cur ty (0, 0), hg, cur.toList.drop (rows.length * size), ?_⟩, ?_, fun r hr => ?_, fun o hv => absurd (hmem.vlt g o hv) (Nat.not_lt.mpr hbase)⟩
          · rw [← htk, List.take_append_drop]
          · rw [ht1]
            rw [← List.map_flatten]
            exact All2.map_left (hus.imp fun c u _ h => RepC.mono (fun _ _ h => h) hcell h)
          · obtain ⟨r', hr', rfl⟩ := List.mem_map.1 hr
            rw [List.length_map]
            exact hs r' hr'
        · cases hk
      inj := fun j j' b s s' h1 h2 => by
        rw [hρ'] at h1 h2
        split at h1 <;> split at h2
        · rename_i e1 e2; rw [e1, e2]
        · injection h1 with h1; injection h1 with h1; subst h1; exact absurd (hold _ _ _ h2) (Nat.not_lt.mpr hbase)
        · injection h2 with h2; injection h2 with h2; subst h2; exact absurd (hold _ _ _ h1) (Nat.not_lt.mpr hbase)
        · exact hmem.inj j j' b s s' h1 h2
      toks := fun j t hk => by rw [ht1] at hk; cases hk
      tinj := hmem.tinj
      sep := fun j j' v b s hk hv he => by
        rw [hρ'] at he
        split at he
        · injection he with he; injection he with he; subst he; exact absurd (hmem.τlt j v _ hk hv) (Nat.not_lt.mpr hbase)
        · exact hmem.sep j j' v b s hk hv he
      ext := hF
      flt := fun b h => absurd h (hF b) }
    kept := KeptBut.of_below hb
    owned := fun b hb' => by
      rcases hb' with ⟨j, s, h1, h2⟩ | ⟨j, v, h1, _⟩ | h
      · rw [ho1] at h1
        rw [hρ'] at h2
        split at h2
        · injection h2 with h2; injection h2 with h2; subst h2; exact .inl hbase
        · rename_i hj; rw [if_neg hj] at h1; exact absurd rfl h1
      · rw [ht1] at h1; exact absurd rfl h1
      · exact absurd h (hF b)
    vold := fun b o hv => hv
    vcell := hcell
    vnew := fun b o hv => .inl hv
    ρold := fun j p hj => by
      rw [hρ']
      split
      · rename_i e; rw [e, hρ] at hj; cases hj
      · exact hj
    ρnew := fun j p hj => by
      rw [hρ'] at hj
      split at hj
      · rename_i e; exact .inr ⟨by rw [ho1, if_pos e]; simp, ho0 j⟩
      · exact .inl hj
    τold := fun _ _ _ => rfl
    τnew := fun j v hk => .inl (by rw [show env.τ j = some v from hk]; simp)
    tok := fun j t t' h1 _ => by rw [ht0] at h1; cases h1 }⟩
end
end Go.Fx

/- Contracts, on: a list's copy as memory. -/
namespace Go.Proofs
def Tryd.lays125_ren : Go.Shelf.Ren := ⟨fun | 41 => 125 | n => n, fun | 22 => 22 | 23 => 41 | 4 => 4 | n => n, fun | n => n⟩
theorem Tryd.lays125 : Go.Proofs.SlLaysE0.n41 Tryd.prog Tryd.lays125_ren := {
  mixed := by kernel_rfl
  f41 := ⟨Tryd.f125.name, by decide, Tryd.func125.trans (congrArg some (by kernel_rfl))⟩
  t4 := Tryd.underlying4
  a4 := Tryd.isAgg4
  z4 := Tryd.sizeOf4
  v4 := Tryd.zeroValue4
  t22 := Tryd.underlying22
  a22 := Tryd.isAgg22
  z22 := Tryd.sizeOf22
  v22 := Tryd.zeroValue22 }
section
open Go.Shelf Go.RowKit Go.Lib
variable {P : Program} {ρ : Ren}
set_option maxHeartbeats 2000000 in
set_option maxRecDepth 100000 in
/-- slices.Clone of what is empty and not nil, whatever its address. -/
theorem clone_zero (L : SlLaysE0.n41 P ρ) (i0 : TypeInfo) (z : Value) (size bytes : Nat) (hi : P.info? (ρ.t 23) = some i0) (hz0 : i0.zero = some z) (hz1 : i0.size = size) (hz2 : i0.bytes = bytes) (hzs : z.cells.size = size) (hsz : 0 < size)
    (z23 : ∀ w, (Go.sizeOf (ρ.t 23)).run P w = .ok size w) (a : Addr) (c : Nat) (w : World) :
    Calls P (ρ.f 41) #[.slice (some a) 0 c] w fun e w' => ∃ v', e = .returned v' ∧ w'.ownsRow w.heap.size (ρ.t 23) size v' 0 [] ∧ v' ≠ .slice none 0 0 ∧ Below w.heap.size w w' := by
  have mixed := L.mixed; have t4 := L.t4; have a4 := L.a4; have z4 := L.z4; have v4 := L.v4; have t22 := L.t22; have a22 := L.a22; have z22 := L.z22; have v22 := L.v22
  have q22 : ∀ (w : World) (a : Option Addr) (n c n' c' : Nat), (binOp .eql (ρ.t 22) (.slice a n c) (.slice none n' c')).run P w = .ok (.bool a.isNone) w := fun w a n c n' c' => Lib.run_eql_slice_nil w _ _ a n c n' c' L.t22
  have u22 : ∀ w, Sem.run P (underlying (ρ.t 22)) w = .ok (TypeDesc.slice (ρ.t 23)) w := run_underlying t22
  obtain ⟨_, _, FG⟩ := L.f41
  go_enter FG, SlBodyN.n41_ntmps ρ
  go_wp2_with (at_builtin; refine wpList_append_own _ rfl _ _ (ρ.t 22) rfl w.heap.size (ρ.t 23) i0 z size bytes t22 hi hz0 hz1 hz2 hzs hsz _ _ _ rfl (World.ownsRow_made w #[] 0 (Nat.le_refl _) (Nat.zero_le _) (by simp)) a 0 c [] rfl (by simp) (by intro j u hj; simp at hj) (by intro u hu; cases hu) (by unfold maxLen; omega) (by omega) (by simp) ?_)
  intro v' w1 hown hgrow hnil
  go_wp2
  go_ret
  refine ⟨v', rfl, by simpa using hown, ?_, ?_⟩
  · first | exact hnil | (intro e; exact absurd (hnil.1 e).1 (by simp))
  · exact ((Below.refl _ w).alloc (Nat.le_refl _) _).grown hgrow (by simp) (by intro k hk; simp [Value.ownBlock] at hk; omega)
end
end Go.Proofs
namespace Go.Proofs.YtiomojlcnemnhaaDoor
open Go.Fx Go.RowKit Go.Ped
variable {G : World → Prop}

theorem info41 : ∃ i0 z, Tryd.prog.info? 41 = some i0 ∧ i0.zero = some z ∧ i0.size = 4 ∧ i0.bytes = 48 ∧ z.cells.size = 4 := by
  have e1 : (Tryd.prog.info? 41).map (·.bytes) = some 48 := by kernel_rfl
  have e2 : (Tryd.prog.info? 41).map (·.size) = some 4 := by kernel_rfl
  have e3 : ((Tryd.prog.info? 41).bind fun i => i.zero.map fun z => z.cells.size) = some 4 := by kernel_rfl
  obtain ⟨i0, h, h1⟩ := Option.map_eq_some_iff.1 e1
  rw [h] at e2 e3
  obtain ⟨z, h3, h4⟩ := Option.map_eq_some_iff.1 (show i0.zero.map (fun z => z.cells.size) = some 4 from e3)
  exact ⟨i0, z, h, h3, by simpa using e2, h1, h4⟩

theorem w125 (l : List Tm) (sp : Sp) (hne : l ≠ []) (hl : l.length ≤ 1048576) : MeetsH Tryd.prog G 125 [.one (.c (.sl (l.map Tm.row) sp))] (hp [] [] F0) (.x (.one (.arr 1 0 l.length l.length))) (hp [(1, bxT l)] [] F0) := by
  have hrows : (l.map Tm.row).length = l.length := List.length_map ..
  have key := MeetsH.of_new (P := Tryd.prog) (G := G) (f := 125) (args := [.one (.c (.sl (l.map Tm.row) sp))]) (k := 1) (ty := 41) (size := 4) (rows := l.map Tm.row) (by kernel_rfl) (by simp) (fun r hr => by obtain ⟨t, _, rfl⟩ := List.mem_map.1 hr; rfl) ?_
  · rw [hrows, List.map_map] at key
    exact key
  intro w env vs hV ha
  obtain ⟨v, vs', rfl, hv, ha'⟩ := ha.head
  obtain rfl := ha'.nil_left
  obtain ⟨i0, z, hi, hz0, hz1, hz2, hzs⟩ := info41
  have hv' : RepC env.V w (.sl (l.map Tm.row) sp) v := hv
  generalize hR : l.map Tm.row = R at hv' hrows
  have hR4 : ∀ r ∈ R, r.length = 4 := fun r hr => by rw [← hR] at hr; obtain ⟨t, _, rfl⟩ := List.mem_map.1 hr; rfl
  have hRne : R ≠ [] := fun e => hne (by rw [e] at hR; simpa using hR)
  have hfl : R.flatten.length = R.length * 4 := by
    clear hR hrows hv' hRne
    induction R with
    | nil => rfl
    | cons r R ih =>
      rw [List.flatten_cons, List.length_append, hR4 r (List.mem_cons_self ..), ih fun x hx => hR4 x (List.mem_cons_of_mem _ hx), List.length_cons]
      omega
  cases hv' with
  | nil c => exact absurd rfl hRne
  | emp a => exact absurd rfl hRne
  | sl _ _ s b o n cap us hn hc hm hw hul hu hr =>
    have hcat : (R ++ sp).flatten = R.flatten ++ sp.flatten := List.flatten_append
    have hus : R.flatten.length ≤ us.length := by rw [hul, hcat, List.length_append]; omega
    have hat : ∀ (j : Nat) (u : Value), (us.take R.flatten.length)[j]? = some u → us[j]? = some u ∧ j < R.flatten.length := fun j u h => by
      rw [List.getElem?_take] at h
      split at h
      · rename_i hj; exact ⟨h, hj⟩
      · cases h
    have hrep : All2 (RepC env.V w) R.flatten (us.take R.flatten.length) := by
      refine ⟨by rw [List.length_take]; omega, fun j c u h1 h2 => ?_⟩
      obtain ⟨h3, h4⟩ := hat j u h2
      exact hr j c u (by rw [hcat, List.getElem?_append_left h4]; exact h1) h3
    have hcall := AnyE.slices_Clone Tryd.lays125 i0 z 4 48 hi hz0 hz1 hz2 hzs (by decide) (fun w => Tryd.sizeOf41 w) b o n cap (us.take R.flatten.length) w (by rw [List.length_take, hn]; omega) (by rw [hn]; unfold maxLen at *; omega) (by rw [hn]; omega)
      (fun j u h => (hu j u (hat j u h).1).1) (fun u hm => by
        obtain ⟨j, hj, rfl⟩ := List.mem_iff_getElem.1 hm
        have hj' : j < R.flatten.length := by rw [List.length_take] at hj; omega
        exact (hrep.2 j _ _ (List.getElem?_eq_getElem hj') (List.getElem?_eq_getElem hj)).oneCell)
    refine hcall.mono ?_
    rintro e w' ⟨v', rfl, hown, hne', hb⟩
    refine ⟨v', _, rfl, hne', ?_, hrep, hb⟩
    rw [← hn]
    exact hown

theorem repC_none {V : Nat → Nat → Prop} {w : World} {base : Nat} {e : TypeId} {size : Nat} {v : Value} (h : w.ownsRow base e size v 0 []) : RepC V w (.sl [] []) v := by
  obtain ⟨_, ⟨rfl, _⟩ | ⟨g, cap, cur, rfl, hbase, hg, hn, hm, hsz, htk⟩⟩ := h
  · exact .nil 0
  · exact .sl [] [] 0 g 0 0 cap [] rfl (by simp) hm (by simp) rfl (fun j u h => by simp at h) (fun j c u h => by simp at h)
theorem m125 (sp : Sp) : Meets Tryd.prog G 125 [.one (.sl [] sp)] (.x (.one (.sl [] []))) := by
  refine ⟨by kernel_rfl, fun w V vs _ _ ha => ?_⟩
  obtain ⟨v, vs', rfl, hv, ha'⟩ := ha.head
  obtain rfl := ha'.nil_left
  obtain ⟨i0, z, hi, hz0, hz1, hz2, hzs⟩ := info41
  have hv' : RepC V w (.sl [] sp) v := hv
  have fin : ∀ (a : Addr) (c : Nat), Calls Tryd.prog 125 #[.slice (some a) 0 c] w fun e w' => ∃ v, e = .returned v ∧ RepCR (fun b o => V b o ∨ w.heap.size ≤ b) w' (.x (.one (.sl [] []))) v ∧ Below w.heap.size w w' := fun a c => by
    have hcall := clone_zero Tryd.lays125 i0 z 4 48 hi hz0 hz1 hz2 hzs (by decide) (fun w => Tryd.sizeOf41 w) a c w
    refine hcall.mono ?_
    rintro e w' ⟨v', rfl, hown, _, hb⟩
    exact ⟨v', rfl, repC_none hown, hb⟩
  generalize hE : ([] : List (List C)) = E at hv'
  cases hv' with
  | nil c =>
    refine (AnyE.slices_Clone_nil Tryd.lays125 0 0 w).mono ?_
    rintro e w' ⟨rfl, rfl⟩
    exact ⟨_, rfl, .nil 0, Below.refl _ _⟩
  | emp a => exact fin a 0
  | sl _ _ s b o n cap us hn hc hm hw hul hu hr =>
    subst hE
    simp at hn
    subst hn
    exact fin ⟨b, o, none⟩ cap
end Go.Proofs.YtiomojlcnemnhaaDoor

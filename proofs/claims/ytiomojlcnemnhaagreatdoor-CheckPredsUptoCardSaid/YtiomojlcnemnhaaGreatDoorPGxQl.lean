import Derived.Test.YtiomojlcnemnhaaGreatDoorPGxZ2
import Derived.Test.YtiomojlcnemnhaaGreatDoorPGxQg
import Derived.Sort.KeysCollected
/- Fx, part We: a call that looks at a heap and leaves it as it is, out of what it does to worlds. -/
namespace Go.Fx
open Go.RowKit

section
variable {P : Program} {G : World → Prop}

/-- It looks at the heap, hands back what lies in what nobody writes or in new memory, and leaves all as it was. -/
theorem MeetsH.of_below {f : FuncId} {args : List X} {h : Hp} {res : CR} (hcl : callable P f = true) (hx : ∀ x ∈ args, x.only (fun _ => True) (fun k => h.toks k ≠ none)) (ho : h.only (fun _ => True) (fun k => h.toks k ≠ none))
    (hm : ∀ (w : World) (env : Env) (F : Nat → Prop) (vs : List Value), HMem env h F w → All2 (RepX env h.toks w) args vs → Calls P f vs.toArray w fun e w' => ∃ v, e = .returned v ∧ RepCR (fun b o => env.V b o ∨ w.heap.size ≤ b) w' res v ∧ Below w.heap.size w w') :
    MeetsH P G f args h res.open h := by
  refine ⟨hcl, hx, ho, fun w env F vs _ hmem _ ha => ?_⟩
  refine (hm w env F vs hmem ha).mono ?_
  rintro e w' ⟨v, rfl, hr, hb⟩
  have hcell : ∀ b o, env.V b o → w'.cell? ⟨b, o, none⟩ = w.cell? ⟨b, o, none⟩ := fun b o hv => hb.cell (p := ⟨b, o, none⟩) (hmem.vlt b o hv)
  let env' : Env := { env with V := fun b o => env.V b o ∨ (w.heap.size ≤ b ∧ b < w'.heap.size) }
  have hle : env.Le env' h.toks h.toks w w' := ⟨fun _ _ x => .inl x, hcell, fun _ _ x => x, fun _ t x => ⟨t, x, rfl, Nat.le_refl _, fun _ => rfl⟩⟩
  have hV : ∀ b o, b < w.heap.size → env'.V b o → env.V b o := fun b o hlt hv => hv.elim id fun h => absurd hlt (Nat.not_lt.mpr h.1)
  refine ⟨v, env', F, rfl, openR_rep (fun b o h => h.1.elim .inl fun hh => .inr ⟨hh, h.2⟩) hr.bound, {
    mem := {
      vlt := fun b o hv => hv.elim (fun h => Nat.lt_of_lt_of_le (hmem.vlt b o h) hb.size) fun h => h.2
      ρlt := fun k b s hk => Nat.lt_of_lt_of_le (hmem.ρlt k b s hk) hb.size
      τlt := fun k v b hk hv => Nat.lt_of_lt_of_le (hmem.τlt k v b hk hv) hb.size
      objs := fun k x hk => by
        obtain ⟨b, us, g1, g2, g3, g4, g5⟩ := hmem.objs k x hk
        exact ⟨b, us, g1, g2.of (hb.block b g2.lt), g3.imp fun _ _ _ => RepA.mono hle, g4, fun o hv => g5 o (hV b o g2.lt hv)⟩
      inj := hmem.inj
      toks := fun k t hk => by
        obtain ⟨v, xs, g1, g2, g3⟩ := hmem.toks k t hk
        exact ⟨v, xs, g1, ownsRow_of_block g2 fun b hv => hb.block b (g2.lt b hv).2, fun b hv => ⟨fun o ho hh => (g3 b hv).1 o ho (hV b o (g2.lt b hv).2 hh), (g3 b hv).2⟩⟩
      tinj := hmem.tinj
      sep := hmem.sep
      ext := h.ext.mono (w := w) (fun _ _ x => .inl x) hcell (fun b hF => hb.block b (hmem.flt b hF).1) hmem.ext
      flt := fun b hF => by
        obtain ⟨g1, g2, g3, g4⟩ := hmem.flt b hF
        exact ⟨Nat.lt_of_lt_of_le g1 hb.size, fun o hv => g2 o (hV b o g1 hv), g3, g4⟩ }
    kept := KeptBut.of_below hb
    owned := fun b hb => .inr hb
    vold := fun b o hv => .inl hv
    vcell := hcell
    vnew := fun b o hv => hv.imp id fun h => .inl h.1
    ρold := fun _ _ x => x
    ρnew := fun _ _ x => .inl x
    τold := fun _ _ _ => rfl
    τnew := fun k v hk => .inl (by rw [show env.τ k = some v from hk]; simp)
    tok := fun k t t' h1 h2 => by rw [h1] at h2; injection h2 with h2; subst h2; exact ⟨rfl, Nat.le_refl _, fun _ => rfl⟩ }⟩

theorem flat1 : ∀ xs : List Value, (xs.map fun x => [C.v x]).flatten = xs.map C.v
  | [] => rfl
  | x :: xs => by rw [List.map_cons, List.flatten_cons, flat1 xs]; rfl
/-- A new row of one-celled elements, as nobody will write it. -/
theorem repC_row {V : Nat → Nat → Prop} {w : World} {base : Nat} {e : TypeId} {v : Value} {xs : List Value} (h : w.ownsRow base e 1 v xs.length xs) (hV : ∀ b o, base ≤ b → V b o) (h1 : ∀ x ∈ xs, x.oneCell' = true) :
    RepC V w (.sl (xs.map fun x => [.v x]) []) v := by
  obtain ⟨_, ⟨rfl, hz⟩ | ⟨g, cap, cur, rfl, hbase, hg, hn, hm, hsz, htk⟩⟩ := h
  · have : xs = [] := List.eq_nil_of_length_eq_zero hz
    subst this
    exact .nil 0
  · have hfl : ((xs.map fun x => [C.v x]) ++ []).flatten = xs.map C.v := by
      rw [List.append_nil]
      exact flat1 xs
    refine .sl _ _ 1 g 0 _ cap xs (by simp) (by simpa using hn) hm (fun r hr => ?_) (by rw [hfl]; simp) (fun j u hj => ?_) (fun j c u hc hu => ?_)
    · simp only [List.append_nil, List.mem_map] at hr
      obtain ⟨x, _, rfl⟩ := hr
      rfl
    · refine ⟨?_, hV _ _ hbase⟩
      have hj' : cur.toList[j]? = some u := by
        rw [Nat.mul_one] at htk
        have hlt := (List.getElem?_eq_some_iff.1 hj).1
        have e := congrArg (fun l => l[j]?) htk
        rw [List.getElem?_take, if_pos hlt] at e
        exact e.trans hj
      simp [World.cell?, hg]
      simpa using hj'
    · rw [hfl, List.getElem?_map, hu] at hc
      simp at hc
      subst hc
      exact .v u (h1 u (List.mem_of_getElem? hu))

section
variable {P : Program} {G : World → Prop} {L : List (Nat × T)} {O : List (Nat × Box)} {U : List (Nat × Tok)} {H : FHp} {l : List IOper} {K : S → Prop} {d : Nat}
end
end
end Go.Fx

/- Plain: the map's names, sorted, are the document's predicates. (Labels of 2000 and more: seat ZD.) -/
namespace Go.Proofs.YtiomojlcnemnhaaGreatDoor
open Go.Fx Go.RowKit Go.Ped

def sortN (l : List Name) : List Name := l.mergeSort leB
def predsOf (m : List Pd) : List Pd := (sortN (m.map Pd.name)).map fun v => ⟨v, (lookP m v).getD 0⟩
theorem goMeet_nodup {m m' : List Pd} {p : Pd} (h : goMeet m p = some m') (hn : (m.map Pd.name).Nodup) : (m'.map Pd.name).Nodup := by
  unfold goMeet at h
  split at h
  · split at h
    · injection h with h; subst h; exact hn
    · cases h
  · rename_i hk
    injection h with h
    subst h
    rw [List.map_append, List.nodup_append]
    refine ⟨hn, by simp, fun a ha b hb e => ?_⟩
    simp at hb
    subst hb
    subst e
    exact lookP_none.1 hk ha
theorem goMeets_nodup : ∀ {l m m' : List Pd}, goMeets m l = some m' → (m.map Pd.name).Nodup → (m'.map Pd.name).Nodup
  | [], m, m', h, hn => by injection h with h; subst h; exact hn
  | p :: l, m, m', h, hn => by
    rw [goMeets] at h
    split at h
    · rename_i m1 h1; exact goMeets_nodup h (goMeet_nodup h1 hn)
    · cases h
theorem sortN_ordered {l : List Name} (hn : l.Nodup) : Ordered ltN (sortN l) := by
  have tr : ∀ a b c : List UInt8, leB a b = true → leB b c = true → leB a c = true := fun a b c h1 h2 => by simp only [leB, decide_eq_true_eq] at *; exact List.le_trans h1 h2
  have to : ∀ a b : List UInt8, (leB a b || leB b a) = true := fun a b => by simp only [leB, Bool.or_eq_true, decide_eq_true_eq]; exact List.le_total a b
  have h1 := List.pairwise_mergeSort tr to l
  have h2 : (sortN l).Nodup := (List.mergeSort_perm l leB).nodup_iff.2 hn
  unfold Ordered
  refine (h1.and h2).imp fun {a b} h => ?_
  obtain ⟨h3, h4⟩ := h
  simp only [leB, decide_eq_true_eq] at h3
  rw [ltN_eq, decide_eq_true_eq]
  rcases List.le_iff_lt_or_eq.1 h3 with h | h
  · exact h
  · exact absurd h h4
theorem sortN_mem {l : List Name} {v : Name} : v ∈ sortN l ↔ v ∈ l := (List.mergeSort_perm l leB).mem_iff
theorem sortN_len (l : List Name) : (sortN l).length = l.length := (List.mergeSort_perm l leB).length_eq
theorem preds_eq (L : List Pd) : (goMeets [] L).map predsOf = refMeets ltN [] L := by
  rcases meets_same ltN ltN_trans ltN_total L (same_nil ltN) with ⟨h1, h2⟩ | ⟨m, k, h1, h2, h3⟩
  · rw [h1, h2]; rfl
  · rw [h1, h2, Option.map_some]
    congr 1
    exact preds_same ltN ltN_trans ltN_irr h3 (sortN_ordered (goMeets_nodup h1 (by simp))) (fun v => sortN_mem)
theorem goMeets_len : ∀ {l m m' : List Pd}, goMeets m l = some m' → m'.length ≤ m.length + l.length
  | [], m, m', h => by injection h with h; subst h; simp
  | p :: l, m, m', h => by
    rw [goMeets] at h
    split at h
    · rename_i m1 h1
      have h2 := goMeets_len h
      have h3 : m1.length ≤ m.length + 1 := by
        unfold goMeet at h1
        split at h1
        · split at h1
          · injection h1 with h1; subst h1; omega
          · cases h1
        · injection h1 with h1; subst h1; simp
      simp; omega
    · cases h
theorem goMeets_mem : ∀ {l m m' : List Pd}, goMeets m l = some m' → ∀ p ∈ m', p ∈ m ∨ p ∈ l
  | [], m, m', h, p, hp => by injection h with h; subst h; exact .inl hp
  | q :: l, m, m', h, p, hp => by
    rw [goMeets] at h
    split at h
    · rename_i m1 h1
      rcases goMeets_mem h p hp with h2 | h2
      · unfold goMeet at h1
        split at h1
        · split at h1
          · injection h1 with h1; subst h1; exact .inl h2
          · cases h1
        · injection h1 with h1; subst h1
          rcases List.mem_append.1 h2 with h2 | h2
          · exact .inl h2
          · simp at h2; subst h2; exact .inr (List.mem_cons_self ..)
      · exact .inr (List.mem_cons_of_mem _ h2)
    · cases h
end Go.Proofs.YtiomojlcnemnhaaGreatDoor

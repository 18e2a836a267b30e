import Derived.Test.YtiomojlcnemnhaaGreatDoorLGxW4
import Derived.Test.YtiomojlcnemnhaaGreatDoorLGxU2
import Derived.Test.YtiomojlcnemnhaaGreatDoorLGxZ3
import Derived.Test.YtiomojlcnemnhaaGreatDoorLGxIcZ
namespace Go.Proofs.YtiomojlcnemnhaaGreatDoor
open Go.Fx Go.RowKit Go.Ped
variable {G : World → Prop}
mutual
def Ex.put (s : List Pr) : Ex → Ex
  | .mk op t kids _ => .mk op (putS s t) (exPuts s kids) []
def exPuts (s : List Pr) : List Ex → List Ex
  | [] => []
  | e :: l => e.put s :: exPuts s l
end
theorem exPuts_map (s : List Pr) : ∀ l : List Ex, exPuts s l = l.map (Ex.put s)
  | [] => rfl
  | e :: l => by rw [exPuts, exPuts_map s l]; rfl
theorem Ex.put_mk (s : List Pr) (op : Int) (t : Tm) (kids : List Ex) (sp : Sp) : (Ex.mk op t kids sp).put s = .mk op (putS s t) (kids.map (Ex.put s)) [] := by rw [Ex.put, exPuts_map]
end Go.Proofs.YtiomojlcnemnhaaGreatDoor

namespace Go.Proofs.YtiomojlcnemnhaaGreatDoor
open Go.Fx Go.RowKit Go.Ped
inductive Nd where
  | mk (op : Int) (t : Tm) (blk cap : Nat) (kids : List Nd)
  deriving Inhabited
def Nd.op : Nd → Int | .mk op _ _ _ _ => op
def Nd.t : Nd → Tm | .mk _ t _ _ _ => t
def Nd.blk : Nd → Nat | .mk _ _ b _ _ => b
def Nd.cap : Nd → Nat | .mk _ _ _ c _ => c
def Nd.kids : Nd → List Nd | .mk _ _ _ _ kids => kids
mutual
theorem Nd.ind {Q : Nd → Prop} (h : ∀ op t b c kids, (∀ k ∈ kids, Q k) → Q (.mk op t b c kids)) : ∀ n, Q n
  | .mk op t b c kids => h op t b c kids (Nd.indL h kids)
theorem Nd.indL {Q : Nd → Prop} (h : ∀ op t b c kids, (∀ k ∈ kids, Q k) → Q (.mk op t b c kids)) : ∀ l : List Nd, ∀ k ∈ l, Q k
  | [], _, hk => by cases hk
  | n :: l, k, hk => match List.mem_cons.1 hk with
    | .inl e1 => e1 ▸ Nd.ind h n
    | .inr hk => Nd.indL h l k hk
end
def slV (b cap : Nat) (n : Nat) : Value := if n = 0 then .slice none 0 0 else .slice (some ⟨b, 0, none⟩) n cap
def Nd.sl : Nd → Value | .mk _ _ b cap kids => slV b cap kids.length
def tmCells (t : Tm) : List Value := [.string (bs t.v), .int .i8 t.x.k, .int .i64 t.x.n, .string (bs t.x.s)]
def Nd.cells (n : Nd) : List Value := .int .i8 n.op :: (tmCells n.t ++ [n.sl])
@[simp] theorem Nd.cells_length (n : Nd) : n.cells.length = 6 := rfl
@[simp] theorem tmCells_length (t : Tm) : (tmCells t).length = 4 := rfl
def RowAt (w : World) (b : Nat) (ty : TypeId) (size cap n : Nat) (xs : List Value) : Prop :=
  xs.length = n * size ∧ ∃ cur, w.heap[b]? = some (.cells cur ty (0, 0)) ∧ n ≤ cap ∧ cap ≤ maxLen ∧ cur.size = cap * size ∧ cur.toList.take (n * size) = xs
theorem RowAt.frame {w w' : World} {b : Nat} {ty : TypeId} {size cap n : Nat} {xs : List Value} (h : RowAt w b ty size cap n xs) (hb : w'.heap[b]? = w.heap[b]?) : RowAt w' b ty size cap n xs := by
  obtain ⟨h1, cur, h2, h3⟩ := h
  exact ⟨h1, cur, hb.trans h2, h3⟩
theorem RowAt.lt {w : World} {b : Nat} {ty : TypeId} {size cap n : Nat} {xs : List Value} (h : RowAt w b ty size cap n xs) : b < w.heap.size := by
  obtain ⟨_, cur, h2, _⟩ := h
  exact (Array.getElem?_eq_some_iff.1 h2).1
mutual
def Nd.blks : Nd → List Nat
  | .mk _ _ b _ kids => if kids.isEmpty then [] else b :: ndsBlks kids
def ndsBlks : List Nd → List Nat
  | [] => []
  | k :: l => k.blks ++ ndsBlks l
end
theorem ndsBlks_flat : ∀ l : List Nd, ndsBlks l = l.flatMap Nd.blks
  | [] => rfl
  | k :: l => by rw [ndsBlks, ndsBlks_flat l]; rfl
theorem Nd.blks_mk (op : Int) (t : Tm) (b c : Nat) (kids : List Nd) : (Nd.mk op t b c kids).blks = if kids = [] then [] else b :: kids.flatMap Nd.blks := by
  rw [Nd.blks, ndsBlks_flat]
  cases kids <;> rfl
mutual
def Nd.In (w : World) : Nd → Prop
  | .mk _ _ b cap kids => (kids ≠ [] → RowAt w b 105 6 cap kids.length (kids.flatMap Nd.cells)) ∧ ndsIn w kids
def ndsIn (w : World) : List Nd → Prop
  | [] => True
  | k :: l => k.In w ∧ ndsIn w l
end
theorem ndsIn_iff {w : World} : ∀ {l : List Nd}, ndsIn w l ↔ ∀ k ∈ l, k.In w
  | [] => by simp [ndsIn]
  | k :: l => by rw [ndsIn, ndsIn_iff]; simp
theorem Nd.In_mk {w : World} {op : Int} {t : Tm} {b c : Nat} {kids : List Nd} : (Nd.mk op t b c kids).In w ↔ (kids ≠ [] → RowAt w b 105 6 c kids.length (kids.flatMap Nd.cells)) ∧ ∀ k ∈ kids, k.In w := by rw [Nd.In, ndsIn_iff]
theorem Nd.In.frame {w w' : World} : ∀ n : Nd, n.In w → (∀ b ∈ n.blks, w'.heap[b]? = w.heap[b]?) → n.In w' := by
  refine Nd.ind fun op t b c kids ih h hb => ?_
  rw [Nd.blks_mk] at hb
  obtain ⟨h1, h2⟩ := Nd.In_mk.1 h
  refine Nd.In_mk.2 ⟨fun hk => ?_, fun k hk => ?_⟩
  · rw [if_neg hk] at hb
    exact (h1 hk).frame (hb b (List.mem_cons_self ..))
  · have hne : kids ≠ [] := fun e => by rw [e] at hk; cases hk
    rw [if_neg hne] at hb
    exact ih k hk (h2 k hk) fun c hc => hb c (List.mem_cons_of_mem _ (List.mem_flatMap.2 ⟨k, hk, hc⟩))
theorem Nd.In.lt {w : World} : ∀ n : Nd, n.In w → ∀ b ∈ n.blks, b < w.heap.size := by
  refine Nd.ind fun op t b c kids ih h x hx => ?_
  rw [Nd.blks_mk] at hx
  obtain ⟨h1, h2⟩ := Nd.In_mk.1 h
  split at hx
  · cases hx
  · rename_i hk
    rcases List.mem_cons.1 hx with rfl | hx
    · exact (h1 hk).lt
    · obtain ⟨k, hk, hx⟩ := List.mem_flatMap.1 hx
      exact ih k hk (h2 k hk) x hx
mutual
def Nd.ex : Nd → Ex
  | .mk op t _ _ kids => .mk op t (ndsEx kids) []
def ndsEx : List Nd → List Ex
  | [] => []
  | k :: l => k.ex :: ndsEx l
end
theorem ndsEx_map : ∀ l : List Nd, ndsEx l = l.map Nd.ex
  | [] => rfl
  | k :: l => by rw [ndsEx, ndsEx_map l]; rfl
theorem Nd.ex_mk (op : Int) (t : Tm) (b c : Nat) (kids : List Nd) : (Nd.mk op t b c kids).ex = .mk op t (kids.map Nd.ex) [] := by rw [Nd.ex, ndsEx_map]
theorem putS_nil (t : Tm) : putS [] t = t := by unfold putS; split <;> rfl
abbrev Ex.bare (e : Ex) : Ex := e.put []
theorem Ex.bare_mk (op : Int) (t : Tm) (kids : List Ex) (sp : Sp) : (Ex.mk op t kids sp).bare = .mk op t (kids.map Ex.bare) [] := by unfold Ex.bare; rw [Ex.put_mk, putS_nil]
theorem Nd.rep {V : Nat → Nat → Prop} {w : World} : ∀ n : Nd, n.In w → (∀ b ∈ n.blks, ∀ o, V b o) → RepC V w (.sl (n.kids.map fun k => k.ex.row) []) n.sl := by
  refine Nd.ind fun op t b c kids ih h hV => ?_
  rw [Nd.blks_mk] at hV
  obtain ⟨h1, h2⟩ := Nd.In_mk.1 h
  show RepC V w (.sl (kids.map fun k => k.ex.row) []) (slV b c kids.length)
  by_cases hk : kids = []
  · subst hk
    exact .nil 0
  · rw [if_neg hk] at hV
    obtain ⟨hlen, cur, hb, hn, hm, hsz, htk⟩ := h1 hk
    have hpos : kids.length ≠ 0 := fun e => hk (List.length_eq_zero_iff.1 e)
    unfold slV
    rw [if_neg hpos]
    have hcat : ∀ l : List Nd, (l.map fun k => k.ex.row).flatten = l.flatMap fun k => k.ex.row := fun l => (List.flatMap_def ..).symm
    have hrl : ∀ l : List Nd, (l.flatMap fun k => k.ex.row).length = l.length * 6 := by
      intro l
      induction l with
      | nil => rfl
      | cons k l ih => rw [List.flatMap_cons, List.length_append, ih, Ex.row_length, List.length_cons]; omega
    refine .sl _ [] 6 b 0 _ c (kids.flatMap Nd.cells) (by simp) (by simpa using hn) hm ?_ ?_ ?_ ?_
    · intro r hr
      simp only [List.append_nil] at hr
      obtain ⟨k, _, rfl⟩ := List.mem_map.1 hr
      exact Ex.row_length _
    · rw [List.append_nil, hcat, hrl, hlen]
    · intro j u hj
      refine ⟨?_, hV b (List.mem_cons_self ..) _⟩
      rw [← htk, List.getElem?_take] at hj
      split at hj
      · simp only [World.cell?, hb, Nat.zero_add]
        simpa using hj
      · cases hj
    · intro j cc u hj hu
      rw [List.append_nil, hcat] at hj
      have key : ∀ (l : List Nd), (∀ k ∈ l, k ∈ kids) → ∀ (j : Nat) (cc : C) (u : Value), (l.flatMap fun k => k.ex.row)[j]? = some cc → (l.flatMap Nd.cells)[j]? = some u → RepC V w cc u := by
        intro l
        induction l with
        | nil => intro _ j cc u h1; simp at h1
        | cons k l ihl =>
          intro hl j cc u h1 h3
          rw [List.flatMap_cons] at h1 h3
          by_cases hj6 : j < 6
          · rw [List.getElem?_append_left (by rw [Ex.row_length]; exact hj6)] at h1
            rw [List.getElem?_append_left (by rw [Nd.cells_length]; exact hj6)] at h3
            have hin := hl k (List.mem_cons_self ..)
            have hrep := ih k hin (h2 k hin) fun c hc => hV c (List.mem_cons_of_mem _ (List.mem_flatMap.2 ⟨k, hin, hc⟩))
            cases k with
            | mk op' t' b' c' kids' =>
              rw [Nd.ex_mk, Ex.row_mk, List.map_map] at h1
              change RepC V w (.sl (kids'.map fun k => k.ex.row) []) (slV b' c' kids'.length) at hrep
              have hc : (Nd.mk op' t' b' c' kids').cells = [.int .i8 op', .string (bs t'.v), .int .i8 t'.x.k, .int .i64 t'.x.n, .string (bs t'.x.s), slV b' c' kids'.length] := rfl
              rw [hc] at h3
              have h6 : j = 0 ∨ j = 1 ∨ j = 2 ∨ j = 3 ∨ j = 4 ∨ j = 5 := by omega
              rcases h6 with rfl | rfl | rfl | rfl | rfl | rfl <;> simp at h1 h3 <;> subst h1 <;> subst h3
              · exact .v _ rfl
              · exact .v _ rfl
              · exact .v _ rfl
              · exact .v _ rfl
              · exact .v _ rfl
              · exact hrep
          · rw [List.getElem?_append_right (by rw [Ex.row_length]; omega), Ex.row_length] at h1
            rw [List.getElem?_append_right (by rw [Nd.cells_length]; omega), Nd.cells_length] at h3
            exact ihl (fun k hk => hl k (List.mem_cons_of_mem _ hk)) _ cc u h1 h3
      exact key kids (fun k hk => hk) j cc u hj hu
end Go.Proofs.YtiomojlcnemnhaaGreatDoor

/- Contracts, on: what unifies, the program's way. -/
import Derived.Test.YtiomojlcnemnhaaDoorMDxN3
import Derived.Test.YtiomojlcnemnhaaDoorMDxIcC
import Derived.Test.YtiomojlcnemnhaaDoorMPedU
namespace Go.Proofs.YtiomojlcnemnhaaDoor
open Go.Fx Go.RowKit Go.Ped
variable {G : World → Prop}

/-- A pair as the map keeps it; as a row. -/
def nxRow (p : Pr) : List A := .c (cS (bs p.v)) :: p.t.row.map A.c
def _root_.Go.Ped.Pr.row (p : Pr) : List C := cS (bs p.v) :: p.t.row
abbrev zTm : List A := [.c (cS (bs [])), .c (cI .i8 0), .c (cI .i64 0), .c (cS (bs []))]

theorem nx_find (v : Name) (c : List Pr) : (c.map nxRow).find? (keyEq (.string (bs v))) = (c.find? (·.v == v)).map nxRow := by
  rw [List.find?_map]
  congr 2
  funext p
  simp [keyEq, nxRow]
theorem nx_get (v : Name) (c : List Pr) : mapGet (c.map nxRow) (.string (bs v)) zTm = ((nextOf c v).getD ⟨[], zeroV⟩).row.map A.c := by
  unfold mapGet nextOf
  rw [nx_find]
  cases c.find? (·.v == v) <;> simp [nxRow, zeroV, Tm.row]
theorem nx_any (v : Name) (c : List Pr) : (c.map nxRow).any (keyEq (.string (bs v))) = (nextOf c v).isSome := by
  unfold nextOf
  rw [Option.isSome_map, List.any_map, ← List.isSome_find?]
  congr 2
  funext p
  simp [keyEq, nxRow]
theorem nx_strike (ks : List Nat) (p : Pr) : strikeL ks (nxRow p) = nxRow p := by simp [nxRow]

theorem nx_strike' (ks : List Nat) : strikeL ks ∘ nxRow = nxRow := funext fun p => nx_strike ks p
theorem nx_any' (v : Name) (c : List Pr) : c.any (keyEq (.string (bs v)) ∘ nxRow) = (nextOf c v).isSome := by
  rw [← nx_any, List.any_map]
/-- What a term became, or the zero one. -/
def nxt (c : List Pr) (v : Name) : Tm := (nextOf c v).getD ⟨[], zeroV⟩
theorem nx_get' (v : Name) (c : List Pr) : mapGet (c.map nxRow) (.string (bs v)) zTm = [.c (cS (bs (nxt c v).v)), .c (cI .i8 (nxt c v).x.k), .c (cI .i64 (nxt c v).x.n), .c (cS (bs (nxt c v).x.s))] := nx_get v c

abbrev O106 (c : List Pr) : List (Nat × Box) := [(10006, ⟨155, 1, [[.mapr 10039]], none⟩), (10039, ⟨0, 5, c.map nxRow, some (.string, false)⟩)]

theorem m106 (c : List Pr) (hg : Ped.Good c) (t : Tm) :
    MeetsH Tryd.prog G 106 [.agg (t.row.map A.c), .one (.ref 10006 0 0)] (hp (O106 c) [] F0) (.x (.agg ((endOf c t).row.map A.c))) (hp (O106 c) [] F0) := by
  obtain ⟨n, hn⟩ := hg.way t
  refine meetsH [] Tryd.func106 ie106 ig106 (Nat.le_of_ble_eq_true rfl) ?_ (by simp) ?_ ?_ (by simp) (sameKeys_refl F0) ?_ ?_ ?_
  · intro p hp
    simp only [List.mem_cons, List.not_mem_nil, or_false] at hp
    rcases hp with rfl | rfl
    · exact ⟨by unfold midKey; omega, by simp [ownKey]⟩
    · exact ⟨by unfold midKey; omega, by simp [nxRow]⟩
  · simp [ownKey]
  · simp
  · intro p hp
    simp only [List.mem_cons, List.not_mem_nil, or_false] at hp
    rcases hp with rfl | rfl
    · simp [ownKey]
    · simp [nxRow]
  · simp
  simp [ic106, ir106, Tm.row, nx_get', nx_any', nx_strike']
  refine w_loopK (fun n σ => ∃ (u : Tm) (t13 t22 : T), Ped.Way c n u ∧ endOf c t = endOf c u ∧ σ = ks106 (.k true (.x (.agg (t.row.map A.c)))) (.k true (.x (.one (.ref 10006 0 0)))) (.k true (.x (.one (.ref 2 0 0)))) (tB (nextOf c u.v).isSome) t13 (.k true (.x (.one (.ref 4 0 0)))) t22 (.k true (.x (.one (.ref 3 0 0))))
    ((4, ⟨41, 4, [(nxt c u.v).row.map A.c], none⟩) :: (3, ⟨41, 4, [zTm], none⟩) :: (2, ⟨41, 4, [u.row.map A.c], none⟩) :: O106 c) [] F0)
    n ⟨t, _, _, hn, rfl, rfl⟩ ?_
  rintro n σ1 K hK ⟨u, t13, t22, hw, he, rfl⟩
  cases n with
  | zero =>
    obtain ⟨h1, h2⟩ := hw
    simp [ic106l0, h1]
    rw [he, h2]
    exact ret_st (by simp) (by simp [Tm.row]) (by simp) (by simp) (by simp) (by simp)
  | succ n =>
    obtain ⟨u', h1, h2, h3⟩ := hw
    have hx : nxt c u.v = u' := by unfold nxt; rw [h1]; rfl
    simp [ic106l0, h1, hx, Tm.row, nx_get', nx_any', nx_strike']
    exact hK _ n (by omega) ⟨u', _, _, h3, he.trans h2, rfl⟩
end Go.Proofs.YtiomojlcnemnhaaDoor

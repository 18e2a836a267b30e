/- The law TermUnifies. -/
import Derived.Test.YtiomojlcnemnhaaDoorMDxU5
namespace Go.Proofs.YtiomojlcnemnhaaDoor
open Go.Fx Go.RowKit Go.Ped

theorem takes_len (s : List Pr) (v : Name) (t : Tm) : (takes s v t).length = s.length + 1 := by simp [takes]
theorem refUnify_len : ∀ (ts ws : List Tm) (s s' : List Pr), refUnify s ts ws = some s' → s'.length ≤ s.length + ts.length
  | [], ws, s, s', h => by simp only [refUnify, Option.some.injEq] at h; subst h; simp
  | _ :: _, [], s, s', h => by simp only [refUnify, Option.some.injEq] at h; subst h; simp
  | a :: ts, b :: ws, s, s', h => by
    simp only [refUnify] at h
    split at h
    · have := refUnify_len ts ws _ _ h; simp; omega
    · split at h
      · have := refUnify_len ts ws _ _ h; rw [takes_len] at this; simp; omega
      · split at h
        · have := refUnify_len ts ws _ _ h; rw [takes_len] at this; simp; omega
        · cases h
theorem unify_len {p q : Name} {ts ws : List Tm} {s : List Pr} (h : unifyOf p ts q ws = some s) : s.length ≤ 24 := by
  unfold unifyOf at h
  split at h
  · rename_i hc
    simp only [Bool.and_eq_true, beq_iff_eq] at hc
    have := refUnify_len ts ws [] s h
    have h24 : ts.length ≤ 24 := by have := hc.1.1.1; simp [atomOk] at this; omega
    simp at this; omega
  · cases h

end Go.Proofs.YtiomojlcnemnhaaDoor

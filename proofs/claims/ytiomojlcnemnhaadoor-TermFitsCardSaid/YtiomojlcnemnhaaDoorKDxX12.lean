/- Contracts, on: how many parts things have, counted up to a number. -/
import Derived.Test.YtiomojlcnemnhaaDoorKDxRow
import Derived.Test.YtiomojlcnemnhaaDoorKDxIcD
namespace Go.Proofs.YtiomojlcnemnhaaDoor
open Go.Fx Go.RowKit Go.Ped
variable {G : World → Prop}

theorem wrap64 {n : Int} (h1 : -9223372036854775808 ≤ n) (h2 : n ≤ 9223372036854775807) : IntKind.i64.wrap n = n := Go.IntWalk.i64_in _ (by omega)

end Go.Proofs.YtiomojlcnemnhaaDoor

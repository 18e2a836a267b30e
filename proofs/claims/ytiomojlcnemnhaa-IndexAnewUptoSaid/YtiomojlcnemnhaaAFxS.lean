import Derived.Test.YtiomojlcnemnhaaAFxR
import Derived.OrdersIn
namespace Go.Fx
open Go.RowKit
section
variable {P : Program} {G : World → Prop} {w0 : World} {V0 : Base} {N : Nat} {env : Env} {σ σ' τ : S} {a : Act} {w : World} {fl : Notes} {rd : Option Nat} {rn : Nat}
end
end Go.Fx

/- Plain words for what fits an atom: the fact that it becomes under an assignment, and no other. -/
import Derived.Test.YtiomojlcnemnhaaGreatDoorWGxM3
namespace Go.Ped

section
variable (valOk : Val → Bool)

/-- What a column becomes: a value, the blank's, a variable's. -/
def gr (f : Name → Val) (nine : Val) (t : Tm) : Val := if t.v = [] then t.x else if t.v = us then nine else f t.v
end
end Go.Ped

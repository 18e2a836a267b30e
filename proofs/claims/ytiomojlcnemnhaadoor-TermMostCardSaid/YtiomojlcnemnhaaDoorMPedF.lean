/- Plain words for what fits an atom: the fact that it becomes under an assignment, and no other. -/
import Derived.Test.YtiomojlcnemnhaaDoorMPedB
namespace Go.Ped

section
variable (valOk : Val → Bool)

/-- What a column becomes: a value, the blank's, a variable's. -/
def gr (f : Name → Val) (nine : Val) (t : Tm) : Val := if t.v = [] then t.x else if t.v = us then nine else f t.v
/-- What a list says that a variable is: its first value that may be; the number 0, where there is none. -/
def isV (l : List Tm) (v : Name) : Val := ((l.find? fun b => b.v == v && valOk b.x).map (·.x)).getD ⟨1, 0, []⟩

end
end Go.Ped

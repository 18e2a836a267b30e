import Derived.Test.YtiomojlcnemnhaaDoorWDxJ8
import Derived.Test.YtiomojlcnemnhaaDoorWDxIc1
import Derived.Test.YtiomojlcnemnhaaDoorWDxB1
import Derived.Test.YtiomojlcnemnhaaDoorWDxB5
import Derived.Test.YtiomojlcnemnhaaDoorWDxBd
import Derived.Test.YtiomojlcnemnhaaDoorWDxIc7
namespace Go.Proofs.YtiomojlcnemnhaaDoor
open Go.Fx Go.RowKit Go.Ped
variable {G : World → Prop}
end Go.Proofs.YtiomojlcnemnhaaDoor

namespace Go.Proofs.YtiomojlcnemnhaaDoor
open Go.Fx Go.RowKit Go.Ped
variable {G : World → Prop}
end Go.Proofs.YtiomojlcnemnhaaDoor

namespace Go.Proofs.YtiomojlcnemnhaaDoor
open Go.Fx Go.RowKit Go.Ped
variable {G : World → Prop}
end Go.Proofs.YtiomojlcnemnhaaDoor

namespace Go.Proofs.YtiomojlcnemnhaaDoor
open Go.Fx Go.RowKit Go.Ped
end Go.Proofs.YtiomojlcnemnhaaDoor

namespace Go.Proofs.YtiomojlcnemnhaaDoor
open Go.Fx Go.RowKit Go.Ped
variable {G : World → Prop}
abbrev sRow (s : Stp) : List C := s.row []
end Go.Proofs.YtiomojlcnemnhaaDoor

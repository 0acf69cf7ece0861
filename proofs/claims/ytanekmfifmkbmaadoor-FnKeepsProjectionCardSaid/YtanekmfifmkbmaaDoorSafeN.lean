/- Part of this seat's proofs, cut to what its law needs. -/

import Derived.Test.YtanekmfifmkbmaaDoorPlainE
import Derived.Test.YtanekmfifmkbmaaDoorSubS
import Derived.Test.YtanekmfifmkbmaaDoorWalkK
import Derived.Test.YtanekmfifmkbmaaDoorWalkY
import Derived.DeepKeys4
import Derived.Maps.OwnSet
import Derived.Maps.OwnOps
import Derived.Deep.RegionLaw
import Derived.Deep.DrawnRows
import Derived.Test.YtanekmfifmkbmaaDoorWalkH
import Derived.Test.YtanekmfifmkbmaaDoorWalkE

namespace Go.Proofs.YtanekmfifmkbmaaDoor
set_option linter.unusedSimpArgs false
set_option linter.unusedVariables false
open Go.RowKit Go.Maps
set_option maxHeartbeats 4000000
set_option maxRecDepth 100000


end Go.Proofs.YtanekmfifmkbmaaDoor

namespace Go.Proofs.YtanekmfifmkbmaaDoor
set_option linter.unusedSimpArgs false
set_option linter.unusedVariables false
open Go.RowKit Go.Maps
set_option maxHeartbeats 4000000
set_option maxRecDepth 100000


structure SK where
  ve : Value
  vn : Value
  va : Value
  vm : Value
  vr : Value
  vh : Value
  bm : Nat
  B : Nat
section
variable {t : Task} {K : SK} {nodes : List Sets} {rows : List (List Int)} {us : List Bool} {vs vx vu : Value} {D : DataW Unit} {nm : Nat} {w w' : World} {pl : List Slc}
end
end Go.Proofs.YtanekmfifmkbmaaDoor

namespace Go.Proofs.YtanekmfifmkbmaaDoor
set_option linter.unusedSimpArgs false
set_option linter.unusedVariables false
open Go.RowKit Go.Maps
set_option maxHeartbeats 4000000
set_option maxRecDepth 100000

section
variable {t : Task} {K : SK} {nodes : List Sets} {rows : List (List Int)} {us : List Bool} {vs vx vu : Value} {D : DataW Unit} {nm : Nat} {w w' : World} {pl : List Slc}
end

end Go.Proofs.YtanekmfifmkbmaaDoor

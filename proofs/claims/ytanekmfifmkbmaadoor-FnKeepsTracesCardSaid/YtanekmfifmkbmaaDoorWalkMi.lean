/- Part of this seat's proofs, cut to what its law needs. -/

import Derived.Test.YtanekmfifmkbmaaDoorPlainM
import Derived.Test.YtanekmfifmkbmaaDoorWalkN
import Derived.Shelf.Strconv.Itoa1
import Derived.Test.YtanekmfifmkbmaaDoorSafeS
import Derived.Deep.RegionLaw
import Derived.Test.YtanekmfifmkbmaaDoorWalkFB
import Derived.Test.YtanekmfifmkbmaaDoorWalkSE
import Derived.Test.YtanekmfifmkbmaaDoorRead

namespace Go.Proofs.YtanekmfifmkbmaaDoor
set_option linter.unusedSimpArgs false
set_option linter.unusedVariables false
open Go.RowKit Go.Maps
set_option maxHeartbeats 4000000
set_option maxRecDepth 100000



end Go.Proofs.YtanekmfifmkbmaaDoor

namespace Go.Proofs.YtanekmfifmkbmaaDoor
open Go.RowKit Go.Maps
set_option linter.unusedVariables false
set_option linter.unusedSimpArgs false
set_option maxHeartbeats 4000000
set_option maxRecDepth 100000



def Round (A : Auto) (i c : Nat) : Prop := (i = 0 ∧ c = 0) ∨ (∃ j, i = j + 1 ∧ c = many A i)

end Go.Proofs.YtanekmfifmkbmaaDoor

namespace Go.Proofs.YtanekmfifmkbmaaDoor
open Go Go.RowKit
set_option linter.unusedVariables false
set_option linter.unusedSimpArgs false
set_option maxHeartbeats 4000000
set_option maxRecDepth 100000



end Go.Proofs.YtanekmfifmkbmaaDoor

namespace Go.Proofs.YtanekmfifmkbmaaDoor
open Go Go.RowKit
set_option linter.unusedVariables false
set_option linter.unusedSimpArgs false
set_option maxHeartbeats 4000000
set_option maxRecDepth 100000

end Go.Proofs.YtanekmfifmkbmaaDoor

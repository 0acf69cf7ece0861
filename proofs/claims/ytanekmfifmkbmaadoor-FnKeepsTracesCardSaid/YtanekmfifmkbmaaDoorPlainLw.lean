/- Part of this seat's proofs, cut to what its law needs. -/

import Derived.Test.YtanekmfifmkbmaaDoorPlainC
import Derived.Test.YtanekmfifmkbmaaDoorWalkWs
namespace Go.Proofs.YtanekmfifmkbmaaDoor
set_option linter.unusedSimpArgs false
set_option linter.unusedVariables false
open Go.RowKit
set_option maxHeartbeats 1000000





end Go.Proofs.YtanekmfifmkbmaaDoor

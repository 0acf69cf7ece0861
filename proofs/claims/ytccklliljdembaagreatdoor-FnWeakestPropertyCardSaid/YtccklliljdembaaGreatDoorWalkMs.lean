/- Part of this seat's proofs, cut to what its law needs. -/

import Derived.Test.YtccklliljdembaaGreatDoorSubS
import Derived.Test.YtccklliljdembaaGreatDoorWalkMi
import Derived.Test.YtccklliljdembaaGreatDoorPlainM
import Derived.Test.YtccklliljdembaaGreatDoorSafeS

namespace Go.Proofs.YtccklliljdembaaGreatDoor
open Go Go.RowKit
set_option linter.unusedVariables false
set_option linter.unusedSimpArgs false
set_option maxHeartbeats 4000000
set_option maxRecDepth 100000


end Go.Proofs.YtccklliljdembaaGreatDoor

namespace Go.Proofs.YtccklliljdembaaGreatDoor
open Go Go.RowKit
set_option linter.unusedVariables false
set_option linter.unusedSimpArgs false
set_option maxHeartbeats 4000000
set_option maxRecDepth 100000


end Go.Proofs.YtccklliljdembaaGreatDoor

namespace Go.Proofs.YtccklliljdembaaGreatDoor
open Go Go.RowKit
set_option linter.unusedVariables false
set_option linter.unusedSimpArgs false
set_option maxHeartbeats 4000000
set_option maxRecDepth 100000


end Go.Proofs.YtccklliljdembaaGreatDoor

namespace Go.Proofs.YtccklliljdembaaGreatDoor
open Go Go.RowKit
set_option linter.unusedVariables false
set_option linter.unusedSimpArgs false
set_option maxHeartbeats 4000000
set_option maxRecDepth 100000

end Go.Proofs.YtccklliljdembaaGreatDoor

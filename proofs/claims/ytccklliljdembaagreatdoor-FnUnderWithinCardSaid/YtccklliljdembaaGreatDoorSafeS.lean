/- Part of this seat's proofs, cut to what its law needs. -/

import Derived.Test.YtccklliljdembaaGreatDoorWalkK
import Derived.Test.YtccklliljdembaaGreatDoorWalkR
import Derived.Test.YtccklliljdembaaGreatDoorPlainE
import Derived.Test.YtccklliljdembaaGreatDoorSubS
import Derived.Test.YtccklliljdembaaGreatDoorWalkH
import Derived.Test.YtccklliljdembaaGreatDoorWalkSI

namespace Go.Proofs.YtccklliljdembaaGreatDoor
set_option linter.unusedSimpArgs false
set_option linter.unusedVariables false
open Go.RowKit
set_option maxHeartbeats 1000000
set_option maxRecDepth 100000

end Go.Proofs.YtccklliljdembaaGreatDoor

namespace Go.Proofs.YtccklliljdembaaGreatDoor
set_option linter.unusedSimpArgs false
set_option linter.unusedVariables false
open Go.RowKit
set_option maxHeartbeats 4000000
set_option maxRecDepth 100000

def SetsOwn (base n g cap : Nat) (w : World) (f : Sets) : Prop := w.ownsRow base 3 1 (.slice (some ⟨g, 0, none⟩) n cap) n ((setsL n f).map (Value.int .i64))
end Go.Proofs.YtccklliljdembaaGreatDoor

namespace Go.Proofs.YtccklliljdembaaGreatDoor
set_option linter.unusedSimpArgs false
set_option linter.unusedVariables false
open Go.RowKit
set_option maxHeartbeats 4000000
set_option maxRecDepth 100000

end Go.Proofs.YtccklliljdembaaGreatDoor

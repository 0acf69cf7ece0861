/- Part of this seat's proofs, cut to what its law needs. -/

import Derived.Test.YtajafdblmphglaaGreatDoorWalkSI
import Derived.Test.YtajafdblmphglaaGreatDoorWalkFB
namespace Go.Proofs.YtajafdblmphglaaGreatDoor
set_option linter.unusedSimpArgs false
set_option linter.unusedVariables false
open Go.RowKit
end Go.Proofs.YtajafdblmphglaaGreatDoor

/- Part of this seat's proofs, cut to what its law needs. -/

import Derived.Test.YtadplnbadfnlfaaGreatDoorRows
import Derived.Test.YtadplnbadfnlfaaGreatDoorWalkA
import Derived.Test.YtadplnbadfnlfaaGreatDoorWalkE

namespace Go.Proofs.YtadplnbadfnlfaaGreatDoor
set_option linter.unusedSimpArgs false
set_option linter.unusedVariables false
open Go.RowKit

set_option maxHeartbeats 400000

end Go.Proofs.YtadplnbadfnlfaaGreatDoor

namespace Go.Proofs.YtadplnbadfnlfaaGreatDoor
set_option linter.unusedSimpArgs false
set_option linter.unusedVariables false
open Go.RowKit

set_option maxHeartbeats 400000

end Go.Proofs.YtadplnbadfnlfaaGreatDoor

namespace Go.Proofs.YtadplnbadfnlfaaGreatDoor
set_option linter.unusedSimpArgs false
set_option linter.unusedVariables false
open Go.RowKit

set_option maxHeartbeats 400000

end Go.Proofs.YtadplnbadfnlfaaGreatDoor

namespace Go.Proofs.YtadplnbadfnlfaaGreatDoor
set_option linter.unusedSimpArgs false
set_option linter.unusedVariables false
open Go.RowKit

set_option maxHeartbeats 400000

end Go.Proofs.YtadplnbadfnlfaaGreatDoor

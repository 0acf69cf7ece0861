/- What the tied cards share: the tables' condition, a world that meets it, how a list of systems is read. -/
import Derived.Test.YtajafdblmphglaaGreatDoorDet
import Derived.Test.YtajafdblmphglaaGreatDoorRows
import Derived.Test.YtajafdblmphglaaGreatDoorRead
import Derived.Lib.LaidTab
import Derived.Lib.LaidIn
import Derived.ChangeSame
import Derived.ChangeVars
import Derived.JoinedOf
import Derived.LaidLaws
import Derived.LaidHandle
import Derived.Stop.Joined
import Derived.Stop.LaidErr
import Derived.Test.YtajafdblmphglaaGreatDoorTie
import Derived.Test.YtajafdblmphglaaGreatDoorCards
import Derived.SevenTiedAt
namespace Go.Proofs.YtajafdblmphglaaGreatDoor
set_option linter.unusedSimpArgs false
set_option linter.unusedVariables false
open Go.ChangeShapes Go.WideShapes Go.ChangeAt Go.RowKit
set_option maxHeartbeats 1600000

end Go.Proofs.YtajafdblmphglaaGreatDoor

/- Part of this seat's proofs, cut to what its law needs. -/

import Derived.Test.YtanekmfifmkbmaaGreatDoorPlainC
import Derived.Test.YtanekmfifmkbmaaGreatDoorSubS
import Derived.Test.YtanekmfifmkbmaaGreatDoorWalkR
import Derived.Test.YtanekmfifmkbmaaGreatDoorWalkY
import Derived.Maps.OwnSet
import Derived.Maps.OwnOps

namespace Go.Proofs.YtanekmfifmkbmaaGreatDoor
open Go.RowKit Go.Maps
set_option linter.unusedVariables false
set_option linter.unusedSimpArgs false
set_option maxHeartbeats 4000000
set_option maxRecDepth 100000

theorem lawInt : Keyed Tryz.prog 3 := int_keyed Tryz.underlying3
theorem zeroInt (w : World) : (zeroValue 3).run Tryz.prog w = .ok (.int .i64 0) w := by kernel_rfl
theorem key_int {x : Nat} (h : x ≤ 1099511627776) : keyOf Tryz.prog 3 (.int .i64 (x : Int)) = some (.int .i64 (x : Int)) := keyOf_int_mk Tryz.underlying3 (WalkArith.wf_i64 (by omega))
theorem elem_int {x : Nat} (h : x ≤ 1099511627776) : plainElem (H := Unit) Tryz.prog 3 (.int .i64 (x : Int)) = some (.lit (.int .i64 (x : Int)), []) := plainElem_int Tryz.underlying3 (WalkArith.wf_i64 (by omega))
end Go.Proofs.YtanekmfifmkbmaaGreatDoor

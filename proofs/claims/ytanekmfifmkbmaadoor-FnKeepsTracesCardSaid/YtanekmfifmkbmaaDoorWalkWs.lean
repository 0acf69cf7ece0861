/- Part of this seat's proofs, cut to what its law needs. -/

import Derived.Test.YtanekmfifmkbmaaDoorWalkMs
import Derived.Test.YtanekmfifmkbmaaDoorWalkSE
import Derived.Test.YtanekmfifmkbmaaDoorPlainM
import Derived.Test.YtanekmfifmkbmaaDoorSafeS
import Derived.Deep.DeepCutAuto
import Derived.Test.YtanekmfifmkbmaaDoorWalkWk

namespace Go.Proofs.YtanekmfifmkbmaaDoor
open Go Go.RowKit
set_option linter.unusedVariables false
set_option linter.unusedSimpArgs false
set_option maxHeartbeats 4000000
set_option maxRecDepth 100000




end Go.Proofs.YtanekmfifmkbmaaDoor

namespace Go.Proofs.YtanekmfifmkbmaaDoor
open Go Go.RowKit
set_option linter.unusedVariables false
set_option linter.unusedSimpArgs false
set_option maxHeartbeats 4000000
set_option maxRecDepth 100000

section
variable {TC : Array Value} {al : Int} {w wr w' : World} {base B4 : Nat} {pl pl' : List Slc} {vN vA : Value}
end
end Go.Proofs.YtanekmfifmkbmaaDoor

namespace Go.Proofs.YtanekmfifmkbmaaDoor
open Go Go.RowKit
set_option linter.unusedVariables false
set_option linter.unusedSimpArgs false
set_option maxHeartbeats 4000000
set_option maxRecDepth 100000

end Go.Proofs.YtanekmfifmkbmaaDoor

namespace Go.Proofs.YtanekmfifmkbmaaDoor
open Go.RowKit
set_option linter.unusedVariables false
set_option maxHeartbeats 1600000
set_option maxRecDepth 100000

def zeroA : Auto := ⟨0, [], []⟩
theorem zero_own (base : Nat) (w : World) : AutoOwn base w (.agg #[.int .i64 0, .slice none 0 0, .slice none 0 0]) zeroA :=
  Pool.auto (x := zeroA) (vs := []) (((Pool.nil base w).addNil 4 1).addNil 51 1) rfl
end Go.Proofs.YtanekmfifmkbmaaDoor

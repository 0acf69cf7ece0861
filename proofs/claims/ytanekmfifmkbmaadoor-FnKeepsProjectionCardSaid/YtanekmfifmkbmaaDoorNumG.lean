/- Part of this seat's proofs, cut to what its law needs. -/

import Derived.Test.YtanekmfifmkbmaaDoorSafeN
import Derived.Test.YtanekmfifmkbmaaDoorWalkN

namespace Go.Proofs.YtanekmfifmkbmaaDoor
set_option linter.unusedSimpArgs false
set_option linter.unusedVariables false
open Go.RowKit Go.Maps
set_option maxHeartbeats 4000000
set_option maxRecDepth 100000

section
variable {E : TypeId → Bool} {m lo : Nat} {a b c w w' : World}
end

section
variable {K : SK} {w w' : World}
end
end Go.Proofs.YtanekmfifmkbmaaDoor

namespace Go.Proofs.YtanekmfifmkbmaaDoor
open Go.RowKit Go.Maps
set_option linter.unusedVariables false
set_option linter.unusedSectionVars false
set_option linter.unusedSimpArgs false
set_option maxHeartbeats 4000000
set_option maxRecDepth 100000

section
variable {α : Type} [DecidableEq α] {R R' : Int → α → Prop}
end

end Go.Proofs.YtanekmfifmkbmaaDoor

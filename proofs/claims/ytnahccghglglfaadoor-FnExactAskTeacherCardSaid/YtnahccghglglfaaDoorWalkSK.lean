/- Walks: the reference's checks, on. -/
import Derived.Test.YtnahccghglglfaaDoorWalkSJ
namespace Go.Proofs.YtnahccghglglfaaDoor
set_option linter.unusedSimpArgs false
set_option linter.unusedVariables false
open Go.RowKit

set_option maxHeartbeats 1600000
set_option maxRecDepth 100000

end Go.Proofs.YtnahccghglglfaaDoor

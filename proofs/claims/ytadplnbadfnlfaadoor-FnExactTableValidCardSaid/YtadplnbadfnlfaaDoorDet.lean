/- Part of this seat's proofs, cut to what its law needs. -/

import Derived.Test.YtadplnbadfnlfaaDoorWalkSI
import Derived.Test.YtadplnbadfnlfaaDoorWalkFB
namespace Go.Proofs.YtadplnbadfnlfaaDoor
set_option linter.unusedSimpArgs false
set_option linter.unusedVariables false
open Go.RowKit
end Go.Proofs.YtadplnbadfnlfaaDoor

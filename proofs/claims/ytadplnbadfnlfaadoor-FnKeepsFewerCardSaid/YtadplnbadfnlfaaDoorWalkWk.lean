/- Part of this seat's proofs, cut to what its law needs. -/

import Derived.Test.YtadplnbadfnlfaaDoorWalkMi
import Derived.Test.YtadplnbadfnlfaaDoorNumG
import Derived.Test.YtadplnbadfnlfaaDoorPlainM

namespace Go.Proofs.YtadplnbadfnlfaaDoor
open Go Go.RowKit Go.Maps
set_option linter.unusedVariables false
set_option linter.unusedSimpArgs false
set_option maxHeartbeats 4000000
set_option maxRecDepth 100000



structure SafW (t : Task) (K : SK) (w2 : World) : Prop where
  task : taskValid t = true
  obs : ∀ w'', Tnd (SS K) w2 w'' → SafO t K w''
  deb : ∀ w'', Tnd (SS K) w2 w'' → Deb w''
end Go.Proofs.YtadplnbadfnlfaaDoor

namespace Go.Proofs.YtadplnbadfnlfaaDoor
open Go Go.RowKit Go.Maps
set_option linter.unusedVariables false
set_option linter.unusedSimpArgs false
set_option maxHeartbeats 4000000
set_option maxRecDepth 100000

end Go.Proofs.YtadplnbadfnlfaaDoor

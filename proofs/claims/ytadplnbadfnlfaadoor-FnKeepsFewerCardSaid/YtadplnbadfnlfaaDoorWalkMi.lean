/- Part of this seat's proofs, cut to what its law needs. -/

import Derived.Test.YtadplnbadfnlfaaDoorPlainM
import Derived.Test.YtadplnbadfnlfaaDoorWalkN
import Derived.Shelf.Strconv.Itoa1
import Derived.Test.YtadplnbadfnlfaaDoorSafeS
import Derived.Deep.RegionLaw
import Derived.Test.YtadplnbadfnlfaaDoorWalkFB
import Derived.Test.YtadplnbadfnlfaaDoorWalkSE
import Derived.Test.YtadplnbadfnlfaaDoorRead

namespace Go.Proofs.YtadplnbadfnlfaaDoor
set_option linter.unusedSimpArgs false
set_option linter.unusedVariables false
open Go.RowKit Go.Maps
set_option maxHeartbeats 4000000
set_option maxRecDepth 100000



structure OkSig (l : List Nat) : Prop where
  ne : l ≠ []
  lt : ∀ c ∈ l, c < 100
  len : l.length ≤ 7
end Go.Proofs.YtadplnbadfnlfaaDoor

namespace Go.Proofs.YtadplnbadfnlfaaDoor
open Go.RowKit Go.Maps
set_option linter.unusedVariables false
set_option linter.unusedSimpArgs false
set_option maxHeartbeats 4000000
set_option maxRecDepth 100000



def Round (A : Auto) (i c : Nat) : Prop := (i = 0 ∧ c = 0) ∨ (∃ j, i = j + 1 ∧ c = many A i)

end Go.Proofs.YtadplnbadfnlfaaDoor

namespace Go.Proofs.YtadplnbadfnlfaaDoor
open Go Go.RowKit
set_option linter.unusedVariables false
set_option linter.unusedSimpArgs false
set_option maxHeartbeats 4000000
set_option maxRecDepth 100000



end Go.Proofs.YtadplnbadfnlfaaDoor

namespace Go.Proofs.YtadplnbadfnlfaaDoor
open Go Go.RowKit
set_option linter.unusedVariables false
set_option linter.unusedSimpArgs false
set_option maxHeartbeats 4000000
set_option maxRecDepth 100000

end Go.Proofs.YtadplnbadfnlfaaDoor

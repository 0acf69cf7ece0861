/- Part of this seat's proofs, cut to what its law needs. -/

import Derived.Test.YtccklliljdembaaGreatDoorWalkFB
import Derived.BigRegion

namespace Go.Proofs.YtccklliljdembaaGreatDoor
set_option linter.unusedSimpArgs false
set_option linter.unusedVariables false
open Go.RowKit

set_option maxHeartbeats 1600000
set_option maxRecDepth 100000

def AutoAt (w : World) (b o : Nat) (x : Auto) : Prop := ∃ vn va, w.cell? ⟨b, o, none⟩ = some (.int .i64 x.alphabet) ∧ w.cell? ⟨b, o + 1, none⟩ = some vn ∧ w.cell? ⟨b, o + 2, none⟩ = some va ∧ IntssV w vn x.next ∧ BoolsV w va x.accept
abbrev AutosV := SlV AutoAt 3
structure NetOk (n : Net) : Prop where
  parts : ∀ s ∈ n.parts, sysValid s = true
  autos : ∀ a ∈ n.autos, AutoFit a
  np : n.parts.length ≤ 3
  na : n.autos.length ≤ 2
  al : 0 ≤ n.letters ∧ n.letters ≤ 63
  el : ∀ s ∈ n.parts, s.edges.length ≤ 1048576
  tot : (sizesOf n).prod ≤ 268435456
end Go.Proofs.YtccklliljdembaaGreatDoor

namespace Go.Proofs.YtccklliljdembaaGreatDoor
set_option linter.unusedSimpArgs false
set_option linter.unusedVariables false
open Go.RowKit

set_option maxHeartbeats 1600000
set_option maxRecDepth 100000

end Go.Proofs.YtccklliljdembaaGreatDoor

namespace Go.Proofs.YtccklliljdembaaGreatDoor
set_option linter.unusedSimpArgs false
set_option linter.unusedVariables false
open Go.RowKit

set_option maxHeartbeats 1600000
set_option maxRecDepth 100000

end Go.Proofs.YtccklliljdembaaGreatDoor

namespace Go.Proofs.YtccklliljdembaaGreatDoor
set_option linter.unusedSimpArgs false
set_option linter.unusedVariables false
open Go.RowKit

set_option maxHeartbeats 1600000
set_option maxRecDepth 100000

end Go.Proofs.YtccklliljdembaaGreatDoor

/- Part of this seat's proofs, cut to what its law needs. -/

import Derived.Test.YtccklliljdembaaGreatDoorPlainM
import Derived.Test.YtccklliljdembaaGreatDoorWalkN
import Derived.Shelf.Strconv.Itoa1
import Derived.Test.YtccklliljdembaaGreatDoorSafeS
import Derived.Deep.RegionLaw
import Derived.Test.YtccklliljdembaaGreatDoorWalkFB
import Derived.Test.YtccklliljdembaaGreatDoorWalkSE
import Derived.Test.YtccklliljdembaaGreatDoorRead

namespace Go.Proofs.YtccklliljdembaaGreatDoor
open Go.RowKit Go.Maps
set_option maxHeartbeats 4000000
set_option maxRecDepth 100000



structure OkSig (l : List Nat) : Prop where
  ne : l ≠ []
  lt : ∀ c ∈ l, c < 100
  len : l.length ≤ 7
end Go.Proofs.YtccklliljdembaaGreatDoor

namespace Go.Proofs.YtccklliljdembaaGreatDoor
open Go.RowKit Go.Maps
set_option linter.unusedVariables false
set_option linter.unusedSimpArgs false
set_option maxHeartbeats 4000000
set_option maxRecDepth 100000


theorem SetsOwn.apart {base n g cap bm nm : Nat} {w : World} {f : Sets} {D : DataW Unit} {k e : TypeId} (h : SetsOwn base n g cap w f) (hm : w.ownsMap Tryz.prog k (plainElem (H := Unit) Tryz.prog e) bm nm D) : g ≠ bm := fun e => by
  have := map_apart hm h
  simp only [Value.ownBlock] at this
  exact this (by rw [e])

def Round (A : Auto) (i c : Nat) : Prop := (i = 0 ∧ c = 0) ∨ (∃ j, i = j + 1 ∧ c = many A i)

end Go.Proofs.YtccklliljdembaaGreatDoor

namespace Go.Proofs.YtccklliljdembaaGreatDoor
open Go Go.RowKit
set_option linter.unusedVariables false
set_option linter.unusedSimpArgs false
set_option maxHeartbeats 4000000
set_option maxRecDepth 100000



end Go.Proofs.YtccklliljdembaaGreatDoor

namespace Go.Proofs.YtccklliljdembaaGreatDoor
open Go Go.RowKit
set_option linter.unusedVariables false
set_option linter.unusedSimpArgs false
set_option maxHeartbeats 4000000
set_option maxRecDepth 100000

end Go.Proofs.YtccklliljdembaaGreatDoor

/- Part of this seat's proofs, cut to what its law needs. -/

import Derived.Test.YtanekmfifmkbmaaGreatDoorOrr
import Derived.Test.YtanekmfifmkbmaaGreatDoorOpn
import Derived.Laws.Runes
namespace Go.Proofs.YtanekmfifmkbmaaGreatDoor
set_option linter.unusedSimpArgs false
set_option linter.unusedVariables false
open Go Go.RowKit Go.Maps
set_option maxHeartbeats 4000000
set_option maxRecDepth 100000

theorem enc_letter {l : Nat} (h : l < 6) : Utf8.encode (97 + (l : Int)) = wtext [(l : Int)] := by
  have : l = 0 ∨ l = 1 ∨ l = 2 ∨ l = 3 ∨ l = 4 ∨ l = 5 := by omega
  rcases this with rfl | rfl | rfl | rfl | rfl | rfl <;> rfl

section
variable {al : Int} {f : ByteArray → Bool} {m lo bs : Nat} {vo : Value} {J : Nat → World → Prop}
end
end Go.Proofs.YtanekmfifmkbmaaGreatDoor

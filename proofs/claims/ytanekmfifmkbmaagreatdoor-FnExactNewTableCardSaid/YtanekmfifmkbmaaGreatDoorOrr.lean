/- Part of this seat's proofs, cut to what its law needs. -/

import Derived.Test.YtanekmfifmkbmaaGreatDoorOrm
namespace Go.Proofs.YtanekmfifmkbmaaGreatDoor
set_option linter.unusedSimpArgs false
set_option linter.unusedVariables false
open Go Go.RowKit Go.Maps
set_option maxHeartbeats 4000000
set_option maxRecDepth 100000
attribute [local go_sem] run_store_nilFunc' run_store_func'

theorem validT_neg {f : ByteArray → Bool} {al : Int} {t : Table} (h : al < 0) : validT f al t = false := validT_shape (shapeB_not fun hs => absurd hs.alpha (by omega))
theorem ora_low {w w1 : World} {m lo : Nat} (he : Ext w w1) (hm : w.heap.size ≤ m) (hlo : w.heap.size ≤ lo) {w' : World} (h : Touch eK m lo w1 w') : Ext w w' :=
  Below.trans he (Tnd.below h he.size fun b hb => by rcases hb with rfl | ⟨hb, -⟩ <;> omega)

end Go.Proofs.YtanekmfifmkbmaaGreatDoor
